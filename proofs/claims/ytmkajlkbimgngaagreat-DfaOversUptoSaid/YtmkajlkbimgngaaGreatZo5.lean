/- Contracts and plain lemmas, part 5. -/
import Derived.Test.YtmkajlkbimgngaaGreatZo4
open Go.Proofs.Tryz
set_option maxHeartbeats 16000000
set_option linter.unusedVariables false
namespace Go.Proofs
open Go Go.Eng Go.Sort
set_option maxRecDepth 100000
def Wb (S:Nat->Prop) (d:Dfa):El:=λr w=>∃ea ec na nc,r=.agg #[.int .i64 d.start,.slice ea d.accept.length ec,.slice na d.next.length nc]∧By S w d [.int .i64 d.start,.slice ea d.accept.length ec,.slice na d.next.length nc]
theorem Us {S:Nat->Prop} {d:Dfa}:∀v w w',Ao w w'->Wb S d v w->Wb S d v w':=by
 rintro v w w' x ⟨e,g,b,c,f,a⟩;exact ⟨e,g,b,c,f,a.ext x⟩
theorem UW {c m:Nat} {o:Option Dfa}:∀v w w',Ao w w'->T0 c m o v w->T0 c m o v w':=by
 rintro v w w' x ⟨d,h,e,j,g,i,a⟩;exact ⟨d,h,e,j,g,i,λD b=>⟨(a D b).1,(a D b).2.1,(a D b).2.2.chg x λ_ f=>f.elim⟩⟩
def Wv (c m:Nat) (o:Option Dfa):El:=λr w=>∃(d:Dfa) (ea na:Option Addr) (ec nc:Nat),r=.agg #[.int .i64 d.start,.slice ea d.accept.length ec,.slice na d.next.length nc]∧∀D,o=some D->D=d∧GoodD c d∧DV m w d [.int .i64 d.start,.slice ea d.accept.length ec,.slice na d.next.length nc]
theorem UX {c m:Nat} {o:Option Dfa}:∀v w w',Ao w w'->Wv c m o v w->Wv c m o v w':=by
 rintro v w w' x ⟨d,h,e,j,g,i,a⟩;exact ⟨d,h,e,j,g,i,λD b=>⟨(a D b).1,(a D b).2.1,(a D b).2.2.chg x λ_ f=>f.elim⟩⟩
def WW (c m:Nat) (o:Option Dfa):El:=λr w=>∃(d:Dfa) (ea na:Option Addr) (ec nc:Nat),r=.agg #[.int .i64 d.start,.slice ea d.accept.length ec,.slice na d.next.length nc]∧o=some d∧GoodD c d∧DV m w d [.int .i64 d.start,.slice ea d.accept.length ec,.slice na d.next.length nc]
theorem UV {c m:Nat} {o:Option Dfa}:∀v w w',Ao w w'->WW c m o v w->WW c m o v w':=by
 rintro v w w' x ⟨d,i,b,k,h,j,a,g,e⟩;exact ⟨d,i,b,k,h,j,a,g,e.chg x λ_ f=>f.elim⟩
theorem Ub (a:World) (c m:Nat) (o:Option Dfa) (d:Dfa) (g b:Option Addr) (i e:Nat) (h:∀D,o=some D->D=d∧GoodD c d∧DV m a d [.int .i64 d.start,.slice g d.accept.length i,.slice b d.next.length e]) :
 LS prog WX 164 #[.agg #[.int .i64 d.start,.slice g d.accept.length i,.slice b d.next.length e],.bool o.isSome] a (λr w=>WW c m o r w∧Ao a w) λw=>o=none∧Ao a w:=
 (JC a o.isSome d.start g b d.accept.length i d.next.length e).mono (λr w q=>by
  obtain ⟨⟨n,p⟩,k⟩:=q;obtain ⟨D,j⟩:=Option.isSome_iff_exists.1 n;obtain ⟨t,l,s⟩:=h D j;exact ⟨⟨d,g,b,i,e,p,by rw[j,t],l,s.chg k λ_ f=>f.elim⟩,k⟩) λw q=>⟨Option.not_isSome_iff_eq_none.1 (by rw[q.1];decide),q.2⟩
theorem T8 (cs:List (List Sp)) (x:Re) (hc:1≤cs.length∧cs.length≤16) (hN:NodeI x) (hk:x.kind=6) (hof:∀y∈x.args,Jj cs.length cs y):I0 cs.length cs x:=by
 intro w0 bt ca cc vs hT hC ht;have ht0:=ht;obtain ⟨sa,sc,aa,ac,rfl,df,c9,bn⟩:=ht.form;have hcl:cs.length≤16:=hc.2;have h1:=hN.one qO;obtain ⟨y,hy⟩:=AL (l:=x.args) (i:=0) qO;obtain ⟨ab,ao,rfl,cn⟩:=Is bn qO;obtain ⟨us,da,cq⟩:=cn.get hy;have ck:=cq;obtain ⟨ysa,ysc,yaa,yac,rfl,_,_,_⟩:=cq.form;have hrp:=hN.rep hk;refine Er func133 rfl ntmps133 (Jo rfl) ?_;have E:Chg AZ w0 w0:=Chg.refl _ _;refine Y (BM (v:=(.agg (R6 x sa sc (some ⟨ab,ao,none⟩) ac))) (c:=(R6 x sa sc (some ⟨ab,ao,none⟩) ac)) qD rfl rfl ?_);intro bb wb Nb;have Fb:=Nb.ge E;have Ob_bt:=Nb.lt hT;replace hT:=Nb.keep hT;replace E:=E.ext Nb.ext;have Bb:=Nb.blk;refine BO (c:=#[(I6 0),(.slice none 0 0),(.slice none 0 0)]) qD CU rfl ?_;intro br wr Nr;have Fr:=Nr.ge E;have Or_bt:=Nr.lt hT;have Or_bb:=Nr.lt Bb;replace hT:=Nr.keep hT;replace Bb:=Nr.keep Bb;replace E:=E.ext Nr.ext;have Br:=Nr.blk;refine AA (Y (qM _ rfl (qV (DR rfl) (qF bt 0 0 rfl underlying135 rfl Hy rfl (qV (AD rfl DE (hT.cell rfl)) (qV (AH underlying49 rfl) (qA _ rfl (AA (AE (Y (qF bb 0 0 rfl underlying48 rfl Ab rfl (qV (AD rfl Aa (Bb.cell rfl)) (AA (AM (Y (qV (As rfl rfl) (qA _ rfl (AA ?_))))))))))))))))));have c3:(decide ((x.kind:Int)=1))=false:=decide_eq_false qO;refine AW (Aw c3) (Y (qV (As rfl rfl) (qA _ rfl (AA ?_))));have c4:(decide ((x.kind:Int)=2))=false:=decide_eq_false qO;refine AW (Aw c4) (AE (Y (qV (As rfl rfl) (qA _ rfl (AA ?_)))));have c8:(decide ((x.kind:Int)=3))=false:=decide_eq_false qO;refine AW (Aw c8) (Y (qV (As rfl rfl) (qA _ rfl (AA ?_))));have cv:(decide ((x.kind:Int)=4))=false:=decide_eq_false qO;refine AW (Aw cv) (AG (qV (As rfl rfl) (qA _ rfl (AA (AB ?_)))));have de:(decide ((x.kind:Int)=7))=false:=decide_eq_false qO;refine AW (Aw de) (Y (qV (As rfl rfl) (qA _ rfl (AA ?_))));have c7:(decide ((x.kind:Int)=5))=false:=decide_eq_false qO;refine AW (Aw c7) (Y (qV (As rfl rfl) (qA _ rfl (AA ?_))));have cx:(decide ((x.kind:Int)=6))=true:=decide_eq_true hk;refine A4 (Aw cx) (Y (qM _ rfl (qF bb 0 2 rfl underlying48 rfl G5 rfl (qV (AD rfl FB (Bb.cell rfl)) (qV (AC (b:=ab) (o:=ao) (len:=x.args.length) (cap:=ac) (i:=0) (o':=ao+0*6) rfl rfl rfl underlying46 BE qO qO) (qV (AU rfl CI BE rfl (da.ext E)) ?_))))));obtain ⟨n9,bx⟩:∃n9,n9=(wr).heap.size:=⟨_,rfl⟩;have cr:br<n9∧w0.heap.size≤n9:=⟨by rw[bx];exact Br.lt,by rw[bx];exact E.size⟩;refine Ch rfl rfl qD (AT func102 kQ kQ rfl) (((hof y (List.mem_of_getElem? hy) _ bt ca cc _ hT (hC.ext E) (BR.ext E y ck)).mono (R':=fun r w'=>(∃d,trO cs.length cs y=some d∧GoodD cs.length d∧d.next.length≤200∧Hu (fun b=>n9≤b) d r w')∧Ao _ w') (fun r w' h=>⟨by obtain ⟨d,h1,h2,h3,h4⟩:=h.1;exact ⟨d,h1,h2,h3,h4.mono fun b hb=>by rw[bx];exact hb.1⟩,h.2⟩) (fun _ h=>h))) (fun w' h=>And.intro rfl ⟨by rw[Rm hk h1 hy,h.1];rfl,E.ext h.2⟩) ?_;rintro _ w9 ⟨⟨d,hd,gd,hd2,ea,ec,na,nc,rfl,hD⟩,X9⟩;replace hT:=X9.keep hT;replace Bb:=X9.keep Bb;replace Br:=X9.keep Br;replace E:=E.ext X9;obtain ⟨o8,b9⟩:∃o8,o8=prsO cs.length false d (BV cs.length):=⟨_,rfl⟩;refine Au (v:=(.agg #[(I6 d.start),(.slice ea d.accept.length ec),(.slice na d.next.length nc)])) (c:=#[(I6 d.start),(.slice ea d.accept.length ec),(.slice na d.next.length nc)]) (n:=3) qD CU rfl Ap rfl rfl rfl qS ?_;intro ba wa Na;have Fa:=Na.ge E;have Oa_bt:=Na.lt hT;have Oa_bb:=Na.lt Bb;have Oa_br:=Na.lt Br;replace hT:=Na.keep hT;replace Bb:=Na.keep Bb;replace Br:=Na.keep Br;replace hD:=hD.ext Na.ext;replace E:=E.ext Na.ext;have Ba:=Na.blk;refine AA ?_;have dd:n9≤(wa).heap.size:=by rw[bx];have:=X9.size;have:=Na.ext.size;omega
 have cj:ba<(wa).heap.size∧n9≤ba:=⟨Ba.lt,by have:=Na.eq;have:=X9.size;omega⟩;replace hD:=(By.chg hD (Chg.refl AZ _) (fun _ _ _ f=>f));obtain ⟨n7,cg⟩:∃n7,n7=(wa).heap.size:=⟨_,rfl⟩;rw[←cg] at hD;have cy:w0.heap.size≤wa.heap.size:=E.size;have b0:bt<wa.heap.size:=hT.lt;have bw:bb<wa.heap.size:=Bb.lt;have bz:br<wa.heap.size:=Br.lt;have b1:ba<wa.heap.size:=Ba.lt;refine AE ?_;obtain ⟨c2,ai⟩:∃Fs:List CZ,Fs=[(eF (.agg #[(I6 d.start),(.slice ea d.accept.length ec),(.slice na d.next.length nc)])),(eF (I6 (cs.length:Int))),(fun _ _=>Wb (fun b=>n7≤b) (BV cs.length)),(fun _ _=>T0 cs.length n7 o8),(fun _ _=>Wv cs.length n7 o8),(eF (.bool o8.isSome)),(fun _ _=>WW cs.length n7 o8),(fun _ _=>M7 52 #[(I6 0),(.slice none 0 0),(.slice none 0 0)] wa.heap.size),(eF undef)]:=⟨_,rfl⟩;refine M9 (ND []) (VX []) (WX) ((fun _=>o8=none)) [true,true,true,true,true,true,true,true,false] [8] [144,145,146,147,148,149,150,16,207] [[],[],[1],[0,2],[3],[3],[3,4,5],[],[]] [[],[],[1],[0,2,1],[3,0,2,1],[3,0,2,1],[3,0,2,1,4,5],[],[]] c2 ai qK mixed qK qK qK qK ?_ ((fun σ' w1 w' X0 X hx=>And.intro rfl ⟨by rw[Rm hk h1 hy,hd,Option.bind_some,←b9,hx];rfl,(E.ext X0).step X (fun y hy h=>by obtain ⟨j,h⟩:=h;exact h.elim)⟩)) ?_
 ·intro wd X0;refine DagStepsG.cons (CS.eq) (CT.const) (fun S s' w' hi hN X U V H=>Or.inl ⟨AQ rfl,?_⟩) ?_
  ·replace X:=IN X;exact V' (AX (AU (vs:=[(.int .i64 d.start),(.slice ea d.accept.length ec),(.slice na d.next.length nc)]) (U 15 rfl) BC Ap rfl (((X0.trans X).keep Ba).cells rfl)) rfl)
  refine DagStepsG.cons (CS.eq) (CT.const) (fun S s' w' hi hN X U V H=>Or.inl ⟨AQ rfl,?_⟩) ?_
  ·replace X:=IN X;exact V' (AX (Ah (v:=(.int .i64 ((cs.length:Nat):Int))) (U 5 rfl)) rfl)
  refine DagStepsG.cons (CS.chg (U:=AZ) (Us) (fun p y hp hw h=>by
     exact h.elim)) (CT.const) (fun S s' w' hi hN X U V H=>Or.inl ⟨AQ rfl,?_⟩) ?_
  ·replace X:=IN X;have cf:=(H 1 rfl).2 145 _ rfl (by rw[ai];rfl);exact V' (Cw (AT (vs:=[(.int .i64 ((cs.length:Nat):Int))]) func160 kQ kQ (LL cf)) ((Ky _ cs.length hc).mono (R':=fun r w'=>Wb (fun b=>n7≤b) (BV cs.length) r w'∧Ao _ w') (fun r w' h=>⟨h.1.mono fun b hb=>by have:=X0.size;have:=X.size;have c5:_≤b:=hb;omega,h.2⟩)))
  refine DagStepsG.cons (CS.chg (U:=AZ) (UW) (fun p y hp hw h=>by
     exact h.elim)) (CT.const) (fun S s' w' hi hN X U V H=>Or.inl ⟨AQ rfl,?_⟩) ?_
  ·replace X:=IN X;have b4:=(H 0 rfl).2 144 _ rfl (by rw[ai];rfl);obtain ⟨bj,bp,bk,bq,b7,b6⟩:=(show ((fun _ _=>Wb (fun b=>n7≤b) (BV cs.length)):CZ) S s' (s' 146) w' from (H 2 rfl).2 146 (fun _ _=>Wb (fun b=>n7≤b) (BV cs.length)) rfl (by rw[ai];rfl));exact V' (Cw (AT (vs:=[(.agg #[(.int .i64 d.start),(.slice ea d.accept.length ec),(.slice na d.next.length nc)]),(.agg #[(.int .i64 ((BV cs.length).start)),(.slice bj ((BV cs.length).accept.length) bp),(.slice bk ((BV cs.length).next.length) bq)]),(.bool false)]) func166 kQ kQ (Qz b4 b7 rfl)) ((Vq _ n7 cs.length d (BV cs.length) _ _ false (by have:=X0.size;have:=X.size;omega) gd (IF _) (hD.ext (X0.trans X)).at' b6.at' hc).mono (R':=fun r w'=>T0 cs.length n7 o8 r w'∧Ao _ w') (fun r w' h=>by rw[b9];exact h)))
  refine DagStepsG.cons (CS.chg (U:=AZ) (UX) (fun p y hp hw h=>by
     exact h.elim)) (CT.const) (fun S s' w' hi hN X U V H=>Or.inl ⟨AQ rfl,?_⟩) ?_
  ·replace X:=IN X;obtain ⟨af,au,ap,aq,ar,a8,bm⟩:=(show ((fun _ _=>T0 cs.length n7 o8):CZ) S s' (s' 147) w' from (H 3 rfl).2 147 (fun _ _=>T0 cs.length n7 o8) rfl (by rw[ai];rfl));exact V' (AX (Ai (vs:=#[.agg #[.int .i64 af.start,.slice au af.accept.length aq,.slice ap af.next.length ar],.bool o8.isSome]) (v:=.agg #[.int .i64 af.start,.slice au af.accept.length aq,.slice ap af.next.length ar]) a8 rfl) ⟨af,au,ap,aq,ar,rfl,bm⟩)
  refine DagStepsG.cons (CS.eq) (CT.const) (fun S s' w' hi hN X U V H=>Or.inl ⟨AQ rfl,?_⟩) ?_
  ·replace X:=IN X;obtain ⟨af,au,ap,aq,ar,a8,bm⟩:=(show ((fun _ _=>T0 cs.length n7 o8):CZ) S s' (s' 147) w' from (H 3 rfl).2 147 (fun _ _=>T0 cs.length n7 o8) rfl (by rw[ai];rfl));exact V' (AX (Ai (vs:=#[.agg #[.int .i64 af.start,.slice au af.accept.length aq,.slice ap af.next.length ar],.bool o8.isSome]) (v:=.bool o8.isSome) a8 rfl) rfl)
  refine DagStepsG.cons (CS.chg (U:=AZ) (UV) (fun p y hp hw h=>by
     exact h.elim)) (CT.const) (fun S s' w' hi hN X U V H=>Or.inl ⟨AQ rfl,?_⟩) ?_
  ·replace X:=IN X;obtain ⟨az,a2,a3,a1,a4,cp,b8⟩:=(show ((fun _ _=>Wv cs.length n7 o8):CZ) S s' (s' 148) w' from (H 4 rfl).2 148 (fun _ _=>Wv cs.length n7 o8) rfl (by rw[ai];rfl));have cd:=(H 5 rfl).2 149 _ rfl (by rw[ai];rfl);exact Xj (Ou (AT (vs:=[(.agg #[(.int .i64 az.start),(.slice a2 az.accept.length a1),(.slice a3 az.next.length a4)]),(.bool o8.isSome)]) func164 kQ kQ (JD cp cd)) ((Ub _ cs.length n7 o8 az a2 a3 a1 a4 b8).mono (fun v w h=>⟨h.1,Ao.chg h.2⟩) (fun w h=>⟨h.1,Ao.chg h.2⟩)))
  refine DagStepsG.cons (CS.chg (U:=AZ) (fun v w w' x h=>Ix _ _ _ v w w' x h) (fun p y hp hw h=>by
     exact h.elim)) (CT.const) (fun S s' w' hi hN X U V H=>Or.inl ⟨AQ rfl,?_⟩) ?_
  ·replace X:=IN X;exact V' (Ez (c:=#[(.int .i64 0),(.slice none 0 0),(.slice none 0 0)]) CU rfl (by have:=X0.size;have:=X.size;omega))
  refine DagStepsG.tail ?_;exact DagStepsG.nil
 ·intro s' wd8 w8 X0 X8 U H;replace X8:=X8.mono (M':=AZ) (fun y _ h=>by
    obtain ⟨j,hj,h⟩:=h;exact h.elim)
  obtain ⟨ad,al,ak,am,aj,b5,bv,ci,ag⟩:=(show ((fun _ _=>WW cs.length n7 o8):CZ) (Iw [true,true,true,true,true,true,true,true,false]) s' (s' 150) w8 from H 6 rfl 150 (fun _ _=>WW cs.length n7 o8) rfl (by rw[ai];rfl));obtain ⟨bc,db,ae,g16⟩:=(show ((fun _ _=>M7 52 #[(.int .i64 0),(.slice none 0 0),(.slice none 0 0)] wa.heap.size):CZ) (Iw [true,true,true,true,true,true,true,true,false]) s' (s' 16) w8 from H 7 rfl 16 (fun _ _=>M7 52 #[(.int .i64 0),(.slice none 0 0),(.slice none 0 0)] wa.heap.size) rfl (by rw[ai];rfl));obtain ⟨j8,rfl⟩:=Af.out (σ:=s') (l:=[(3,(.pointer (some ⟨bb,0,none⟩))),(4,(.pointer (some ⟨br,0,none⟩))),(5,(.int .i64 ((cs.length:Nat):Int))),(15,(.pointer (some ⟨ba,0,none⟩))),(150,(.agg #[(.int .i64 ad.start),(.slice al ad.accept.length am),(.slice ak ad.next.length aj)])),(16,(.pointer (some ⟨bc,0,none⟩)))]) ⟨U 3 rfl,U 4 rfl,U 5 rfl,U 15 rfl,b5,db,trivial⟩;clear U H;replace hT:=(X0.trans X8).keep hT;replace Bb:=(X0.trans X8).keep Bb;replace Br:=(X0.trans X8).keep Br;replace Ba:=(X0.trans X8).keep Ba;replace hD:=hD.ext (X0.trans X8);replace X8:=X0.trans X8;replace E:=E.ext X8;have bi:=ae;have ct:br<n7∧ba<n7∧w0.heap.size≤n7∧br<n9∧n7≤bc:=⟨by rw[cg];have:=cr.1;omega,by rw[cg];exact cj.1,qO,cr.1,qO⟩;have bd:n7≤(w8).heap.size:=by have:=bi.lt;omega
  refine Al (b:=bc) (o:=0) (c':=#[(I6 ad.start),(.slice al ad.accept.length am),(.slice ak ad.next.length aj)]) rfl rfl qS Ap rfl ae qL rfl ?_;intro w9 S9;replace ag:=ag.chgT S9.chg (fun y h=>.inr (by have h':y=bc:=h;rw[h'];exact ⟨_,bi⟩));replace hD:=hD.put S9.chg (fun y hy h=>by have h':y=bc:=h;have:=hy.2;omega);replace bd:=Nat.le_trans bd S9.chg.size;replace hT:=S9.keep qO hT;replace Bb:=S9.keep qO Bb;replace Br:=S9.keep qO Br;replace Ba:=S9.keep qO Ba;replace E:=S9.step E qQ;replace ae:=S9.blk;refine AA (AB (Y (qM _ rfl ?_)));have dc:=bd;refine qE rfl (AT func160 kQ kQ rfl) ((Ky _ cs.length hc).mono (R':=fun r w'=>Hu (fun b=>n7≤b) (BV cs.length) r w'∧Ao _ w') (fun r w' h=>⟨h.1.mono fun b hb=>by have c5:_≤b:=hb;omega,h.2⟩)) ?_;rintro _ cw ⟨⟨ka,kc,la,lc,rfl,hK⟩,ay⟩;replace hT:=ay.keep hT;replace Bb:=ay.keep Bb;replace Br:=ay.keep Br;replace Ba:=ay.keep Ba;replace ae:=ay.keep ae;replace hD:=hD.ext ay;replace ag:=(ag.chg ay fun _ f=>f.elim);replace E:=E.ext ay;obtain ⟨n6,c6⟩:∃n6,n6=cw.heap.size:=⟨_,rfl⟩;replace hD:=By.chg hD (Chg.refl AZ _) (fun _ _ _ f=>f);replace hK:=By.chg hK (Chg.refl AZ _) (fun _ _ _ f=>f);replace ag:=By.of_new ag;rw[←c6] at hD hK ag;refine Au (v:=(.agg #[(I6 ((BV cs.length).start)),(.slice ka ((BV cs.length).accept.length) kc),(.slice la ((BV cs.length).next.length) lc)])) (c:=#[(I6 ((BV cs.length).start)),(.slice ka ((BV cs.length).accept.length) kc),(.slice la ((BV cs.length).next.length) lc)]) (n:=3) qD CU rfl Ap rfl rfl rfl qS ?_;intro bo wo No;have Fo:=No.ge E;have Oo_bt:=No.lt hT;have Oo_bb:=No.lt Bb;have Oo_br:=No.lt Br;have Oo_ba:=No.lt Ba;have Oo_b16:=No.lt ae;replace hT:=No.keep hT;replace Bb:=No.keep Bb;replace Br:=No.keep Br;replace Ba:=No.keep Ba;replace ae:=No.keep ae;replace hD:=hD.ext No.ext;replace ag:=ag.ext No.ext;replace hK:=hK.ext No.ext;replace E:=E.ext No.ext;have Bo:=No.blk;refine AA (AE (Y (qF bb 0 4 rfl underlying48 rfl Ab rfl (qV (AD rfl Aa (Bb.cell rfl)) (qM _ rfl (AA (AM ?_)))))));have hq:o8=some ad:=bv;have b2:trN cs.length cs x=repK cs.length x.mn d ad x.mx.toNat:=by rw[Rm hk h1 hy,hd,Option.bind_some,←b9,bv];rfl
  have hoo:n6≤bo∧br<bo:=⟨by have:=No.eq;omega,by have:=No.eq;have:=ay.size;omega⟩;have c1:By (fun b=>w0.heap.size≤b∧b≠bo∧b≠br) (wo) d [.int .i64 d.start,.slice ea d.accept.length ec,.slice na d.next.length nc]:=hD.mono fun b hb=>⟨by have:=hb.1.1;omega,by have:=hb.2;omega,by have:=hb.1.1;omega⟩;have dg:By (fun b=>w0.heap.size≤b∧b≠bo∧b≠br) (wo) ad [.int .i64 ad.start,.slice al ad.accept.length am,.slice ak ad.next.length aj]:=ag.mono fun b hb=>⟨by have:=hb.1;omega,by have:=hb.2;omega,by have:=hb.1;omega⟩;have dh:By (fun b=>w0.heap.size≤b∧b≠bo∧b≠br) (wo) (BV cs.length) [.int .i64 (BV cs.length).start,.slice ka (BV cs.length).accept.length kc,.slice la (BV cs.length).next.length lc]:=hK.mono fun b hb=>⟨by have:=hb.1;omega,by have:=hb.2;omega,by have:=hb.1;omega⟩;refine Am (fun nn_ σ av=>∃(k:Nat) (D:Dfa) (pa qa:Option Addr) (pc qc:Nat),(∃jj_,σ=BQ jj_ [(3,(P6 bb 0)),(4,(P6 br 0)),(15,(P6 ba 0)),(16,(P6 bc 0)),(17,(P6 bo 0)),(154,(I6 x.mx)),(155,(I6 (k:Int)))])∧Chg AZ w0 av∧Az av bt #[(.slice ca cs.length cc)] 135∧Az av bb (R6 x sa sc (some ⟨ab,ao,none⟩) ac) 48∧Az av br #[(I6 0),(.slice none 0 0),(.slice none 0 0)] 52∧Az av ba #[(I6 d.start),(.slice ea d.accept.length ec),(.slice na d.next.length nc)] 52∧Az av bc #[(I6 ad.start),(.slice al ad.accept.length am),(.slice ak ad.next.length aj)] 52∧Az av bo (#[.int .i64 D.start,.slice pa D.accept.length pc,.slice qa D.next.length qc]) 52∧((k:Int)≤x.mx)∧(repK cs.length x.mn d ad k=some D)∧(GoodD cs.length D)∧(By (fun b=>w0.heap.size≤b∧b≠bo∧b≠br) av D [.int .i64 D.start,.slice pa D.accept.length pc,.slice qa D.next.length qc])∧(By (fun b=>w0.heap.size≤b∧b≠bo∧b≠br) av d [.int .i64 d.start,.slice ea d.accept.length ec,.slice na d.next.length nc])∧(By (fun b=>w0.heap.size≤b∧b≠bo∧b≠br) av ad [.int .i64 ad.start,.slice al ad.accept.length am,.slice ak ad.next.length aj])∧nn_=x.mx.toNat - k) (n:=x.mx.toNat - 0) ?_ ?_
  ·exact ⟨0,BV cs.length,ka,la,kc,lc,Af.out ⟨rfl,rfl,rfl,rfl,rfl,rfl,rfl,trivial⟩,E,hT,Bb,Br,Ba,ae,Bo,qO,rfl,IF _,dh,c1,dg,rfl⟩
  ·clear E hT Bb Br Ba ae Bo;rintro _ _ av ⟨k,D,pa,qa,pc,qc,⟨j10,rfl⟩,E,hT,Bb,Br,Ba,ae,Bo,hkm,hf,gD,bs,hA,hM,rfl⟩;refine Y (qV (Av rfl rfl) (AA (AE (qC rfl (fun b3=>?_) (fun b3=>?_)))))
   ·refine AK (AB (AE (AM (Y (qM _ rfl (qA _ rfl (AA (Y (qM _ rfl (qF bb 0 3 rfl underlying48 rfl Ab rfl (qV (AD rfl Aa (Bb.cell rfl)) (qV (Av rfl rfl) (AA (qC rfl (fun bu=>?_) (fun bu=>?_)))))))))))))))
    ·obtain ⟨o9,bf⟩:∃o9,o9=catO cs.length D d:=⟨_,rfl⟩;refine AG (qV (AU (vs:=[(I6 D.start),(.slice pa D.accept.length pc),(.slice qa D.next.length qc)]) rfl BC Ap rfl (Bo.cells rfl)) (qV (AU (vs:=[(I6 d.start),(.slice ea d.accept.length ec),(.slice na d.next.length nc)]) rfl BC Ap rfl (Ba.cells rfl)) ?_));obtain ⟨n8,a9⟩:∃n8,n8=(av).heap.size:=⟨_,rfl⟩;have ce:bo<n8∧br<n8∧w0.heap.size≤n8:=⟨by rw[a9];exact Bo.lt,by rw[a9];exact Br.lt,by rw[a9];exact E.size⟩;refine qE rfl (AT func165 kQ kQ rfl) ((Pa _ cs.length D d _ _ gD gd bs.at' hA.at' hc).mono (R':=fun r w'=>RW cs.length (fun b=>w0.heap.size≤b∧b≠bo∧b≠br) o9 r w'∧Ao _ w') (fun r w' h=>⟨by rw[bf];exact h.1.mono fun b hb=>⟨by have:=hb.1;omega,by have:=hb.1;omega,by have:=hb.1;omega⟩,h.2⟩)) ?_;rintro _ c0 ⟨⟨s9,a7,a6,be,bg,rfl,co⟩,an⟩;replace hT:=an.keep hT;replace Bb:=an.keep Bb;replace Br:=an.keep Br;replace Ba:=an.keep Ba;replace ae:=an.keep ae;replace Bo:=an.keep Bo;replace E:=E.ext an;refine qV (Ai rfl rfl) (qV (Ai rfl rfl) (Ch rfl rfl qD (AT func164 kQ kQ rfl) (JC _ o9.isSome s9.start a7 a6 s9.accept.length be s9.next.length bg) (fun w' h=>And.intro rfl ⟨b2.trans (I7 (k:=k+1) (by rw[repK,hf,Option.bind_some,if_pos bu];exact bf.symm.trans (Option.not_isSome_iff_eq_none.1 (by rw[h.1];decide))) _ qO),E.ext h.2⟩) ?_));rintro _ cz ⟨⟨cb,rfl⟩,ah⟩;replace hT:=ah.keep hT;replace Bb:=ah.keep Bb;replace Br:=ah.keep Br;replace Ba:=ah.keep Ba;replace ae:=ah.keep ae;replace Bo:=ah.keep Bo;replace E:=E.ext ah;obtain ⟨D9,a5⟩:=Option.isSome_iff_exists.1 cb;obtain ⟨ch,cl,cm⟩:=co D9 a5;rw[ch] at a5;have bh:=cm.ext ah;replace hA:=(hA.ext an).ext ah;replace hM:=(hM.ext an).ext ah;refine Al (b:=bo) (o:=0) (c':=#[(I6 s9.start),(.slice a7 s9.accept.length be),(.slice a6 s9.next.length bg)]) rfl rfl qS Ap rfl Bo qL rfl ?_;intro w13 aw;replace hA:=hA.put aw.chg (fun y hy h=>hy.2.1 h);replace hM:=hM.put aw.chg (fun y hy h=>hy.2.1 h);replace bh:=bh.put aw.chg (fun y hy h=>hy.2.1 h);replace hT:=aw.keep qO hT;replace Bb:=aw.keep qO Bb;replace Br:=aw.keep qO Br;replace Ba:=aw.keep qO Ba;replace ae:=aw.keep qO ae;replace E:=aw.step E qQ;replace Bo:=aw.blk;refine AA (AP (AB (AG (qV (Aq rfl rfl (A2 qO)) (qM _ rfl (AA (AB ?_)))))));exact ⟨x.mx.toNat - (k+1),qO,k+1,s9,a7,a6,be,bg,Af.out ⟨rfl,rfl,rfl,rfl,rfl,rfl,rfl,trivial⟩,E,hT,Bb,Br,Ba,ae,Bo,qO,(by rw[repK,hf,Option.bind_some,if_pos bu];exact bf.symm.trans a5),cl,bh,hA,hM,rfl⟩
    ·obtain ⟨o9,bf⟩:∃o9,o9=catO cs.length D ad:=⟨_,rfl⟩;refine AG (qV (AU (vs:=[(I6 D.start),(.slice pa D.accept.length pc),(.slice qa D.next.length qc)]) rfl BC Ap rfl (Bo.cells rfl)) (qV (AU (vs:=[(I6 ad.start),(.slice al ad.accept.length am),(.slice ak ad.next.length aj)]) rfl BC Ap rfl (ae.cells rfl)) ?_));obtain ⟨n8,a9⟩:∃n8,n8=(av).heap.size:=⟨_,rfl⟩;have ce:bo<n8∧br<n8∧w0.heap.size≤n8:=⟨by rw[a9];exact Bo.lt,by rw[a9];exact Br.lt,by rw[a9];exact E.size⟩;refine qE rfl (AT func165 kQ kQ rfl) ((Pa _ cs.length D ad _ _ gD ci bs.at' hM.at' hc).mono (R':=fun r w'=>RW cs.length (fun b=>w0.heap.size≤b∧b≠bo∧b≠br) o9 r w'∧Ao _ w') (fun r w' h=>⟨by rw[bf];exact h.1.mono fun b hb=>⟨by have:=hb.1;omega,by have:=hb.1;omega,by have:=hb.1;omega⟩,h.2⟩)) ?_;rintro _ c0 ⟨⟨s9,a7,a6,be,bg,rfl,co⟩,an⟩;replace hT:=an.keep hT;replace Bb:=an.keep Bb;replace Br:=an.keep Br;replace Ba:=an.keep Ba;replace ae:=an.keep ae;replace Bo:=an.keep Bo;replace E:=E.ext an;refine qV (Ai rfl rfl) (qV (Ai rfl rfl) (Ch rfl rfl qD (AT func164 kQ kQ rfl) (JC _ o9.isSome s9.start a7 a6 s9.accept.length be s9.next.length bg) (fun w' h=>And.intro rfl ⟨b2.trans (I7 (k:=k+1) (by rw[repK,hf,Option.bind_some,if_neg bu];exact bf.symm.trans (Option.not_isSome_iff_eq_none.1 (by rw[h.1];decide))) _ qO),E.ext h.2⟩) ?_));rintro _ cz ⟨⟨cb,rfl⟩,ah⟩;replace hT:=ah.keep hT;replace Bb:=ah.keep Bb;replace Br:=ah.keep Br;replace Ba:=ah.keep Ba;replace ae:=ah.keep ae;replace Bo:=ah.keep Bo;replace E:=E.ext ah;obtain ⟨D9,a5⟩:=Option.isSome_iff_exists.1 cb;obtain ⟨ch,cl,cm⟩:=co D9 a5;rw[ch] at a5;have bh:=cm.ext ah;replace hA:=(hA.ext an).ext ah;replace hM:=(hM.ext an).ext ah;refine Al (b:=bo) (o:=0) (c':=#[(I6 s9.start),(.slice a7 s9.accept.length be),(.slice a6 s9.next.length bg)]) rfl rfl qS Ap rfl Bo qL rfl ?_;intro w14 ax;replace hA:=hA.put ax.chg (fun y hy h=>hy.2.1 h);replace hM:=hM.put ax.chg (fun y hy h=>hy.2.1 h);replace bh:=bh.put ax.chg (fun y hy h=>hy.2.1 h);replace hT:=ax.keep qO hT;replace Bb:=ax.keep qO Bb;replace Br:=ax.keep qO Br;replace Ba:=ax.keep qO Ba;replace ae:=ax.keep qO ae;replace E:=ax.step E qQ;replace Bo:=ax.blk;refine AA (AP (AB (AG (qV (Aq rfl rfl (A2 qO)) (qM _ rfl (AA (AB ?_)))))));exact ⟨x.mx.toNat - (k+1),qO,k+1,s9,a7,a6,be,bg,Af.out ⟨rfl,rfl,rfl,rfl,rfl,rfl,rfl,trivial⟩,E,hT,Bb,Br,Ba,ae,Bo,qO,(by rw[repK,hf,Option.bind_some,if_neg bu];exact bf.symm.trans a5),cl,bh,hA,hM,rfl⟩
   ·have cu:k=x.mx.toNat:=qO
    refine Ak (AR (AR (Ae (AB (Y (qV (AU (vs:=[(I6 D.start),(.slice pa D.accept.length pc),(.slice qa D.next.length qc)]) rfl BC Ap rfl (Bo.cells rfl)) (Al (b:=br) (o:=0) (c':=#[(I6 D.start),(.slice pa D.accept.length pc),(.slice qa D.next.length qc)]) rfl rfl qS Ap rfl Br qL rfl ?_)))))));intro w15 a0;replace bs:=bs.put a0.chg (fun y hy h=>hy.2.2 h);replace hT:=a0.keep qO hT;replace Bb:=a0.keep qO Bb;replace Ba:=a0.keep qO Ba;replace ae:=a0.keep qO ae;replace Bo:=a0.keep qO Bo;replace E:=a0.step E qQ;replace Br:=a0.blk;refine AA (AS (Ag (AO (D7 (Cp results133 (vs:=[(.int .i64 D.start),(.slice pa D.accept.length pc),(.slice qa D.next.length qc)]) (b:=br) rfl BC Ap rfl (Br.cells rfl) ?_)))));exact ⟨⟨D,b2.trans (by rw[←cu];exact hf),gD,_,_,_,_,rfl,(By.chg bs (Chg.refl AZ _) fun _ _ _ f=>f).mono fun b hb=>⟨hb.1.1,hb.2⟩⟩,E⟩
theorem Vf (cs:List (List Sp)) (c:1<=cs.length∧cs.length<=16) (e:∀l∈cs,l≠[]):∀(n:Nat) (t:Re),t.size<=n->n<=1000000->Hr t->Jj cs.length cs t:=by
 intro n
 induction n with
 | zero=>intro t h;have:=t.size_pos;omega
 | succ n ih=>
 intro t hn hb d;have b:=OJ (He d);have hla:=OQ t;have a:∀y∈t.args,Jj cs.length cs y:=λy s=>by
  obtain ⟨i,hi⟩:=List.getElem?_of_mem s;have f:=Re.size_arg hi;exact ih y qO qO (Qu (JA d) hi)
 refine Vw _ _ _ ?_;have hk:=b.k;by_cases f:t.kind=1
 .exact T_ cs t c b f
 by_cases o:t.kind=2
 .exact T' cs t c o e
 by_cases m:t.kind=3
 .exact MQ cs t c b (.inl m) qO a
 by_cases q:t.kind=4
 .exact MQ cs t c b (.inr (.inl q)) qO a
 by_cases g:t.kind=5
 .exact T9 cs t c b g a
 by_cases u:t.kind=6
 .exact T8 cs t c b u a
 by_cases j:t.kind=7
 .exact MQ cs t c b (.inr (.inr j)) qO a
 by_cases r:t.kind=8
 .exact T7 cs t c b r a
 by_cases p:t.kind=9
 .exact T6 cs t c b p a
 exact UA cs t c b qO
end Go.Proofs
namespace Go.Proofs
open Go Go.Eng Go.Sort
set_option maxRecDepth 100000
theorem Rx:DK prog 131 0:=by unfold DK;kernel_rfl
theorem Oz:EO prog 131 (.agg #[]):=by unfold EO;kernel_rfl
theorem PC (a:World) (d g:Nat):CallsD prog 101 #[.pointer (some ⟨d,0,none⟩),.pointer (some ⟨g,0,none⟩)] .returning a λe f w'=>(∃r,e=.returned r∧Ao a w')∧f=.returning:=by
 refine HX (v:=.nilIface) func101 O ntmps101 (Jo O) O O qD (λ_ _=>Lk) (.inl ⟨O,O,O⟩) ?_;have E:Chg AZ a a:=Chg.refl _ _;refine qV (NZ underlying131 Oz O) (qM _ O (qV (Ai O O) (qV (Ai O O) (Au (v:=(.agg #[])) (c:=#[]) (n:=0) qD Oz O Rx O O O qS ?_))));intro d w1 b;replace E:=E.ext b.ext;have B1:=b.blk;refine qA _ O (AA (Y (qM _ O (AA (AW O (AK (Fg results101 ?_)))))));exact E
theorem OC (w0:World) (bd be:Nat) (x e:Int) (ya za:Option Addr) (yn yc zn zc:Nat) (h1:Az w0 bd #[.int .i64 x,.slice ya yn yc,.slice za zn zc] 52) (h2:Az w0 be #[.int .i64 e] 27) (hne:bd≠be) :
  CallsD prog 101 #[.pointer (some ⟨bd,0,none⟩),.pointer (some ⟨be,0,none⟩)] (.panicking WX) w0 fun e u1 w'=>(∃r,e=.returned r∧(Az w' bd #[.int .i64 0,.slice none 0 0,.slice none 0 0] 52∧Az w' be #[.int .i64 2] 27∧Chg (fun y=>y=bd∨y=be) w0 w'))∧u1=.panicking [{v:=.iface 131 (.agg #[]),recovered:=true}]:=by
 have hl1:=h1.lt;have hl2:=h2.lt;refine HX (v:=(.iface 131 (.agg #[]))) func101 rfl ntmps101 (Jo rfl) rfl rfl qD (fun _ _=>Lk) (.inr ⟨[],rfl,rfl⟩) ?_;have E:Chg (fun y=>y=bd∨y=be) w0 w0:=Chg.refl _ _;refine qV (NY underlying131 rfl) (qM _ rfl (qV (Ai rfl rfl) (qV (Ai rfl rfl) (Au (v:=(.agg #[])) (c:=#[]) (n:=0) qD Oz rfl Rx rfl rfl rfl qS ?_))));intro b1 w1 N1;have F1:=N1.ge E;have O1_bd:=N1.lt h1;have O1_be:=N1.lt h2;replace h1:=N1.keep h1;replace h2:=N1.keep h2;replace E:=E.ext N1.ext;have B1:=N1.blk;refine qA _ rfl (AA (Y (qM _ rfl (AA (A4 rfl (AG (qV (BU (ps:=[]) (v:=(.agg #[(I6 0),(.slice none 0 0),(.slice none 0 0)])) rfl qK) (Al (b:=bd) (o:=0) (c':=#[(I6 0),(.slice none 0 0),(.slice none 0 0)]) rfl rfl qS Ap rfl h1 qL rfl ?_))))))));intro w2 S2;replace h2:=S2.keep qO h2;replace B1:=S2.keep qO B1;replace E:=S2.step E qQ;replace h1:=S2.blk;refine BB (b:=be) (o:=0) (c':=#[(I6 2)]) (v:=(I6 2)) rfl rfl rfl NN h2 qP rfl ?_;intro w3 S3;replace h1:=S3.keep qO h1;replace B1:=S3.keep qO B1;replace E:=S3.step E qQ;replace h2:=S3.blk;refine AA (Fg results101 ?_);exact ⟨h1,h2,E⟩
def XZ (c:Nat) (cs:List (List Sp)) (x:Re) (m:Nat) (r:Value) (w:World):Prop:=
 (∃(d:Dfa) (ea:Option Addr) (ec:Nat) (na:Option Addr) (nc:Nat),trO c cs x=some d∧GoodD c d∧d.next.length<=200∧r=.tuple #[.agg #[.int .i64 d.start,.slice ea d.accept.length ec,.slice na d.next.length nc],.int .i64 0]∧By (λb=>m<=b) w d [.int .i64 d.start,.slice ea d.accept.length ec,.slice na d.next.length nc])∨(trO c cs x=none∧r=.tuple #[.agg #[.int .i64 0,.slice none 0 0,.slice none 0 0],.int .i64 2])
theorem OV (w:World) (cap:Array Value):(callFunc 101 cap).run prog w=.ok (.enter 101 cap) w:=HY func101 kQ kQ
theorem SN (w0:World) (cs:List (List Sp)) (x:Re) (vs:List Value) (ca:Option Addr) (cc:Nat) (hc:1≤cs.length∧cs.length≤16) (hne:∀l∈cs,l≠[]) (hok:Hr x) (hsz:x.size≤1000000) (hC:Bg w0 (.slice ca cs.length cc) cs) (ht:BR w0 x vs) :
  CJ prog 57 #[.agg vs.toArray,.slice ca cs.length cc] w0 fun r w=>XZ cs.length cs x w0.heap.size r w∧Ao w0 w:=by
 have af:=ht;obtain ⟨sa,sc,aa,ac,rfl,_,_,_⟩:=ht.form;refine RS func57 rfl ntmps57 (Jo rfl) ?_;have E:Chg AZ w0 w0:=Chg.refl _ _;refine LD (BM (v:=(.agg (R6 x sa sc aa ac))) (c:=(R6 x sa sc aa ac)) qD rfl rfl ?_);intro bb wb Nb;have Fb:=Nb.ge E;replace E:=E.ext Nb.ext;have Bb:=Nb.blk;refine BO (c:=#[(I6 0),(.slice none 0 0),(.slice none 0 0)]) qD CU rfl ?_;intro br wr Nr;have Fr:=Nr.ge E;have Or_bb:=Nr.lt Bb;replace Bb:=Nr.keep Bb;replace E:=E.ext Nr.ext;have Br:=Nr.blk;refine BO (c:=#[(I6 0)]) qD VG rfl ?_;intro be we Ne;have Fe:=Ne.ge E;have Oe_bb:=Ne.lt Bb;have Oe_br:=Ne.lt Br;replace Bb:=Ne.keep Bb;replace Br:=Ne.keep Br;replace E:=E.ext Ne.ext;have Be:=Ne.blk;refine AA (Jr (Tv rfl rfl qD (CA rfl rfl) (Pj rfl rfl (UQ rfl) (Y (qM _ rfl (qV (BU (ps:=[(0,(.slice ca cs.length cc))]) (v:=(.agg #[(.slice ca cs.length cc)])) rfl qK) (BM (v:=(.agg #[(.slice ca cs.length cc)])) (c:=#[(.slice ca cs.length cc)]) qD rfl rfl ?_)))))));intro bt wt Nt;have Ft:=Nt.ge E;have Ot_bb:=Nt.lt Bb;have Ot_br:=Nt.lt Br;have Ot_be:=Nt.lt Be;replace Bb:=Nt.keep Bb;replace Br:=Nt.keep Br;replace Be:=Nt.keep Be;replace E:=E.ext Nt.ext;have Bt:=Nt.blk;refine qA _ rfl (AA (Y (qM _ rfl (qV (AU (vs:=[(I6 x.kind),(.slice sa x.set.length sc),(.slice aa x.args.length ac),(I6 x.mn),(I6 x.mx),(.bool x.neg)]) rfl CI BE rfl (Bb.cells rfl)) ?_))));obtain ⟨n9,ab⟩:∃n9,n9=(wt).heap.size:=⟨_,rfl⟩;have ad:br<n9∧be<n9∧w0.heap.size≤n9∧w0.heap.size≤br∧w0.heap.size≤be∧br≠be:=⟨by rw[ab];exact Br.lt,by rw[ab];exact Be.lt,by rw[ab];exact E.size,qO,qO,qO⟩;refine Ch rfl rfl qD (AT func102 kQ kQ rfl) (((Vf cs hc hne _ x (Nat.le_refl _) hsz hok _ bt ca cc _ Bt (hC.ext E) (BR.ext E x af)).mono (R':=fun r w'=>(∃d,trO cs.length cs x=some d∧GoodD cs.length d∧d.next.length≤200∧Hu (fun b=>n9≤b) d r w')∧Ao _ w') (fun r w' h=>⟨by obtain ⟨d,h1,h2,h3,h4⟩:=h.1;exact ⟨d,h1,h2,h3,h4.mono fun b hb=>by rw[ab];exact hb.1⟩,h.2⟩) (fun _ h=>h))) (fun w' h=>fun a ha=>KX (X:=fun w9=>Az w9 br #[.int .i64 0,.slice none 0 0,.slice none 0 0] 52∧Az w9 be #[.int .i64 2] 27∧Chg (fun y=>y=br∨y=be) w' w9) rfl (by intro h;cases h) (OV _ _) ((OC _ br be _ _ _ _ _ _ _ _ (h.2.keep Br) (h.2.keep Be) ad.2.2.2.2.2).mono fun e9 u9 w9 h9=>by obtain ⟨⟨r9,h1,h2⟩,h3⟩:=h9;exact ⟨⟨r9,h1⟩,by rw[h3];rfl,h2⟩) (fun w9 h9=>⟨_,IU (vs:=[.int .i64 0,.slice none 0 0,.slice none 0 0]) results57 rfl rfl BC Ap rfl (h9.1.cells rfl) Kt (h9.2.1.cell rfl) ha,_,rfl,.inr ⟨h.1,rfl⟩,(E.ext h.2).step h9.2.2 (fun y hy hh=>by rcases hh with hh|hh<;>omega)⟩)) ?_;rintro _ w9 ⟨⟨d,hd,gd,ae,ea,ec,na,nc,rfl,hD⟩,X9⟩;replace Bb:=X9.keep Bb;replace Br:=X9.keep Br;replace Be:=X9.keep Be;replace Bt:=X9.keep Bt;replace E:=E.ext X9;refine Al (b:=br) (o:=0) (c':=#[(I6 d.start),(.slice ea d.accept.length ec),(.slice na d.next.length nc)]) rfl rfl qS Ap rfl Br qL rfl ?_;intro w1 S1;replace hD:=hD.put S1.chg fun y h1 h=>by have h':y=_:=h;omega
 replace Bb:=S1.keep qO Bb;replace Be:=S1.keep qO Be;replace Bt:=S1.keep qO Bt;replace E:=S1.step E qQ;replace Br:=S1.blk;refine BB (b:=be) (o:=0) (c':=#[(I6 0)]) (v:=(I6 0)) rfl rfl rfl NN Be qP rfl ?_;intro w2 S2;replace hD:=hD.put S2.chg fun y h1 h=>by have h':y=_:=h;omega
 replace Bb:=S2.keep qO Bb;replace Br:=S2.keep qO Br;replace Bt:=S2.keep qO Bt;replace E:=S2.step E qQ;replace Be:=S2.blk;refine AA (AS ?_);exact fun a ha=>KX (X:=Ao _) rfl (by intro h;cases h) (OV _ _) ((PC _ br be).mono fun e9 u9 w9 h9=>by obtain ⟨⟨r9,h1,h2⟩,h3⟩:=h9;exact ⟨⟨r9,h1⟩,by rw[h3];rfl,h2⟩) (fun w9 h9=>⟨_,IU (vs:=[.int .i64 d.start,.slice ea d.accept.length ec,.slice na d.next.length nc]) results57 rfl rfl BC Ap rfl ((Ao.keep h9 Br).cells rfl) Kt ((Ao.keep h9 Be).cell rfl) ha,_,rfl,.inl ⟨d,_,_,_,_,hd,gd,ae,rfl,(hD.ext h9).mono fun b hb=>by have hb':n9≤b:=hb;omega⟩,E.ext h9⟩)
end Go.Proofs
namespace Go.Proofs
open Go Go.Eng
set_option maxRecDepth 100000
inductive Ins where
  | set (l:List (Int×Int))
  | split (x y:Nat)
  | jump (x:Nat)
  | opn (t:Nat)
  | cls (t n:Nat)
  | look (r:Re) (ng:Bool)
  | ent (n:Nat)
  | chk (n:Nat)
  | fin
end Go.Proofs
namespace Go.Proofs
open Go Go.Eng
set_option maxRecDepth 100000
def Gd (k:Int):Int:=if k=3∨k=4∨k=7 then 2 else if k=5∨k=6∨k=8∨k=9∨k=10 then 1 else 0
def Wz:Array Value:=#[.int .i64 0,.int .i64 0,.int .i64 0,.int .i64 2,.int .i64 2,.int .i64 1,.int .i64 1,.int .i64 2,.int .i64 1,.int .i64 1,.int .i64 1]
theorem Sc:∀i,i<11->Wz[i]?=some (.int .i64 (Gd ((i:Nat):Int))):=by
 intro i h
 match i,h with
 | 0,_=>rfl
 | 1,_=>rfl
 | 2,_=>rfl
 | 3,_=>rfl
 | 4,_=>rfl
 | 5,_=>rfl
 | 6,_=>rfl
 | 7,_=>rfl
 | 8,_=>rfl
 | 9,_=>rfl
 | 10,_=>rfl
theorem PH (k:Int) (g:0<=k) (h1:k<=10) (d:World):CJ prog 108 #[.int .i64 k] d λv w=>v=.int .i64 (Gd k)∧Ao d w:=by
 refine qR func108 O ntmps108 O (λE=>(Y (qA (I6 0) O (AA (Y (Ad (ps:=[(0,(I6 0)),(1,(I6 0)),(2,(I6 0)),(3,(I6 2)),(4,(I6 2)),(5,(I6 1)),(6,(I6 1)),(7,(I6 2)),(8,(I6 1)),(9,(I6 1)),(10,(I6 1))]) (c:=#[(I6 0),(I6 0),(I6 0),(I6 2),(I6 2),(I6 1),(I6 1),(I6 2),(I6 1),(I6 1),(I6 1)]) qD O underlying22 Ab CW qD qD qK ?_))))));intro e wq a;replace E:=E.ext a.ext;have f:=a.blk;refine qM (I6 k) O (qV (AC (b:=e) (o:=0) (len:=11) (cap:=11) (i:=k.toNat) (o':=0+k.toNat) O O qO underlying22 Ab qO qO) (qV (AD (v:=(I6 (Gd k))) O Aa (f.cell (by have:=Sc k.toNat qO;rw[Int.toNat_of_nonneg g] at this;rw[Nat.zero_add];exact this))) (qA (I6 (Gd k)) O (AA (AS (AV results108 (v:=(.int .i64 (Gd k))) O ?_))))));exact ⟨O,E⟩
theorem Hh {t:Re} (h0:0<=t.kind) (h1:t.kind<=10):Md t.kind t.args.length = !(decide ((t.args.length:Int)<Gd t.kind) || (decide (Gd t.kind<2) && decide (Gd t.kind<t.args.length))):=by
 unfold Md Gd;by_cases a:t.kind=3∨t.kind=4∨t.kind=7
 .simp only[if_pos a];rw[Bool.eq_iff_iff];simp
 .by_cases b:t.kind=5∨t.kind=6∨t.kind=8∨t.kind=9∨t.kind=10
  .simp only[if_neg a,if_pos b];rw[Bool.eq_iff_iff];simp;omega
  .simp only[if_neg a,if_neg b];rw[Bool.eq_iff_iff];simp
theorem Ux (wb w0:World) (t:Re) (vs:List Value) (ht:BR wb t vs) (hE:Ao wb w0) :
 CJ prog 62 #[.agg vs.toArray] w0 λv w=>v=.int .i64 (Cu t)∧Ao w0 w:=by
 have ht0:=ht;obtain ⟨sa,sc,aa,ac,rfl,bt,fu,fe⟩:=ht.form;have fm:t.set.length<=9223372036854775807:=by simpa using BL.le bt
 refine qR func62 O ntmps62 O (λE=>(Y (BM (v:=(.agg (R6 t sa sc aa ac))) (c:=(R6 t sa sc aa ac)) qD O O ?_)));intro b1 w1 N1;replace E:=E.ext N1.ext;have B1:=N1.blk;refine qA _ O (AA (AE (Y (qF b1 0 0 O underlying48 O Ab O (qV (AD O Aa (B1.cell O)) ?_)))));obtain ⟨e2,fh⟩:∃e,(decide ((t.kind:Int)<0))=e:=⟨_,O⟩;refine qV ((Av O O).trans (by rw[fh];try rfl)) (qM _ O (qG (.bool e2) (nU e2 (P6 b1 0)) (by cases e2<;>first|exact gA|exact gB|exact .inl ⟨O,AN O underlying48 O Ab O⟩) (qG (.bool e2) (nU e2 (I6 t.kind)) (by cases e2<;>first|exact gA|exact gB|exact .inl ⟨O,AD O Aa (B1.cell O)⟩) ?_)));obtain ⟨e3,e7⟩:∃e,(decide ((10:Int)<t.kind))=e:=⟨_,O⟩;refine qG (.bool e2) (nU e2 (.bool e3)) (by cases e2<;>first|exact gA|exact gB|exact .inl ⟨O,(CH O O).trans (by rw[e7];try rfl)⟩) ?_;obtain ⟨e4,fa⟩:∃e,(e2 || e3)=e:=⟨_,O⟩;refine qV (Ac (v:=.bool e4) O (by rw[<-fa];cases e2<;>rfl)) (AA ?_);subst fa;subst e7;subst fh;refine A3 O (λhk=>?_) (λhk=>?_)
 .have fs:=hk;simp at hk;refine Y (qA _ O (AA (AS (AO (AV results62 (v:=(.int .i64 1)) O ?_)))));exact ⟨A5 (by unfold Cu;rw[if_pos qO]),E⟩
 .have fs:=hk;simp at hk;refine AK (AB (Y (qF b1 0 2 O underlying48 O G5 O (qV (AD O FB (B1.cell O)) (qV (AH underlying46 O) (qA _ O (AA (AE (Y (qM _ O (qF b1 0 0 O underlying48 O Ab O (qV (AD O Aa (B1.cell O)) (qE O (AT func108 kQ kQ O) (PH t.kind qO qO _) ?_)))))))))))));rintro _ w1 ⟨rfl,X1⟩;replace B1:=X1.keep B1;replace E:=E.ext X1;refine qV (Av O O) (qM _ O ?_);rcases Bool.eq_false_or_eq_true (decide ((((t.args.length:Nat):Int):Int)<Gd t.kind)) with a0|a0
  .have bi:=a0;replace bi:=of_decide_eq_true bi;refine AJ O O qD (v:=.bool true) (Aw a0) (Or.inl O) (AJ O O qD (v:=.bool true) (Aw a0) (Or.inl O) (AJ O O qD (v:=.bool true) (Aw a0) (Or.inl O) (AJ O O qD (v:=.bool true) (Aw a0) (Or.inl O) (AJ O O qD (v:=.bool true) (Aw a0) (Or.inl O) (AJ O O qD (v:=undef) O (Or.inr O) (AJ O O qD (v:=undef) O (Or.inr O) (AJ O O qD (v:=undef) O (Or.inr O) (AJ O O qD (v:=undef) O (Or.inr O) (AJ O O qD (v:=undef) O (Or.inr O) (AJ O O qD (v:=.bool true) (Aw a0) (Or.inl O) (qV (Ac (v:=(.bool true)) O (by rw[a0];rfl)) (AA (A4 O (Y ?_))))))))))))));refine qA _ O (AA (AS (AO (AV results62 (v:=(.int .i64 3)) O ?_))));have ep:Md t.kind t.args.length=false:=by rw[Hh qO qO];simp;omega
   exact ⟨A5 (by unfold Cu;rw[if_neg qO,if_pos (by simp[Ea,ep])]),E⟩
  .have bi:=a0;replace bi:=of_decide_eq_false bi;refine AF O O qD (Aw a0) (qF b1 0 0 O underlying48 O Ab O (AF O O qD (Aw a0) (qV (AD O Aa (B1.cell O)) (AF O O qD (Aw a0) (qE O (AT func108 kQ kQ O) (PH t.kind qO qO _) ?_)))));rintro _ w2 ⟨rfl,X2⟩;replace B1:=X2.keep B1;replace E:=E.ext X2;refine AF O O qD (Aw a0) (qV (Av O O) (AF O O qD (Aw a0) (qM _ O ?_)));rcases Bool.eq_false_or_eq_true (decide ((Gd t.kind:Int)<2)) with a1|a1
   .have bh:=a1;replace bh:=of_decide_eq_true bh;refine AF O O qD (Aw a1) (qM _ O (AF O O qD (Aw a1) (qF b1 0 0 O underlying48 O Ab O (AF O O qD (Aw a1) (qV (AD O Aa (B1.cell O)) (AF O O qD (Aw a1) (qE O (AT func108 kQ kQ O) (PH t.kind qO qO _) ?_)))))));rintro _ w3 ⟨rfl,X3⟩;replace B1:=X3.keep B1;replace E:=E.ext X3;refine AF O O qD (Aw a1) (qV (CH O O) (AF O O qD (Aw a0) (qV (Ac (v:=(.bool (decide ((Gd t.kind:Int)<(t.args.length:Int))))) O (by rw[a1];rfl)) (qV (Ac (v:=(.bool (decide ((Gd t.kind:Int)<(t.args.length:Int))))) O (by rw[a0];rfl)) (AA (qC O (λhn=>?_) (λhn=>?_)))))))
    .refine Y (qA _ O (AA (AS (AO (AV results62 (v:=(.int .i64 3)) O ?_)))));have ep:Md t.kind t.args.length=false:=by rw[Hh qO qO];simp;omega
     exact ⟨A5 (by unfold Cu;rw[if_neg qO,if_pos (by simp[Ea,ep])]),E⟩
    .have en:Md t.kind t.args.length=true:=by rw[Hh qO qO];simp;omega
     refine AK (AB (AE (Y (qF b1 0 0 O underlying48 O Ab O (qV (AD O Aa (B1.cell O)) ?_)))));obtain ⟨e9,e5⟩:∃e,(decide ((t.kind:Int)≠2))=e:=⟨_,O⟩;refine qV ((CO O O).trans (by rw[e5];try rfl)) (qM _ O (qG (.bool e9) (yU e9 (P6 b1 1)) (by cases e9<;>first|exact gA|exact gB|exact .inl ⟨O,AN O underlying48 O BW O⟩) (qG (.bool e9) (yU e9 (.slice sa t.set.length sc)) (by cases e9<;>first|exact gA|exact gB|exact .inl ⟨O,AD O CC (B1.cell O)⟩) (qG (.bool e9) (yU e9 (I6 (t.set.length:Int))) (by cases e9<;>first|exact gA|exact gB|exact .inl ⟨O,AH underlying37 O⟩) ?_))));obtain ⟨fj,co⟩:∃e,(decide ((0:Int)<((t.set.length:Nat):Int)))=e:=⟨_,O⟩;refine qG (.bool e9) (yU e9 (.bool fj)) (by cases e9<;>first|exact gA|exact gB|exact .inl ⟨O,(CH O O).trans (by rw[co];try rfl)⟩) ?_;obtain ⟨ar,cb⟩:∃e,(e9 && fj)=e:=⟨_,O⟩;refine qV (Ac (v:=.bool ar) O (by rw[<-cb];cases e9<;>rfl)) (qM _ O (qG (.bool ar) (nU ar (P6 b1 0)) (by cases ar<;>first|exact gA|exact gB|exact .inl ⟨O,AN O underlying48 O Ab O⟩) (qG (.bool ar) (nU ar (I6 t.kind)) (by cases ar<;>first|exact gA|exact gB|exact .inl ⟨O,AD O Aa (B1.cell O)⟩) ?_)));obtain ⟨ba,b5⟩:∃e,(decide ((t.kind:Int)≠6))=e:=⟨_,O⟩;refine qG (.bool ar) (nU ar (.bool ba)) (by cases ar<;>first|exact gA|exact gB|exact .inl ⟨O,(CO O O).trans (by rw[b5];try rfl)⟩) (qG (.bool ar) (nU ar (.bool ba)) (by cases ar<;>first|exact gA|exact gB|exact .inl ⟨O,Ah O⟩) (qG (nU ar (.bool ba)) (nU ar (yU ba (P6 b1 4))) (by cases ar<;>cases ba<;>first|exact gA|exact gB|exact .inl ⟨O,AN O underlying48 O Ab O⟩) (qG (nU ar (.bool ba)) (nU ar (yU ba (I6 t.mx))) (by cases ar<;>cases ba<;>first|exact gA|exact gB|exact .inl ⟨O,AD O Aa (B1.cell O)⟩) ?_)));obtain ⟨ey,dt⟩:∃e,(decide ((t.mx:Int)≠0))=e:=⟨_,O⟩;refine qG (nU ar (.bool ba)) (nU ar (yU ba (.bool ey))) (by cases ar<;>cases ba<;>first|exact gA|exact gB|exact .inl ⟨O,(CO O O).trans (by rw[dt];try rfl)⟩) ?_;obtain ⟨eu,bz⟩:∃e,(ba && ey)=e:=⟨_,O⟩;refine qG (.bool ar) (nU ar (.bool eu)) (by cases ar<;>first|exact gA|exact gB|exact .inl ⟨O,Ac (v:=.bool eu) O (by rw[<-bz];cases ba<;>rfl)⟩) ?_;obtain ⟨ak,ce⟩:∃e,(ar || eu)=e:=⟨_,O⟩;refine qV (Ac (v:=.bool ak) O (by rw[<-ce];cases ar<;>rfl)) (qM _ O (qG (.bool ak) (nU ak (P6 b1 0)) (by cases ak<;>first|exact gA|exact gB|exact .inl ⟨O,AN O underlying48 O Ab O⟩) (qG (.bool ak) (nU ak (I6 t.kind)) (by cases ak<;>first|exact gA|exact gB|exact .inl ⟨O,AD O Aa (B1.cell O)⟩) ?_)));obtain ⟨bc,d5⟩:∃e,(decide ((t.kind:Int)≠6))=e:=⟨_,O⟩;refine qG (.bool ak) (nU ak (.bool bc)) (by cases ak<;>first|exact gA|exact gB|exact .inl ⟨O,(CO O O).trans (by rw[d5];try rfl)⟩) (qG (.bool ak) (nU ak (.bool bc)) (by cases ak<;>first|exact gA|exact gB|exact .inl ⟨O,Ah O⟩) (qG (nU ak (.bool bc)) (nU ak (yU bc (P6 b1 0))) (by cases ak<;>cases bc<;>first|exact gA|exact gB|exact .inl ⟨O,AN O underlying48 O Ab O⟩) (qG (nU ak (.bool bc)) (nU ak (yU bc (I6 t.kind))) (by cases ak<;>cases bc<;>first|exact gA|exact gB|exact .inl ⟨O,AD O Aa (B1.cell O)⟩) ?_)));obtain ⟨fb,c1⟩:∃e,(decide ((t.kind:Int)≠9))=e:=⟨_,O⟩;refine qG (nU ak (.bool bc)) (nU ak (yU bc (.bool fb))) (by cases ak<;>cases bc<;>first|exact gA|exact gB|exact .inl ⟨O,(CO O O).trans (by rw[c1];try rfl)⟩) ?_;obtain ⟨a2,cj⟩:∃e,(bc && fb)=e:=⟨_,O⟩;refine qG (.bool ak) (nU ak (.bool a2)) (by cases ak<;>first|exact gA|exact gB|exact .inl ⟨O,Ac (v:=.bool a2) O (by rw[<-cj];cases bc<;>rfl)⟩) (qG (.bool ak) (nU ak (.bool a2)) (by cases ak<;>first|exact gA|exact gB|exact .inl ⟨O,Ah O⟩) (qG (nU ak (.bool a2)) (nU ak (yU a2 (P6 b1 3))) (by cases ak<;>cases a2<;>first|exact gA|exact gB|exact .inl ⟨O,AN O underlying48 O Ab O⟩) (qG (nU ak (.bool a2)) (nU ak (yU a2 (I6 t.mn))) (by cases ak<;>cases a2<;>first|exact gA|exact gB|exact .inl ⟨O,AD O Aa (B1.cell O)⟩) ?_)));obtain ⟨ez,dv⟩:∃e,(decide ((t.mn:Int)≠0))=e:=⟨_,O⟩;refine qG (nU ak (.bool a2)) (nU ak (yU a2 (.bool ez))) (by cases ak<;>cases a2<;>first|exact gA|exact gB|exact .inl ⟨O,(CO O O).trans (by rw[dv];try rfl)⟩) ?_;obtain ⟨eo,bv⟩:∃e,(a2 && ez)=e:=⟨_,O⟩;refine qG (.bool ak) (nU ak (.bool eo)) (by cases ak<;>first|exact gA|exact gB|exact .inl ⟨O,Ac (v:=.bool eo) O (by rw[<-bv];cases a2<;>rfl)⟩) ?_;obtain ⟨av,dw⟩:∃e,(ak || eo)=e:=⟨_,O⟩;refine qV (Ac (v:=.bool av) O (by rw[<-dw];cases ak<;>rfl)) (qM _ O (qG (.bool av) (nU av (P6 b1 0)) (by cases av<;>first|exact gA|exact gB|exact .inl ⟨O,AN O underlying48 O Ab O⟩) (qG (.bool av) (nU av (I6 t.kind)) (by cases av<;>first|exact gA|exact gB|exact .inl ⟨O,AD O Aa (B1.cell O)⟩) ?_)));obtain ⟨bk,c5⟩:∃e,(decide ((t.kind:Int)≠10))=e:=⟨_,O⟩;refine qG (.bool av) (nU av (.bool bk)) (by cases av<;>first|exact gA|exact gB|exact .inl ⟨O,(CO O O).trans (by rw[c5];try rfl)⟩) (qG (.bool av) (nU av (.bool bk)) (by cases av<;>first|exact gA|exact gB|exact .inl ⟨O,Ah O⟩) (qG (nU av (.bool bk)) (nU av (yU bk (P6 b1 5))) (by cases av<;>cases bk<;>first|exact gA|exact gB|exact .inl ⟨O,AN O underlying48 O H8 O⟩) (qG (nU av (.bool bk)) (nU av (yU bk (.bool t.neg))) (by cases av<;>cases bk<;>first|exact gA|exact gB|exact .inl ⟨O,AD O GF (B1.cell O)⟩) ?_)));obtain ⟨er,cy⟩:∃e,(bk && t.neg)=e:=⟨_,O⟩;refine qG (.bool av) (nU av (.bool er)) (by cases av<;>first|exact gA|exact gB|exact .inl ⟨O,Ac (v:=.bool er) O (by rw[<-cy];cases bk<;>rfl)⟩) ?_;obtain ⟨fv,b4⟩:∃e,(av || er)=e:=⟨_,O⟩;refine qV (Ac (v:=.bool fv) O (by rw[<-b4];cases av<;>rfl)) (AA ?_);subst b4;subst cy;subst c5;subst dw;subst bv;subst dv;subst cj;subst c1;subst d5;subst ce;subst bz;subst dt;subst b5;subst cb;subst co;subst e5;refine A3 O (λhf=>?_) (λhf=>?_)
     .have ej:=hf;have bq:Ea t=false:=by rw[<-Bool.not_eq_true];intro h;unfold Ea at h;generalize t.set.length=sl at h hf;cases hng:t.neg<;>simp[hng] at h hf<;>omega
      refine Y (qA _ O (AA (AS (AO (AV results62 (v:=(.int .i64 3)) O ?_)))));exact ⟨A5 (by unfold Cu;rw[if_neg qO,if_pos bq]),E⟩
     .have ej:=hf;have bq:Ea t=true:=by unfold Ea;rw[en];generalize t.set.length=sl at hf;cases hng:t.neg<;>simp[hng] at hf⊢<;>omega
      have hN:Cu t=if t.kind=2 then (if A7 t.set≠0 then A7 t.set else if (t.set.length:Int)=0 then 3 else 0) else if t.kind=6 then (if t.mn<0∨t.mx<t.mn∨8<t.mx then 1 else 0) else if t.kind=9 then (if t.mn<0∨9<t.mn then 1 else 0) else 0:=by unfold Cu;rw[if_neg qO,if_neg (by simp[bq])]
      rw[hN];refine AK (AB (AE (Y (qF b1 0 0 O underlying48 O Ab O (qV (AD O Aa (B1.cell O)) (qV (As O O) (AA (qC O (λh2=>?_) (λh2=>?_)))))))))
      .rw[if_pos h2];refine AE (Y (qF b1 0 1 O underlying48 O BW O (qV (AD O CC (B1.cell O)) (qE O (AT func24 kQ kQ O) (My _ _ t.set ((bt.ext hE).ext E)) ?_))));rintro _ fr ⟨rfl,cx⟩;replace B1:=cx.keep B1;replace E:=E.ext cx;refine qA _ O (AA (Y (qM _ O (qV (CO O O) (AA (qC O (λh3=>?_) (λh3=>?_)))))))
       .refine Y (qM _ O (qA _ O (AA (AS (AO (AO (AV results62 (v:=(.int .i64 (A7 t.set))) O ?_)))))));exact ⟨A5 (by rw[if_pos h3]),E⟩
       .rw[if_neg h3];refine AK (AB (Y (qF b1 0 1 O underlying48 O BW O (qV (AD O CC (B1.cell O)) (qV (AH underlying37 O) (qV (As O O) (AA (qC O (λh4=>?_) (λh4=>?_)))))))))
        .refine Y (qA _ O (AA (AS (AO (AV results62 (v:=(.int .i64 3)) O ?_)))));exact ⟨A5 (by rw[if_pos h4]),E⟩
        .rw[if_neg h4];refine AK (AB (AE (Y (qF b1 0 0 O underlying48 O Ab O (qV (AD O Aa (B1.cell O)) ?_)))));obtain ⟨ab,dc⟩:∃e,(decide ((t.kind:Int)=6))=e:=⟨_,O⟩;refine qV ((As O O).trans (by rw[dc];try rfl)) (qM _ O (qG (.bool ab) (yU ab (P6 b1 3)) (by cases ab<;>first|exact gA|exact gB|exact .inl ⟨O,AN O underlying48 O Ab O⟩) (qG (.bool ab) (yU ab (I6 t.mn)) (by cases ab<;>first|exact gA|exact gB|exact .inl ⟨O,AD O Aa (B1.cell O)⟩) ?_)));obtain ⟨a8,dq⟩:∃e,(decide ((t.mn:Int)<0))=e:=⟨_,O⟩;refine qG (.bool ab) (yU ab (.bool a8)) (by cases ab<;>first|exact gA|exact gB|exact .inl ⟨O,(Av O O).trans (by rw[dq];try rfl)⟩) (qG (.bool ab) (yU ab (.bool a8)) (by cases ab<;>first|exact gA|exact gB|exact .inl ⟨O,Ah O⟩) (qG (yU ab (.bool a8)) (yU ab (nU a8 (P6 b1 4))) (by cases ab<;>cases a8<;>first|exact gA|exact gB|exact .inl ⟨O,AN O underlying48 O Ab O⟩) (qG (yU ab (.bool a8)) (yU ab (nU a8 (I6 t.mx))) (by cases ab<;>cases a8<;>first|exact gA|exact gB|exact .inl ⟨O,AD O Aa (B1.cell O)⟩) ?_)));obtain ⟨ex,dy⟩:∃e,(decide ((8:Int)<t.mx))=e:=⟨_,O⟩;refine qG (yU ab (.bool a8)) (yU ab (nU a8 (.bool ex))) (by cases ab<;>cases a8<;>first|exact gA|exact gB|exact .inl ⟨O,(CH O O).trans (by rw[dy];try rfl)⟩) ?_;obtain ⟨az,d1⟩:∃e,(a8 || ex)=e:=⟨_,O⟩;refine qG (.bool ab) (yU ab (.bool az)) (by cases ab<;>first|exact gA|exact gB|exact .inl ⟨O,Ac (v:=.bool az) O (by rw[<-d1];cases a8<;>rfl)⟩) (qG (.bool ab) (yU ab (.bool az)) (by cases ab<;>first|exact gA|exact gB|exact .inl ⟨O,Ah O⟩) (qG (yU ab (.bool az)) (yU ab (nU az (P6 b1 3))) (by cases ab<;>cases az<;>first|exact gA|exact gB|exact .inl ⟨O,AN O underlying48 O Ab O⟩) (qG (yU ab (.bool az)) (yU ab (nU az (I6 t.mn))) (by cases ab<;>cases az<;>first|exact gA|exact gB|exact .inl ⟨O,AD O Aa (B1.cell O)⟩) (qG (yU ab (.bool az)) (yU ab (nU az (P6 b1 4))) (by cases ab<;>cases az<;>first|exact gA|exact gB|exact .inl ⟨O,AN O underlying48 O Ab O⟩) (qG (yU ab (.bool az)) (yU ab (nU az (I6 t.mx))) (by cases ab<;>cases az<;>first|exact gA|exact gB|exact .inl ⟨O,AD O Aa (B1.cell O)⟩) ?_)))));obtain ⟨fq,c4⟩:∃e,(decide ((t.mx:Int)<t.mn))=e:=⟨_,O⟩;refine qG (yU ab (.bool az)) (yU ab (nU az (.bool fq))) (by cases ab<;>cases az<;>first|exact gA|exact gB|exact .inl ⟨O,(CH O O).trans (by rw[c4];try rfl)⟩) ?_;obtain ⟨es,ck⟩:∃e,(az || fq)=e:=⟨_,O⟩;refine qG (.bool ab) (yU ab (.bool es)) (by cases ab<;>first|exact gA|exact gB|exact .inl ⟨O,Ac (v:=.bool es) O (by rw[<-ck];cases az<;>rfl)⟩) ?_;obtain ⟨ai,b3⟩:∃e,(ab && es)=e:=⟨_,O⟩;refine qV (Ac (v:=.bool ai) O (by rw[<-b3];cases ab<;>rfl)) (qM _ O (qG (.bool ai) (nU ai (P6 b1 0)) (by cases ai<;>first|exact gA|exact gB|exact .inl ⟨O,AN O underlying48 O Ab O⟩) (qG (.bool ai) (nU ai (I6 t.kind)) (by cases ai<;>first|exact gA|exact gB|exact .inl ⟨O,AD O Aa (B1.cell O)⟩) ?_)));obtain ⟨ap,b8⟩:∃e,(decide ((t.kind:Int)=9))=e:=⟨_,O⟩;refine qG (.bool ai) (nU ai (.bool ap)) (by cases ai<;>first|exact gA|exact gB|exact .inl ⟨O,(As O O).trans (by rw[b8];try rfl)⟩) (qG (.bool ai) (nU ai (.bool ap)) (by cases ai<;>first|exact gA|exact gB|exact .inl ⟨O,Ah O⟩) (qG (nU ai (.bool ap)) (nU ai (yU ap (P6 b1 3))) (by cases ai<;>cases ap<;>first|exact gA|exact gB|exact .inl ⟨O,AN O underlying48 O Ab O⟩) (qG (nU ai (.bool ap)) (nU ai (yU ap (I6 t.mn))) (by cases ai<;>cases ap<;>first|exact gA|exact gB|exact .inl ⟨O,AD O Aa (B1.cell O)⟩) ?_)));obtain ⟨a5,cf⟩:∃e,(decide ((t.mn:Int)<0))=e:=⟨_,O⟩;refine qG (nU ai (.bool ap)) (nU ai (yU ap (.bool a5))) (by cases ai<;>cases ap<;>first|exact gA|exact gB|exact .inl ⟨O,(Av O O).trans (by rw[cf];try rfl)⟩) (qG (nU ai (.bool ap)) (nU ai (yU ap (.bool a5))) (by cases ai<;>cases ap<;>first|exact gA|exact gB|exact .inl ⟨O,Ah O⟩) (qG (nU ai (yU ap (.bool a5))) (nU ai (yU ap (nU a5 (P6 b1 3)))) (by cases ai<;>cases ap<;>cases a5<;>first|exact gA|exact gB|exact .inl ⟨O,AN O underlying48 O Ab O⟩) (qG (nU ai (yU ap (.bool a5))) (nU ai (yU ap (nU a5 (I6 t.mn)))) (by cases ai<;>cases ap<;>cases a5<;>first|exact gA|exact gB|exact .inl ⟨O,AD O Aa (B1.cell O)⟩) ?_)));obtain ⟨fk,cm⟩:∃e,(decide ((9:Int)<t.mn))=e:=⟨_,O⟩;refine qG (nU ai (yU ap (.bool a5))) (nU ai (yU ap (nU a5 (.bool fk)))) (by cases ai<;>cases ap<;>cases a5<;>first|exact gA|exact gB|exact .inl ⟨O,(CH O O).trans (by rw[cm];try rfl)⟩) ?_;obtain ⟨eh,de⟩:∃e,(a5 || fk)=e:=⟨_,O⟩;refine qG (nU ai (.bool ap)) (nU ai (yU ap (.bool eh))) (by cases ai<;>cases ap<;>first|exact gA|exact gB|exact .inl ⟨O,Ac (v:=.bool eh) O (by rw[<-de];cases a5<;>rfl)⟩) ?_;obtain ⟨em,cv⟩:∃e,(ap && eh)=e:=⟨_,O⟩;refine qG (.bool ai) (nU ai (.bool em)) (by cases ai<;>first|exact gA|exact gB|exact .inl ⟨O,Ac (v:=.bool em) O (by rw[<-cv];cases ap<;>rfl)⟩) ?_;obtain ⟨fx,b6⟩:∃e,(ai || em)=e:=⟨_,O⟩;refine qV (Ac (v:=.bool fx) O (by rw[<-b6];cases ai<;>rfl)) (AA ?_);subst b6;subst cv;subst de;subst cm;subst cf;subst b8;subst b3;subst ck;subst c4;subst d1;subst dy;subst dq;subst dc;have ec:((((decide ((t.kind:Int)=6)) && (((decide ((t.mn:Int)<0)) || (decide ((8:Int)<t.mx))) || (decide ((t.mx:Int)<t.mn)))) || ((decide ((t.kind:Int)=9)) && ((decide ((t.mn:Int)<0)) || (decide ((9:Int)<t.mn))))))=false:=by simp[h2]
         refine AW (Aw ec) (AK (AB (Y (qA _ O (AA (AS (AV results62 (v:=(.int .i64 0)) O ?_)))))));exact ⟨O,E⟩
      .rw[if_neg h2];refine AK (AB (AE (Y (qF b1 0 0 O underlying48 O Ab O (qV (AD O Aa (B1.cell O)) ?_)))));obtain ⟨ae,dr⟩:∃e,(decide ((t.kind:Int)=6))=e:=⟨_,O⟩;refine qV ((As O O).trans (by rw[dr];try rfl)) (qM _ O (qG (.bool ae) (yU ae (P6 b1 3)) (by cases ae<;>first|exact gA|exact gB|exact .inl ⟨O,AN O underlying48 O Ab O⟩) (qG (.bool ae) (yU ae (I6 t.mn)) (by cases ae<;>first|exact gA|exact gB|exact .inl ⟨O,AD O Aa (B1.cell O)⟩) ?_)));obtain ⟨bg,dz⟩:∃e,(decide ((t.mn:Int)<0))=e:=⟨_,O⟩;refine qG (.bool ae) (yU ae (.bool bg)) (by cases ae<;>first|exact gA|exact gB|exact .inl ⟨O,(Av O O).trans (by rw[dz];try rfl)⟩) (qG (.bool ae) (yU ae (.bool bg)) (by cases ae<;>first|exact gA|exact gB|exact .inl ⟨O,Ah O⟩) (qG (yU ae (.bool bg)) (yU ae (nU bg (P6 b1 4))) (by cases ae<;>cases bg<;>first|exact gA|exact gB|exact .inl ⟨O,AN O underlying48 O Ab O⟩) (qG (yU ae (.bool bg)) (yU ae (nU bg (I6 t.mx))) (by cases ae<;>cases bg<;>first|exact gA|exact gB|exact .inl ⟨O,AD O Aa (B1.cell O)⟩) ?_)));obtain ⟨fd,df⟩:∃e,(decide ((8:Int)<t.mx))=e:=⟨_,O⟩;refine qG (yU ae (.bool bg)) (yU ae (nU bg (.bool fd))) (by cases ae<;>cases bg<;>first|exact gA|exact gB|exact .inl ⟨O,(CH O O).trans (by rw[df];try rfl)⟩) ?_;obtain ⟨ay,dm⟩:∃e,(bg || fd)=e:=⟨_,O⟩;refine qG (.bool ae) (yU ae (.bool ay)) (by cases ae<;>first|exact gA|exact gB|exact .inl ⟨O,Ac (v:=.bool ay) O (by rw[<-dm];cases bg<;>rfl)⟩) (qG (.bool ae) (yU ae (.bool ay)) (by cases ae<;>first|exact gA|exact gB|exact .inl ⟨O,Ah O⟩) (qG (yU ae (.bool ay)) (yU ae (nU ay (P6 b1 3))) (by cases ae<;>cases ay<;>first|exact gA|exact gB|exact .inl ⟨O,AN O underlying48 O Ab O⟩) (qG (yU ae (.bool ay)) (yU ae (nU ay (I6 t.mn))) (by cases ae<;>cases ay<;>first|exact gA|exact gB|exact .inl ⟨O,AD O Aa (B1.cell O)⟩) (qG (yU ae (.bool ay)) (yU ae (nU ay (P6 b1 4))) (by cases ae<;>cases ay<;>first|exact gA|exact gB|exact .inl ⟨O,AN O underlying48 O Ab O⟩) (qG (yU ae (.bool ay)) (yU ae (nU ay (I6 t.mx))) (by cases ae<;>cases ay<;>first|exact gA|exact gB|exact .inl ⟨O,AD O Aa (B1.cell O)⟩) ?_)))));obtain ⟨fp,d4⟩:∃e,(decide ((t.mx:Int)<t.mn))=e:=⟨_,O⟩;refine qG (yU ae (.bool ay)) (yU ae (nU ay (.bool fp))) (by cases ae<;>cases ay<;>first|exact gA|exact gB|exact .inl ⟨O,(CH O O).trans (by rw[d4];try rfl)⟩) ?_;obtain ⟨ek,b2⟩:∃e,(ay || fp)=e:=⟨_,O⟩;refine qG (.bool ae) (yU ae (.bool ek)) (by cases ae<;>first|exact gA|exact gB|exact .inl ⟨O,Ac (v:=.bool ek) O (by rw[<-b2];cases ay<;>rfl)⟩) ?_;obtain ⟨aj,cg⟩:∃e,(ae && ek)=e:=⟨_,O⟩;refine qV (Ac (v:=.bool aj) O (by rw[<-cg];cases ae<;>rfl)) (qM _ O (qG (.bool aj) (nU aj (P6 b1 0)) (by cases aj<;>first|exact gA|exact gB|exact .inl ⟨O,AN O underlying48 O Ab O⟩) (qG (.bool aj) (nU aj (I6 t.kind)) (by cases aj<;>first|exact gA|exact gB|exact .inl ⟨O,AD O Aa (B1.cell O)⟩) ?_)));obtain ⟨am,c3⟩:∃e,(decide ((t.kind:Int)=9))=e:=⟨_,O⟩;refine qG (.bool aj) (nU aj (.bool am)) (by cases aj<;>first|exact gA|exact gB|exact .inl ⟨O,(As O O).trans (by rw[c3];try rfl)⟩) (qG (.bool aj) (nU aj (.bool am)) (by cases aj<;>first|exact gA|exact gB|exact .inl ⟨O,Ah O⟩) (qG (nU aj (.bool am)) (nU aj (yU am (P6 b1 3))) (by cases aj<;>cases am<;>first|exact gA|exact gB|exact .inl ⟨O,AN O underlying48 O Ab O⟩) (qG (nU aj (.bool am)) (nU aj (yU am (I6 t.mn))) (by cases aj<;>cases am<;>first|exact gA|exact gB|exact .inl ⟨O,AD O Aa (B1.cell O)⟩) ?_)));obtain ⟨bb,cd⟩:∃e,(decide ((t.mn:Int)<0))=e:=⟨_,O⟩;refine qG (nU aj (.bool am)) (nU aj (yU am (.bool bb))) (by cases aj<;>cases am<;>first|exact gA|exact gB|exact .inl ⟨O,(Av O O).trans (by rw[cd];try rfl)⟩) (qG (nU aj (.bool am)) (nU aj (yU am (.bool bb))) (by cases aj<;>cases am<;>first|exact gA|exact gB|exact .inl ⟨O,Ah O⟩) (qG (nU aj (yU am (.bool bb))) (nU aj (yU am (nU bb (P6 b1 3)))) (by cases aj<;>cases am<;>cases bb<;>first|exact gA|exact gB|exact .inl ⟨O,AN O underlying48 O Ab O⟩) (qG (nU aj (yU am (.bool bb))) (nU aj (yU am (nU bb (I6 t.mn)))) (by cases aj<;>cases am<;>cases bb<;>first|exact gA|exact gB|exact .inl ⟨O,AD O Aa (B1.cell O)⟩) ?_)));obtain ⟨e0,di⟩:∃e,(decide ((9:Int)<t.mn))=e:=⟨_,O⟩;refine qG (nU aj (yU am (.bool bb))) (nU aj (yU am (nU bb (.bool e0)))) (by cases aj<;>cases am<;>cases bb<;>first|exact gA|exact gB|exact .inl ⟨O,(CH O O).trans (by rw[di];try rfl)⟩) ?_;obtain ⟨eb,dh⟩:∃e,(bb || e0)=e:=⟨_,O⟩;refine qG (nU aj (.bool am)) (nU aj (yU am (.bool eb))) (by cases aj<;>cases am<;>first|exact gA|exact gB|exact .inl ⟨O,Ac (v:=.bool eb) O (by rw[<-dh];cases bb<;>rfl)⟩) ?_;obtain ⟨ef,cq⟩:∃e,(am && eb)=e:=⟨_,O⟩;refine qG (.bool aj) (nU aj (.bool ef)) (by cases aj<;>first|exact gA|exact gB|exact .inl ⟨O,Ac (v:=.bool ef) O (by rw[<-cq];cases am<;>rfl)⟩) ?_;obtain ⟨fw,d0⟩:∃e,(aj || ef)=e:=⟨_,O⟩;refine qV (Ac (v:=.bool fw) O (by rw[<-d0];cases aj<;>rfl)) (AA ?_);subst d0;subst cq;subst dh;subst di;subst cd;subst c3;subst cg;subst b2;subst d4;subst dm;subst df;subst dz;subst dr;refine A3 O (λh6=>?_) (λh6=>?_)
       .have d9:=h6;simp at h6;refine Y (qA _ O (AA (AS (AO (AV results62 (v:=(.int .i64 1)) O ?_)))));exact ⟨A5 (by by_cases h66:t.kind=6;rw[if_pos h66,if_pos qO];rw[if_neg h66,if_pos qO,if_pos qO]),E⟩
       .have d9:=h6;simp at h6;refine AK (AB (Y (qA _ O (AA (AS (AV results62 (v:=(.int .i64 0)) O ?_))))));exact ⟨A5 (by by_cases h66:t.kind=6;rw[if_pos h66,if_neg qO];rw[if_neg h66];by_cases h9:t.kind=9;rw[if_pos h9,if_neg qO];rw[if_neg h9]),E⟩
   .have bh:=a1;replace bh:=of_decide_eq_false bh;have en:Md t.kind t.args.length=true:=by rw[Hh qO qO];simp;omega
    refine AJ O O qD (v:=.bool false) (Aw a1) (Or.inl O) (AJ O O qD (v:=.bool false) (Aw a1) (Or.inl O) (AJ O O qD (v:=.bool false) (Aw a1) (Or.inl O) (AJ O O qD (v:=.bool false) (Aw a1) (Or.inl O) (AJ O O qD (v:=.bool false) (Aw a1) (Or.inl O) (AF O O qD (Aw a0) (qV (Ac (v:=(.bool false)) O (by rw[a1];rfl)) (qV (Ac (v:=(.bool false)) O (by rw[a0];rfl)) (AA (AW O (AK (AB (AE (Y (qF b1 0 0 O underlying48 O Ab O (qV (AD O Aa (B1.cell O)) ?_)))))))))))))));obtain ⟨a3,cc⟩:∃e,(decide ((t.kind:Int)≠2))=e:=⟨_,O⟩;refine qV ((CO O O).trans (by rw[cc];try rfl)) (qM _ O (qG (.bool a3) (yU a3 (P6 b1 1)) (by cases a3<;>first|exact gA|exact gB|exact .inl ⟨O,AN O underlying48 O BW O⟩) (qG (.bool a3) (yU a3 (.slice sa t.set.length sc)) (by cases a3<;>first|exact gA|exact gB|exact .inl ⟨O,AD O CC (B1.cell O)⟩) (qG (.bool a3) (yU a3 (I6 (t.set.length:Int))) (by cases a3<;>first|exact gA|exact gB|exact .inl ⟨O,AH underlying37 O⟩) ?_))));obtain ⟨e6,dk⟩:∃e,(decide ((0:Int)<((t.set.length:Nat):Int)))=e:=⟨_,O⟩;refine qG (.bool a3) (yU a3 (.bool e6)) (by cases a3<;>first|exact gA|exact gB|exact .inl ⟨O,(CH O O).trans (by rw[dk];try rfl)⟩) ?_;obtain ⟨aq,ds⟩:∃e,(a3 && e6)=e:=⟨_,O⟩;refine qV (Ac (v:=.bool aq) O (by rw[<-ds];cases a3<;>rfl)) (qM _ O (qG (.bool aq) (nU aq (P6 b1 0)) (by cases aq<;>first|exact gA|exact gB|exact .inl ⟨O,AN O underlying48 O Ab O⟩) (qG (.bool aq) (nU aq (I6 t.kind)) (by cases aq<;>first|exact gA|exact gB|exact .inl ⟨O,AD O Aa (B1.cell O)⟩) ?_)));obtain ⟨bd,cz⟩:∃e,(decide ((t.kind:Int)≠6))=e:=⟨_,O⟩;refine qG (.bool aq) (nU aq (.bool bd)) (by cases aq<;>first|exact gA|exact gB|exact .inl ⟨O,(CO O O).trans (by rw[cz];try rfl)⟩) (qG (.bool aq) (nU aq (.bool bd)) (by cases aq<;>first|exact gA|exact gB|exact .inl ⟨O,Ah O⟩) (qG (nU aq (.bool bd)) (nU aq (yU bd (P6 b1 4))) (by cases aq<;>cases bd<;>first|exact gA|exact gB|exact .inl ⟨O,AN O underlying48 O Ab O⟩) (qG (nU aq (.bool bd)) (nU aq (yU bd (I6 t.mx))) (by cases aq<;>cases bd<;>first|exact gA|exact gB|exact .inl ⟨O,AD O Aa (B1.cell O)⟩) ?_)));obtain ⟨fn,c7⟩:∃e,(decide ((t.mx:Int)≠0))=e:=⟨_,O⟩;refine qG (nU aq (.bool bd)) (nU aq (yU bd (.bool fn))) (by cases aq<;>cases bd<;>first|exact gA|exact gB|exact .inl ⟨O,(CO O O).trans (by rw[c7];try rfl)⟩) ?_;obtain ⟨d7,da⟩:∃e,(bd && fn)=e:=⟨_,O⟩;refine qG (.bool aq) (nU aq (.bool d7)) (by cases aq<;>first|exact gA|exact gB|exact .inl ⟨O,Ac (v:=.bool d7) O (by rw[<-da];cases bd<;>rfl)⟩) ?_;obtain ⟨ag,dl⟩:∃e,(aq || d7)=e:=⟨_,O⟩;refine qV (Ac (v:=.bool ag) O (by rw[<-dl];cases aq<;>rfl)) (qM _ O (qG (.bool ag) (nU ag (P6 b1 0)) (by cases ag<;>first|exact gA|exact gB|exact .inl ⟨O,AN O underlying48 O Ab O⟩) (qG (.bool ag) (nU ag (I6 t.kind)) (by cases ag<;>first|exact gA|exact gB|exact .inl ⟨O,AD O Aa (B1.cell O)⟩) ?_)));obtain ⟨a6,dj⟩:∃e,(decide ((t.kind:Int)≠6))=e:=⟨_,O⟩;refine qG (.bool ag) (nU ag (.bool a6)) (by cases ag<;>first|exact gA|exact gB|exact .inl ⟨O,(CO O O).trans (by rw[dj];try rfl)⟩) (qG (.bool ag) (nU ag (.bool a6)) (by cases ag<;>first|exact gA|exact gB|exact .inl ⟨O,Ah O⟩) (qG (nU ag (.bool a6)) (nU ag (yU a6 (P6 b1 0))) (by cases ag<;>cases a6<;>first|exact gA|exact gB|exact .inl ⟨O,AN O underlying48 O Ab O⟩) (qG (nU ag (.bool a6)) (nU ag (yU a6 (I6 t.kind))) (by cases ag<;>cases a6<;>first|exact gA|exact gB|exact .inl ⟨O,AD O Aa (B1.cell O)⟩) ?_)));obtain ⟨fg,cs⟩:∃e,(decide ((t.kind:Int)≠9))=e:=⟨_,O⟩;refine qG (nU ag (.bool a6)) (nU ag (yU a6 (.bool fg))) (by cases ag<;>cases a6<;>first|exact gA|exact gB|exact .inl ⟨O,(CO O O).trans (by rw[cs];try rfl)⟩) ?_;obtain ⟨a4,cw⟩:∃e,(a6 && fg)=e:=⟨_,O⟩;refine qG (.bool ag) (nU ag (.bool a4)) (by cases ag<;>first|exact gA|exact gB|exact .inl ⟨O,Ac (v:=.bool a4) O (by rw[<-cw];cases a6<;>rfl)⟩) (qG (.bool ag) (nU ag (.bool a4)) (by cases ag<;>first|exact gA|exact gB|exact .inl ⟨O,Ah O⟩) (qG (nU ag (.bool a4)) (nU ag (yU a4 (P6 b1 3))) (by cases ag<;>cases a4<;>first|exact gA|exact gB|exact .inl ⟨O,AN O underlying48 O Ab O⟩) (qG (nU ag (.bool a4)) (nU ag (yU a4 (I6 t.mn))) (by cases ag<;>cases a4<;>first|exact gA|exact gB|exact .inl ⟨O,AD O Aa (B1.cell O)⟩) ?_)));obtain ⟨ff,b7⟩:∃e,(decide ((t.mn:Int)≠0))=e:=⟨_,O⟩;refine qG (nU ag (.bool a4)) (nU ag (yU a4 (.bool ff))) (by cases ag<;>cases a4<;>first|exact gA|exact gB|exact .inl ⟨O,(CO O O).trans (by rw[b7];try rfl)⟩) ?_;obtain ⟨ei,d6⟩:∃e,(a4 && ff)=e:=⟨_,O⟩;refine qG (.bool ag) (nU ag (.bool ei)) (by cases ag<;>first|exact gA|exact gB|exact .inl ⟨O,Ac (v:=.bool ei) O (by rw[<-d6];cases a4<;>rfl)⟩) ?_;obtain ⟨au,ch⟩:∃e,(ag || ei)=e:=⟨_,O⟩;refine qV (Ac (v:=.bool au) O (by rw[<-ch];cases ag<;>rfl)) (qM _ O (qG (.bool au) (nU au (P6 b1 0)) (by cases au<;>first|exact gA|exact gB|exact .inl ⟨O,AN O underlying48 O Ab O⟩) (qG (.bool au) (nU au (I6 t.kind)) (by cases au<;>first|exact gA|exact gB|exact .inl ⟨O,AD O Aa (B1.cell O)⟩) ?_)));obtain ⟨bj,dn⟩:∃e,(decide ((t.kind:Int)≠10))=e:=⟨_,O⟩;refine qG (.bool au) (nU au (.bool bj)) (by cases au<;>first|exact gA|exact gB|exact .inl ⟨O,(CO O O).trans (by rw[dn];try rfl)⟩) (qG (.bool au) (nU au (.bool bj)) (by cases au<;>first|exact gA|exact gB|exact .inl ⟨O,Ah O⟩) (qG (nU au (.bool bj)) (nU au (yU bj (P6 b1 5))) (by cases au<;>cases bj<;>first|exact gA|exact gB|exact .inl ⟨O,AN O underlying48 O H8 O⟩) (qG (nU au (.bool bj)) (nU au (yU bj (.bool t.neg))) (by cases au<;>cases bj<;>first|exact gA|exact gB|exact .inl ⟨O,AD O GF (B1.cell O)⟩) ?_)));obtain ⟨ee,b0⟩:∃e,(bj && t.neg)=e:=⟨_,O⟩;refine qG (.bool au) (nU au (.bool ee)) (by cases au<;>first|exact gA|exact gB|exact .inl ⟨O,Ac (v:=.bool ee) O (by rw[<-b0];cases bj<;>rfl)⟩) ?_;obtain ⟨ft,c6⟩:∃e,(au || ee)=e:=⟨_,O⟩;refine qV (Ac (v:=.bool ft) O (by rw[<-c6];cases au<;>rfl)) (AA ?_);subst c6;subst b0;subst dn;subst ch;subst d6;subst b7;subst cw;subst cs;subst dj;subst dl;subst da;subst c7;subst cz;subst ds;subst dk;subst cc;refine A3 O (λhf=>?_) (λhf=>?_)
    .have ej:=hf;have bq:Ea t=false:=by rw[<-Bool.not_eq_true];intro h;unfold Ea at h;generalize t.set.length=sl at h hf;cases hng:t.neg<;>simp[hng] at h hf<;>omega
     refine Y (qA _ O (AA (AS (AO (AV results62 (v:=(.int .i64 3)) O ?_)))));exact ⟨A5 (by unfold Cu;rw[if_neg qO,if_pos bq]),E⟩
    .have ej:=hf;have bq:Ea t=true:=by unfold Ea;rw[en];generalize t.set.length=sl at hf;cases hng:t.neg<;>simp[hng] at hf⊢<;>omega
     have hN:Cu t=if t.kind=2 then (if A7 t.set≠0 then A7 t.set else if (t.set.length:Int)=0 then 3 else 0) else if t.kind=6 then (if t.mn<0∨t.mx<t.mn∨8<t.mx then 1 else 0) else if t.kind=9 then (if t.mn<0∨9<t.mn then 1 else 0) else 0:=by unfold Cu;rw[if_neg qO,if_neg (by simp[bq])]
     rw[hN];refine AK (AB (AE (Y (qF b1 0 0 O underlying48 O Ab O (qV (AD O Aa (B1.cell O)) (qV (As O O) (AA (qC O (λh2=>?_) (λh2=>?_)))))))))
     .rw[if_pos h2];refine AE (Y (qF b1 0 1 O underlying48 O BW O (qV (AD O CC (B1.cell O)) (qE O (AT func24 kQ kQ O) (My _ _ t.set ((bt.ext hE).ext E)) ?_))));rintro _ fr ⟨rfl,cx⟩;replace B1:=cx.keep B1;replace E:=E.ext cx;refine qA _ O (AA (Y (qM _ O (qV (CO O O) (AA (qC O (λh3=>?_) (λh3=>?_)))))))
      .refine Y (qM _ O (qA _ O (AA (AS (AO (AO (AV results62 (v:=(.int .i64 (A7 t.set))) O ?_)))))));exact ⟨A5 (by rw[if_pos h3]),E⟩
      .rw[if_neg h3];refine AK (AB (Y (qF b1 0 1 O underlying48 O BW O (qV (AD O CC (B1.cell O)) (qV (AH underlying37 O) (qV (As O O) (AA (qC O (λh4=>?_) (λh4=>?_)))))))))
       .refine Y (qA _ O (AA (AS (AO (AV results62 (v:=(.int .i64 3)) O ?_)))));exact ⟨A5 (by rw[if_pos h4]),E⟩
       .rw[if_neg h4];refine AK (AB (AE (Y (qF b1 0 0 O underlying48 O Ab O (qV (AD O Aa (B1.cell O)) ?_)))));obtain ⟨af,d3⟩:∃e,(decide ((t.kind:Int)=6))=e:=⟨_,O⟩;refine qV ((As O O).trans (by rw[d3];try rfl)) (qM _ O (qG (.bool af) (yU af (P6 b1 3)) (by cases af<;>first|exact gA|exact gB|exact .inl ⟨O,AN O underlying48 O Ab O⟩) (qG (.bool af) (yU af (I6 t.mn)) (by cases af<;>first|exact gA|exact gB|exact .inl ⟨O,AD O Aa (B1.cell O)⟩) ?_)));obtain ⟨be,dg⟩:∃e,(decide ((t.mn:Int)<0))=e:=⟨_,O⟩;refine qG (.bool af) (yU af (.bool be)) (by cases af<;>first|exact gA|exact gB|exact .inl ⟨O,(Av O O).trans (by rw[dg];try rfl)⟩) (qG (.bool af) (yU af (.bool be)) (by cases af<;>first|exact gA|exact gB|exact .inl ⟨O,Ah O⟩) (qG (yU af (.bool be)) (yU af (nU be (P6 b1 4))) (by cases af<;>cases be<;>first|exact gA|exact gB|exact .inl ⟨O,AN O underlying48 O Ab O⟩) (qG (yU af (.bool be)) (yU af (nU be (I6 t.mx))) (by cases af<;>cases be<;>first|exact gA|exact gB|exact .inl ⟨O,AD O Aa (B1.cell O)⟩) ?_)));obtain ⟨fc,dp⟩:∃e,(decide ((8:Int)<t.mx))=e:=⟨_,O⟩;refine qG (yU af (.bool be)) (yU af (nU be (.bool fc))) (by cases af<;>cases be<;>first|exact gA|exact gB|exact .inl ⟨O,(CH O O).trans (by rw[dp];try rfl)⟩) ?_;obtain ⟨ax,ci⟩:∃e,(be || fc)=e:=⟨_,O⟩;refine qG (.bool af) (yU af (.bool ax)) (by cases af<;>first|exact gA|exact gB|exact .inl ⟨O,Ac (v:=.bool ax) O (by rw[<-ci];cases be<;>rfl)⟩) (qG (.bool af) (yU af (.bool ax)) (by cases af<;>first|exact gA|exact gB|exact .inl ⟨O,Ah O⟩) (qG (yU af (.bool ax)) (yU af (nU ax (P6 b1 3))) (by cases af<;>cases ax<;>first|exact gA|exact gB|exact .inl ⟨O,AN O underlying48 O Ab O⟩) (qG (yU af (.bool ax)) (yU af (nU ax (I6 t.mn))) (by cases af<;>cases ax<;>first|exact gA|exact gB|exact .inl ⟨O,AD O Aa (B1.cell O)⟩) (qG (yU af (.bool ax)) (yU af (nU ax (P6 b1 4))) (by cases af<;>cases ax<;>first|exact gA|exact gB|exact .inl ⟨O,AN O underlying48 O Ab O⟩) (qG (yU af (.bool ax)) (yU af (nU ax (I6 t.mx))) (by cases af<;>cases ax<;>first|exact gA|exact gB|exact .inl ⟨O,AD O Aa (B1.cell O)⟩) ?_)))));obtain ⟨e1,c9⟩:∃e,(decide ((t.mx:Int)<t.mn))=e:=⟨_,O⟩;refine qG (yU af (.bool ax)) (yU af (nU ax (.bool e1))) (by cases af<;>cases ax<;>first|exact gA|exact gB|exact .inl ⟨O,(CH O O).trans (by rw[c9];try rfl)⟩) ?_;obtain ⟨d8,db⟩:∃e,(ax || e1)=e:=⟨_,O⟩;refine qG (.bool af) (yU af (.bool d8)) (by cases af<;>first|exact gA|exact gB|exact .inl ⟨O,Ac (v:=.bool d8) O (by rw[<-db];cases ax<;>rfl)⟩) ?_;obtain ⟨al,c0⟩:∃e,(af && d8)=e:=⟨_,O⟩;refine qV (Ac (v:=.bool al) O (by rw[<-c0];cases af<;>rfl)) (qM _ O (qG (.bool al) (nU al (P6 b1 0)) (by cases al<;>first|exact gA|exact gB|exact .inl ⟨O,AN O underlying48 O Ab O⟩) (qG (.bool al) (nU al (I6 t.kind)) (by cases al<;>first|exact gA|exact gB|exact .inl ⟨O,AD O Aa (B1.cell O)⟩) ?_)));obtain ⟨ao,du⟩:∃e,(decide ((t.kind:Int)=9))=e:=⟨_,O⟩;refine qG (.bool al) (nU al (.bool ao)) (by cases al<;>first|exact gA|exact gB|exact .inl ⟨O,(As O O).trans (by rw[du];try rfl)⟩) (qG (.bool al) (nU al (.bool ao)) (by cases al<;>first|exact gA|exact gB|exact .inl ⟨O,Ah O⟩) (qG (nU al (.bool ao)) (nU al (yU ao (P6 b1 3))) (by cases al<;>cases ao<;>first|exact gA|exact gB|exact .inl ⟨O,AN O underlying48 O Ab O⟩) (qG (nU al (.bool ao)) (nU al (yU ao (I6 t.mn))) (by cases al<;>cases ao<;>first|exact gA|exact gB|exact .inl ⟨O,AD O Aa (B1.cell O)⟩) ?_)));obtain ⟨a9,bu⟩:∃e,(decide ((t.mn:Int)<0))=e:=⟨_,O⟩;refine qG (nU al (.bool ao)) (nU al (yU ao (.bool a9))) (by cases al<;>cases ao<;>first|exact gA|exact gB|exact .inl ⟨O,(Av O O).trans (by rw[bu];try rfl)⟩) (qG (nU al (.bool ao)) (nU al (yU ao (.bool a9))) (by cases al<;>cases ao<;>first|exact gA|exact gB|exact .inl ⟨O,Ah O⟩) (qG (nU al (yU ao (.bool a9))) (nU al (yU ao (nU a9 (P6 b1 3)))) (by cases al<;>cases ao<;>cases a9<;>first|exact gA|exact gB|exact .inl ⟨O,AN O underlying48 O Ab O⟩) (qG (nU al (yU ao (.bool a9))) (nU al (yU ao (nU a9 (I6 t.mn)))) (by cases al<;>cases ao<;>cases a9<;>first|exact gA|exact gB|exact .inl ⟨O,AD O Aa (B1.cell O)⟩) ?_)));obtain ⟨fo,dd⟩:∃e,(decide ((9:Int)<t.mn))=e:=⟨_,O⟩;refine qG (nU al (yU ao (.bool a9))) (nU al (yU ao (nU a9 (.bool fo)))) (by cases al<;>cases ao<;>cases a9<;>first|exact gA|exact gB|exact .inl ⟨O,(CH O O).trans (by rw[dd];try rfl)⟩) ?_;obtain ⟨ea,bw⟩:∃e,(a9 || fo)=e:=⟨_,O⟩;refine qG (nU al (.bool ao)) (nU al (yU ao (.bool ea))) (by cases al<;>cases ao<;>first|exact gA|exact gB|exact .inl ⟨O,Ac (v:=.bool ea) O (by rw[<-bw];cases a9<;>rfl)⟩) ?_;obtain ⟨et,c2⟩:∃e,(ao && ea)=e:=⟨_,O⟩;refine qG (.bool al) (nU al (.bool et)) (by cases al<;>first|exact gA|exact gB|exact .inl ⟨O,Ac (v:=.bool et) O (by rw[<-c2];cases ao<;>rfl)⟩) ?_;obtain ⟨fy,cp⟩:∃e,(al || et)=e:=⟨_,O⟩;refine qV (Ac (v:=.bool fy) O (by rw[<-cp];cases al<;>rfl)) (AA ?_);subst cp;subst c2;subst bw;subst dd;subst bu;subst du;subst c0;subst db;subst c9;subst ci;subst dp;subst dg;subst d3;have ed:((((decide ((t.kind:Int)=6)) && (((decide ((t.mn:Int)<0)) || (decide ((8:Int)<t.mx))) || (decide ((t.mx:Int)<t.mn)))) || ((decide ((t.kind:Int)=9)) && ((decide ((t.mn:Int)<0)) || (decide ((9:Int)<t.mn))))))=false:=by simp[h2]
        refine AW (Aw ed) (AK (AB (Y (qA _ O (AA (AS (AV results62 (v:=(.int .i64 0)) O ?_)))))));exact ⟨O,E⟩
     .rw[if_neg h2];refine AK (AB (AE (Y (qF b1 0 0 O underlying48 O Ab O (qV (AD O Aa (B1.cell O)) ?_)))));obtain ⟨ad,b9⟩:∃e,(decide ((t.kind:Int)=6))=e:=⟨_,O⟩;refine qV ((As O O).trans (by rw[b9];try rfl)) (qM _ O (qG (.bool ad) (yU ad (P6 b1 3)) (by cases ad<;>first|exact gA|exact gB|exact .inl ⟨O,AN O underlying48 O Ab O⟩) (qG (.bool ad) (yU ad (I6 t.mn)) (by cases ad<;>first|exact gA|exact gB|exact .inl ⟨O,AD O Aa (B1.cell O)⟩) ?_)));obtain ⟨a7,bx⟩:∃e,(decide ((t.mn:Int)<0))=e:=⟨_,O⟩;refine qG (.bool ad) (yU ad (.bool a7)) (by cases ad<;>first|exact gA|exact gB|exact .inl ⟨O,(Av O O).trans (by rw[bx];try rfl)⟩) (qG (.bool ad) (yU ad (.bool a7)) (by cases ad<;>first|exact gA|exact gB|exact .inl ⟨O,Ah O⟩) (qG (yU ad (.bool a7)) (yU ad (nU a7 (P6 b1 4))) (by cases ad<;>cases a7<;>first|exact gA|exact gB|exact .inl ⟨O,AN O underlying48 O Ab O⟩) (qG (yU ad (.bool a7)) (yU ad (nU a7 (I6 t.mx))) (by cases ad<;>cases a7<;>first|exact gA|exact gB|exact .inl ⟨O,AD O Aa (B1.cell O)⟩) ?_)));obtain ⟨fi,dx⟩:∃e,(decide ((8:Int)<t.mx))=e:=⟨_,O⟩;refine qG (yU ad (.bool a7)) (yU ad (nU a7 (.bool fi))) (by cases ad<;>cases a7<;>first|exact gA|exact gB|exact .inl ⟨O,(CH O O).trans (by rw[dx];try rfl)⟩) ?_;obtain ⟨aw,c8⟩:∃e,(a7 || fi)=e:=⟨_,O⟩;refine qG (.bool ad) (yU ad (.bool aw)) (by cases ad<;>first|exact gA|exact gB|exact .inl ⟨O,Ac (v:=.bool aw) O (by rw[<-c8];cases a7<;>rfl)⟩) (qG (.bool ad) (yU ad (.bool aw)) (by cases ad<;>first|exact gA|exact gB|exact .inl ⟨O,Ah O⟩) (qG (yU ad (.bool aw)) (yU ad (nU aw (P6 b1 3))) (by cases ad<;>cases aw<;>first|exact gA|exact gB|exact .inl ⟨O,AN O underlying48 O Ab O⟩) (qG (yU ad (.bool aw)) (yU ad (nU aw (I6 t.mn))) (by cases ad<;>cases aw<;>first|exact gA|exact gB|exact .inl ⟨O,AD O Aa (B1.cell O)⟩) (qG (yU ad (.bool aw)) (yU ad (nU aw (P6 b1 4))) (by cases ad<;>cases aw<;>first|exact gA|exact gB|exact .inl ⟨O,AN O underlying48 O Ab O⟩) (qG (yU ad (.bool aw)) (yU ad (nU aw (I6 t.mx))) (by cases ad<;>cases aw<;>first|exact gA|exact gB|exact .inl ⟨O,AD O Aa (B1.cell O)⟩) ?_)))));obtain ⟨e8,cl⟩:∃e,(decide ((t.mx:Int)<t.mn))=e:=⟨_,O⟩;refine qG (yU ad (.bool aw)) (yU ad (nU aw (.bool e8))) (by cases ad<;>cases aw<;>first|exact gA|exact gB|exact .inl ⟨O,(CH O O).trans (by rw[cl];try rfl)⟩) ?_;obtain ⟨ew,cn⟩:∃e,(aw || e8)=e:=⟨_,O⟩;refine qG (.bool ad) (yU ad (.bool ew)) (by cases ad<;>first|exact gA|exact gB|exact .inl ⟨O,Ac (v:=.bool ew) O (by rw[<-cn];cases aw<;>rfl)⟩) ?_;obtain ⟨ah,ct⟩:∃e,(ad && ew)=e:=⟨_,O⟩;refine qV (Ac (v:=.bool ah) O (by rw[<-ct];cases ad<;>rfl)) (qM _ O (qG (.bool ah) (nU ah (P6 b1 0)) (by cases ah<;>first|exact gA|exact gB|exact .inl ⟨O,AN O underlying48 O Ab O⟩) (qG (.bool ah) (nU ah (I6 t.kind)) (by cases ah<;>first|exact gA|exact gB|exact .inl ⟨O,AD O Aa (B1.cell O)⟩) ?_)));obtain ⟨an,ca⟩:∃e,(decide ((t.kind:Int)=9))=e:=⟨_,O⟩;refine qG (.bool ah) (nU ah (.bool an)) (by cases ah<;>first|exact gA|exact gB|exact .inl ⟨O,(As O O).trans (by rw[ca];try rfl)⟩) (qG (.bool ah) (nU ah (.bool an)) (by cases ah<;>first|exact gA|exact gB|exact .inl ⟨O,Ah O⟩) (qG (nU ah (.bool an)) (nU ah (yU an (P6 b1 3))) (by cases ah<;>cases an<;>first|exact gA|exact gB|exact .inl ⟨O,AN O underlying48 O Ab O⟩) (qG (nU ah (.bool an)) (nU ah (yU an (I6 t.mn))) (by cases ah<;>cases an<;>first|exact gA|exact gB|exact .inl ⟨O,AD O Aa (B1.cell O)⟩) ?_)));obtain ⟨bf,cu⟩:∃e,(decide ((t.mn:Int)<0))=e:=⟨_,O⟩;refine qG (nU ah (.bool an)) (nU ah (yU an (.bool bf))) (by cases ah<;>cases an<;>first|exact gA|exact gB|exact .inl ⟨O,(Av O O).trans (by rw[cu];try rfl)⟩) (qG (nU ah (.bool an)) (nU ah (yU an (.bool bf))) (by cases ah<;>cases an<;>first|exact gA|exact gB|exact .inl ⟨O,Ah O⟩) (qG (nU ah (yU an (.bool bf))) (nU ah (yU an (nU bf (P6 b1 3)))) (by cases ah<;>cases an<;>cases bf<;>first|exact gA|exact gB|exact .inl ⟨O,AN O underlying48 O Ab O⟩) (qG (nU ah (yU an (.bool bf))) (nU ah (yU an (nU bf (I6 t.mn)))) (by cases ah<;>cases an<;>cases bf<;>first|exact gA|exact gB|exact .inl ⟨O,AD O Aa (B1.cell O)⟩) ?_)));obtain ⟨cr,bo⟩:∃e,(decide ((9:Int)<t.mn))=e:=⟨_,O⟩;refine qG (nU ah (yU an (.bool bf))) (nU ah (yU an (nU bf (.bool cr)))) (by cases ah<;>cases an<;>cases bf<;>first|exact gA|exact gB|exact .inl ⟨O,(CH O O).trans (by rw[bo];try rfl)⟩) ?_;obtain ⟨br,bp⟩:∃e,(bf || cr)=e:=⟨_,O⟩;refine qG (nU ah (.bool an)) (nU ah (yU an (.bool br))) (by cases ah<;>cases an<;>first|exact gA|exact gB|exact .inl ⟨O,Ac (v:=.bool br) O (by rw[<-bp];cases bf<;>rfl)⟩) ?_;obtain ⟨bs,bn⟩:∃e,(an && br)=e:=⟨_,O⟩;refine qG (.bool ah) (nU ah (.bool bs)) (by cases ah<;>first|exact gA|exact gB|exact .inl ⟨O,Ac (v:=.bool bs) O (by rw[<-bn];cases an<;>rfl)⟩) ?_;obtain ⟨eg,bm⟩:∃e,(ah || bs)=e:=⟨_,O⟩;refine qV (Ac (v:=.bool eg) O (by rw[<-bm];cases ah<;>rfl)) (AA ?_);subst bm;subst bn;subst bp;subst bo;subst cu;subst ca;subst ct;subst cn;subst cl;subst c8;subst dx;subst bx;subst b9;refine A3 O (λh6=>?_) (λh6=>?_)
      .have d9:=h6;simp at h6;refine Y (qA _ O (AA (AS (AO (AV results62 (v:=(.int .i64 1)) O ?_)))));exact ⟨A5 (by by_cases h66:t.kind=6;rw[if_pos h66,if_pos qO];rw[if_neg h66,if_pos qO,if_pos qO]),E⟩
      .have d9:=h6;simp at h6;refine AK (AB (Y (qA _ O (AA (AS (AV results62 (v:=(.int .i64 0)) O ?_))))));exact ⟨A5 (by by_cases h66:t.kind=6;rw[if_pos h66,if_neg qO];rw[if_neg h66];by_cases h9:t.kind=9;rw[if_pos h9,if_neg qO];rw[if_neg h9]),E⟩
end Go.Proofs
namespace Go.Proofs
open Go Go.Eng
set_option maxRecDepth 100000
abbrev TE:Nat:=48
mutual
def FA:Re->List Re
  | .mk k set args mn mx ng=>.mk k set args mn mx ng::DX args
def DX:List Re->List Re
  | []=>[]
  | t::ts=>FA t++DX ts
end
theorem Jv (t:Re):FA t=t::DX t.args:=by cases t;simp only[FA,Re.args]
theorem IW:∀(a b:List Re),DX (a++b)=DX a++DX b
 | [],b=>by simp[DX]
 | x::a,b=>by simp only[List.cons_append,DX,IW a b,List.append_assoc]
mutual
theorem FT:∀(t:Re),(FA t).length=t.size
 | .mk k set args mn mx ng=>by simp only[FA,Re.size,List.length_cons,I9 args]
theorem I9:∀(ts:List Re),(DX ts).length=Re.sizes ts
 | []=>by simp[DX,Re.sizes]
 | t::ts=>by simp only[DX,Re.sizes,List.length_append,FT t,I9 ts]
end
theorem FI:∀(ts:List Re),ts.length<=Re.sizes ts
 | []=>qP
 | t::ts=>by have:=FI ts;have:=t.size_pos;simp only[Re.sizes,List.length_cons];omega
theorem LI (ts:List Re):Re.sizes ts.reverse=Re.sizes ts:=by
 induction ts with
 | nil=>rfl
 | cons t ts ih=>simp only[List.reverse_cons,Re.sizes_append,ih,Re.sizes];omega
def CK (w:World):List Re->List (List Value)->Prop
  | [],[]=>True
  | t::ts,r::rs=>BR w t r∧CK w ts rs
  | _,_=>False
theorem CK.ext {w w':World} (e:Ao w w'):∀{ts:List Re} {a:List (List Value)},CK w ts a->CK w' ts a
 | [],[],_=>trivial
 | t::ts,r::a,h=>⟨BR.ext e t h.1,CK.ext e h.2⟩
 | [],_::_,h=>h.elim
 | _::_,[],h=>h.elim
theorem CK.len {w:World}:∀{ts:List Re} {a:List (List Value)},CK w ts a->a.length=ts.length
 | [],[],_=>rfl
 | t::ts,r::a,h=>by simp only[List.length_cons,CK.len h.2]
 | [],_::_,h=>h.elim
 | _::_,[],h=>h.elim
theorem CK.six {w:World}:∀{ts:List Re} {b:List (List Value)},CK w ts b->∀r∈b,r.length=6
 | [],[],_,r,a=>by cases a
 | t::ts,r::b,h,r',a=>by
  rcases List.mem_cons.1 a with rfl|a
  .exact h.1.len
  .exact CK.six h.2 r' a
 | [],_::_,h,_,_=>h.elim
 | _::_,[],h,_,_=>h.elim
theorem CK.snoc {w:World}:∀{ts:List Re} {a:List (List Value)},CK w ts a->∀{t:Re} {r:List Value},BR w t r->CK w (ts++[t]) (a++[r])
 | [],[],_,_,_,h=>⟨h,trivial⟩
 | t::ts,r::a,h,_,_,h'=>⟨h.1,CK.snoc h.2 h'⟩
 | [],_::_,h,_,_,_=>h.elim
 | _::_,[],h,_,_,_=>h.elim
theorem CK.get {w:World}:∀{ts:List Re} {a:List (List Value)},CK w ts a->∀{i:Nat} {t:Re},ts[i]?=some t->∃r,a[i]?=some r∧BR w t r
 | [],[],_,_,_,h=>by simp at h
 | t::ts,r::a,h,0,_,h'=>by simp at h';subst h';exact ⟨r,O,h.1⟩
 | t::ts,r::a,h,i+1,_,h'=>by
  obtain ⟨d,c,b⟩:=CK.get h.2 (i:=i) (by simpa using h');exact ⟨d,by simpa using c,b⟩
 | [],_::_,h,_,_,_=>h.elim
 | _::_,[],h,_,_,_=>h.elim
theorem CK.pop {w:World}:∀{ts:List Re} {b:List (List Value)} {t:Re},CK w (ts++[t]) b->∃a r,b=a++[r]∧CK w ts a∧BR w t r
 | [],[],_,h=>h.elim
 | [],[r],_,h=>⟨[],r,O,trivial,h.1⟩
 | [],r::c::b,_,h=>h.2.elim
 | t::ts,[],_,h=>h.elim
 | t::ts,r::b,t',h=>by
  obtain ⟨a,c,f,e,d⟩:=CK.pop (ts:=ts) h.2;exact ⟨r::a,c,by rw[f];rfl,⟨h.1,e⟩,d⟩
def E0 (u v:Value):Prop:=∀k,u.ownBlock=some k->v.ownBlock≠some k
theorem E0.symm {u v:Value} (h:E0 u v):E0 v u:=λk b a=>h k a b
theorem E0.slc {a:Option Addr} {n c n' c':Nat} {v:Value} (h:E0 (.slice a n c) v):E0 (.slice a n' c') v:=by
 cases a<;>exact h
theorem E0.app {w:World} {base e size n:Nat} {u c v:Value} {xs:List Value} (h:E0 u v) (f:w.ownsRow base e size v n xs) (D:∀k,c.ownBlock=some k->u.ownBlock=some k∨w.heap.size<=k):E0 c v:=λk d b=>by
 rcases D k d with a|a
 .exact h k a b
 .have:=(f.lt k b).2;omega
theorem E0.nil (v:Value):E0 (.slice none 0 0) v:=λk h=>by cases h
theorem Lp {w w':World} {base e size n:Nat} {u v:Value} {xs:List Value} (h:w.ownsRow base e size v n xs) (C:Chg (λx=>u.ownBlock=some x) w w') (hd:E0 u v):w'.ownsRow base e size v n xs:=
 Ax h C λk b a=>hd k a b
theorem UL {a:Option Addr} {c m:Nat}:(if c=0 then a else Option.map (λq:Addr=>q.add (0*m)) a)=a:=by
 split
 .rfl
 .cases a<;>simp[Addr.add]
theorem KM {w:World} {base e n:Nat} {v:Value} {ts:List Re} {a:List (List Value)} {d:World} (h:w.ownsRow base e 6 v n a.flatten) (b:CK d ts a) (c:ts.length=n):BL w 6 v a:=
 DY h b.six (by rw[b.len,c]) qD
theorem OZ {a:List (List Value)} (h:∀r∈a,r.length=6):a.flatten.length=a.length*6:=by
 induction a with
 | nil=>rfl
 | cons r a ih=>rw[List.flatten_cons,List.length_append,ih (λc b=>h c (List.mem_cons_of_mem _ b)),h r List.mem_cons_self,List.length_cons];omega
theorem Sv {a:List (List Value)} {r:List Value} {n:Nat} (h:∀r∈a,r.length=6) (b:a.length=n):((a++[r]).flatten).take (n*6)=a.flatten:=by
 rw[List.flatten_append,List.take_append_of_le_length (by rw[OZ h,b];exact Nat.le_refl _),List.take_of_length_le (by rw[OZ h,b];exact Nat.le_refl _)]
theorem UK {α:Type} {l:List α} (h:0<l.length):∃a x,l=a++[x]:=by
 rcases List.eq_nil_or_concat l with rfl|⟨a,x,rfl⟩
 .simp at h
 .exact ⟨a,x,List.concat_eq_append⟩
abbrev Xe (x:Re) (xa:Option Addr) (xc:Nat) (ya:Option Addr) (yc:Nat):List Value:=[.int .i64 x.kind,.slice xa x.set.length xc,.slice ya x.args.length yc,.int .i64 x.mn,.int .i64 x.mx,.bool x.neg]
theorem SF (w0:World) (t:Re) (vs:List Value) (most:Int) (ht:BR w0 t vs) (hs:t.size<=2097152) :
 CJ prog 61 #[.agg vs.toArray,.int .i64 most] w0 λv w=>∃a c rows,v=.slice a ((FA t).take most.toNat).length c∧BL w 6 v rows∧CK w0 ((FA t).take most.toNat) rows∧Ao w0 w:=by
 have bz:=ht;obtain ⟨sa,sc,aa,ac,rfl,cf,b6,bj⟩:=ht.form;refine qR func61 O ntmps61 O (λE=>(Y (BM (v:=(.agg (R6 t sa sc aa ac))) (c:=(R6 t sa sc aa ac)) qD O O ?_)));intro bp wp Np;replace E:=E.ext Np.ext;have Bp:=Np.blk;refine qA _ O (AA (Y (qA _ O (AA (Y (qV (AU (vs:=[(I6 t.kind),(.slice sa t.set.length sc),(.slice aa t.args.length ac),(I6 t.mn),(I6 t.mx),(.bool t.neg)]) O CI BE O (Bp.cells O)) (Ad (ps:=[(0,(.agg (R6 t sa sc aa ac)))]) (c:=(R6 t sa sc aa ac)) qD O underlying46 BE FP qD qD qK ?_)))))));intro bq wq Nq;replace Bp:=Nq.keep Bp;replace E:=E.ext Nq.ext;have Bq:=Nq.blk;refine qA _ O (AA (AE (AM ?_)));obtain ⟨base,bi⟩:∃base,base=wp.heap.size:=⟨_,O⟩;have hb0:w0.heap.size<=base:=by have:=Np.size;omega
 have hpb:bp<base:=by have:=Np.size;have:=Np.eq;omega
 have cd:base<=bq:=by have:=Nq.eq;omega
 have ax:wq.ownsRow base TE 6 (.slice (some ⟨bq,0,none⟩) 1 1) 1 ([[.int .i64 t.kind,.slice sa t.set.length sc,.slice aa t.args.length ac,.int .i64 t.mn,.int .i64 t.mx,.bool t.neg]]:List (List Value)).flatten:=⟨O,.inr ⟨bq,1,_,O,cd,Bq,qD,qD,O,O⟩⟩;have a9:base<=wq.heap.size:=by have:=Nq.size;omega
 refine Am (λnn_ σ W1=>∃(ad ai:List Re) (ro rs:List (List Value)) (oa:Option Addr) (oc:Nat) (ka:Option Addr) (kc:Nat),(∃jj_,σ=BQ jj_ [(1,(I6 most)),(5,(.slice oa ad.length oc)),(6,(.slice ka ai.length kc))])∧Chg AZ w0 W1∧Az W1 bp (R6 t sa sc aa ac) 48∧(W1.ownsRow base TE 6 (.slice oa ad.length oc) ad.length ro.flatten)∧(W1.ownsRow base TE 6 (.slice ka ai.length kc) ai.length rs.flatten)∧(E0 (.slice oa ad.length oc) (.slice ka ai.length kc))∧(CK w0 ad ro)∧(CK w0 ai rs)∧(FA t=ad++DX ai.reverse)∧(ad.length<=most.toNat)∧(base<=W1.heap.size)∧nn_=t.size - ad.length) (n:=t.size - ([]:List Re).length) ?_ ?_
 .exact ⟨([]:List Re),[t],([]:List (List Value)),[[.int .i64 t.kind,.slice sa t.set.length sc,.slice aa t.args.length ac,.int .i64 t.mn,.int .i64 t.mx,.bool t.neg]],none,0,some ⟨bq,0,none⟩,1,Af.out ⟨O,O,O,trivial⟩,E,Bp,World.ownsRow_nil _ _ _ _,ax,E0.nil _,trivial,⟨bz,trivial⟩,(by simp[DX]),Nat.zero_le _,a9,O⟩
 .clear E Bp;rintro _ _ W1 ⟨ad,ai,ro,rs,oa,oc,ka,kc,⟨j1,rfl⟩,E,Bp,hO,hS,bo,a7,bv,ak,hmo,aq,rfl⟩;have hsz:ad.length+Re.sizes ai=t.size:=by rw[<-FT t,ak,List.length_append,I9,LI]
  have hsl:=FI ai;refine AE (Y (qM _ O (qV (AH underlying46 O) ?_)));obtain ⟨e2,br⟩:∃e,(decide ((0:Int)<((ai.length:Nat):Int)))=e:=⟨_,O⟩;refine qV ((CH O O).trans (by rw[br];try rfl)) (qM _ O (qG (.bool e2) (yU e2 (.slice oa ad.length oc)) (by cases e2<;>first|exact gA|exact gB|exact .inl ⟨O,Ah O⟩) (qG (.bool e2) (yU e2 (I6 (ad.length:Int))) (by cases e2<;>first|exact gA|exact gB|exact .inl ⟨O,AH underlying46 O⟩) (qG (.bool e2) (yU e2 (I6 most)) (by cases e2<;>first|exact gA|exact gB|exact .inl ⟨O,Ah O⟩) ?_))));obtain ⟨e3,be⟩:∃e,(decide ((((ad.length:Nat):Int):Int)<most))=e:=⟨_,O⟩;refine qG (.bool e2) (yU e2 (.bool e3)) (by cases e2<;>first|exact gA|exact gB|exact .inl ⟨O,(Av O O).trans (by rw[be];try rfl)⟩) ?_;obtain ⟨e4,bh⟩:∃e,(e2 && e3)=e:=⟨_,O⟩;refine qV (Ac (v:=.bool e4) O (by rw[<-bh];cases e2<;>rfl)) (AA ?_);subst bh;subst be;subst br;refine A3 O (λau=>?_) (λau=>?_)
  .have a2:=au;simp at au;have b8:=λk h=>(hO.lt k h).2;have cb:=λk h=>(hS.lt k h).2;obtain ⟨af,x,rfl⟩:=UK (l:=ai) qO;obtain ⟨bd,r,rfl,ah,a6⟩:=bv.pop;obtain ⟨xa,xc,ya,yc,rfl,bu,bc,am⟩:=a6.form;have bg:CK w0 (af++[x]) (bd++[_]):=ah.snoc a6;obtain ⟨kb,ko,rfl,ce⟩:=BL.at (KM hS bg O) qO;have hkl:(af++[x]).length=af.length+1:=qP
   have b4:=ce af.length _ (by rw[List.getElem?_append_right (by rw[ah.len];exact Nat.le_refl _),ah.len];simp;rfl);have bb:=(BL.cap (KM hS bg O)).1;refine AK (AB (AM (Y (qM _ O (qM _ O (qV (AH underlying46 O) (qV (D3 O O (A2 qO)) (qV (AC (b:=kb) (o:=ko) (len:=(af++[x]).length) (cap:=kc) (i:=af.length) (o':=ko+af.length*6) O O qO underlying46 BE qO qO) (qV (AU O CI BE O (b4)) (Au (v:=(.agg (R6 x xa xc ya yc))) (c:=(R6 x xa xc ya yc)) (n:=6) qD FP O BE O O O qS ?_))))))))));intro bx wx Nx;replace Bp:=Nx.keep Bp;replace hO:=Aj hO Nx.ext;replace hS:=Aj hS Nx.ext;replace aq:=Nat.le_trans aq Nx.ext.size;replace E:=E.ext Nx.ext;have Bx:=Nx.blk;refine AA (Y (qM _ O (qM _ O (qV (AH underlying46 O) (qV (D3 O O (A2 qO)) ?_)))));obtain ⟨k2,a4⟩:∃a':Option Addr,(if kc=0 then (some ⟨kb,ko,none⟩) else Option.map (λq:Addr=>q.add (0*6)) (some ⟨kb,ko,none⟩))=a':=⟨_,O⟩;refine qV (GX (hi:=af.length) underlying46 BE O O qO qO a4) (qA _ O (AA (Y (qM _ O (qV (AU (vs:=[(I6 x.kind),(.slice xa x.set.length xc),(.slice ya x.args.length yc),(I6 x.mn),(I6 x.mx),(.bool x.neg)]) O CI BE O (Bx.cells O)) (Ad (ps:=[(0,(.agg (R6 x xa xc ya yc)))]) (c:=(R6 x xa xc ya yc)) qD O underlying46 BE FP qD qD qK ?_))))));intro bn wn Nn;replace Bp:=Nn.keep Bp;replace Bx:=Nn.keep Bx;replace hO:=Aj hO Nn.ext;replace hS:=Aj hS Nn.ext;replace aq:=Nat.le_trans aq Nn.ext.size;replace E:=E.ext Nn.ext;have Bn:=Nn.blk;rw[UL] at a4;subst a4;have a3:=P4 (m:=af.length) hS qO qO;rw[Sv ah.six ah.len] at a3;clear hS;refine BT (base:=base) (n:=ad.length) (m:=1) (xs:=ro.flatten) (news:=[(I6 x.kind),(.slice xa x.set.length xc),(.slice ya x.args.length yc),(I6 x.mn),(I6 x.mx),(.bool x.neg)]) (size:=6) (bytes:=80) (v:=(.slice oa ad.length oc)) qD underlying46 BE VT FP O qD O hO O (O) (Bn.cells O) qS (by unfold maxLen;omega) qO (aq) ?_;intro v9 w9 bt az b5;replace Bp:=az.keep (λh=>by have:=(hO.lt _ h).1;omega) Bp;replace Bx:=az.keep (λh=>absurd (b8 _ h) (by have:=Nx.eq;omega)) Bx;replace E:=E.step az (λx hx h=>absurd (hO.lt x h).1 qO);obtain ⟨a1,a0,rfl⟩:=A9 bt;have al:=Lp a3 az bo.slc.symm.slc.symm;have ag:=E0.app (bo.slc.symm.slc.symm) a3 b5;have cc:Re.sizes (af++[x])=Re.sizes af+x.size:=by rw[Re.sizes_append];simp[Re.sizes]
   have hxs:=x.size_eq;have hal:=FI x.args;have b7:=FI af;have ae:=Nat.le_trans aq az.size;refine qA _ O (AA (Y (qF bx 0 2 O underlying48 O G5 O (qV (AD O FB (Bx.cell O)) (qV (AH underlying46 O) (qV (D3 O O (A2 qO)) (qA _ O (AA (AM (Am (λnn_ σ W6=>∃(i:Nat) (Oy:List Re) (ar:List (List Value)) (ka:Option Addr) (kc:Nat),(∃jj_,σ=BQ jj_ [(1,(I6 most)),(5,(.slice a1 (ad.length+1) a0)),(7,(P6 bx 0)),(8,(I6 ((i:Int) - 1))),(6,(.slice ka Oy.length kc))])∧Chg AZ w0 W6∧Az W6 bp (R6 t sa sc aa ac) 48∧Az W6 bx (R6 x xa xc ya yc) 48∧(i<=x.args.length)∧(W6.ownsRow base TE 6 (.slice a1 (ad.length+1) a0) (ad.length+1) (ro++[Xe x xa xc ya yc]).flatten)∧(W6.ownsRow base TE 6 (.slice ka Oy.length kc) Oy.length ar.flatten)∧(E0 (.slice a1 (ad.length+1) a0) (.slice ka Oy.length kc))∧(CK w0 Oy ar)∧(Oy=af++(x.args.drop i).reverse)∧(base<=W6.heap.size)∧(∀k,(Value.slice ka Oy.length kc).ownBlock=some k->k≠bx)∧nn_=2*i) (n:=2*x.args.length) ?_ ?_))))))))))
   .exact ⟨x.args.length,af,bd,_,_,Af.out ⟨O,O,O,O,O,trivial⟩,E,Bp,Bx,Nat.le_refl _,(by simpa using bt),al,ag,ah,qP,ae,(λk h e=>by have h1:k<_:=cb k h;have:=Nx.eq;omega),O⟩
   .clear E Bp Bx;rintro _ _ W6 ⟨i,Oy,ar,ka,kc,⟨j6,rfl⟩,E,Bp,Bx,hi,av,al,ag,aw,a5,ae,bk,rfl⟩;refine AE (Y (qM _ O (qV (C3 O O) (AA (qC O (λcg=>?_) (λcg=>?_))))))
    .obtain ⟨y,hy⟩:=AL (l:=x.args) (i:=i - 1) qO;obtain ⟨ab,ao,rfl,ba⟩:∃b o,ya=some ⟨b,o,none⟩∧C4 w0 b o x.args:=by
      rcases am with h|h
      .rw[h] at hy;simp at hy
      .exact h
     obtain ⟨us,ca,bs⟩:=ba.get hy;obtain ⟨va,vc,za,zc,rfl,_,_,_⟩:=bs.form;have bw:=Bx.lt;refine AK (AB (AE (AM (AG (qM _ O (qF bx 0 2 O underlying48 O G5 O (qV (AD O FB (Bx.cell O)) (qM _ O (qV (AC (b:=ab) (o:=ao) (len:=x.args.length) (cap:=yc) (i:=i - 1) (o':=ao+(i - 1)*6) O O qO underlying46 BE qO qO) (qV (AU O CI BE O (ca.ext E)) ?_))))))))));have bf:Oy.length=af.length+(x.args.length - i):=by rw[a5];simp
     refine Ad (ps:=[(0,(.agg (R6 y va vc za zc)))]) (c:=(R6 y va vc za zc)) qD O underlying46 BE FP qD qD qK ?_;intro bm wm Nm;replace Bp:=Nm.keep Bp;replace Bx:=Nm.keep Bx;replace av:=Aj av Nm.ext;replace al:=Aj al Nm.ext;replace ae:=Nat.le_trans ae Nm.ext.size;replace E:=E.ext Nm.ext;have Bm:=Nm.blk;refine BT (base:=base) (n:=Oy.length) (m:=1) (xs:=ar.flatten) (news:=[(I6 y.kind),(.slice va y.set.length vc),(.slice za y.args.length zc),(I6 y.mn),(I6 y.mx),(.bool y.neg)]) (size:=6) (bytes:=80) (v:=(.slice ka Oy.length kc)) qD underlying46 BE VT FP O qD O al O (O) (Bm.cells O) qS (by unfold maxLen;omega) qO (ae) ?_;intro v19 w19 ap aj an;replace Bp:=aj.keep (λh=>by have:=(al.lt _ h).1;omega) Bp;replace Bx:=aj.keep (λh=>bk _ h O) Bx;replace E:=E.step aj (λx hx h=>absurd (al.lt x h).1 qO);obtain ⟨b0,b2,rfl⟩:=A9 ap;have b1:=Lp av aj ag.symm;have ay:=(E0.app ag.symm av an).symm;have b9:(Oy++[y]).length=Oy.length+1:=qP
     rw[<-b9] at ap ay an⊢;refine qA _ O (AA (AP (AB (AG (qM _ O (qV (D3 (c:=(((i - 1:Nat):Nat):Int) - 1) O O (by rw[A2 qO];omega)) (qA _ O (AA (AB ?_)))))))));exact ⟨2*(i - 1),qO,i - 1,Oy++[y],ar++[_],b0,b2,Af.out ⟨O,O,O,O,O,trivial⟩,E,Bp,Bx,qO,b1,(by simpa using ap),ay,aw.snoc bs,(by rw[a5,Dd hy,show i - 1+1=i from qO];simp),Nat.le_trans ae aj.size,(λk h e=>by rcases an k h with h1|h1;exact bk k h1 e;have:=Nm.size;omega),O⟩
    .obtain rfl:i=0:=qO
     have b3:(ad++[x]).length=ad.length+1:=qP
     rw[<-b3] at av ag⊢;refine Ak (AR (AR (Ae (AP (AB ?_)))));exact ⟨t.size - (ad++[x]).length,qO,ad++[x],Oy,ro++[_],ar,a1,a0,ka,kc,Af.out ⟨O,O,O,trivial⟩,E,Bp,av,al,ag,a7.snoc a6,aw,(by rw[ak,a5];simp[DX,IW,Jv x]),(by simp;omega),ae,O⟩
  .have a2:=au;have a8:ad=(FA t).take most.toNat:=by
    simp at au;rcases Nat.eq_zero_or_pos ai.length with h|h
    .have:ai=[]:=List.eq_nil_of_length_eq_zero h;subst this;have hp:FA t=ad:=by rw[ak];simp[DX]
     rw[hp,List.take_of_length_le qO]
    .have hle:=au h;have:ad.length=most.toNat:=qO
     rw[ak,<-this,List.take_left' rfl]
   rw[<-a8];refine Ak (AR (AR (Ae (AB (Y (qM _ O (qA _ O (AA (AS (AV results61 (v:=(.slice oa ad.length oc)) O ?_))))))))));exact ⟨oa,oc,ro,O,KM hO a7 O,a7,E⟩
end Go.Proofs
namespace Go.Proofs
open Go Go.Eng
set_option maxRecDepth 100000
section
variable {S : Type} (F : S → Re → Bool × S)
def Es:List Re->S->Bool×S
  | [],s=>(true,s)
  | t::ts,s=>if (F s t).1 then Es ts (F s t).2 else (false,(F s t).2)
theorem IP:∀(a b:List Re) (s:S),Es F (a++b) s=if (Es F a s).1 then Es F b (Es F a s).2 else (false,(Es F a s).2)
 | [],b,s=>by simp[Es]
 | x::a,b,s=>by
  simp only[List.cons_append,Es];split
  .exact IP a b _
  .simp
mutual
theorem H2:∀(t:Re) (s:S),C' F t s=Es F (FA t) s
 | .mk k set args mn mx ng,s=>by
  rw[FQ,Jv];simp only[Es,Re.args];rw[JX args]
theorem JX:∀(ts:List Re) (s:S),Cy F ts s=Es F (DX ts) s
 | [],s=>by simp only[Cy,DX,Es]
 | t::ts,s=>by
  rw[Dk];simp only[DX];rw[IP,<-H2 t,<-JX ts]
end
end
def LP (m:Nat):Nat->List Re->Int
  | _,[]=>0
  | i,x::xs=>if i=m then 2 else if Cu x≠0 then Cu x else LP m (i+1) xs
theorem Oi (m:Nat) (hm:m<=1000000):∀(l:List Re) (n:Nat),n<=m->(Es (Dn (m:Int)) l ((n:Int),0)).2.2=LP m n (l.take (m+1 - n))
 | [],n,_=>by simp[Es,LP]
 | x::xs,n,hn=>by
  simp only[Es];rw[Mr x qO qO];rw[show m+1 - n=(m - n)+1 from qO,List.take_succ_cons];simp only[LP];by_cases h:n=m
  .rw[if_pos h,if_pos (by omega:(m:Int)<(n:Int)+1)];simp
  .rw[if_neg h,if_neg (by omega:¬(m:Int)<(n:Int)+1)];by_cases h2:Cu x=0
   .have:=Oi m hm xs (n+1) qO;rw[show m+1 - (n+1)=m - n from qO] at this;simp only[h2,decide_true,if_true,ne_eq,not_true,if_false];rw[<-this];rfl
   .rw[if_pos h2];simp[h2]
theorem Sx {t:Re} {m:Nat} (a:m<=1000000):Cb t (m:Int)=LP m 0 ((FA t).take (m+1)):=by
 unfold Cb;rw[H2];exact Oi m a (FA t) 0 (Nat.zero_le _)
theorem UO (w0:World) (t:Re) (vs:List Value) (m:Nat) (hm:m≤1000000) (ht:BR w0 t vs) (hs:t.size≤2097152) :
  CJ prog 19 #[.agg vs.toArray,.int .i64 (m:Int)] w0 fun v w=>v=.int .i64 (Cb t (m:Int))∧Ao w0 w:=by
 have ar:=ht;obtain ⟨sa,sc,aa,ac,rfl,au,aw,ak⟩:=ht.form;rw[Sx hm];refine qR func19 rfl ntmps19 rfl (fun E=>(Y (BM (v:=(.agg (R6 t sa sc aa ac))) (c:=(R6 t sa sc aa ac)) qD rfl rfl ?_)));intro b1 w1 N1;have F1:=N1.ge E;replace E:=E.ext N1.ext;have B1:=N1.blk;refine qA _ rfl (AA (AE (Y (qV (AU (vs:=[(I6 t.kind),(.slice sa t.set.length sc),(.slice aa t.args.length ac),(I6 t.mn),(I6 t.mx),(.bool t.neg)]) rfl CI BE rfl (B1.cells rfl)) (qM _ rfl (qV (Aq (c:=((m+1:Nat):Int)) rfl rfl (by rw[A2 qO];omega)) (qE rfl (AT func61 kQ kQ rfl) (SF _ t _ _ (BR.ext E t ar) hs) ?_)))))));rintro _ w9 ⟨la,lc,ai,rfl,ah,ab,X9⟩;replace B1:=X9.keep B1;replace E:=E.ext X9;have ao:((FA t).take (m+1)).length≤m+1:=by simp;omega
 obtain ⟨L,hL⟩:∃L,L=(FA t).take (m+1):=⟨_,rfl⟩;have ad:CK w9 L ai:=by rw[hL];exact CK.ext X9 ab
 clear ab;rw[show ((m+1:Nat):Int).toNat=m+1 from rfl] at ah;rw[show ((m+1:Nat):Int).toNat=m+1 from rfl];rw[←hL] at ah ao⊢;clear hL;have wq0:Ao w9 w9:=Ao.refl _;have EQ:Chg AZ w9 w9:=Chg.refl _ _;refine qV (AH underlying46 rfl) (qM _ rfl (AA (AM (Am (fun nn_ σ W2=>∃(k:Nat),(∃jj_,σ=BQ jj_ [(1,(I6 (m:Int))),(11,(.slice la L.length lc)),(12,(I6 (L.length:Int))),(13,(I6 (k:Int)))])∧Chg AZ w0 W2∧Chg AZ w9 W2∧Az W2 b1 (R6 t sa sc aa ac) 48∧(k≤L.length)∧(LP m 0 L=LP m k (L.drop k))∧nn_=L.length - k) (n:=L.length - 0) ?_ ?_))))
 ·exact ⟨0,Af.out ⟨rfl,rfl,rfl,rfl,trivial⟩,E,EQ,B1,Nat.zero_le _,rfl,rfl⟩
 ·clear E EQ B1;rintro _ _ W2 ⟨k,⟨j2,rfl⟩,E,EQ,B1,hk,hp,rfl⟩;refine Y (qV (Av rfl rfl) (AA (AE (qC rfl (fun ap=>?_) (fun ap=>?_)))))
  ·obtain ⟨x,hx⟩:=AL (l:=L) (i:=k) qO;obtain ⟨r,hr,aj⟩:=ad.get hx;obtain ⟨b,o,rfl,an⟩:=BL.at ah qO;have hd:=Dd hx;have av:=(an k r hr).ext EQ;obtain ⟨xa,xc,ya,yc,rfl,am,al,ag⟩:=aj.form;refine AK (AB (AE (AM (Y (qM _ rfl (qV (AC (b:=b) (o:=o) (len:=L.length) (cap:=lc) (i:=k) (o':=o+k*6) rfl rfl rfl underlying46 BE qO qO) (qV (AU rfl CI BE rfl (av)) (BO (c:=#[(I6 0),(.slice none 0 0),(.slice none 0 0),(I6 0),(I6 0),(.bool false)]) qD FP rfl ?_))))))));intro b4 w4 N4;have F4:=N4.ge E;have F4_EQ:=N4.ge EQ;have O4_b1:=N4.lt B1;replace B1:=N4.keep B1;replace E:=E.ext N4.ext;have B4:=N4.blk;replace EQ:=EQ.ext N4.ext;refine qA _ rfl (Al (b:=b4) (o:=0) (c':=(R6 x xa xc ya yc)) rfl rfl qS BE rfl B4 qL rfl ?_);intro w5 S5;replace B1:=S5.keep qO B1;replace E:=S5.step E qQ;replace EQ:=S5.step EQ (Or.inl qO);replace B4:=S5.blk;refine AA (AE (Y (qM _ rfl (qM _ rfl (qV (As rfl rfl) (AA (qC rfl (fun he=>?_) (fun he=>?_))))))))
   ·refine Y (qA _ rfl (AA (AS (AO (Ag (AO (AO (Ag (AO (AV results19 (v:=(.int .i64 2)) rfl ?_))))))))));exact ⟨A5 (by rw[hp,hd];simp only[LP];rw[if_pos qO]),E⟩
   ·refine AK (AB (Y (qV (AU (vs:=[(I6 x.kind),(.slice xa x.set.length xc),(.slice ya x.args.length yc),(I6 x.mn),(I6 x.mx),(.bool x.neg)]) rfl CI BE rfl (B4.cells rfl)) (qE rfl (AT func62 kQ kQ rfl) (Ux _ _ x _ aj EQ) ?_))));rintro _ w19 ⟨rfl,ae⟩;replace B1:=ae.keep B1;replace B4:=ae.keep B4;replace E:=E.ext ae;replace EQ:=EQ.ext ae;refine qA _ rfl (AA (Y (qM _ rfl (qV (CO rfl rfl) (AA (qC rfl (fun af=>?_) (fun af=>?_)))))))
    ·refine Y (qM _ rfl (qA _ rfl (AA (AS (Ag (AO (AO (Ag (AO (AV results19 (v:=(.int .i64 (Cu x))) rfl ?_))))))))));exact ⟨A5 (by rw[hp,hd];simp only[LP];rw[if_neg qO,if_pos af]),E⟩
    ·refine AK (AP (AB (AG (qV (Aq rfl rfl (A2 qO)) (qM _ rfl (AA (AB ?_)))))));exact ⟨L.length - (k+1),qO,k+1,Af.out ⟨rfl,rfl,rfl,rfl,trivial⟩,E,EQ,B1,qO,(by rw[hp,hd];simp only[LP];rw[if_neg qO,if_neg af]),rfl⟩
  ·have aq:L.drop k=[]:=List.drop_eq_nil_of_le qO;refine Ak (AR (AR (Ae (AB (Y (qA _ rfl (AA (AS (AV results19 (v:=(.int .i64 0)) rfl ?_)))))))));exact ⟨A5 (by rw[hp,aq];rfl),E⟩
end Go.Proofs
namespace Go.Proofs
open Go Go.Eng
set_option maxRecDepth 100000
def bl (m:Nat):Nat:=if m=0 then 0 else Nat.log2 m+1
end Go.Proofs
namespace Go.Proofs
open Go Go.Eng
set_option maxRecDepth 100000
theorem R8 (S:Nat->Prop) (w:World) (k:Int):Pk S w (.mk k [] [] 0 0 false) [.int .i64 k,.slice none 0 0,.slice none 0 0,.int .i64 0,.int .i64 0,.bool false]:=
 Pk.of (G1.nil _ _ _ _ _) qP (.inl O)
end Go.Proofs
namespace Go.Proofs
open Go Go.Eng Go.Sort
set_option maxRecDepth 100000
def XA (p q:Int):Int:=if p≠0 then p else q
def XK (s t:Int×Int):Int:=RV [FK s.1 t.1,FK s.2 t.2]
def XL {α:Type} (f:α->α->Int):List α->List α->Int
  | [],[]=>0
  | [],_::_=>-1
  | _::_,[]=>1
  | x::l,y::m=>XA (f x y) (XL f l m)
mutual
def Wu:Re->Re->Int
  | .mk k s a m x _,.mk k' s' a' m' x' _=>RV [FK k k',XL XK s s',FK m m',FK x x',VN a a']
def VN:List Re->List Re->Int
  | [],[]=>0
  | [],_::_=>-1
  | _::_,[]=>1
  | t::ts,u::us=>XA (Wu t u) (VN ts us)
end
def Xp:Re:=.mk 8 [] [Dl] 0 0 false
def Sm (t:Re):Bool:=decide (t.kind=8) && decide ((t.args.headD Dl).kind=0)
def Mj (t:Re):Bool:=decide (t.kind=0)
def OS (t:Re):Bool:=decide (t.kind=1)
def WF (p:Re->Bool) (l:List Re):List Re:=l.filter λx=>!p x
def Rb (k:Int) (nothing:Re):List Re->Re
  | []=>nothing
  | [x]=>x
  | x::y::l=>.mk k [] (x::y::l) 0 0 false
def RG (l:List Re):Re:=if ((WF OS (QG 3 l)).any Mj)=true then Dl else Rb 3 Fl (WF OS (QG 3 l))
def WG:List Re->List Re
  | []=>[]
  | [x]=>[x]
  | x::y::l=>if R4 x y=true then WG (y::l) else x::WG (y::l)
def Xx (a b:Re):Bool:=decide (Wu a b<=0)
def Wq (l:List Re):List Re:=l.mergeSort Xx
def XM (k:Int) (l:List Re) (strong weak:Re->Bool) (nothing:Re):Re:=
  match l.find? strong with
  | some x=>x
  | none=>Rb k nothing (WG (Wq (WF weak (QG k l))))
def OK (k:Int) (s:List (Int×Int)) (a:List Re) (m x:Int) (g:Bool):Re:=
 let y:=a.headD Dl
 if k=3 then RG a else if k=4 then XM 4 a Sm Mj Dl else if k=7 then XM 7 a Mj Sm Xp
 else if k=5 then (if y.kind=0∨y.kind=1 then Fl else if y.kind=5 then y else .mk k s a m x g)
 else if k=6 then (if x=0∨y.kind=1∨(y.kind=0∧m=0) then Fl else if y.kind=0∨(m=1∧x=1) then y else .mk k s a m x g)
 else if k=8 then (if y.kind=8 then y.args.headD Dl else .mk k s a m x g)
 else .mk k s a m x g
mutual
def TC:Re->Bool
  | .mk k _ a m _ g=>if k=1∨k=5 then true else if k=3∨k=7∨k=9 then Kz a else if k=4 then QN a else if k=6 then (decide (m=0) || Kz a) else if k=8 then !Kz a else if k=10 then (Kz a != g) else false
def Kz:List Re->Bool
  | []=>true
  | t::ts=>TC t && Kz ts
def QN:List Re->Bool
  | []=>false
  | t::ts=>TC t || QN ts
end
mutual
def LZ (c:Int):Re->Re
  | .mk k s a m x g=>if k=2 then (if BY s c=true then Fl else Dl) else if k=3 then Rp c a
    else if k=4∨k=7∨k=8 then OK k [] (H5 c a) 0 0 false
    else if k=5 then RG [(H5 c a).headD Dl,.mk k s a m x g]
    else if k=6 then RG [(H5 c a).headD Dl,OK 6 [] [a.headD Dl] (max 0 (m - 1)) (x - 1) false]
    else Dl
def H5 (c:Int):List Re->List Re
  | []=>[]
  | t::ts=>LZ c t::H5 c ts
def Rp (c:Int):List Re->Re
  | []=>Dl
  | t::ts=>if ts=[] then LZ c t else (let first:=RG [LZ c t,Rb 3 Fl ts];if TC t=true then OK 4 [] [first,Rp c ts] 0 0 false else first)
end
end Go.Proofs
namespace Go.Proofs
open Go Go.Eng Go.Sort
set_option maxRecDepth 100000
structure PreN (k:Int) (s:List (Int×Int)) (a:List Re) (m x:Int) (g:Bool):Prop where
 ks:k=0∨k=1∨k=2∨k=3∨k=4∨k=5∨k=6∨k=7∨k=8
 ng:g=false
 st:k≠2->s=[]
 mm:k≠6->m=0∧x=0
 k2:k=2->s≠[]∧A7 s=0
 none:k=0∨k=1∨k=2->a=[]
 one:k=5∨k=6∨k=8->a.length=1
 rep:k=6->0<=m∧m<=x∧x<=8
end Go.Proofs
namespace Go.Proofs
open Go Go.Eng Go.Sort
set_option maxRecDepth 100000
theorem Vr {t:Re} (h:Hr t) (h9:t.kind≠9) (f:t.kind≠10) {a:List Re} (m:a.length=t.args.length):PreN t.kind t.set a t.mn t.mx t.neg:=by
 have b:=He h;have c:=OJ b;have g:=(Qv h).2.2;simp only[Ea,Bool.and_eq_true,Bool.or_eq_true,decide_eq_true_eq,Bool.not_eq_true'] at g;obtain ⟨⟨⟨⟨e,n⟩,f3⟩,f4⟩,l⟩:=g;have hk:=c.k;refine ⟨qO,?_,λd=>?_,λi=>⟨qO,qO⟩,λd=>⟨c.sett d,?_⟩,λh0=>?_,λh1=>by rw[m];exact c.one qO,λi=>c.rep i⟩
 .rcases l with h|h
  .exact absurd h f
  .exact h
 .rcases n with h|h
  .exact absurd h d
  .exact List.eq_nil_of_length_eq_zero qO
 .unfold Cu at b;split at b
  .cases b
  split at b
  .cases b
  first|rw[if_pos d] at b|skip
  by_cases j:A7 t.set=0
  .exact j
  .rw[if_pos j] at b;exact b
 .unfold Md at e;rw[if_neg qO,if_neg qO] at e;have:=of_decide_eq_true e;exact List.eq_nil_of_length_eq_zero qO
end Go.Proofs
namespace Go.Proofs
open Go Go.Eng Go.Sort
set_option maxRecDepth 100000
mutual
def Hw (P:List (Int×Int)->Prop):Re->Prop
  | .mk k s a _ _ _=>(k=2->P s)∧Jl P a
def Jl (P:List (Int×Int)->Prop):List Re->Prop
  | []=>True
  | t::ts=>Hw P t∧Jl P ts
end
section
variable {P : List (Int × Int) → Prop}
theorem RL {ts:List Re}:Jl P ts↔∀t∈ts,Hw P t:=by
 induction ts with
 | nil=>simp[Jl]
 | cons t ts ih=>simp only[Jl,ih,List.mem_cons,forall_eq_or_imp]
theorem Hw.s {t:Re} (h:Hw P t):t.kind=2->P t.set:=by cases t;exact h.1
theorem Hw.a {t:Re} (h:Hw P t):∀x∈t.args,Hw P x:=by cases t;exact RL.1 h.2
end
end Go.Proofs
namespace Go.Proofs
open Go Go.Eng Go.Sort
theorem Ic {α:Type} [DecidableEq α]:∀{l m:List α},l.Nodup->(∀x∈l,x∈m)->l.length<=m.length
 | [],_,_,_=>Nat.zero_le _
 | x::l,m,hd,h=>by
  have a:=List.nodup_cons.1 hd;have b:=h x List.mem_cons_self;have d:=Ic (l:=l) (m:=m.erase x) a.2 λy c=>(List.mem_erase_of_ne (show y≠x from λe=>a.1 (by rw[<-e];exact c))).2 (h y (List.mem_cons_of_mem _ c));rw[List.length_erase_of_mem b] at d;have:=List.length_pos_of_mem b;simp only[List.length_cons];omega
theorem KV {ll:List (List Sp)} {p:List Int} (d:Ds ll.flatten p) (b:List Bool):Jk (λr=>decide (Ay ll r=b)) p:=by
 intro a r c e f hb;have:Ay ll r=Ay ll a:=by
  unfold Ay;apply List.map_congr_left;intro l g;exact Ln d g a r c e f hb
 show decide (Ay ll r=b)=decide (Ay ll a=b);rw[this]
structure FirstAt (l:List (List Bool)) (ks:List (List Bool)) (js:List Nat):Prop where
 len:js.length=ks.length
 lt:js.Pairwise (· < ·)
 at':∀(k j:Nat) key,js[k]?=some j->ks[k]?=some key->l[j]?=some key∧∀i,i<j->l[i]?≠some key
theorem Sy (l:List (List Bool)):∃g,FirstAt l (DT l) g∧(∀j∈g,j<l.length)∧∀m∈l,m∈DT l:=by
 suffices h:∀n,n<=l.length->∃g,FirstAt (l.take n) (DT (l.take n)) g∧(∀j∈g,j<n)∧∀m∈l.take n,m∈DT (l.take n) by
  have:=h l.length (Nat.le_refl _)
  rwa [List.take_length] at this
 intro n
 induction n with
 | zero=>intro _;exact ⟨[],⟨O,List.Pairwise.nil,λk j c h=>by simp at h⟩,λj h=>(by cases h),λm h=>(by simp at h)⟩
 | succ n ih=>
  intro hn;obtain ⟨g,o,hb,w⟩:=ih qO;obtain ⟨x,z⟩:=AL (l:=l) (i:=n) qO;rw[CP z,GG];have u:(l.take n).length=n:=by simp;omega
  have e:∀(i:Nat) c,i<n->((l.take n++[x])[i]?=some c↔(l.take n)[i]?=some c):=λi c hi=>by rw[List.getElem?_append_left qO]
  unfold Ht;split
  .rename_i f
   refine ⟨g,⟨o.len,o.lt,λk j c d p=>?_⟩,λj y=>by have:=hb j y;omega,λm h=>?_⟩
   .have q:=hb j (List.mem_of_getElem? d);obtain ⟨r,t⟩:=o.at' k j c d p;exact ⟨(e j c q).2 r,λi hi s=>t i hi ((e i c qO).1 s)⟩
   .rcases List.mem_append.1 h with d|d
    .exact w m d
    .rw[List.mem_singleton] at d;rw[d];exact f
  .rename_i f
   refine ⟨g++[n],⟨by simp[o.len],?_,λk j c d p=>?_⟩,λj y=>?_,λm h=>?_⟩
   .rw[List.pairwise_append];exact ⟨o.lt,List.pairwise_singleton _ _,λa A b v=>by rw[List.mem_singleton] at v;subst v;exact hb a A⟩
   .rcases Nat.lt_or_ge k g.length with r|r
    .rw[List.getElem?_append_left r] at d;rw[List.getElem?_append_left (by rw[<-o.len];exact r)] at p;have q:=hb j (List.mem_of_getElem? d);obtain ⟨t,s⟩:=o.at' k j c d p;exact ⟨(e j c q).2 t,λi hi B=>s i hi ((e i c qO).1 B)⟩
    .rw[List.getElem?_append_right r] at d;rw[List.getElem?_append_right (by rw[<-o.len];exact r)] at p;have t:=AI d;simp at t;rw[show k - g.length=0 by omega] at d;rw[show k - (DT (l.take n)).length=0 by have:=o.len;omega] at p;simp at d p;subst d;subst p;refine ⟨by rw[List.getElem?_append_right qO,u,Nat.sub_self];rfl,λi hi s=>f (w _ (List.mem_of_getElem? ((e i _ hi).1 s)))⟩
   .rcases List.mem_append.1 y with d|d
    .have:=hb j d;omega
    .rw[List.mem_singleton] at d;omega
   .rcases List.mem_append.1 h with d|d
    .exact List.mem_append_left _ (w m d)
    .exact List.mem_append_right _ d
theorem PT {c:List Sp} {m:Int} (h:Canon c) (b:BY c m=true) (g:∀r,0<=r->r<m->BY c r=false):c≠[]∧BK c=m:=by
 cases c with
 | nil=>cases b
 | cons s l=>
  refine ⟨λe=>(by cases e),?_⟩;have f:=h.head;unfold C_ at f;show s.1=m;rcases Int.lt_trichotomy s.1 m with a|a|a
  .have:=g s.1 qO a;have d:BY (s::l) s.1=true:=FJ.2 ⟨s,List.mem_cons_self,Int.le_refl _,f.2.1⟩;rw[this] at d;cases d
  .exact a
  .rw[GI h a] at b;cases b
structure Parted (ll cs:List (List Sp)):Prop where
 can:∀c∈cs,Canon c
 part:Gu cs
 heads:HH cs
 mark:∀(k:Nat) c r,cs[k]?=some c->0<=r->r<=1114111->(BY c r=true↔Ay ll r=Ay ll (BK c))
 low:∀c∈cs,0<=BK c∧BK c<=1114111
 inj:∀(i j:Nat) c d,cs[i]?=some c->cs[j]?=some d->Ay ll (BK c)=Ay ll (BK d)->i=j
theorem LN.parted {ll cs:List (List Sp)} (h:LN ll cs) (M:∀s∈ll.flatten,C_ s):Parted ll cs:=by
 obtain ⟨p,R,hl,hm⟩:=h;obtain ⟨U,B,hb,Q⟩:=Sy (p.map (Ay ll));have n:∀(k:Nat) c,cs[k]?=some c->∃f j lo,(DT (p.map (Ay ll)))[k]?=some f∧U[k]?=some j∧p[j]?=some lo∧Ay ll lo=f∧Cc c (λr=>decide (Ay ll r=f))∧c≠[]∧BK c=lo∧0<=lo∧lo<=1114111:=by
  intro k c o;obtain ⟨f,v⟩:=AL (l:=DT (p.map (Ay ll))) (i:=k) (by have:=AI o;omega);obtain ⟨j,t⟩:=AL (l:=U) (i:=k) (by have:=AI v;have:=B.len;omega);obtain ⟨C,w⟩:=B.at' k j f t v;rw[List.getElem?_map] at C;obtain ⟨lo,g,S⟩:=Option.map_eq_some_iff.1 C;have A:=hm k f c v o;have E:=Cg R M (List.mem_of_getElem? g);obtain ⟨e1,e2⟩:=PT (m:=lo) A.1 (by rw[A.2 lo E.1 E.2];exact decide_eq_true S) λr F G=>by
   rw[A.2 r F qO,decide_eq_false_iff_not];intro hr;obtain ⟨i,li,z,H,_,h6⟩:=I_ R M j (by have:=AI g;omega) r F (by rw[OG g];exact G);have ac:i<j:=by
    rcases Nat.lt_or_ge i j with h7|h7
    .exact h7
    .exfalso;have h8:lo<=li:=by
      rcases Nat.lt_or_ge j i with V|V
      .have q:=AI g;have x:=AI z;rw[List.getElem?_eq_getElem q] at g;rw[List.getElem?_eq_getElem x] at z;cases g;cases z;exact Int.le_of_lt (List.pairwise_iff_getElem.1 R.1 j i q x V)
      .obtain rfl:i=j:=qO
       rw[g] at z;cases z;exact Int.le_refl _
     omega
   exact w i ac (by rw[List.getElem?_map,z,Option.map_some,<-h6,hr])
  exact ⟨f,j,lo,v,t,g,S,A,e1,e2,E.1,E.2⟩
 have af:∀(i j:Nat) f,(DT (p.map (Ay ll)))[i]?=some f->(DT (p.map (Ay ll)))[j]?=some f->i=j:=by
  intro i j f hi t;obtain ⟨a,T⟩:=AL (l:=U) (i:=i) (by have:=AI hi;have:=B.len;omega);obtain ⟨b,D⟩:=AL (l:=U) (i:=j) (by have:=AI t;have:=B.len;omega);obtain ⟨C,w⟩:=B.at' i a f T hi;obtain ⟨u,z⟩:=B.at' j b f D t;have ag:a=b:=by
   rcases Nat.lt_trichotomy a b with H|H|H
   .exact absurd C (z a H)
   .exact H
   .exact absurd u (w b H)
  subst ag;have x:=AI T;have q:=AI D;rw[List.getElem?_eq_getElem x] at T;rw[List.getElem?_eq_getElem q] at D;have e:=(Option.some.inj T).trans (Option.some.inj D).symm;rcases Nat.lt_trichotomy i j with u|u|u
  .have:=List.pairwise_iff_getElem.1 B.lt i j x q u;omega
  .exact u
  .have:=List.pairwise_iff_getElem.1 B.lt j i q x u;omega
 have I:∀(i j:Nat) c d,cs[i]?=some c->cs[j]?=some d->Ay ll (BK c)=Ay ll (BK d)->i=j:=by
  intro i j c d o hd S;obtain ⟨f,_,lo,C,_,_,w,_,_,u,_⟩:=n i c o;obtain ⟨key',_,ad,ab,_,_,ah,_,_,Z,_⟩:=n j d hd;rw[u,Z,w,ah] at S;subst S;exact af i j f C ab
 have K:∀(k:Nat) c r,cs[k]?=some c->0<=r->r<=1114111->(BY c r=true↔Ay ll r=Ay ll (BK c)):=by
  intro k c r o F G;obtain ⟨f,_,lo,_,_,_,w,A,_,u,_⟩:=n k c o;rw[A.2 r F G,decide_eq_true_eq,u,w]
 refine ⟨?_,?_,?_,K,?_,I⟩
 .intro c o;obtain ⟨k,v⟩:=List.getElem?_of_mem o;obtain ⟨_,_,_,_,_,_,_,A,_⟩:=n k c v;exact A.1
 .intro r F G;obtain ⟨lo,g,aa⟩:=N0 R M F G;have ae:=Q (Ay ll lo) (List.mem_map.2 ⟨lo,g,O⟩);obtain ⟨k,v⟩:=List.getElem?_of_mem ae;obtain ⟨c,o⟩:=AL (l:=cs) (i:=k) (by have:=AI v;omega);have A:=hm k _ c v o;have C:BY c r=true:=by rw[A.2 r F G];exact decide_eq_true aa
  have J:∀(j:Nat) d,cs[j]?=some d->BY d r=true->j=k:=λj d hd w=>
   I j k d c hd o (((K j d r hd F G).1 w).symm.trans ((K k c r o F G).1 C))
  have hkl:=AI o;rw[show cs=cs.take k++c::cs.drop (k+1) by rw[<-Dd o,List.take_append_drop],List.countP_append,List.countP_cons,C];have z1:(cs.take k).countP (λl=>BY l r)=0:=by
   rw[List.countP_eq_zero];intro d hd w;obtain ⟨j,t⟩:=List.getElem?_of_mem hd;have q:=AI t;simp at q;rw[List.getElem?_take_of_lt qO] at t;have:=J j d t w;omega
  have z2:(cs.drop (k+1)).countP (λl=>BY l r)=0:=by
   rw[List.countP_eq_zero];intro d hd w;obtain ⟨j,t⟩:=List.getElem?_of_mem hd;rw[List.getElem?_drop] at t;have:=J _ d t w;omega
  rw[z1,z2];rfl
 .intro k v;obtain ⟨c,o⟩:=AL v;obtain ⟨_,j,lo,_,t,g,_,_,X,hh,h0,_⟩:=n k c o;have N:cs.getD k []=c:=by simp[List.getD,o]
  refine ⟨by rw[N];exact X,?_⟩;rw[N,hh];cases k with
  | zero=>show (-1:Int)<lo;omega
  | succ k=>
   obtain ⟨d,hd⟩:=AL (l:=cs) (i:=k) qO;obtain ⟨_,j',ad,_,L,y,_,_,_,W,_⟩:=n k d hd;have P:cs.getD k []=d:=by simp[List.getD,hd]
   show BK (cs.getD k [])<lo;rw[P,W];have a1:=AI t;have a2:=AI L;rw[List.getElem?_eq_getElem a1] at t;rw[List.getElem?_eq_getElem a2] at L;cases t;cases L;have V:=List.pairwise_iff_getElem.1 B.lt k (k+1) a2 a1 qO;have b1:=AI g;have b2:=AI y;rw[List.getElem?_eq_getElem b1] at g;rw[List.getElem?_eq_getElem b2] at y;cases g;cases y;exact List.pairwise_iff_getElem.1 R.1 _ _ b2 b1 V
 .intro c o;obtain ⟨k,v⟩:=List.getElem?_of_mem o;obtain ⟨_,_,lo,_,_,_,_,_,_,u,z,H⟩:=n k c v;rw[u];exact ⟨z,H⟩
end Go.Proofs
namespace Go.Proofs
open Go Go.Eng Go.Sort
set_option maxRecDepth 100000
def Ey (s:List (List Sp)) (t:Re):List (List Sp):=if t.kind=2∧t.set∉s then s++[t.set] else s
def CM (t:Re):List (List Sp):=(FA t).foldl Ey []
theorem LA {x:List Sp}:∀{l:List Re} {s:List (List Sp)},x∈l.foldl Ey s↔x∈s∨∃t∈l,t.kind=2∧x=t.set
  | [],s=>qP
  | t::l,s=>by
    rw[List.foldl_cons,LA];have e:x∈Ey s t↔x∈s∨(t.kind=2∧x=t.set):=by
      unfold Ey;split
      · rename_i h
        simp[h.1]
      · rename_i h
        constructor
        · exact .inl
        · rintro (h1|⟨h1,rfl⟩)
          · exact h1
          · exact Classical.byContradiction λh2=>h ⟨h1,h2⟩
    rw[e];constructor
    · rintro ((h|h)|⟨u,hu,h⟩)
      · exact .inl h
      · exact .inr ⟨t,qP,h⟩
      · exact .inr ⟨u,by simp[hu],h⟩
    · rintro (h|⟨u,hu,h⟩)
      · exact .inl (.inl h)
      · rcases List.mem_cons.1 hu with rfl|hu
        · exact .inl (.inr h)
        · exact .inr ⟨u,hu,h⟩
theorem LB:∀(l:List Re) (s:List (List Sp)),(l.foldl Ey s).length<=s.length+l.length
 | [],s=>qP
 | t::l,s=>by
  have h:=LB l (Ey s t);have h2:(Ey s t).length<=s.length+1:=by
   unfold Ey;split
   .simp
   .omega
  rw[List.foldl_cons,List.length_cons];omega
mutual
theorem Oq {P:List Sp->Prop}:∀{t:Re},(∀u∈FA t,u.kind=2->P u.set)->Hw P t
 | .mk k s a m x g,h=>by
  rw[Jv] at h;exact ⟨h (.mk k s a m x g) qP,ML λu b=>h u (by simp only[List.mem_cons];exact .inr b)⟩
theorem ML {P:List Sp->Prop}:∀{ts:List Re},(∀u∈DX ts,u.kind=2->P u.set)->Jl P ts
 | [],_=>trivial
 | t::ts,h=>by
  simp only[DX,List.mem_append] at h;exact ⟨Oq λu a=>h u (.inl a),ML λu a=>h u (.inr a)⟩
end
mutual
theorem Ny {P:List Sp->Prop}:∀{t:Re},Hw P t->∀u∈FA t,u.kind=2->P u.set
 | .mk k s a m x g,h,u,b=>by
  rw[Jv] at b;rcases List.mem_cons.1 b with rfl|b
  .exact h.1
  .exact Lm h.2 u b
theorem Lm {P:List Sp->Prop}:∀{ts:List Re},Jl P ts->∀u∈DX ts,u.kind=2->P u.set
 | [],_,u,a=>by simp[DX] at a
 | t::ts,h,u,a=>by
  simp only[DX,List.mem_append] at a;rcases a with a|a
  .exact Ny h.1 u a
  .exact Lm h.2 u a
end
theorem R1 {P:List Sp->Prop} {t:Re} (h:∀s∈CM t,P s):Hw P t:=
 Oq λu b a=>h u.set (LA.2 (.inr ⟨u,b,a,O⟩))
theorem Iv {P:List Sp->Prop} {t:Re} (h:Hw P t):∀s∈CM t,P s:=λs hs=>by
 rcases LA.1 hs with b|⟨u,c,a,rfl⟩
 .cases b
 .exact Ny h u c a
theorem J_ (t:Re):(CM t).length<=t.size:=by
 have:=LB (FA t) [];rw[FT] at this;simpa[CM] using this
theorem TX:∀(l:List (Int×Int)) (p:Option Int),Df p l=0->∀s∈l,C_ s:=by
 intro l
 induction l with
 | nil=>simp
 | cons a l ih=>
  intro p h s hs;rw[Cm] at h;by_cases b:EA a=false
  .rw[if_pos b] at h;simp at h
  rw[if_neg b] at h;have c:Df (some a.2) l=0:=by
   split at h
   .split at h
    .simp at h
    .exact h
   .simpa using h
  rcases List.mem_cons.1 hs with rfl|hs
  .simp[EA] at b;exact ⟨qO,qO,qO⟩
  .exact ih _ c s hs
theorem K5 {s:List Sp} (h:A7 s=0):(∀p∈s,C_ p)∧s.length<=16:=by
 unfold A7 at h;split at h
 .cases h
 .exact ⟨TX _ _ h,qO⟩
theorem IJ:∀{ll:List (List Sp)},(∀l∈ll,A7 l=0)->Gi ll=0
 | [],_=>rfl
 | l::ll,h=>by
  unfold Gi;rw[if_neg (by simp[h l qP])];exact IJ λx a=>h x (by simp[a])
theorem PV {ll:List (List Sp)} (h:∀l∈ll,A7 l=0):∀s∈ll.flatten,C_ s:=λs hs=>by
 obtain ⟨l,b,a⟩:=List.mem_flatten.1 hs;exact (K5 (h l b)).1 s a
theorem Sw {ll:List (List Sp)} (h:∀l∈ll,A7 l=0):ll.flatten.length<=16*ll.length:=by
 induction ll with
 | nil=>simp
 | cons l ll ih=>
  have h1:=(K5 (h l qP)).2;have h2:=ih λx a=>h x (by simp[a]);rw[List.flatten_cons,List.length_append,List.length_cons];omega
theorem Uy {ll cs:List (List Sp)} {c:Int} (h:LN ll cs) (d:∀s∈ll.flatten,C_ s) (g:0<=c) (i:c<=1114111):∃cl∈cs,∀s∈ll,BY s c=BY s (BK cl):=by
 have f:=h.parted d;have h2:=f.part c g i;obtain ⟨cl,e,b⟩:=List.countP_pos_iff.1 (show 0<cs.countP λl=>BY l c by omega);obtain ⟨k,j⟩:=List.mem_iff_getElem?.1 e;have a:=(f.mark k cl c j g i).1 b;refine ⟨cl,e,λs hs=>?_⟩;unfold Ay at a;exact List.map_inj_left.1 a s hs
theorem TR {ll cs:List (List Sp)} (h:LN ll cs) (a:∀s∈ll.flatten,C_ s):∀cl∈cs,cl≠[]∧0<=BK cl∧BK cl<=1114111:=λcl b=>by
 have c:=h.parted a;obtain ⟨k,d⟩:=List.mem_iff_getElem?.1 b;have e:=(c.heads k (AI d)).1;rw[List.getD_eq_getElem?_getD,d] at e;exact ⟨e,c.low cl b⟩
end Go.Proofs
namespace Go.Proofs
open Go Go.Eng Go.Sort
set_option maxRecDepth 100000
theorem G0:∀{ll:List (List Sp)} {k:Nat} {l:List Sp},(∀x∈ll.take k,A7 x=0)->ll[k]?=some l->A7 l≠0->Gi ll=A7 l
 | [],_,_,_,h,_=>by simp at h
 | x::ll,0,l,_,h,hc=>by simp at h;subst h;unfold Gi;rw[if_pos hc]
 | x::ll,k+1,l,hz,h,hc=>by
  unfold Gi;rw[if_neg (by simpa using hz x qP)];exact G0 (k:=k) (λy a=>hz y (by simp[a])) (by simpa using h) hc
theorem Ej:∀{ll:List (List Sp)},(∀x∈ll,A7 x=0)->Gi ll=0
 | [],_=>rfl
 | x::ll,h=>by
  unfold Gi;rw[if_neg (by simpa using h x qP)];exact Ej λy a=>h y (by simp[a])
theorem SK {w:World} {base e size n c:Nat} {a:Option Addr} {xs:List Value} (h:w.ownsRow base e size (.slice a n c) n xs):n<=c∧c<=9223372036854775807:=by
 rcases h.2 with ⟨i,h0⟩|⟨g,cap,cur,f,_,_,d,b,_⟩
 .simp only[Value.slice.injEq] at i;omega
 .simp only[Value.slice.injEq] at f;obtain ⟨_,_,rfl⟩:=f;exact ⟨d,b⟩
def Ty (w:World) (r:Value) (out:List (List Sp)) (e:Int):Prop:=∃a c,r=.tuple #[.slice a out.length c,.int .i64 e]∧Bg w (.slice a out.length c) out
theorem Eu (w:World):Bg w (.slice none 0 0) []:=⟨[],BL.nil _ _ _ _,O,λi u l h=>by simp at h⟩
theorem R9 {ll:List (List Sp)} {i:Nat} {l:List Sp} (h:ll[i]?=some l):Jm (ll.take (i+1)).flatten=Jm (ll.take i).flatten++l.flatMap λs=>[s.1,s.2+1]:=by
 rw[Cx h];unfold Jm;rw[List.flatMap_append,List.cons_append]
theorem R_ {l:List Sp} {j:Nat} {s:Sp} (h:l[j]?=some s):(l.take (j+1)).flatMap (λs=>[s.1,s.2+1])=(l.take j).flatMap (λs=>[s.1,s.2+1])++[s.1,s.2+1]:=by
 rw[CP h,List.flatMap_append];simp
theorem TM {p q:List Int} {i:Nat} {c:Int} (d:q=p∨q=p++[1114112]) (a:q[i]?=some c) (hb:∀x∈p,x<=1114111):(c<=1114111->p[i]?=some c)∧(1114111<c->p.length<=i):=by
 rcases d with rfl|rfl
 .exact ⟨λ_=>a,λh=>absurd (hb c (List.mem_of_getElem? a)) qO⟩
 .rcases Nat.lt_or_ge i p.length with b|b
  .rw[List.getElem?_append_left b] at a;exact ⟨λ_=>a,λh=>absurd (hb c (List.mem_of_getElem? a)) qO⟩
  .rw[List.getElem?_append_right b] at a;have e:=AI a;simp at e;rw[show i - p.length=0 by omega] at a;simp at a;exact ⟨λh=>qO,λ_=>b⟩
theorem QQ {p q:List Int} (a:q=p∨q=p++[1114112]):p.length<=q.length∧q.length<=p.length+1:=by
 rcases a with rfl|rfl<;>simp
theorem TK {p q:List Int} {i:Nat} {c:Int} (d:q=p∨q=p++[1114112]) (hi:i<=p.length) (a:q[i]?=some c):nx p i=c:=by
 unfold nx;rcases d with rfl|rfl
 .rw[a];rfl
 .rcases Nat.lt_or_ge i p.length with b|b
  .rw[List.getElem?_append_left b] at a;rw[a];rfl
  .rw[List.getElem?_append_right b] at a;rw[show i - p.length=0 by omega] at a;simp at a;rw[List.getElem?_eq_none b];simpa using a
theorem TL {p q:List Int} {i:Nat} (a:q=p∨q=p++[1114112]) (hi:q.length<=i):nx p i=1114112:=by
 have:=QQ a;unfold nx;rw[List.getElem?_eq_none qO];rfl
theorem CSt.on {w:World} {base n:Nat} {b:Value} {vs:List Value} {a:List (List Sp)} (h:CSt w base b vs a) (c:n=a.length):w.ownsRow base M_ 1 b n vs:=by subst c;exact h.o
theorem Ru {a:List (List Sp)} {c:List (List Bool)} {m:List Bool} (hl:a.length=c.length) (f:m∉c):∀(j:Nat) q,(a++[[]])[j]?=some q->a[j]?=some q∨(j=c.length∧q=[]∧m∉c):=by
 intro j q b;rcases Nat.lt_or_ge j a.length with d|d
 .left;rwa [List.getElem?_append_left d] at b
 .right;rw[List.getElem?_append_right d] at b;have e:=AI b;simp at e;rw[show j - a.length=0 by omega] at b;simp at b;exact ⟨qO,by simp[b],f⟩
theorem Rv {vs:List Value} {z:Nat} (h:∀(i:Nat) v b,vs[i]?=some v->v.ownBlock=some b->b<z):∀(i:Nat) v b,(vs++[.slice none 0 0])[i]?=some v->v.ownBlock=some b->b<z:=by
 intro i v b a hb;rcases Nat.lt_or_ge i vs.length with c|c
 .rw[List.getElem?_append_left c] at a;exact h i v b a hb
 .rw[List.getElem?_append_right c] at a;have d:=AI a;simp at d;rw[show i - vs.length=0 by omega] at a;simp at a;subst a;cases hb
def Dm (ll:List (List Sp)) (c:Int) (e:Nat):List Int:=(Ay (ll.take e) c).map M6++List.replicate (ll.length - e) 0
theorem OM (ll:List (List Sp)) (c:Int):Dm ll c 0=List.replicate ll.length 0:=by simp[Dm,Ay]
theorem PI {ll:List (List Sp)} {c:Int} {e:Nat} (h:e<=ll.length):(Dm ll c e).length=ll.length:=by
 simp[Dm,Ay];omega
theorem ON {ll:List (List Sp)} {c:Int} {e:Nat} {l:List Sp} (h:ll[e]?=some l):Dm ll c (e+1)=(Dm ll c e).set e (M6 (BY l c)):=by
 have hl:=AI h;unfold Dm Ay;rw[CP h,show ll.length - e=(ll.length - (e+1))+1 by omega,List.replicate_succ,List.map_append,List.map_append,List.append_assoc];have a:(((ll.take e).map λl=>BY l c).map M6).length=e:=by simp;omega
 rw[List.set_append_right _ _ qO,a,Nat.sub_self];simp
theorem OO {ll:List (List Sp)} {c:Int} {e:Nat} {l:List Sp} (h:ll[e]?=some l) (hi:BY l c=false):Dm ll c (e+1)=Dm ll c e:=by
 have hl:=AI h;unfold Dm Ay;rw[CP h,show ll.length - e=(ll.length - (e+1))+1 by omega,List.replicate_succ,List.map_append,List.map_append,List.append_assoc];simp[hi,M6]
theorem PJ (ll:List (List Sp)) (c:Int):Dm ll c ll.length=(Ay ll c).map M6:=by simp[Dm]
theorem Uv (a:World) (g c n:Nat) (l q:List Int) (e:Sort.Holds (Value.int .i64) a g 0 l.toArray) (f:l.length<=c∧c<=9223372036854775807) (b:l.length=n) (d:q=Lib.compact l) :
 CJ prog 82 #[.slice (some ⟨g,0,none⟩) n c] a λr w=>r=.slice (some ⟨g,0,none⟩) q.length c∧CF w r q∧Chg (λx=>x=g) a w:=by
 subst b;subst d;exact Uw a g c l e f
theorem U0 (w0:World) (v:Value) (ll:List (List Sp)) (h:Bg w0 v ll) (hL:ll.flatten.length≤1048576) (hL2:ll.length≤1048576) :
  CJ prog 103 #[v] w0 fun r w=>(∃out e,M0 ll out e∧Ty w r out e)∧Ao w0 w:=by
 obtain ⟨a,c,rfl,_,hle⟩:=h.form;obtain ⟨base,d9⟩:∃base,base=w0.heap.size:=⟨_,rfl⟩;refine qR func103 rfl ntmps103 rfl (fun E=>(Y (qA _ rfl (qA _ rfl (AA (AE (Y (qM _ rfl (qV (AH underlying49 rfl) (qM _ rfl (AA (AM (Am (fun nn_ σ W1=>∃(k:Nat),(∃jj_,σ=BQ jj_ [(0,(.slice a ll.length c)),(23,(.slice a ll.length c)),(24,(I6 (ll.length:Int))),(25,(I6 (k:Int)))])∧Chg AZ w0 W1∧(k≤ll.length)∧(∀l∈ll.take k,A7 l=0)∧nn_=ll.length - k) (n:=ll.length - 0) ?_ ?_)))))))))))))
 ·exact ⟨0,Af.out ⟨rfl,rfl,rfl,rfl,trivial⟩,E,Nat.zero_le _,qP,rfl⟩
 ·clear E;rintro _ _ W1 ⟨k,⟨j1,rfl⟩,E,hk,hz,rfl⟩;refine Y (qV (Av rfl rfl) (AA (AE (qC rfl (fun et=>?_) (fun et=>?_)))))
  ·obtain ⟨l,hx⟩:=AL (l:=ll) (i:=k) qO;obtain ⟨b,o,rfl,b0⟩:=CD h qO;obtain ⟨ra,rc,af,aw⟩:=b0 k l hx;refine AK (AB (AE (AM (Y (qV (AC (b:=b) (o:=o) (len:=ll.length) (cap:=c) (i:=k) (o':=o+k) rfl rfl rfl underlying49 BW qO qO) (qV (AD rfl CC (E.cell (fun f=>f) af)) (qA _ rfl (AA (Y (qM _ rfl (qE rfl (AT func44 kQ kQ rfl) (KD _ _ l (aw.ext E)) ?_)))))))))));rintro _ w9 ⟨rfl,X9⟩;replace E:=E.ext X9;refine qA _ rfl (AA (Y (qM _ rfl (qV (CO rfl rfl) (AA (qC rfl (fun hc=>?_) (fun hc=>?_)))))))
   ·refine Y (qM _ rfl (qA _ rfl (qA _ rfl (AA (AS (Ag (AO (AO (Ag (AO (Cl results103 (v:=(.slice none 0 0)) (v':=(.int .i64 (A7 l))) rfl rfl ?_)))))))))));exact ⟨⟨[],A7 l,.inl ⟨by rw[G0 hz hx hc];exact hc,(G0 hz hx hc).symm,rfl⟩,none,0,rfl,Eu _⟩,E⟩
   ·refine AK (AP (AB (AG (qV (Aq rfl rfl (A2 qO)) (qM _ rfl (AA (AB ?_)))))));exact ⟨ll.length - (k+1),qO,k+1,Af.out ⟨rfl,rfl,rfl,rfl,trivial⟩,E,qO,(fun y hy=>by rw[CP hx] at hy;rcases List.mem_append.1 hy with h1|h1;exact hz y h1;rw[List.mem_singleton] at h1;subst h1;omega),rfl⟩
  ·have ff:k=ll.length:=qO
   rw[ff,List.take_length] at hz;have bg:=Ej hz;have bb:∀s∈ll.flatten,C_ s:=fun s hs=>by obtain ⟨l,hl,hs⟩:=List.mem_flatten.1 hs;exact (CE (hz l hl)).1.ok s hs
   refine Ak (AR (AR (Ae (AB (Y (Ad (ps:=[(0,(I6 0))]) (c:=#[(I6 0)]) qD rfl underlying22 Ab CW qD qD qK ?_))))));intro bq wq Nq;have Fq:=Nq.ge E;replace E:=E.ext Nq.ext;have Bq:=Nq.blk;refine qA _ rfl (AA (AE (Y (qM _ rfl (qV (AH underlying49 rfl) (qM _ rfl (AA (AM ?_))))))));have cb:=KN (base:=base) Bq qO;have c6:base≤wq.heap.size:=by have:=E.size;omega
   refine Am (fun nn_ σ W4=>∃(i:Nat) (la:Option Addr) (lc:Nat) (n:Nat) (rs:List Int),(∃jj_,σ=BQ jj_ [(0,(.slice a ll.length c)),(36,(.slice a ll.length c)),(37,(I6 (ll.length:Int))),(38,(I6 (i:Int))),(7,(.slice la n lc))])∧Chg AZ w0 W4∧(i≤ll.length)∧(rs=Jm (ll.take i).flatten)∧(n=rs.length)∧(W4.ownsRow base RP 1 (.slice la n lc) n (rs.map (Value.int .i64)))∧(base≤W4.heap.size)∧nn_=ll.length - i) (n:=ll.length - 0) ?_ ?_
   ·exact ⟨0,some ⟨bq,0,none⟩,1,1,[0],Af.out ⟨rfl,rfl,rfl,rfl,rfl,trivial⟩,E,Nat.zero_le _,rfl,rfl,cb,c6,rfl⟩
   ·clear E;rintro _ _ W4 ⟨i,la,lc,n,rs,⟨j4,rfl⟩,E,hi,bu,hn,aj,fg,rfl⟩;refine Y (qV (Av rfl rfl) (AA (AE (qC rfl (fun c4=>?_) (fun c4=>?_)))))
    ·obtain ⟨l,hx⟩:=AL (l:=ll) (i:=i) qO;obtain ⟨b,o,rfl,b0⟩:=CD h qO;obtain ⟨ra,rc,af,aw⟩:=b0 i l hx;have eo:=Jx ll (i+1);rw[Cx hx,List.length_append] at eo;have df:=KG (ll.take i).flatten;rw[←bu] at df;refine AK (AB (AE (AM (Y (qV (AC (b:=b) (o:=o) (len:=ll.length) (cap:=c) (i:=i) (o':=o+i) rfl rfl rfl underlying49 BW qO qO) (qV (AD rfl CC (E.cell (fun f=>f) af)) (qA _ rfl (AA (Y (qM _ rfl (qV (AH underlying37 rfl) (qM _ rfl (AA (AM (Am (fun nn_ σ W6=>∃(j:Nat) (cg:Option Addr) (b6:Nat) (n2:Nat),(∃jj_,σ=BQ jj_ [(0,(.slice (some ⟨b,o,none⟩) ll.length c)),(36,(.slice (some ⟨b,o,none⟩) ll.length c)),(37,(I6 (ll.length:Int))),(38,(I6 (i:Int))),(42,(.slice ra l.length rc)),(43,(I6 (l.length:Int))),(44,(I6 (j:Int))),(7,(.slice cg n2 b6))])∧Chg AZ w0 W6∧(j≤l.length)∧(n2=rs.length+2*j)∧(W6.ownsRow base RP 1 (.slice cg n2 b6) n2 ((rs++(l.take j).flatMap fun s=>[s.1,s.2+1]).map (Value.int .i64)))∧(base≤W6.heap.size)∧nn_=l.length - j) (n:=l.length - 0) ?_ ?_)))))))))))))))
     ·exact ⟨0,la,lc,n,Af.out ⟨rfl,rfl,rfl,rfl,rfl,rfl,rfl,rfl,trivial⟩,E,Nat.zero_le _,qO,(by simpa using aj),fg,rfl⟩
     ·clear E;rintro _ _ W6 ⟨j,cg,b6,n2,⟨j6,rfl⟩,E,hj,hn2,ac,ai,rfl⟩;refine Y (qV (Av rfl rfl) (AA (AE (qC rfl (fun dk=>?_) (fun dk=>?_)))))
      ·obtain ⟨s,hs⟩:=AL (l:=l) (i:=j) qO;obtain ⟨sb,so,rfl,e5⟩:=BH aw qO;have ey:=bb s (List.mem_flatten.2 ⟨l,List.mem_of_getElem? hx,List.mem_of_getElem? hs⟩);unfold C_ at ey;have d6:=ac;refine AK (AB (AE (AM (Y (qV (AC (b:=sb) (o:=so) (len:=l.length) (cap:=rc) (i:=j) (o':=so+j*2) rfl rfl rfl underlying37 BA qO qO) (qV (AU rfl EM BA rfl ((e5 j s hs).ext E)) (Au (v:=(.agg #[(I6 s.1),(I6 s.2)])) (c:=#[(I6 s.1),(I6 s.2)]) (n:=2) qD C8 rfl BA rfl rfl rfl qS ?_)))))));intro bt wt Nt;have Ft:=Nt.ge E;replace ac:=Aj ac Nt.ext;replace ai:=Nat.le_trans ai Nt.ext.size;replace E:=E.ext Nt.ext;have Bt:=Nt.blk;refine AA (AG (qM _ rfl (qF bt 0 0 rfl underlying74 rfl Ab rfl (qV (AD rfl Aa (Bt.cell rfl)) (qF bt 0 1 rfl underlying74 rfl Ab rfl (qV (AD rfl Aa (Bt.cell rfl)) (qV (Aq rfl rfl (A2 qO)) (Ad (ps:=[(0,(I6 s.1)),(1,(I6 (s.2+1)))]) (c:=#[(I6 s.1),(I6 (s.2+1))]) qD rfl underlying22 Ab CW qD qD qK ?_))))))));intro b8 w8 N8;have F8:=N8.ge E;have O8_bt:=N8.lt Bt;replace Bt:=N8.keep Bt;replace ac:=Aj ac N8.ext;replace ai:=Nat.le_trans ai N8.ext.size;replace E:=E.ext N8.ext;have B8:=N8.blk;refine BT (base:=base) (n:=n2) (m:=2) (xs:=((rs++(l.take j).flatMap fun s=>[s.1,s.2+1]).map (Value.int .i64))) (news:=[(I6 s.1),(I6 (s.2+1))]) (size:=1) (bytes:=8) (v:=(.slice cg n2 b6)) qD underlying22 Ab GO CW rfl qD rfl ac rfl (rfl) (B8.cells rfl) qS (by unfold maxLen;omega) qO (ai) ?_;intro v9 fp dz ec Dv9;replace E:=E.step ec (fun x hx h=>absurd (ac.lt x h).1 qO);obtain ⟨em,fj,rfl⟩:=A9 dz;refine qA _ rfl (AA (AP (AB (AG (qV (Aq rfl rfl (A2 qO)) (qM _ rfl (AA (AB ?_))))))));exact ⟨l.length - (j+1),qO,j+1,em,fj,n2+2,Af.out ⟨rfl,rfl,rfl,rfl,rfl,rfl,rfl,rfl,trivial⟩,E,qO,qO,(by rw[R_ hs,←List.append_assoc];simpa using dz),Nat.le_trans ai ec.size,rfl⟩
      ·have e4:j=l.length:=qO
       rw[e4,List.take_length] at ac;refine Ak (AR (AR (Ae (AP (AB (AG (qV (Aq rfl rfl (A2 qO)) (qM _ rfl (AA (AB ?_))))))))));exact ⟨ll.length - (i+1),qO,i+1,cg,b6,n2,Jm (ll.take (i+1)).flatten,Af.out ⟨rfl,rfl,rfl,rfl,rfl,trivial⟩,E,qO,rfl,(by rw[KG,Cx hx,List.length_append];omega),(by rw[R9 hx,←bu];exact ac),ai,rfl⟩
    ·have e7:i=ll.length:=qO
     rw[e7,List.take_length] at bu;have df:=KG ll.flatten;rw[←bu] at df;obtain ⟨d5,dy⟩:n≤lc∧lc≤9223372036854775807:=SK aj;obtain ⟨g,rfl,hgb,hgc⟩:=Bj aj qO;have hgl:=aj.lt g rfl;obtain ⟨q,hq⟩:∃q,q=Lib.compact (rs.mergeSort KY):=⟨_,rfl⟩;obtain ⟨fd,d3⟩:q.Pairwise (· < ·)∧∀x,x∈q↔x∈Jm ll.flatten:=by rw[hq,←bu];exact K3 rs
     obtain ⟨p,hP,cc⟩:=TI bb fd d3;subst hn;refine Ak (AR (AR (Ae (AB (Y (qM _ rfl (qE rfl (AT func81 kQ kQ rfl) (UF _ base g lc rs aj qO) ?_)))))));rintro _ w31 ⟨rfl,fq,ea⟩;replace E:=E.step ea (fun x hx hm=>absurd (aj.lt g rfl).1 qO);refine AA (Y (qM _ rfl (qE rfl (AT func82 kQ kQ rfl) (Uv _ g lc rs.length (rs.mergeSort KY) q fq (by simp;omega) qP hq) ?_)));rintro _ ex ⟨rfl,eg,d7⟩;replace E:=E.step d7 (fun x hx hm=>absurd (aj.lt g rfl).1 qO);refine qA _ rfl (AA (Y (qA _ rfl (AA (Y (Eg G9 DJ qD ?_))))));intro bm wm Nm;have Fm:=Nm.ge E;replace E:=E.ext Nm.ext;intro Mm;refine qA _ rfl (AA (AE (Y (qM _ rfl (qV (AH underlying22 rfl) (qM _ rfl (AA (AM ?_))))))));obtain ⟨n1,e8⟩:∃n,n=wm.heap.size:=⟨_,rfl⟩;have ew:G1 (fun b=>b=g) wm 1 (.slice (some ⟨g,0,none⟩) q.length lc) (q.map Jp):=G1.mk (eg.ext Nm.ext) rfl;have e2:bm<n1:=by have:=Mm.lt;omega
     have fs:g<bm:=by have:=d7.size;have:=ea.size;have:=Nm.eq;omega
     have ek:w0.heap.size≤n1:=by have:=E.size;omega
     have dx:∀x∈p,x≤1114111:=fun x hx=>(Cg hP bb hx).2;have hpl:p.length≤1114112:=Jw hP.1 (fun x hx=>Cg hP bb hx);have hql:=QQ cc;have fr:∀x∈q,0≤x∧x≤1114112:=fun x hx=>by rcases KF.1 ((d3 x).1 hx) with h1|⟨s,hs,h1⟩;omega;have:=bb s hs;unfold C_ at this;omega
     refine Am (fun nn_ σ W9=>∃(i2:Nat) (ks:List (List Bool)) (aa:List (List Sp)) (vs:List Value) (oa:Option Addr) (oc:Nat) (on:Nat),(∃jj_,σ=BQ jj_ [(0,(.slice a ll.length c)),(7,(.slice (some ⟨g,0,none⟩) q.length lc)),(13,(.map (some bm))),(63,(.slice (some ⟨g,0,none⟩) q.length lc)),(64,(I6 (q.length:Int))),(65,(I6 (i2:Int))),(12,(.slice oa on oc))])∧Chg AZ w0 W9∧BZ W9 bm G9 DJ (EK ks 0)∧(GInv ll p i2 ks aa)∧(i2≤p.length)∧(CSt W9 n1 (.slice oa on oc) vs aa)∧(on=aa.length)∧(G1 (fun b=>b=g) W9 1 (.slice (some ⟨g,0,none⟩) q.length lc) (q.map Jp))∧(n1≤W9.heap.size)∧nn_=p.length - i2) (n:=p.length - 0) ?_ ?_
     ·exact ⟨0,[],[],[],none,0,0,Af.out ⟨rfl,rfl,rfl,rfl,rfl,rfl,rfl,trivial⟩,E,Mm,GInv.start hP bb,Nat.zero_le _,CSt.start _ _,rfl,ew,qO,rfl⟩
     ·clear E Mm;rintro _ _ W9 ⟨i2,ks,aa,vs,oa,oc,on,⟨j9,rfl⟩,E,Mm,hG,hi2,hC,au,hI,cu,rfl⟩;refine Y (qV (Av rfl rfl) (AA (AE (qC rfl (fun cw=>?_) (fun cw=>?_)))))
      ·obtain ⟨c1,cz⟩:=AL (l:=q) (i:=i2) qO;obtain ⟨qb,qo,br,ep⟩:=BF (l:=q) hI.at qO;simp only[Option.some.injEq,Addr.mk.injEq,and_true] at br;obtain ⟨rfl,rfl⟩:=br;refine AK (AB (AE (AM (Y (qM _ rfl (qV (AC (b:=g) (o:=0) (len:=q.length) (cap:=lc) (i:=i2) (o':=0+i2) rfl rfl rfl underlying22 Ab qO qO) (qV (AD rfl Aa (ep i2 c1 cz)) (qA _ rfl (qA _ rfl (AA (AE (Y (qM _ rfl (qV (CH rfl rfl) (AA (qC rfl (fun bp=>?_) (fun bp=>?_)))))))))))))))))
       ·have ct:i2=p.length:=by have:=(TM cc cz dx).2 bp;omega
        have a1:=hG;rw[ct] at a1;have dj:=hC.join;have ce:=hG.cnt;have dd:=hG.len;refine Ak (AR (Q6 qD (AR (AR (Ae (AB (AE (Y (qM _ rfl (qV (AH underlying49 rfl) (qM _ rfl (AA (AM (Am (fun nn_ σ ck=>∃(k3:Nat) (cs:List (List Sp)) (us:List Value),(∃jj_,σ=BQ jj_ [(12,(.slice oa on oc)),(133,(I6 (on:Int))),(134,(I6 (k3:Int)))])∧Chg AZ w0 ck∧(k3≤aa.length)∧(JSt ck n1 (.slice oa on oc) us aa cs k3)∧(∀c∈cs,c.length≤16)∧(n1≤ck.heap.size)∧nn_=aa.length - k3) (n:=aa.length - 0) ?_ ?_))))))))))))))
        ·exact ⟨0,[],vs,Af.out ⟨rfl,rfl,rfl,trivial⟩,E,Nat.zero_le _,dj,qP,cu,rfl⟩
        ·clear E;rintro _ _ ck ⟨k3,cs,us,⟨j12,rfl⟩,E,ft,hJ,ca,er,rfl⟩;refine Y (qV (Av rfl rfl) (AA (AE (qC rfl (fun a6=>?_) (fun a6=>?_)))))
         ·obtain ⟨o1,ag⟩:=AL (l:=aa) (i:=k3) qO;obtain ⟨u1,bz⟩:=AL (l:=us) (i:=k3) (by have:=hJ.len;omega);obtain ⟨⟨ua,uc,rfl⟩,c3⟩:=hJ.rst k3 u1 o1 (Nat.le_refl _) bz ag;have ar:=hJ.o;rw[←au] at ar;obtain ⟨gg,rfl,ee,dq⟩:=Bj ar qO;have a3:=ar.lt gg rfl;have c2:=(a1.ok k3 o1 ag);refine AK (AB (AE (AM (Y (qM _ rfl (qA _ rfl (AA (Y (qM _ rfl (qM _ rfl (qM _ rfl (qM _ rfl (qV (AC (b:=gg) (o:=0) (len:=on) (cap:=oc) (i:=k3) (o':=0+k3) rfl rfl rfl underlying49 BW qO qO) (qV (AD (v:=(.slice ua o1.length uc)) rfl CC ((by have h1:=(ar.cells (g:=gg) rfl) k3 _ bz;rwa [Addr.add_lit] at h1))) (qE rfl (AT func131 kQ kQ rfl) (PP _ _ o1 c3.at qO c2.1) ?_)))))))))))))));rintro _ fa ⟨⟨j1,b2,⟨⟨ja,jc,rfl⟩,dr⟩⟩,a0⟩;replace E:=E.ext a0;obtain ⟨bv,al,d8⟩:=IX (Aj ar a0);refine qV (AC (b:=gg) (o:=0) (len:=on) (cap:=oc) (i:=k3) (o':=0+k3) rfl rfl rfl underlying49 BW qO qO) ?_;have av:=al;have ay:True:=trivial;refine BB (b:=gg) (o:=0+k3) (c':=bv.setIfInBounds (0+k3) (.slice ja j1.length jc)) (v:=(.slice ja j1.length jc)) rfl rfl rfl BW al qO (rfl) ?_;intro w14 cr;replace ay:=cr;replace E:=cr.step E qQ;replace al:=cr.blk;refine AA (Y (qM _ rfl (qM _ rfl (qV (AC (b:=gg) (o:=0) (len:=on) (cap:=oc) (i:=k3) (o':=0+k3) rfl rfl rfl underlying49 BW qO qO) (qV (AD rfl CC (al.cell (by rw[Array.getElem?_setIfInBounds_self_of_lt qO]))) ?_)))));refine qV (AH underlying37 rfl) (qV (CH rfl rfl) (AA (qC rfl (fun dc=>?_) (fun dc=>?_))))
          ·refine Y (qA _ rfl (qA _ rfl (AA (AS (Ag (AO (AO (Ag (AO (Cl results103 (v:=(.slice none 0 0)) (v':=(.int .i64 2)) rfl rfl ?_))))))))));obtain ⟨cF,c9,db⟩:=MF a1 hP ag b2 qO;exact ⟨⟨[],2,.inr ⟨bg,cF,c9,.inl ⟨db,rfl,rfl⟩⟩,none,0,rfl,Eu _⟩,E⟩
          ·refine AK (AP (AB (AG (qV (Aq rfl rfl (A2 qO)) (qM _ rfl (AA (AB ?_)))))));exact ⟨aa.length - (k3+1),qO,k3+1,cs++[j1],us.set k3 (.slice ja j1.length jc),Af.out ⟨rfl,rfl,rfl,trivial⟩,E,qO,(by have hS:=JSt.step (hJ.ext a0) au ag (⟨⟨_,_,rfl⟩,dr⟩:GD _ _ _ j1) a3.2 b2 av (by simpa using ay);exact hS),(fun c hc=>by rcases List.mem_append.1 hc with h1|h1;exact ca c h1;rw[List.mem_singleton] at h1;subst h1;omega),(by have:=a0.size;have:=ay.chg.size;omega),rfl⟩
         ·have ah:k3=aa.length:=qO
          have aq:=a1.done hP (by rw[hJ.cl,ah]) hJ.jn;have aw:=hJ.done ah;have ax:cs.length=on:=by rw[hJ.cl,ah,au]
          refine Ak (AR (AR (Ae (AB (AE (Y (qM _ rfl (qV (AH underlying49 rfl) (qV (CH rfl rfl) (AA (qC rfl (fun bc=>?_) (fun bc=>?_))))))))))))
          ·refine Y (qA _ rfl (qA _ rfl (AA (AS (AO (Cl results103 (v:=(.slice none 0 0)) (v':=(.int .i64 2)) rfl rfl ?_))))));exact ⟨⟨[],2,.inr ⟨bg,cs,aq,.inl ⟨.inr qO,rfl,rfl⟩⟩,none,0,rfl,Eu _⟩,E⟩
          ·refine AK (AB (Y (qM _ rfl (qA _ rfl (qA _ rfl (AA (AS (Cl results103 (v:=(.slice oa on oc)) (v':=(.int .i64 0)) rfl rfl ?_))))))));rw[←ax] at aw;exact ⟨⟨cs,0,.inr ⟨bg,cs,aq,.inr ⟨fun du=>by rcases du with ⟨c,h1,h2⟩|h2;have:=ca c h1;omega;omega,rfl,rfl⟩⟩,oa,oc,by rw[ax],aw⟩,E⟩
       ·have E6:Chg AZ W9 W9:=Chg.refl _ _;obtain ⟨z0,fo⟩:∃z0,z0=(W9).heap.size:=⟨_,rfl⟩;have b7:∀(i:Nat) v b,vs[i]?=some v→v.ownBlock=some b→b<z0:=fun i v b hv hb=>by obtain ⟨l,hl⟩:=hC.some hv;have:=((hC.inn i v l hv hl).lt b hb).2;omega
        have ed:=(TM cc cz dx).1 qO;have hlp:=AI ed;refine AK (AB (Y (qM _ rfl (qV (BU (ps:=[(0,(I6 c1)),(1,(I6 1114111))]) (v:=(.agg #[(I6 c1),(I6 1114111)])) rfl qK) (Au (v:=(.agg #[(I6 c1),(I6 1114111)])) (c:=#[(I6 c1),(I6 1114111)]) (n:=2) qD C8 rfl BA rfl rfl rfl qS ?_)))));intro bx wx Nx;have Fx:=Nx.ge E;have Fx_E6:=Nx.ge E6;have Ox_bm:=Nx.ltM Mm;replace Mm:=Nx.keepM Mm;replace E:=E.ext Nx.ext;have Bx:=Nx.blk;replace E6:=E6.ext Nx.ext;refine AA (GR (fun σ ch=>∃(hi:Int),(∃jj_,σ=BQ jj_ [(0,(.slice a ll.length c)),(7,(.slice (some ⟨g,0,none⟩) q.length lc)),(12,(.slice oa on oc)),(13,(.map (some bm))),(15,(I6 c1)),(16,(P6 bx 0)),(63,(.slice (some ⟨g,0,none⟩) q.length lc)),(64,(I6 (q.length:Int))),(65,(I6 (i2:Int)))])∧Chg AZ w0 ch∧Chg AZ W9 ch∧BZ ch bm G9 DJ (EK ks 0)∧Az ch bx (#[Value.int .i64 c1,Value.int .i64 hi]) 74∧(hi=nx p (i2+1) - 1)) ?_ ?_)
        ·skip
         refine Y (qM _ rfl (qV (Aq rfl rfl (A2 qO)) (qM _ rfl (qV (AH underlying22 rfl) (qV (Av rfl rfl) (AA (qC rfl (fun fe=>?_) (fun fe=>?_))))))))
         ·obtain ⟨d1,c8⟩:=AL (l:=q) (i:=i2+1) qO;have hdn:=TK cc qO c8;have hdb:=fr d1 (List.mem_of_getElem? c8);refine AG (qM _ rfl (qM _ rfl (qV (Aq rfl rfl (A2 qO)) (qV (AC (b:=g) (o:=0) (len:=q.length) (cap:=lc) (i:=i2+1) (o':=0+(i2+1)) rfl rfl qO underlying22 Ab qO qO) (qV (AD rfl Aa (((hI.chg E6 fun _ _ f=>f).at |> fun hh=>by obtain ⟨qb,qo,d0,fn⟩:=BF (l:=q) hh qO;simp only[Option.some.injEq,Addr.mk.injEq,and_true] at d0;obtain ⟨rfl,rfl⟩:=d0;exact fn (i2+1) d1 c8))) (qV (D3 (k:=.i64) (a:=d1) (b:=1) (c:=d1 - 1) rfl rfl (A2 qO)) (qF bx 0 1 rfl underlying74 rfl Ab rfl (BB (b:=bx) (o:=1) (c':=#[(I6 c1),(I6 (d1 - 1))]) (v:=(I6 (d1 - 1))) rfl rfl rfl Ab Bx qP rfl ?_))))))));intro w19 ci;replace Mm:=ci.keepM qO Mm;replace E:=ci.step E qQ;replace E6:=ci.step E6 (Or.inl qO);replace Bx:=ci.blk;refine AA (AB ?_);exact ⟨d1 - 1,Af.out ⟨rfl,rfl,rfl,rfl,rfl,rfl,rfl,rfl,rfl,trivial⟩,E,E6,Mm,Bx,qO⟩
         ·refine AK (AB ?_);exact ⟨1114111,Af.out ⟨rfl,rfl,rfl,rfl,rfl,rfl,rfl,rfl,rfl,trivial⟩,E,E6,Mm,Bx,(by rw[TL cc qO];rfl)⟩
        ·clear E E6 Mm Bx;rintro _ ch ⟨hi,⟨j17,rfl⟩,E,E6,Mm,Bx,fh⟩;refine Y (qM _ rfl (qV (AH underlying49 rfl) (E8 (n:=ll.length) (z:=(.int .u8 0)) (bytes:=1) qD underlying162 MW WN T3 rfl rfl rfl qO qO ?_)));intro bk wk Nk;have Fk:=Nk.ge E;have Fk_E6:=Nk.ge E6;have Ok_bm:=Nk.ltM Mm;have Ok_bx:=Nk.lt Bx;replace Mm:=Nk.keepM Mm;replace Bx:=Nk.keep Bx;replace E:=E.ext Nk.ext;have Bk:=Nk.blk;replace E6:=E6.ext Nk.ext;refine qA _ rfl (AA (AE (Y (qM _ rfl (qV (AH underlying49 rfl) (qM _ rfl (AA (AM ?_))))))));rw[show (List.replicate ll.length (Value.int .u8 0))=(Dm ll c1 0).map (Value.int .u8) from by rw[OM,List.map_replicate]] at Bk;refine Am (fun nn_ σ bh=>∃(e1:Nat),(∃jj_,σ=BQ jj_ [(0,(.slice a ll.length c)),(7,(.slice (some ⟨g,0,none⟩) q.length lc)),(12,(.slice oa on oc)),(13,(.map (some bm))),(15,(I6 c1)),(16,(P6 bx 0)),(17,(.slice (some ⟨bk,0,none⟩) ll.length ll.length)),(63,(.slice (some ⟨g,0,none⟩) q.length lc)),(64,(I6 (q.length:Int))),(65,(I6 (i2:Int))),(89,(.slice a ll.length c)),(90,(I6 (ll.length:Int))),(91,(I6 (e1:Int)))])∧Chg AZ w0 bh∧Chg AZ W9 bh∧BZ bh bm G9 DJ (EK ks 0)∧Az bh bx #[(I6 c1),(I6 hi)] 74∧Az bh bk (((Dm ll c1 e1).map (Value.int .u8)).toArray) 5∧(e1≤ll.length)∧nn_=ll.length - e1) (n:=ll.length - 0) ?_ ?_
         ·exact ⟨0,Af.out ⟨rfl,rfl,rfl,rfl,rfl,rfl,rfl,rfl,rfl,rfl,rfl,rfl,rfl,trivial⟩,E,E6,Mm,Bx,Bk,Nat.zero_le _,rfl⟩
         ·clear E E6 Mm Bx Bk;rintro _ _ bh ⟨e1,⟨j20,rfl⟩,E,E6,Mm,Bx,Bk,en,rfl⟩;refine Y (qV (Av rfl rfl) (AA (AE (qC rfl (fun dv=>?_) (fun dv=>?_)))))
          ·obtain ⟨l6,dl⟩:=AL (l:=ll) (i:=e1) qO;obtain ⟨b,o,rfl,b0⟩:=CD h qO;obtain ⟨ra,rc,af,aw⟩:=b0 e1 l6 dl;refine AK (AB (AE (AM (Y (qM _ rfl (qV (AC (b:=b) (o:=o) (len:=ll.length) (cap:=c) (i:=e1) (o':=o+e1) rfl rfl rfl underlying49 BW qO qO) (qV (AD rfl CC (E.cell (fun f=>f) af)) (qA _ rfl (qA _ rfl (AA (Y (qM _ rfl (qM _ rfl (qE rfl (AT func30 kQ kQ rfl) (XB _ _ l6 c1 (aw.ext E)) ?_))))))))))))));rintro _ w51 ⟨rfl,cf⟩;replace Mm:=cf.keepM Mm;replace Bx:=cf.keep Bx;replace Bk:=cf.keep Bk;replace E:=E.ext cf;replace E6:=E6.ext cf;refine AA (A3 rfl (fun b1=>?_) (fun b1=>?_))
           ·have cp:=b1;have hml:=PI (c:=c1) en;refine AG (qM _ rfl (qM _ rfl (qV (AC (b:=bk) (o:=0) (len:=ll.length) (cap:=ll.length) (i:=e1) (o':=0+e1) rfl rfl rfl underlying162 MW qO qO) (BB (b:=bk) (o:=0+e1) (c':=((Dm ll c1 (e1+1)).map (Value.int .u8)).toArray) (v:=(.int .u8 1)) rfl rfl rfl MW Bk (by simp;omega) (by rw[ON dl,b1];simp[M6,List.map_set]) ?_))));intro w23 b3;replace Mm:=b3.keepM qO Mm;replace Bx:=b3.keep qO Bx;replace E:=b3.step E qQ;replace E6:=b3.step E6 (Or.inl qO);replace Bk:=b3.blk;refine AA (AP (AB (AG (qV (Aq rfl rfl (A2 qO)) (qM _ rfl (AA (AB ?_)))))));exact ⟨ll.length - (e1+1),qO,e1+1,Af.out ⟨rfl,rfl,rfl,rfl,rfl,rfl,rfl,rfl,rfl,rfl,rfl,rfl,rfl,trivial⟩,E,E6,Mm,Bx,Bk,qO,rfl⟩
           ·have cp:=b1;have dt:Dm ll c1 (e1+1)=Dm ll c1 e1:=OO dl b1;rw[←dt] at Bk;refine AK (AP (AB (AG (qV (Aq rfl rfl (A2 qO)) (qM _ rfl (AA (AB ?_)))))));exact ⟨ll.length - (e1+1),qO,e1+1,Af.out ⟨rfl,rfl,rfl,rfl,rfl,rfl,rfl,rfl,rfl,rfl,rfl,rfl,rfl,trivial⟩,E,E6,Mm,Bx,Bk,qO,rfl⟩
          ·have e9:e1=ll.length:=qO
           rw[e9,PJ] at Bk;refine Ak (AR (AR (Ae (AB (Y (qM _ rfl (qM _ rfl (qV (DS underlying162 underlying5 underlying9 rfl Bk (by simp[Ay])) (B_ (v:=(.tuple #[(I6 ((A_ (EK ks 0) (Gy (Ay ll c1))).getD 0)),(.bool ((A_ (EK ks 0) (Gy (Ay ll c1))).isSome))])) rfl rfl qD (FL (k:=(Gy (Ay ll c1))) (z:=0) underlying161 (HE underlying9) CW Mm rfl rfl) (qM _ rfl (qV (Ai rfl rfl) (qV (Ai rfl rfl) (qA _ rfl (qA _ rfl (AA ?_)))))))))))))));have az:=hC.ext E6;have bj:=hI.chg E6 fun _ _ f=>f;have ba:=Nat.le_trans cu E6.size;have ce:=hG.cnt;have b9:on=ks.length:=by rw[au,hG.len]
           refine GR (fun σ a4=>∃(kk:Nat) (bn:List (List Bool)) (ad:List (List Sp)) (b5:List Value) (ds:Option Addr) (am ak:Nat),(∃jj_,σ=BQ jj_ [(0,(.slice a ll.length c)),(7,(.slice (some ⟨g,0,none⟩) q.length lc)),(13,(.map (some bm))),(16,(P6 bx 0)),(63,(.slice (some ⟨g,0,none⟩) q.length lc)),(64,(I6 (q.length:Int))),(65,(I6 (i2:Int))),(12,(.slice ds ak am)),(20,(I6 (kk:Int)))])∧Chg AZ w0 a4∧BZ a4 bm G9 DJ (EK bn 0)∧Az a4 bx #[(I6 c1),(I6 hi)] 74∧Az a4 bk ((((Ay ll c1).map M6).map (Value.int .u8)).toArray) 5∧(bn=Ht ks (Ay ll c1))∧(ad.length=bn.length)∧(∀(j:Nat) q,ad[j]?=some q→aa[j]?=some q∨(j=ks.length∧q=[]∧Ay ll c1∉ks))∧(bn[kk]?=some (Ay ll c1))∧(CSt a4 n1 (.slice ds ak am) b5 ad)∧(ak=ad.length)∧(G1 (fun b=>b=g) a4 1 (.slice (some ⟨g,0,none⟩) q.length lc) (q.map Jp))∧(n1≤a4.heap.size)∧(∀(i:Nat) v b,b5[i]?=some v→v.ownBlock=some b→b<z0)) ?_ ?_
           ·skip
            refine Y (qM _ rfl (qV (Cj rfl) (AA (A3 rfl (fun ae=>?_) (fun ae=>?_)))))
            ·have bs:=ae;replace ae:=by simpa using ae
             have e3:A_ (EK ks 0) (Gy (Ay ll c1))=none:=by simpa using ae
             obtain ⟨bw,cx⟩:=PL e3;refine Y (qM _ rfl (qV (AH underlying49 rfl) (qA _ rfl (AA (Y (qM _ rfl (qM _ rfl (qV (DS underlying162 underlying5 underlying9 rfl Bk (by simp[Ay])) (qM _ rfl (DM (k:=(Gy (Ay ll c1))) (v:=(on:Int)) underlying161 (HE underlying9) Mm rfl rfl rfl ?_))))))))));intro w26 bf ei;replace ba:=Nat.le_trans ba bf.chg.size;replace az:=az.chg bf.chg fun b h1 _ h2=>absurd h2 qO;replace bj:=bj.chg bf.chg fun b h1 h2=>by subst h1;omega
             replace Bx:=bf.keep qO Bx;replace Bk:=bf.keep qO Bk;replace E:=bf.step E qQ;replace Mm:=ei;refine AA (AG (qM _ rfl (Ad (ps:=[(0,(.slice none 0 0))]) (c:=#[(.slice none 0 0)]) qD rfl underlying49 BW G4 qD qD qK ?_)));intro b27 w27 an;have F27:=an.ge E;have O27_bm:=an.ltM Mm;have O27_bx:=an.lt Bx;have O27_bk:=an.lt Bk;replace Mm:=an.keepM Mm;replace Bx:=an.keep Bx;replace Bk:=an.keep Bk;replace az:=az.ext an.ext;replace bj:=bj.chg an.ext fun _ _ f=>f;replace ba:=Nat.le_trans ba an.ext.size;replace E:=E.ext an.ext;have e6:=an.blk;refine BT (base:=n1) (n:=on) (m:=1) (xs:=vs) (news:=[(.slice none 0 0)]) (size:=1) (bytes:=24) (v:=(.slice oa on oc)) qD underlying49 BW MI G4 rfl qD rfl (az.on au) rfl (rfl) (e6.cells rfl) qS (by unfold maxLen;omega) qO (ba) ?_;intro v7 w59 dw a8 fc;replace Mm:=a8.keepM (fun h=>by have:=(az.o.lt _ h).1;omega) Mm;replace Bx:=a8.keep (fun h=>by have:=(hC.o.lt _ h).2;omega) Bx;replace Bk:=a8.keep (fun h=>by have:=(hC.o.lt _ h).2;omega) Bk;replace E:=E.step a8 (fun x hx h=>absurd ((az.on au).lt x h).1 qO);obtain ⟨ez,fm,rfl⟩:=A9 dw;rw[b9,cx] at Mm;refine qA _ rfl (AA (AB ?_));exact ⟨on,ks++[Ay ll c1],aa++[[]],vs++[.slice none 0 0],ez,fm,on+1,Af.out ⟨rfl,rfl,rfl,rfl,rfl,rfl,rfl,rfl,rfl,trivial⟩,E,Mm,Bx,Bk,(by unfold Ht;rw[if_neg bw]),(by simp;omega),Ru hG.len bw,(by rw[b9];simp),az.push (by rw[←au];exact dw) a8 fc,(by simp;omega),bj.chg a8 fun b h1 h2=>by subst h1;have:=(az.o.lt _ h2).1;omega,Nat.le_trans ba a8.size,Rv b7⟩
            ·have bs:=ae;replace ae:=by simpa using ae
             have eh:(A_ (EK ks 0) (Gy (Ay ll c1))).isSome=true:=by simpa using ae
             obtain ⟨v9,d4⟩:=Option.isSome_iff_exists.1 eh;obtain ⟨j9,rfl,eb⟩:=Q1 d4;rw[show (A_ (EK ks 0) (Gy (Ay ll c1))).getD 0=((j9:Nat):Int) from by rw[d4];rfl];refine AK (AB ?_);exact ⟨j9,ks,aa,vs,oa,oc,on,Af.out ⟨rfl,rfl,rfl,rfl,rfl,rfl,rfl,rfl,rfl,trivial⟩,E,Mm,Bx,Bk,(by unfold Ht;rw[if_pos (List.mem_of_getElem? eb)]),qO,(fun j q h=>.inl h),eb,az,au,bj,ba,b7⟩
           ·clear E Mm Bx Bk;rintro _ a4 ⟨kk,bn,ad,b5,ds,am,ak,⟨j24,rfl⟩,E,Mm,Bx,Bk,dn,c5,cd,a9,a5,bd,fk,e0,ef⟩;obtain ⟨o1,ag⟩:=AL (l:=ad) (i:=kk) (by have:=AI a9;omega);obtain ⟨v1,a7⟩:=AL (l:=b5) (i:=kk) (by have:=a5.len;have:=AI a9;omega);obtain ⟨va,vc,rfl⟩:=A9 (a5.inn kk v1 o1 a7 ag);have hko:=AI ag;have fu:o1.length≤i2:=by rcases cd kk o1 ag with h1|⟨_,h1,_⟩;exact (hG.ok kk o1 h1).2;subst h1;exact Nat.zero_le _
            obtain ⟨gg,rfl,ee,dq⟩:=Bj (a5.on bd) qO;have a3:=a5.o.lt gg rfl;have a2:=a5.inn kk _ o1 a7 ag;obtain ⟨h0,ej⟩:∃h0,h0=(a4).heap.size:=⟨_,rfl⟩;obtain ⟨dm,ab⟩:∃Fs:List (FactT ((fun y=>(Value.slice va o1.length vc).ownBlock=some y))),Fs=[.eq (.slice (some ⟨gg,0,none⟩) ak am),.eq (I6 (kk:Int)),.eq (.slice (some ⟨gg,0,none⟩) ak am),.eq (I6 (kk:Int)),.eq (.pointer (some ⟨gg,0+kk,none⟩)),.eq (.slice va o1.length vc),.eq (.agg #[(I6 c1),(I6 hi)]),.till (C0 JV #[.int .i64 c1,.int .i64 hi] 0) (KW _ _ _),.own (Cd n1 JV 2 (o1.length+1) ((o1.map BP).flatten++[Value.int .i64 c1,Value.int .i64 hi]) (.slice va o1.length vc) h0) (K_ _ _ _ _ _ _ _)]:=⟨_,rfl⟩;refine Iz ((fun y=>(Value.slice va o1.length vc).ownBlock=some y)) 9 8 [121,122,123,124,125,126,127,128,129] [[],[],[],[],[2,3],[4],[],[6],[5,7]] dm ab rfl mixed qK qK qK ?_ ?_
            ·intro wd X0;refine DagStepsT.cons (fun s' w' X U H=>?_) ?_
             ·exact AY (Ah (U 12 rfl)) (Chg.refl _ _) rfl
             refine DagStepsT.cons (fun s' w' X U H=>?_) ?_
             ·exact AY (Ah (U 20 rfl)) (Chg.refl _ _) rfl
             refine DagStepsT.cons (fun s' w' X U H=>?_) ?_
             ·exact AY (Ah (U 12 rfl)) (Chg.refl _ _) rfl
             refine DagStepsT.cons (fun s' w' X U H=>?_) ?_
             ·exact AY (Ah (U 20 rfl)) (Chg.refl _ _) rfl
             refine DagStepsT.cons (fun s' w' X U H=>?_) ?_
             ·have dh:s' 123=(.slice (some ⟨gg,0,none⟩) ak am):=H 2 rfl 123 (.eq (.slice (some ⟨gg,0,none⟩) ak am)) rfl (by rw[ab];rfl);have cq:s' 124=(.int .i64 ((kk:Nat):Int)):=H 3 rfl 124 (.eq (.int .i64 ((kk:Nat):Int))) rfl (by rw[ab];rfl);exact AY (AC (i:=kk) dh cq rfl underlying49 BW qO qO) (Chg.refl _ _) rfl
             refine DagStepsT.cons (fun s' w' X U H=>?_) ?_
             ·have co:s' 125=(.pointer (some ⟨gg,0+kk,none⟩)):=H 4 rfl 125 (.eq (.pointer (some ⟨gg,0+kk,none⟩))) rfl (by rw[ab];rfl);exact AY (AD co CC (by have h1:=dq kk _ a7;exact (Ao.cell X (X0.cell h1)))) (Chg.refl _ _) rfl
             refine DagStepsT.cons (fun s' w' X U H=>?_) ?_
             ·exact AY (AU (U 16 rfl) EM BA rfl ((Chg.keep X (fun h=>by have:=ef kk _ _ a7 h;omega) (X0.keep Bx)).cells rfl)) (Chg.refl _ _) rfl
             refine DagStepsT.cons (fun s' w' X U H=>?_) ?_
             ·have dp:s' 127=(.agg #[(.int .i64 c1),(.int .i64 hi)]):=H 6 rfl 127 (.eq (.agg #[(.int .i64 c1),(.int .i64 hi)])) rfl (by rw[ab];rfl);exact Cq underlying37 BA C8 dp qD qD qK (Nat.zero_le _)
             refine DagStepsT.cons (fun s' w' X U H=>?_) ?_
             ·have cy:s' 126=(.slice va o1.length vc):=H 5 rfl 126 (.eq (.slice va o1.length vc)) rfl (by rw[ab];rfl);obtain ⟨fi,dg,di,_⟩:=(show (.till (C0 JV #[.int .i64 c1,.int .i64 hi] 0) (KW _ _ _):FactT ((fun y=>(Value.slice va o1.length vc).ownBlock=some y))).In (s' 128) w' from FactT.at_false (H 7 rfl 128 (.till (C0 JV #[.int .i64 c1,.int .i64 hi] 0) (KW _ _ _)) rfl (by rw[ab];rfl)));exact CL underlying37 BA HN C8 rfl qD cy (Aj (Aj a2 X0) X) dg rfl (di.cells rfl) qS (by unfold maxLen;omega) qO (by have:=X0.size;have:=X.size;omega) (fun y h=>h) (by have:=X0.size;have:=X.size;omega)
             exact DagStepsT.nil
            ·intro s' fb es X0 cj U H;have c0:s' 121=(.slice (some ⟨gg,0,none⟩) ak am):=H 0 121 (.eq (.slice (some ⟨gg,0,none⟩) ak am)) rfl (by rw[ab];rfl);have c7:s' 122=(.int .i64 ((kk:Nat):Int)):=H 1 122 (.eq (.int .i64 ((kk:Nat):Int))) rfl (by rw[ab];rfl);obtain ⟨⟨ao,ap,be⟩,bo,b4⟩:=(show (.own (Cd n1 JV 2 (o1.length+1) ((o1.map BP).flatten++[Value.int .i64 c1,Value.int .i64 hi]) (.slice va o1.length vc) h0) (K_ _ _ _ _ _ _ _):FactT ((fun y=>(Value.slice va o1.length vc).ownBlock=some y))).In (s' 129) es from H 8 129 (.own (Cd n1 JV 2 (o1.length+1) ((o1.map BP).flatten++[Value.int .i64 c1,Value.int .i64 hi]) (.slice va o1.length vc) h0) (K_ _ _ _ _ _ _ _)) rfl (by rw[ab];rfl));obtain ⟨j28,rfl⟩:=Af.out (σ:=s') (l:=[(0,(.slice a ll.length c)),(7,(.slice (some ⟨g,0,none⟩) q.length lc)),(12,(.slice (some ⟨gg,0,none⟩) ak am)),(13,(.map (some bm))),(63,(.slice (some ⟨g,0,none⟩) q.length lc)),(64,(.int .i64 ((q.length:Nat):Int))),(65,(.int .i64 ((i2:Nat):Int))),(121,(.slice (some ⟨gg,0,none⟩) ak am)),(122,(.int .i64 ((kk:Nat):Int))),(129,(.slice ao (o1.length+1) ap))]) ⟨U 0 rfl,U 7 rfl,U 12 rfl,U 13 rfl,U 63 rfl,U 64 rfl,U 65 rfl,c0,c7,be,trivial⟩;clear U H;replace Mm:=Chg.keepM cj (fun h=>by have:=(a2.lt _ h).1;omega) (X0.keepM Mm);replace Bx:=Chg.keep cj (fun h=>by have:=ef kk _ _ a7 h;omega) (X0.keep Bx);have cn:=Chg.trans (Ao.chg X0) cj;replace E:=(E.ext X0).step cj (fun y hy h=>by have:=(a2.lt _ h).1;omega);obtain ⟨bv,al,d8⟩:=IX (Ax (a5.on bd) cn (fun b hb hm=>a5.apo kk _ _ a7 hm hb));have cv:=fk.chg cn fun b h1 h2=>by subst h1;have:=(a2.lt _ h2).1;omega
             have de:=Nat.le_trans e0 cn.size;refine qV (AC (b:=gg) (o:=0) (len:=ak) (cap:=am) (i:=kk) (o':=0+kk) rfl rfl rfl underlying49 BW qO qO) ?_;have av:=al;have ay:True:=trivial;refine BB (b:=gg) (o:=0+kk) (c':=bv.setIfInBounds (0+kk) (.slice ao (o1.length+1) ap)) (v:=(.slice ao (o1.length+1) ap)) rfl rfl rfl BW al qO (rfl) ?_;intro fp bi;replace cv:=cv.chg bi.chg fun b h1 h2=>by subst h1;omega
             replace de:=Nat.le_trans de bi.chg.size;replace ay:=bi;replace Mm:=bi.keepM qO Mm;replace E:=bi.step E qQ;replace al:=bi.blk;have eu:=a5.grow bd a7 ag (x:=(c1,hi)) (v':=.slice ao (o1.length+1) ap) (by rw[be] at bo;simpa[BP] using bo) cn (by rw[be,ej] at b4;exact b4) av (by simpa using ay);refine AA (AP (AB (AG (qV (Aq rfl rfl (A2 qO)) (qM _ rfl (AA (AB ?_)))))));exact ⟨p.length - (i2+1),qO,i2+1,bn,ad.set kk (o1++[(c1,hi)]),b5.set kk (.slice ao (o1.length+1) ap),some ⟨gg,0,none⟩,am,ak,Af.out ⟨rfl,rfl,rfl,rfl,rfl,rfl,rfl,trivial⟩,E,Mm,(by rw[fh];exact hG.step hP bb ed dn c5 cd a9 ag),qO,eu,(by simp;omega),cv,de,rfl⟩
      ·have ct:i2=p.length:=qO
       have a1:=hG;rw[ct] at a1;have dj:=hC.join;have ce:=hG.cnt;have dd:=hG.len;refine Ak (AR (AR (Ae (AB (AE (Y (qM _ rfl (qV (AH underlying49 rfl) (qM _ rfl (AA (AM (Am (fun nn_ σ cm=>∃(k3:Nat) (cs:List (List Sp)) (us:List Value),(∃jj_,σ=BQ jj_ [(12,(.slice oa on oc)),(133,(I6 (on:Int))),(134,(I6 (k3:Int)))])∧Chg AZ w0 cm∧(k3≤aa.length)∧(JSt cm n1 (.slice oa on oc) us aa cs k3)∧(∀c∈cs,c.length≤16)∧(n1≤cm.heap.size)∧nn_=aa.length - k3) (n:=aa.length - 0) ?_ ?_))))))))))))
       ·exact ⟨0,[],vs,Af.out ⟨rfl,rfl,rfl,trivial⟩,E,Nat.zero_le _,dj,qP,cu,rfl⟩
       ·clear E;rintro _ _ cm ⟨k3,cs,us,⟨j30,rfl⟩,E,ft,hJ,ca,er,rfl⟩;refine Y (qV (Av rfl rfl) (AA (AE (qC rfl (fun a6=>?_) (fun a6=>?_)))))
        ·obtain ⟨o1,ag⟩:=AL (l:=aa) (i:=k3) qO;obtain ⟨u1,bz⟩:=AL (l:=us) (i:=k3) (by have:=hJ.len;omega);obtain ⟨⟨ua,uc,rfl⟩,c3⟩:=hJ.rst k3 u1 o1 (Nat.le_refl _) bz ag;have ar:=hJ.o;rw[←au] at ar;obtain ⟨gg,rfl,ee,dq⟩:=Bj ar qO;have a3:=ar.lt gg rfl;have c2:=(a1.ok k3 o1 ag);refine AK (AB (AE (AM (Y (qM _ rfl (qA _ rfl (AA (Y (qM _ rfl (qM _ rfl (qM _ rfl (qM _ rfl (qV (AC (b:=gg) (o:=0) (len:=on) (cap:=oc) (i:=k3) (o':=0+k3) rfl rfl rfl underlying49 BW qO qO) (qV (AD (v:=(.slice ua o1.length uc)) rfl CC ((by have h1:=(ar.cells (g:=gg) rfl) k3 _ bz;rwa [Addr.add_lit] at h1))) (qE rfl (AT func131 kQ kQ rfl) (PP _ _ o1 c3.at qO c2.1) ?_)))))))))))))));rintro _ fa ⟨⟨j1,b2,⟨⟨ja,jc,rfl⟩,dr⟩⟩,a0⟩;replace E:=E.ext a0;obtain ⟨bv,al,d8⟩:=IX (Aj ar a0);refine qV (AC (b:=gg) (o:=0) (len:=on) (cap:=oc) (i:=k3) (o':=0+k3) rfl rfl rfl underlying49 BW qO qO) ?_;have av:=al;have ay:True:=trivial;refine BB (b:=gg) (o:=0+k3) (c':=bv.setIfInBounds (0+k3) (.slice ja j1.length jc)) (v:=(.slice ja j1.length jc)) rfl rfl rfl BW al qO (rfl) ?_;intro ex da;replace ay:=da;replace E:=da.step E qQ;replace al:=da.blk;refine AA (Y (qM _ rfl (qM _ rfl (qV (AC (b:=gg) (o:=0) (len:=on) (cap:=oc) (i:=k3) (o':=0+k3) rfl rfl rfl underlying49 BW qO qO) (qV (AD rfl CC (al.cell (by rw[Array.getElem?_setIfInBounds_self_of_lt qO]))) ?_)))));refine qV (AH underlying37 rfl) (qV (CH rfl rfl) (AA (qC rfl (fun dc=>?_) (fun dc=>?_))))
         ·refine Y (qA _ rfl (qA _ rfl (AA (AS (Ag (AO (AO (Ag (AO (Cl results103 (v:=(.slice none 0 0)) (v':=(.int .i64 2)) rfl rfl ?_))))))))));obtain ⟨cF,c9,db⟩:=MF a1 hP ag b2 qO;exact ⟨⟨[],2,.inr ⟨bg,cF,c9,.inl ⟨db,rfl,rfl⟩⟩,none,0,rfl,Eu _⟩,E⟩
         ·refine AK (AP (AB (AG (qV (Aq rfl rfl (A2 qO)) (qM _ rfl (AA (AB ?_)))))));exact ⟨aa.length - (k3+1),qO,k3+1,cs++[j1],us.set k3 (.slice ja j1.length jc),Af.out ⟨rfl,rfl,rfl,trivial⟩,E,qO,(by have hS:=JSt.step (hJ.ext a0) au ag (⟨⟨_,_,rfl⟩,dr⟩:GD _ _ _ j1) a3.2 b2 av (by simpa using ay);exact hS),(fun c hc=>by rcases List.mem_append.1 hc with h1|h1;exact ca c h1;rw[List.mem_singleton] at h1;subst h1;omega),(by have:=a0.size;have:=ay.chg.size;omega),rfl⟩
        ·have ah:k3=aa.length:=qO
         have aq:=a1.done hP (by rw[hJ.cl,ah]) hJ.jn;have aw:=hJ.done ah;have ax:cs.length=on:=by rw[hJ.cl,ah,au]
         refine Ak (AR (AR (Ae (AB (AE (Y (qM _ rfl (qV (AH underlying49 rfl) (qV (CH rfl rfl) (AA (qC rfl (fun bc=>?_) (fun bc=>?_))))))))))))
         ·refine Y (qA _ rfl (qA _ rfl (AA (AS (AO (Cl results103 (v:=(.slice none 0 0)) (v':=(.int .i64 2)) rfl rfl ?_))))));exact ⟨⟨[],2,.inr ⟨bg,cs,aq,.inl ⟨.inr qO,rfl,rfl⟩⟩,none,0,rfl,Eu _⟩,E⟩
         ·refine AK (AB (Y (qM _ rfl (qA _ rfl (qA _ rfl (AA (AS (Cl results103 (v:=(.slice oa on oc)) (v':=(.int .i64 0)) rfl rfl ?_))))))));rw[←ax] at aw;exact ⟨⟨cs,0,.inr ⟨bg,cs,aq,.inr ⟨fun du=>by rcases du with ⟨c,h1,h2⟩|h2;have:=ca c h1;omega;omega,rfl,rfl⟩⟩,oa,oc,by rw[ax],aw⟩,E⟩
end Go.Proofs
namespace Go.Proofs
open Go Go.Eng Go.Sort
set_option maxRecDepth 100000
def Wc (x y:VSp):Int:=FK x.s.1 y.s.1
theorem XO (g:World) (x y:VSp):CJ prog 92 #[.agg #[.int .i64 x.s.1,.int .i64 x.s.2],.agg #[.int .i64 y.s.1,.int .i64 y.s.2]] g λv w=>v=.int .i64 (Wc x y)∧Ao g w:=by
 refine qR func92 O ntmps92 O (λE=>(Y (BM (v:=(.agg #[(I6 x.s.1),(I6 x.s.2)])) (c:=#[(I6 x.s.1),(I6 x.s.2)]) qD O O ?_)));intro i w1 f;replace E:=E.ext f.ext;have a:=f.blk;refine BM (v:=(.agg #[(I6 y.s.1),(I6 y.s.2)])) (c:=#[(I6 y.s.1),(I6 y.s.2)]) qD O O ?_;intro h w2 d;replace a:=d.keep a;have e:=d.blk;refine qA _ O (AA (Y (qF i 0 0 O underlying74 O Ab O (qV (AD O Aa (a.cell O)) (qF h 0 0 O underlying74 O Ab O (qV (AD O Aa (e.cell O)) (qE O (AT func76 kQ kQ O) (JS _ x.s.1 y.s.1) ?_)))))));rintro _ w9 ⟨rfl,b⟩;replace a:=b.keep a;replace e:=b.keep e;replace E:=(E.ext d.ext).ext b;refine qA _ O (AA (AS (AV results92 (v:=(.int .i64 (Wc x y))) O ?_)));exact ⟨O,E⟩
theorem TZ (x y:VSp):Wc x y<0↔x.s.1<y.s.1:=by unfold Wc FK;split<;>(try split)<;>omega
theorem Xd:SWO (ltOf Wc):=by
 refine ⟨λx=>?_,λx y z=>?_,λx y z=>?_⟩<;>simp only[ltOf,decide_eq_true_eq,decide_eq_false_iff_not,TZ]<;>omega
theorem UI (a:World) (base:Nat) (v:Value) (l:List Sp) (h:GD a base v l) (k:l.length<=8796093022208) (b:∀s∈l,C_ s) :
 CJ prog 91 #[v,.func (.func 92) #[] #[]] a λr w=>r=.tuple #[]∧(∃c:List Sp,c.Perm l∧c.Pairwise (λs t=>s.1<=t.1)∧A6 w v c)∧Chg (λx=>v.ownBlock=some x) a w:=
 (Px Wc Xd func92 kQ kQ XO a base v l h k b).mono λr w ⟨j,⟨l',e,i,g⟩,f⟩=>
  ⟨j,⟨_,e,List.pairwise_map.2 (i.imp fun {s t} d=>by rw[TZ] at d;omega),g⟩,f⟩
theorem J0:∀{ll:List (List Sp)},(∀l∈ll,A7 l=0)->ll.flatten.length<=16*ll.length
 | [],_=>qP
 | l::ll,h=>by
  have h1:=J0 λx a=>h x (List.mem_cons_of_mem _ a);have h2:=(CE (h l List.mem_cons_self)).2;simp only[List.flatten_cons,List.length_append,List.length_cons];omega
theorem Ko {α:Type} {l:List α} {k:Nat} {x d:α} (h:l[k]?=some x):l.getD k d=x:=by simp[List.getD,h]
theorem QE {ll:List (List Sp)} {k:Nat} (a:k<ll.length) (h:¬PU ll k):¬(HH ll∧Gu ll):=λb=>h (b.1 k a)
theorem Mn {ll:List (List Sp)} {k:Nat} (b:∀j,j<k->PU ll j) (h:PU ll k):∀j,j<k+1->PU ll j:=λj hj=>by
 rcases Nat.lt_or_ge j k with a|a
 .exact b j a
 .have e:j=k:=qO
  rw[e];exact h
theorem JL {l:List Sp} (h:l≠[]):∃s,l[0]?=some s∧BK l=s.1:=by
 cases l with
 | nil=>exact absurd O h
 | cons s l=>exact ⟨s,O,O⟩
theorem Vt (w0:World) (v:Value) (ll:List (List Sp)) (h:Bg w0 v ll) :
 CJ prog 51 #[v] w0 λr w=>r=.int .i64 (partE ll)∧Ao w0 w:=by
 obtain ⟨a,c,rfl,_,hle⟩:=h.form;obtain ⟨base,hbase⟩:∃base,base=w0.heap.size:=⟨_,O⟩;refine qR func51 O ntmps51 O (λE=>(Y (qA _ O (AA (AE (Y (qM _ O (qV (AH underlying49 O) (qV (CH O O) (AA (qC O (λa9=>?_) (λa9=>?_))))))))))))
 .refine Y (qA _ O (AA (AS (AO (AV results51 (v:=(.int .i64 2)) O ?_)))));exact ⟨A5 (Jb qO).symm,E⟩
 .have z:¬16<ll.length:=qO
  refine AK (AB (Y (qA _ O (AA (AE (Y (qM _ O (qV (AH underlying49 O) (qM _ O (AA (AM (Am (λnn_ σ W2=>∃(k:Nat) (Q:Option Addr) (P:Nat) (m:Nat),(∃jj_,σ=BQ jj_ [(0,(.slice a ll.length c)),(15,(.slice a ll.length c)),(16,(I6 (ll.length:Int))),(17,(I6 (k:Int))),(3,(.slice Q m P))])∧Chg AZ w0 W2∧(k<=ll.length)∧(∀l∈ll.take k,A7 l=0)∧(m=(ll.take k).flatten.length)∧(W2.ownsRow base JV 2 (.slice Q m P) m (((ll.take k).flatten).map BP).flatten)∧(base<=W2.heap.size)∧nn_=ll.length - k) (n:=ll.length - 0) ?_ ?_))))))))))))
  .exact ⟨0,none,0,0,Af.out ⟨O,O,O,O,O,trivial⟩,E,Nat.zero_le _,qP,O,World.ownsRow_nil _ _ _ _,(by have:=E.size;omega),O⟩
  .clear E;rintro _ _ W2 ⟨k,Q,P,m,⟨j2,rfl⟩,E,hk,hz,hm,p,T,rfl⟩;refine Y (qV (Av O O) (AA (AE (qC O (λa5=>?_) (λa5=>?_)))))
   .obtain ⟨l,L⟩:=AL (l:=ll) (i:=k) qO;obtain ⟨b,o,rfl,R⟩:=CD h qO;obtain ⟨ra,rc,C,V⟩:=R k l L;refine AK (AB (AE (AM (Y (qV (AC (b:=b) (o:=o) (len:=ll.length) (cap:=c) (i:=k) (o':=o+k) O O O underlying49 BW qO qO) (qV (AD O CC (E.cell (λf=>f) C)) (qA _ O (AA (AE (Y (qM _ O (qE O (AT func44 kQ kQ O) (KD _ _ l (V.ext E)) ?_))))))))))));rintro _ w9 ⟨rfl,X9⟩;replace p:=Aj p X9;replace T:=Nat.le_trans T X9.size;replace E:=E.ext X9;refine qA _ O (AA (Y (qM _ O (qV (CO O O) (AA (qC O (λhc=>?_) (λhc=>?_)))))))
    .refine Y (qM _ O (qA _ O (AA (AS (AO (Ag (AO (AO (Ag (AO (AV results51 (v:=(.int .i64 (A7 l))) O ?_)))))))))));have hb:=G0 hz L hc;exact ⟨A5 ((Lo z (by rw[hb];exact hc)).trans hb).symm,E⟩
    .have hf:=J0 hz;have hl16:=(CE (show A7 l=0 by omega)).2;have htk:(ll.take k).length=k:=by simp;omega
     refine AK (AB (AG (qM _ O (qM _ O (JZ (base:=base) (n:=m) (m:=l.length) (xs:=(((ll.take k).flatten).map BP).flatten) (news:=(l.map BP).flatten) (size:=2) (bytes:=16) (v:=(.slice Q m P)) qD underlying37 BA HN C8 O qD O p O (Ef l) (Qe (V.ext E)) (I3 l) (by unfold maxLen;omega) qO (T) ?_)))));intro v9 w29 an aq Dv9;replace E:=E.step aq (λx L h=>absurd (p.lt x h).1 qO);obtain ⟨a6,a0,rfl⟩:=A9 an;refine qA _ O (AA (AP (AB (AG (qV (Aq O O (A2 qO)) (qM _ O (AA (AB ?_))))))));exact ⟨ll.length - (k+1),qO,k+1,a6,a0,m+l.length,Af.out ⟨O,O,O,O,O,trivial⟩,E,qO,(λy hy=>by rw[CP L] at hy;rcases List.mem_append.1 hy with A|A;exact hz y A;rw[List.mem_singleton] at A;subst A;omega),(by rw[Cx L,List.length_append,hm]),(by rw[Cx L,IS];exact an),Nat.le_trans T aq.size,O⟩
   .have a2:k=ll.length:=qO
    rw[a2,List.take_length] at hz hm p;have M:=Ej hz;have aa:∀l∈ll,Canon l:=λl hl=>(CE (hz l hl)).1;have ab:∀s∈ll.flatten,C_ s:=λs hs=>by obtain ⟨l,hl,hs⟩:=List.mem_flatten.1 hs;exact (aa l hl).ok s hs
    have hf:=J0 hz;refine Ak (AR (AR (Ae (AB (AE (Y (qM _ O (qV (AH underlying49 O) (qM _ O (AA (AM (Am (λnn_ σ W5=>∃(u:Nat),(∃jj_,σ=BQ jj_ [(0,(.slice a ll.length c)),(3,(.slice Q m P)),(30,(.slice a ll.length c)),(31,(I6 (ll.length:Int))),(32,(I6 (u:Int)))])∧Chg AZ w0 W5∧(u<=ll.length)∧(∀j,j<u->PU ll j)∧(W5.ownsRow base JV 2 (.slice Q m P) m ((ll.flatten).map BP).flatten)∧nn_=ll.length - u) (n:=ll.length - 0) ?_ ?_))))))))))))
    .exact ⟨0,Af.out ⟨O,O,O,O,O,trivial⟩,E,Nat.zero_le _,(λj h=>absurd h (Nat.not_lt_zero _)),p,O⟩
    .clear E;rintro _ _ W5 ⟨u,⟨j5,rfl⟩,E,hk2,hh,p,rfl⟩;refine Y (qV (Av O O) (AA (AE (qC O (λar=>?_) (λar=>?_)))))
     .obtain ⟨l,L⟩:=AL (l:=ll) (i:=u) qO;obtain ⟨b,o,rfl,R⟩:=CD h qO;obtain ⟨ra,rc,C,V⟩:=R u l L;refine AK (AB (AE (AM (Y (qM _ O (qV (AC (b:=b) (o:=o) (len:=ll.length) (cap:=c) (i:=u) (o':=o+u) O O O underlying49 BW qO qO) (qV (AD O CC (E.cell (λf=>f) C)) ?_)))))));have H:=Ko (d:=[]) L;refine qA _ O (qA _ O (AA (Dq 21 mixed qK ?_)));intro w7 X7 _;replace p:=Aj p X7;replace E:=E.ext X7;refine qT (Ah O) (qT (AH underlying37 O) (qT (As O O) (qT (Ah O) ?_)));rcases Bool.eq_false_or_eq_true (decide ((((l.length:Nat):Int):Int)=0)) with q|q
      .have t:=q;replace t:=of_decide_eq_true t;refine Ar (oj:=_) O O qD (v:=.bool true) (Aw q) (Or.inl O) (Ar (oj:=_) O O qD (v:=.bool true) (Aw q) (Or.inl O) (Ar (oj:=_) O O qD (v:=.bool true) (Aw q) (Or.inl O) (Ar (oj:=_) O O qD (v:=undef) O (Or.inr O) (Ar (oj:=_) O O qD (v:=undef) O (Or.inr O) (Ar (oj:=_) O O qD (v:=undef) O (Or.inr O) (Ar (oj:=_) O O qD (v:=undef) O (Or.inr O) (Ar (oj:=_) O O qD (v:=undef) O (Or.inr O) (Ar (oj:=_) O O qD (v:=undef) O (Or.inr O) (Ar (oj:=_) O O qD (v:=undef) O (Or.inr O) (Ar (oj:=_) O O qD (v:=undef) O (Or.inr O) (Ar (oj:=_) O O qD (v:=undef) O (Or.inr O) (Ar (oj:=_) O O qD (v:=undef) O (Or.inr O) (Ar (oj:=_) O O qD (v:=undef) O (Or.inr O) (Ar (oj:=_) O O qD (v:=undef) O (Or.inr O) ?_))))))))))))));refine Ar (oj:=_) O O qD (v:=undef) O (Or.inr O) (Ar (oj:=_) O O qD (v:=.bool true) (Aw q) (Or.inl O) (Dr (qV (Ac (v:=(.bool true)) O (by rw[q];rfl)) (AA (A4 O (Y (qA _ O (AA (AS (Ag (AO (AO (Ag (AO (AV results51 (v:=(.int .i64 3)) O ?_)))))))))))))));exact ⟨A5 (ED z M (QE (k:=u) qO λhd=>by have A:=hd.1;rw[H] at A;exact A (List.eq_nil_of_length_eq_zero qO))).symm,E⟩
      .have t:=q;replace t:=of_decide_eq_false t;have U:l≠[]:=λe=>by subst e;exact t O
       obtain ⟨s1,ag,ad⟩:=JL U;obtain ⟨sb,so,rfl,a8⟩:=BH V (by cases l with|nil=>exact absurd rfl U|cons x y=>simp);have hlpos:0<l.length:=AI ag;refine A0 (oj:=_) O O qD (Aw q) (qT (Ah O) (A0 (oj:=_) O O qD (Aw q) (qT (CH O O) (A0 (oj:=_) O O qD (Aw q) (qT (Ah O) ?_)))));rcases Bool.eq_false_or_eq_true (decide ((0:Int)<((u:Nat):Int))) with g|g
       .have B:=g;replace B:=of_decide_eq_true B;obtain ⟨kp,az⟩:∃kp,u=kp+1:=⟨u - 1,qO⟩;obtain ⟨lp,am⟩:=AL (l:=ll) (i:=kp) qO;obtain ⟨ra2,a4,W,aw⟩:=R kp lp am;have af:=Ko (d:=[]) am;have av:lp≠[]:=by have:=(hh kp qO).1;rwa [af] at this
        obtain ⟨s2,ao,ak⟩:=JL av;obtain ⟨pb,po,rfl,N⟩:=BH aw (by cases lp with|nil=>exact absurd rfl av|cons x y=>simp);have hppos:0<lp.length:=AI ao;refine A0 (oj:=_) O O qD (Aw g) (qT (Ah O) (A0 (oj:=_) O O qD (Aw g) (qT (Ah O) (A0 (oj:=_) O O qD (Aw g) (qT (D3 O O (A2 qO)) (A0 (oj:=_) O O qD (Aw g) (qT (AC (b:=b) (o:=o) (len:=ll.length) (cap:=c) (i:=kp) (o':=o+kp) O O qO underlying49 BW qO qO) (A0 (oj:=_) O O qD (Aw g) (qT (AD O CC (E.cell (λf=>f) W)) (A0 (oj:=_) O O qD (Aw g) (qT (AC (b:=pb) (o:=po) (len:=lp.length) (cap:=a4) (i:=0) (o':=po+0*2) O O O underlying37 BA qO qO) (A0 (oj:=_) O O qD (Aw g) (qT (AN O underlying74 O Ab O) (A0 (oj:=_) O O qD (Aw g) ?_))))))))))))));refine qT (AD O Aa (E.cell (λf=>f) (N 0 s2 ao 0 _ O))) (A0 (oj:=_) O O qD (Aw g) (qT (Ah O) (A0 (oj:=_) O O qD (Aw g) (qT (AC (b:=sb) (o:=so) (len:=l.length) (cap:=rc) (i:=0) (o':=so+0*2) O O O underlying37 BA qO qO) (A0 (oj:=_) O O qD (Aw g) (qT (AN O underlying74 O Ab O) (A0 (oj:=_) O O qD (Aw g) (qT (AD O Aa (E.cell (λf=>f) (a8 0 s1 ag 0 _ O))) (A0 (oj:=_) O O qD (Aw g) (qT (C3 O O) (A0 (oj:=_) O O qD (Aw q) (qT (Ac (v:=(.bool (decide ((s1.1:Int)<=s2.1)))) O (by rw[g];rfl)) (Dr (qV (Ac (v:=(.bool (decide ((s1.1:Int)<=s2.1)))) O (by rw[q];rfl)) ?_))))))))))))));refine AA (qC O (λbb=>?_) (λbb=>?_))
        .refine Y (qA _ O (AA (AS (Ag (AO (AO (Ag (AO (AV results51 (v:=(.int .i64 3)) O ?_)))))))));exact ⟨A5 (ED z M (QE (k:=u) qO λhd=>by have A:=hd.2;rw[H,ad,az] at A;simp only[KZ] at A;rw[af,ak] at A;omega)).symm,E⟩
        .refine AK (AP (AB (AG (qV (Aq O O (A2 qO)) (qM _ O (AA (AB ?_)))))));exact ⟨ll.length - (u+1),qO,u+1,Af.out ⟨O,O,O,O,O,trivial⟩,E,qO,Mn hh ⟨by rw[H];exact U,by rw[H,ad,az];simp only[KZ];rw[af,ak];omega⟩,p,O⟩
       .have B:=g;replace B:=of_decide_eq_false B;have al:u=0:=qO
        have hv1:=(ab s1 (List.mem_flatten.2 ⟨l,List.mem_of_getElem? L,List.mem_of_getElem? ag⟩)).1;refine Ar (oj:=_) O O qD (v:=.bool false) (Aw g) (Or.inl O) (Ar (oj:=_) O O qD (v:=.bool false) (Aw g) (Or.inl O) (Ar (oj:=_) O O qD (v:=.bool false) (Aw g) (Or.inl O) (Ar (oj:=_) O O qD (v:=.bool false) (Aw g) (Or.inl O) (Ar (oj:=_) O O qD (v:=.bool false) (Aw g) (Or.inl O) (Ar (oj:=_) O O qD (v:=.bool false) (Aw g) (Or.inl O) (Ar (oj:=_) O O qD (v:=.bool false) (Aw g) (Or.inl O) (Ar (oj:=_) O O qD (v:=.bool false) (Aw g) (Or.inl O) (Ar (oj:=_) O O qD (v:=.bool false) (Aw g) (Or.inl O) (Ar (oj:=_) O O qD (v:=.bool false) (Aw g) (Or.inl O) (Ar (oj:=_) O O qD (v:=.bool false) (Aw g) (Or.inl O) (Ar (oj:=_) O O qD (v:=.bool false) (Aw g) (Or.inl O) (Ar (oj:=_) O O qD (v:=.bool false) (Aw g) (Or.inl O) (A0 (oj:=_) O O qD (Aw q) (qT (Ac (v:=(.bool false)) O (by rw[g];rfl)) ?_))))))))))))));refine Dr (qV (Ac (v:=(.bool false)) O (by rw[q];rfl)) (AA (AW O (AK (AP (AB (AG (qV (Aq O O (A2 qO)) (qM _ O (AA (AB ?_)))))))))));exact ⟨ll.length - (u+1),qO,u+1,Af.out ⟨O,O,O,O,O,trivial⟩,E,qO,Mn hh ⟨by rw[H];exact U,by rw[H,ad,al];simp only[KZ];omega⟩,p,O⟩
     .have hk22:u=ll.length:=qO
      have S:HH ll:=λj hj=>hh j qO;have a7:GD W5 base (.slice Q m P) ll.flatten:=⟨⟨Q,P,by rw[hm]⟩,by rw[<-hm];exact p⟩;refine Ak (AR (AR (Ae (AB (Y (qM _ O (qE O (AT func91 kQ kQ O) (UI _ base (.slice Q m P) ll.flatten a7 qO ab) ?_)))))));rintro _ ac ⟨rfl,⟨J,F,ae,bc⟩,ba⟩;replace E:=E.step ba (λx L hy=>absurd (p.lt x hy).1 qO);have hlen2:J.length=m:=by rw[hm];exact F.length_eq
      have N:=O_ aa F ae;have ay:∀s∈J,C_ s:=λs hs=>ab s (F.mem_iff.1 hs);have D:Chg AZ ac ac:=Chg.refl _ _;refine AA (Y (qA _ O (AA (AE (Y (qM _ O (qV (AH underlying37 O) (qM _ O (AA (AM (Am (λnn_ σ ah=>∃(I:Nat) (K:Int),(∃jj_,σ=BQ jj_ [(62,(.slice Q m P)),(63,(I6 (m:Int))),(64,(I6 (I:Int))),(9,(I6 K))])∧Chg AZ w0 ah∧Chg AZ ac ah∧(I<=J.length)∧(0<=K∧K<=1114112)∧(Eb K (J.drop I)=Eb 0 J)∧nn_=J.length - I) (n:=J.length - 0) ?_ ?_)))))))))))
      .exact ⟨0,0,Af.out ⟨O,O,O,O,trivial⟩,E,D,Nat.zero_le _,qO,qP,O⟩
      .clear E D;rintro _ _ ah ⟨I,K,⟨j11,rfl⟩,E,D,hk3,hnr,G,rfl⟩;refine Y (qV (Av O O) (AA (AE (qC O (λaj=>?_) (λaj=>?_)))))
       .obtain ⟨s,hs⟩:=AL (l:=J) (i:=I) qO;obtain ⟨lb,lo,rfl,au⟩:=BH (l:=J) bc qO;have a1:=ay s (List.mem_of_getElem? hs);unfold C_ at a1;have a3:=Dd hs;rw[a3] at G;refine AK (AB (AE (AM (Y (qV (AC (b:=lb) (o:=lo) (len:=m) (cap:=P) (i:=I) (o':=lo+I*2) O O O underlying37 BA qO qO) (qV (AU O EM BA O ((au I s hs).ext D)) (Au (v:=(.agg #[(I6 s.1),(I6 s.2)])) (c:=#[(I6 s.1),(I6 s.2)]) (n:=2) qD C8 O BA O O O qS ?_)))))));intro b13 w13 ai;replace E:=E.ext ai.ext;have ax:=ai.blk;replace D:=D.ext ai.ext;refine AA (AE (Y (qF _ _ _ O underlying74 O Ab O (qV (AD O Aa (ax.cell O)) (qM _ O (qV (CO O O) (AA (qC O (λX=>?_) (λX=>?_)))))))))
        .refine Y (qA _ O (AA (AS (AO (Ag (AO (AO (Ag (AO (AV results51 (v:=(.int .i64 3)) O ?_))))))))));exact ⟨A5 (ED z M λhp=>by have A:=N.2 hp.2;rw[<-G] at A;simp only[Eb,Bool.and_eq_true,decide_eq_true_eq] at A;exact X A.1).symm,E⟩
        .refine AK (AB (AG (qF _ _ _ O underlying74 O Ab O (qV (AD O Aa (ax.cell O)) (qV (Aq O O (A2 qO)) (qA _ O (AA (AP (AB (AG (qV (Aq O O (A2 qO)) (qM _ O (AA (AB ?_))))))))))))));exact ⟨J.length - (I+1),qO,I+1,s.2+1,Af.out ⟨O,O,O,O,trivial⟩,E,D,qO,qO,(by rw[<-G];simp only[Eb];rw[decide_eq_true qO,Bool.true_and]),O⟩
       .have ap:I=J.length:=qO
        rw[ap,List.drop_length] at G;refine Ak (AR (AR (Ae (AB (AE (Y (qM _ O (qV (CO O O) (AA (qC O (λZ=>?_) (λZ=>?_)))))))))))
        .refine Y (qA _ O (AA (AS (AO (AV results51 (v:=(.int .i64 3)) O ?_)))));exact ⟨A5 (ED z M λhp=>by have A:=N.2 hp.2;rw[<-G] at A;simp only[Eb,decide_eq_true_eq] at A;exact Z A).symm,E⟩
        .refine AK (AB (Y (qA _ O (AA (AS (AV results51 (v:=(.int .i64 0)) O ?_))))));exact ⟨A5 (N9 z M ⟨S,N.1 (by rw[<-G];simp only[Eb,decide_eq_true_eq];omega)⟩).symm,E⟩
theorem O1 (j:World) (v fv:Value) (ll:List (List Sp)) (p:List Sp->Bool) (h:Bg j v ll) (C:∀(w:World) (u:Value) (l:List Sp),Ao j w->A6 w u l->l∈ll->CV prog fv #[u] w λr w'=>r=.bool (p l)∧Ao w w') :
 CJ prog 96 #[v,fv] j λr w=>r=.int .i64 (PS p ll)∧Ao j w:=by
 obtain ⟨a,c,rfl,_,hle⟩:=h.form;refine qR func96 O ntmps96 O (λE=>(Y (qA _ O (AA (AE (Y (qM _ O (qV (AH underlying49 O) (qM _ O (AA (AM (Am (λnn_ σ z=>∃(k:Nat),(∃jj_,σ=BQ jj_ [(0,(.slice a ll.length c)),(1,fv),(7,(I6 (ll.length:Int))),(8,(I6 (k:Int)))])∧Chg AZ j z∧(k<=ll.length)∧(∀(i:Nat) (y:List Sp),i<k->ll[i]?=some y->p y=false)∧nn_=ll.length - k) (n:=ll.length - 0) ?_ ?_))))))))))))
 .exact ⟨0,Af.out ⟨O,O,O,O,trivial⟩,E,Nat.zero_le _,(λi y h=>absurd h (Nat.not_lt_zero _)),O⟩
 .clear E;rintro _ _ z ⟨k,⟨j1,rfl⟩,E,hk,e,rfl⟩;refine Y (qV (Av O O) (AA (AE (qC O (λx=>?_) (λx=>?_)))))
  .obtain ⟨l,m⟩:=AL (l:=ll) (i:=k) qO;obtain ⟨b,o,rfl,q⟩:=CD h qO;obtain ⟨ra,rc,d,t⟩:=q k l m;refine AK (AB (AE (AM (Y (qM _ O (qA _ O (AA (Y (qM _ O (qM _ O (qM _ O (qV (AC (b:=b) (o:=o) (len:=ll.length) (cap:=c) (i:=k) (o':=o+k) O O O underlying49 BW qO qO) (qV (AD O CC (E.cell (λf=>f) d)) (De qD O O (C _ _ l E (t.ext E) (List.mem_of_getElem? m)) ?_))))))))))))));rintro _ w9 ⟨rfl,B⟩;replace E:=E.ext B;refine AA (A3 O (λg=>?_) (λg=>?_))
   .have s:=g;refine Y (qM _ O (qA _ O (AA (AS (Ag (AO (AO (Ag (AO (AV results96 (v:=(.int .i64 ((k:Nat):Int))) O ?_))))))))));exact ⟨A5 (Jy m g e).symm,E⟩
   .have s:=g;refine AK (AP (AB (AG (qV (Aq O O (A2 qO)) (qM _ O (AA (AB ?_)))))));exact ⟨ll.length - (k+1),qO,k+1,Af.out ⟨O,O,O,O,trivial⟩,E,qO,Gz m g e,O⟩
  .have hkk:k=ll.length:=qO
   refine Ak (AR (AR (Ae (AB (Y (qA _ O (AA (AS (AV results96 (v:=(.int .i64 (-1))) O ?_)))))))));exact ⟨A5 (Ik λi y A=>e i y (by have:=AI A;omega) A).symm,E⟩
def Xn (ll:List (List Sp)) (r:Int):Int:=PS (λl=>BY l r) ll
noncomputable def idxE (ll:List (List Sp)) (r:Int):Int:=if partE ll≠0 then partE ll else if R5 r then 0 else 1
noncomputable def leastP (ll:List (List Sp)):List Int:=if partE ll=0 then V2 ll else []
noncomputable def wordE (ll:List (List Sp)) (t:List Int):Int:=if partE ll≠0 then partE ll else if t.any (λr=>!R5 r) then 1 else 0
noncomputable def wordL (ll:List (List Sp)) (t:List Int):List Int:=if wordE ll t=0 then t.map (Xn ll) else []
end Go.Proofs
namespace Go.Proofs
open Go Go.Eng Go.Sort
set_option maxRecDepth 100000
theorem WP (g:World) (C B:Value) (a d:List Bool) (r:GK g C a) (x:GK g B d) (hl:a.length=d.length) :
 CJ prog 64 #[C,B] g λv w=>v=.bool (decide (a=d))∧Ao g w:=by
 obtain ⟨F,c1,rfl⟩:=BL.form r;obtain ⟨I,c2,rfl⟩:=BL.form x;have hb1:a.length<=9223372036854775807:=by simpa using BL.le r
 simp only[List.length_map] at r x⊢;refine qR func64 O ntmps64 O (λE=>(Y (qA _ O (AA (AE (Y (qM _ O (qV (AH underlying66 O) (qM _ O (AA (AM (Am (λnn_ σ D=>∃(k:Nat),(∃jj_,σ=BQ jj_ [(0,(.slice F a.length c1)),(1,(.slice I d.length c2)),(7,(I6 (a.length:Int))),(8,(I6 (k:Int)))])∧Chg AZ g D∧(k<=a.length)∧(∀(i:Nat),i<k->a[i]?=d[i]?)∧nn_=a.length - k) (n:=a.length - 0) ?_ ?_))))))))))))
 .exact ⟨0,Af.out ⟨O,O,O,O,trivial⟩,E,Nat.zero_le _,(λi h=>absurd h (Nat.not_lt_zero _)),O⟩
 .clear E;rintro _ _ D ⟨k,⟨j1,rfl⟩,E,hk,j,rfl⟩;refine Y (qV (Av O O) (AA (AE (qC O (λs=>?_) (λs=>?_)))))
  .obtain ⟨p,y⟩:=AL (l:=a) (i:=k) qO;obtain ⟨q,m⟩:=AL (l:=d) (i:=k) qO;obtain ⟨H,A,rfl,t⟩:=HO r qO;obtain ⟨J,z,rfl,u⟩:=HO x qO;refine AK (AB (AE (AM (Y (qM _ O (qA _ O (AA (Dq 8 mixed qK ?_))))))));intro w3 G _;replace E:=E.ext G;refine qT (Ah O) (qT (Ah O) (qT (AC (b:=H) (o:=A) (len:=a.length) (cap:=c1) (i:=k) (o':=A+k) O O O underlying66 H8 qO qO) (qT (AD O GF (E.cell (λf=>f) (t k p y))) (qT (Ah O) (qT (Ah O) (qT (AC (b:=J) (o:=z) (len:=d.length) (cap:=c2) (i:=k) (o':=z+k) O O O underlying66 H8 qO qO) (qT (AD O GF (E.cell (λf=>f) (u k q m))) (Dr (qV (SB underlying4 O O) (AA (A3 O (λc=>?_) (λc=>?_))))))))))))
   .have e:=c;refine Y (qA _ O (AA (AS (Ag (AO (AO (Ag (AO (AV results64 (v:=(.bool false)) O ?_)))))))));exact ⟨CG (by symm;rw[decide_eq_false_iff_not];intro h;subst h;rw[y] at m;cases m;simp at c),E⟩
   .have e:=c;refine AK (AP (AB (AG (qV (Aq O O (A2 qO)) (qM _ O (AA (AB ?_)))))));exact ⟨a.length - (k+1),qO,k+1,Af.out ⟨O,O,O,O,trivial⟩,E,qO,(λi hi=>by rcases Nat.lt_or_ge i k with h|h;exact j i h;obtain rfl:i=k:=qO;rw[y,m];simpa using c),O⟩
  .refine Ak (AR (AR (Ae (AB (Y (qM _ O (qV (AH underlying66 O) (qM _ O (qV (AH underlying66 O) (qV (As O O) (qA _ O (AA (AS (AV results64 (v:=(.bool (decide ((((a.length:Nat):Int):Int)=((d.length:Nat):Int))))) O ?_))))))))))))));exact ⟨CG (by rw[decide_eq_true (show ((a.length:Nat):Int)=((d.length:Nat):Int) by omega)];symm;rw[decide_eq_true_eq];apply List.ext_getElem?;intro i;rcases Nat.lt_or_ge i a.length with h|h;exact j i qO;rw[List.getElem?_eq_none h,List.getElem?_eq_none qO]),E⟩
def Oo (m:List Bool):Nat×List Value:=(m.length,m.map Value.bool)
def Qp (l:List Sp):Nat×List Value:=(l.length,(l.map BP).flatten)
theorem LSt.spss {w:World} {base:Nat} {c:Value} {vs:List Value} {ll:List (List Sp)} (h:LSt M_ JV 2 w base c vs (ll.map Qp)):Bg w c ll:=by
 have a:vs.length=ll.length:=by simpa using h.len
 refine ⟨vs,?_,a,λi u l f a=>?_⟩
 .have b:=h.o;rw[show vs=(vs.map λx=>[x]).flatten by simp[List.flatten_eq_flatMap,List.flatMap_map]] at b;exact DY b (by intro r d;simp only[List.mem_map] at d;obtain ⟨x,_,rfl⟩:=d;rfl) (by simp[a]) qD
 .have e:=h.inn i u (Qp l) f (by rw[List.getElem?_map,a];rfl);exact GD.at ⟨A9 e,e⟩
theorem U1 (x:World) (y B:Nat) (v u:Value) (ll:List (List Sp)) (m:List Bool) (r:Int) (j:Az x y #[v] 49) (g:Az x B #[u] 66) (h:Bg x v ll) (hm:GK x u m) (hl:m.length=ll.length) :
 CJ prog 66 #[.int .i64 r,.pointer (some ⟨y,0,none⟩),.pointer (some ⟨B,0,none⟩)] x λv w=>v=.bool (decide (Ay ll r=m))∧Ao x w:=by
 obtain ⟨a,c,rfl,_,hle⟩:=h.form;obtain ⟨a2,c2,rfl⟩:=BL.form hm;simp only[List.length_map] at hm g;refine qR func66 O ntmps66 O (λE=>(Y (qA _ O (AA (AE (Y (qV (AD O DE (j.cell O)) (qV (AH underlying49 O) (qM _ O (AA (AM (Am (λnn_ σ D=>∃(k:Nat),(∃jj_,σ=BQ jj_ [(0,(I6 r)),(1,(P6 y 0)),(2,(P6 B 0)),(7,(I6 (ll.length:Int))),(8,(I6 (k:Int)))])∧Chg AZ x D∧Az D y #[(.slice a ll.length c)] 49∧Az D B #[(.slice a2 m.length c2)] 66∧(k<=ll.length)∧(∀(i:Nat),i<k->(Ay ll r)[i]?=m[i]?)∧nn_=ll.length - k) (n:=ll.length - 0) ?_ ?_))))))))))))
 .exact ⟨0,Af.out ⟨O,O,O,O,O,trivial⟩,E,j,g,Nat.zero_le _,(λi h=>absurd h (Nat.not_lt_zero _)),O⟩
 .clear E j g;rintro _ _ D ⟨k,⟨j1,rfl⟩,E,j,g,hk,C,rfl⟩;refine Y (qV (Av O O) (AA (AE (qC O (λQ=>?_) (λQ=>?_)))))
  .obtain ⟨l,hx⟩:=AL (l:=ll) (i:=k) qO;obtain ⟨q,I⟩:=AL (l:=m) (i:=k) qO;have s:(Ay ll r)[k]?=some (BY l r):=by unfold Ay;rw[List.getElem?_map,hx];rfl
   obtain ⟨b,o,rfl,K⟩:=CD h qO;obtain ⟨b',o',rfl,aa⟩:=HO hm qO;obtain ⟨J,rc,t,N⟩:=K k l hx;refine AK (AB (AE (AM (Y (qM _ O (qA _ O (AA (AE ?_))))))));obtain ⟨L,d⟩:∃Fs:List Fact,Fs=[.eq (.slice (some ⟨b,o,none⟩) ll.length c),.eq (I6 (k:Int)),.eq (.pointer (some ⟨b,o+k,none⟩)),.eq (.slice J l.length rc),.eq (I6 r),.eq (.bool (BY l r)),.eq (.slice (some ⟨b',o',none⟩) m.length c2),.eq (I6 (k:Int)),.eq (.pointer (some ⟨b',o'+k,none⟩)),.eq (.bool q),.eq (.bool (BY l r != q))]:=⟨_,O⟩;refine LC [11,12,13,14,15,16,17,18,19,20,21] [[],[],[0,1],[2],[],[3,4],[],[],[6,7],[8],[5,9]] L d mixed qK qK ?_ ?_
   .intro wd A;refine DagSteps.cons (λe w' X U H=>Or.inl ⟨?_,?_⟩) ?_
    .exact AQ O
    .exact A1 (AD (U 1 O) DE (((A.trans X).keep j).cell O)) (Ao.refl _) O
    refine DagSteps.cons (λe w' X U H=>Or.inl ⟨?_,?_⟩) ?_
    .exact AQ O
    .exact A1 (Ah (U 5 O)) (Ao.refl _) O
    refine DagSteps.cons (λe w' X U H=>Or.inl ⟨?_,?_⟩) ?_
    .exact AQ O
    .have Z:e 11=(.slice (some ⟨b,o,none⟩) ll.length c):=H 0 O 11 (.eq (.slice (some ⟨b,o,none⟩) ll.length c)) O (by rw[d];rfl);have M:e 12=(.int .i64 ((k:Nat):Int)):=H 1 O 12 (.eq (.int .i64 ((k:Nat):Int))) O (by rw[d];rfl);exact A1 (AC (i:=k) Z M O underlying49 BW qO qO) (Ao.refl _) O
    refine DagSteps.cons (λe w' X U H=>Or.inl ⟨?_,?_⟩) ?_
    .exact AQ O
    .have T:e 13=(.pointer (some ⟨b,o+k,none⟩)):=H 2 O 13 (.eq (.pointer (some ⟨b,o+k,none⟩))) O (by rw[d];rfl);exact A1 (AD T CC ((Chg.ext E (A.trans X)).cell (λf=>f) t)) (Ao.refl _) O
    refine DagSteps.cons (λe w' X U H=>Or.inl ⟨?_,?_⟩) ?_
    .exact AQ O
    .exact A1 (Ah (U 0 O)) (Ao.refl _) O
    refine DagSteps.cons (λe w' X U H=>Or.inl ⟨?_,?_⟩) ?_
    .exact AQ O
    .have V:e 14=(.slice J l.length rc):=H 3 O 14 (.eq (.slice J l.length rc)) O (by rw[d];rfl);have ab:e 15=(.int .i64 r):=H 4 O 15 (.eq (.int .i64 r)) O (by rw[d];rfl);exact Dt (AT func49 kQ kQ (JD V ab)) (Ml _ _ l r (N.ext (Chg.ext E (A.trans X))))
    refine DagSteps.cons (λe w' X U H=>Or.inl ⟨?_,?_⟩) ?_
    .exact AQ O
    .exact A1 (AD (U 2 O) Mp (((A.trans X).keep g).cell O)) (Ao.refl _) O
    refine DagSteps.cons (λe w' X U H=>Or.inl ⟨?_,?_⟩) ?_
    .exact AQ O
    .exact A1 (Ah (U 5 O)) (Ao.refl _) O
    refine DagSteps.cons (λe w' X U H=>Or.inl ⟨?_,?_⟩) ?_
    .exact AQ O
    .have F:e 17=(.slice (some ⟨b',o',none⟩) m.length c2):=H 6 O 17 (.eq (.slice (some ⟨b',o',none⟩) m.length c2)) O (by rw[d];rfl);have P:e 18=(.int .i64 ((k:Nat):Int)):=H 7 O 18 (.eq (.int .i64 ((k:Nat):Int))) O (by rw[d];rfl);exact A1 (AC (i:=k) F P O underlying66 H8 qO qO) (Ao.refl _) O
    refine DagSteps.cons (λe w' X U H=>Or.inl ⟨?_,?_⟩) ?_
    .exact AQ O
    .have W:e 19=(.pointer (some ⟨b',o'+k,none⟩)):=H 8 O 19 (.eq (.pointer (some ⟨b',o'+k,none⟩))) O (by rw[d];rfl);exact A1 (AD W GF ((Chg.ext E (A.trans X)).cell (λf=>f) (aa k q I))) (Ao.refl _) O
    refine DagSteps.cons (λe w' X U H=>Or.inl ⟨?_,?_⟩) ?_
    .exact AQ O
    .have R:e 16=(.bool (BY l r)):=H 5 O 16 (.eq (.bool (BY l r))) O (by rw[d];rfl);have S:e 20=(.bool q):=H 9 O 20 (.eq (.bool q)) O (by rw[d];rfl);exact A1 (SB underlying4 R S) (Ao.refl _) O
    exact DagSteps.nil
   .intro e w3 G U H;obtain ⟨j3,rfl⟩:=Af.out (σ:=e) (l:=[(0,(.int .i64 r)),(1,(.pointer (some ⟨y,0,none⟩))),(2,(.pointer (some ⟨B,0,none⟩))),(7,(.int .i64 ((ll.length:Nat):Int))),(8,(.int .i64 ((k:Nat):Int))),(21,(.bool (BY l r != q)))]) ⟨U 0 O,U 1 O,U 2 O,U 7 O,U 8 O,(show e 21=(.bool (BY l r != q)) from H 10 21 (.eq (.bool (BY l r != q))) O (by rw[d];rfl)),trivial⟩;clear U H;replace j:=G.keep j;replace g:=G.keep g;replace E:=E.ext G;refine AB (A3 O (λp=>?_) (λp=>?_))
    .have z:=p;refine Y (qA _ O (AA (AS (Ag (AO (AO (Ag (AO (AV results66 (v:=(.bool false)) O ?_)))))))));exact ⟨CG (by symm;rw[decide_eq_false_iff_not];intro h;rw[h,I] at s;cases s;simp at p),E⟩
    .have z:=p;refine AK (AP (AB (AG (qV (Aq O O (A2 qO)) (qM _ O (AA (AB ?_)))))));exact ⟨ll.length - (k+1),qO,k+1,Af.out ⟨O,O,O,O,O,trivial⟩,E,j,g,qO,(λi hi=>by rcases Nat.lt_or_ge i k with h|h;exact C i h;obtain rfl:i=k:=qO;rw[s,I];simpa using p),O⟩
  .refine Ak (AR (AR (Ae (AB (Y (qA _ O (AA (AS (AV results66 (v:=(.bool true)) O ?_)))))))));exact ⟨CG (by symm;rw[decide_eq_true_eq];apply List.ext_getElem?;intro i;rcases Nat.lt_or_ge i ll.length with h|h;exact C i qO;rw[List.getElem?_eq_none (by simpa[Ay] using h),List.getElem?_eq_none qO]),E⟩
theorem TN {l:List Sp} {p:List Int} {f:Int->Bool} (e:Ds l p) (a:∀s∈l,C_ s) (g:Jk f p):∃b,Cc b f:=by
 have d:∀k,k<=p.length->∃b,CInv p f b k:=by
  intro k
  induction k with
  | zero=>exact λ_=>⟨[],CInv.start e a⟩
  | succ k ih=>
   intro hk;obtain ⟨b,h⟩:=ih qO;obtain ⟨lo,c⟩:=AL (l:=p) (i:=k) qO;cases hf:f lo with
   | false=>exact ⟨b,h.skip e a g c hf⟩
   | true=>exact ⟨_,h.take e a g c hf⟩
 obtain ⟨b,h⟩:=d p.length (Nat.le_refl _);exact ⟨b,h.done⟩
theorem Py {l:List Sp} {p:List Int} (ll:List (List Sp)) (g:Ds l p) (b:∀s∈l,C_ s) (i:l=ll.flatten):∀e:List (List Bool),∃cs:List (List Sp),cs.length=e.length∧∀(k:Nat) a c,e[k]?=some a->cs[k]?=some c->Cc c (λr=>decide (Ay ll r=a))
 | []=>⟨[],O,λk a c h=>by simp at h⟩
 | m::e=>by
  obtain ⟨c,o⟩:=TN g b (KV (i▸g) m);obtain ⟨cs,n,j⟩:=Py ll g b i e;refine ⟨c::cs,by simp[n],λk a d f hd=>?_⟩;cases k with
  | zero=>simp at f hd;subst f;subst hd;exact o
  | succ k=>exact j k a d (by simpa using f) (by simpa using hd)
theorem TQ {ll:List (List Sp)} {p:List Int} {k:Nat} {a:List Bool} {c:List Sp} (g:Ds ll.flatten p) (b:∀s∈ll.flatten,C_ s) (f:(DT (p.map (Ay ll)))[k]?=some a) (m:Cc c (λr=>decide (Ay ll r=a))) (j:16<c.length):∃cs,LN ll cs∧Ka cs:=by
 obtain ⟨cs,h,e⟩:=Py ll g b O (DT (p.map (Ay ll)));refine ⟨cs,⟨p,g,h,e⟩,.inl ?_⟩;obtain ⟨d,hd⟩:=AL (l:=cs) (i:=k) (by have:=AI f;omega);refine ⟨d,List.mem_of_getElem? hd,?_⟩;rw[Cc.eq (e k a d f hd) m λ_ _ _=>rfl];exact j
theorem Qj {ll cs:List (List Sp)} {f:List (List Bool)} {k:Nat} {mk:List Bool} {out:List Sp} (h:∀(j:Nat) a d,f[j]?=some a->cs[j]?=some d->Cc d (λr=>decide (Ay ll r=a))) (b:cs.length=k) (c:f[k]?=some mk) (i:Cc out (λr=>decide (Ay ll r=mk))) :
 ∀(j:Nat) a d,f[j]?=some a->(cs++[out])[j]?=some d->Cc d (λr=>decide (Ay ll r=a)):=by
 intro j a d e hd;rcases Nat.lt_or_ge j cs.length with g|g
 .rw[List.getElem?_append_left g] at hd;exact h j a d e hd
 .rw[List.getElem?_append_right g] at hd;have l:=AI hd;simp at l;obtain rfl:j=k:=qO
  rw[b,Nat.sub_self] at hd;simp at hd;rw[c] at e;cases e;subst hd;exact i
theorem TF {m mk:List Bool} {l:List (List Bool)} (h:decide (m∈l)=false):decide (mk=m)=decide (m∈l++[mk]):=by
 have b:=of_decide_eq_false h;rw[decide_eq_decide,List.mem_append,List.mem_singleton];constructor
 .exact λe=>.inr e.symm
 .rintro (a|a)
  .exact absurd a b
  .exact a.symm
theorem XH (w0:World) (v:Value) (ll:List (List Sp)) (h:Bg w0 v ll) (hL:ll.flatten.length<=1048576) (hL2:ll.length<=1048576) :
 CJ prog 23 #[v] w0 λr w=>(∃out e,M0 ll out e∧Ty w r out e)∧Ao w0 w:=by
 obtain ⟨a,c,rfl,_,hle⟩:=h.form;obtain ⟨base,hbase⟩:∃base,base=w0.heap.size:=⟨_,O⟩;refine qR func23 O ntmps23 O (λE=>(Y (BM (v:=(.slice a ll.length c)) (c:=#[(.slice a ll.length c)]) qD O O ?_)));intro P ws Ns;replace E:=E.ext Ns.ext;have g:=Ns.blk;refine qA _ O (qA _ O (AA (AE (Y (qV (AD O DE (g.cell O)) (qV (AH underlying49 O) (qM _ O (AA (AM (Am (λnn_ σ W1=>∃(k:Nat),(∃jj_,σ=BQ jj_ [(1,(P6 P 0)),(20,(.slice a ll.length c)),(21,(I6 (ll.length:Int))),(22,(I6 (k:Int)))])∧Chg AZ w0 W1∧Az W1 P #[(.slice a ll.length c)] 49∧(k<=ll.length)∧(∀l∈ll.take k,A7 l=0)∧nn_=ll.length - k) (n:=ll.length - 0) ?_ ?_))))))))))
 .exact ⟨0,Af.out ⟨O,O,O,O,trivial⟩,E,g,Nat.zero_le _,qP,O⟩
 .clear E g;rintro _ _ W1 ⟨k,⟨j1,rfl⟩,E,g,hk,hz,rfl⟩;refine Y (qV (Av O O) (AA (AE (qC O (λbz=>?_) (λbz=>?_)))))
  .obtain ⟨l,M⟩:=AL (l:=ll) (i:=k) qO;obtain ⟨b,o,rfl,X⟩:=CD h qO;obtain ⟨ra,rc,N,ab⟩:=X k l M;refine AK (AB (AE (AM (Y (qV (AC (b:=b) (o:=o) (len:=ll.length) (cap:=c) (i:=k) (o':=o+k) O O O underlying49 BW qO qO) (qV (AD O CC (E.cell (λf=>f) N)) (qA _ O (AA (Y (qM _ O (qE O (AT func24 kQ kQ O) (My _ _ l (ab.ext E)) ?_)))))))))));rintro _ w9 ⟨rfl,X9⟩;replace g:=X9.keep g;replace E:=E.ext X9;refine qA _ O (AA (Y (qM _ O (qV (CO O O) (AA (qC O (λhc=>?_) (λhc=>?_)))))))
   .refine Y (qM _ O (qA _ O (qA _ O (AA (AS (Ag (AO (AO (Ag (AO (Cl results23 (v:=(.slice none 0 0)) (v':=(.int .i64 (A7 l))) O O ?_)))))))))));exact ⟨⟨[],A7 l,.inl ⟨by rw[G0 hz M hc];exact hc,(G0 hz M hc).symm,O⟩,none,0,O,Eu _⟩,E⟩
   .refine AK (AP (AB (AG (qV (Aq O O (A2 qO)) (qM _ O (AA (AB ?_)))))));exact ⟨ll.length - (k+1),qO,k+1,Af.out ⟨O,O,O,O,trivial⟩,E,g,qO,(λy hy=>by rw[CP M] at hy;rcases List.mem_append.1 hy with G|G;exact hz y G;rw[List.mem_singleton] at G;subst G;omega),O⟩
  .have be:k=ll.length:=qO
   rw[be,List.take_length] at hz;have ar:=Ej hz;have ak:∀s∈ll.flatten,C_ s:=λs hs=>by obtain ⟨l,hl,hs⟩:=List.mem_flatten.1 hs;exact (CE (hz l hl)).1.ok s hs
   refine Ak (AR (AR (Ae (AB (Y (qA _ O (AA (AE (Y (qV (AD O DE (g.cell O)) (qE O (AT func63 kQ kQ O) (KK _ _ ll (h.ext E) qO ak) ?_)))))))))));rintro _ w9 ⟨⟨p,hP,⟨pa,pc,rfl⟩,hp⟩,X9⟩;replace g:=X9.keep g;replace E:=E.ext X9;obtain ⟨n1,hn1e⟩:∃n1,n1=(w9).heap.size:=⟨_,O⟩;have hbs1:P<n1:=by have:=g.lt;omega
   have hwn1:w0.heap.size<=n1:=by have:=E.size;omega
   have hpl:p.length<=1114112:=Jw hP.1 (λx M=>Cg hP ak M);have A:Chg AZ w9 w9:=Chg.refl _ _;refine qV (AH underlying22 O) (qM _ O (AA (AM (Am (λnn_ σ R=>∃(i:Nat) (B:List (List Bool)) (vs:List Value) (oa:Option Addr) (oc H:Nat),(∃jj_,σ=BQ jj_ [(1,(P6 P 0)),(33,(.slice pa p.length pc)),(34,(I6 (p.length:Int))),(35,(I6 (i:Int))),(7,(.slice oa H oc))])∧Chg AZ w0 R∧Chg AZ w9 R∧Az R P #[(.slice a ll.length c)] 49∧(i<=p.length)∧(B=DT ((p.take i).map (Ay ll)))∧(∀m∈B,m.length=ll.length)∧(H=B.length)∧(H<=i)∧(LSt Xs TB 1 R n1 (.slice oa H oc) vs (B.map Oo))∧(n1<=R.heap.size)∧nn_=p.length - i) (n:=p.length - 0) ?_ ?_))))
   .exact ⟨0,[],[],none,0,0,Af.out ⟨O,O,O,O,O,trivial⟩,E,A,g,Nat.zero_le _,O,(λm h=>absurd h List.not_mem_nil),O,Nat.le_refl _,LSt.start _ _ _ _ _,qO,O⟩
   .clear E A g;rintro _ _ R ⟨i,B,vs,oa,oc,H,⟨j4,rfl⟩,E,A,g,hi,aa,am,al,hki,hC,hbs,rfl⟩;refine Y (qV (Av O O) (AA (AE (qC O (λa9=>?_) (λa9=>?_)))))
    .obtain ⟨x,M⟩:=AL (l:=p) (i:=i) qO;obtain ⟨pb,po,rfl,bw⟩:=BF (l:=p) (hp.ext A) qO;obtain ⟨z0,hz0e⟩:∃z0,z0=(R).heap.size:=⟨_,O⟩;have ba:n1<=z0:=qO
     have hbsz:P<z0:=by have:=g.lt;omega
     have hbz:w0.heap.size<=z0:=by have:=E.size;omega
     have E6:Chg AZ R R:=Chg.refl _ _;refine AK (AB (AE (AM (Y (qV (AC (b:=pb) (o:=po) (len:=p.length) (cap:=pc) (i:=i) (o':=po+i) O O O underlying22 Ab qO qO) (qV (AD O Aa (bw i x M)) (qA _ O (AA (Y (qA _ O (AA (AE (Y (qV (AD O DE (g.cell O)) (qV (AH underlying49 O) (qM _ O (AA (AM (Am (λnn_ σ W6=>∃(e:Nat) (ma:Option Addr) (mc:Nat),(∃jj_,σ=BQ jj_ [(1,(P6 P 0)),(7,(.slice oa H oc)),(9,(I6 x)),(33,(.slice (some ⟨pb,po,none⟩) p.length pc)),(34,(I6 (p.length:Int))),(35,(I6 (i:Int))),(39,(.slice a ll.length c)),(40,(I6 (ll.length:Int))),(41,(I6 (e:Int))),(10,(.slice ma e mc))])∧Chg AZ w0 W6∧Chg AZ w9 W6∧Chg AZ R W6∧Az W6 P #[(.slice a ll.length c)] 49∧(e<=ll.length)∧(W6.ownsRow z0 TB 1 (.slice ma e mc) e ((Ay (ll.take e) x).map Value.bool))∧(z0<=W6.heap.size)∧nn_=ll.length - e) (n:=ll.length - 0) ?_ ?_)))))))))))))))))))
     .exact ⟨0,none,0,Af.out ⟨O,O,O,O,O,O,O,O,O,O,trivial⟩,E,A,E6,g,Nat.zero_le _,World.ownsRow_nil _ _ _ _,qO,O⟩
     .clear E A E6 g;rintro _ _ W6 ⟨e,ma,mc,⟨j6,rfl⟩,E,A,E6,g,he,hm,ah,rfl⟩;refine Y (qV (Av O O) (AA (AE (qC O (λay=>?_) (λay=>?_)))))
      .obtain ⟨l,hl⟩:=AL (l:=ll) (i:=e) qO;obtain ⟨b,o,rfl,X⟩:=CD h qO;obtain ⟨ra,rc,N,ab⟩:=X e l hl;refine AK (AB (AE (AM (Y (qV (AC (b:=b) (o:=o) (len:=ll.length) (cap:=c) (i:=e) (o':=o+e) O O O underlying49 BW qO qO) (qV (AD O CC (E.cell (λf=>f) N)) (qA _ O (AA (AG (qM _ O (qM _ O (qM _ O (qE O (AT func49 kQ kQ O) (Ml _ _ l x (ab.ext E)) ?_)))))))))))));rintro _ w51 ⟨rfl,V⟩;replace g:=V.keep g;replace E:=E.ext V;replace A:=A.ext V;replace E6:=E6.ext V;refine Ad (ps:=[(0,(.bool (BY l x)))]) (c:=#[(.bool (BY l x))]) qD O underlying66 H8 VY qD qD qK ?_;intro b8 w8 N8;replace g:=N8.keep g;replace hm:=Aj (Aj hm V) N8.ext;replace ah:=Nat.le_trans (Nat.le_trans ah V.size) N8.ext.size;replace E:=E.ext N8.ext;have B8:=N8.blk;replace A:=A.ext N8.ext;replace E6:=E6.ext N8.ext;refine BT (base:=z0) (n:=e) (m:=1) (xs:=((Ay (ll.take e) x).map Value.bool)) (news:=[(.bool (BY l x))]) (size:=1) (bytes:=1) (v:=(.slice ma e mc)) qD underlying66 H8 XU VY O qD O hm O (O) (B8.cells O) qS (by unfold maxLen;omega) qO (ah) ?_;intro v7 w59 az ac Dv7;replace g:=ac.keep (λh=>by have:=(hm.lt _ h).1;omega) g;replace E:=E.step ac (λx M h=>absurd (hm.lt x h).1 qO);replace E6:=E6.step ac (λx M h=>absurd (hm.lt x h).1 qO);replace A:=A.step ac (λx M h=>absurd (hm.lt x h).1 qO);obtain ⟨bv,b0,rfl⟩:=A9 az;refine qA _ O (AA (AP (AB (AG (qV (Aq O O (A2 qO)) (qM _ O (AA (AB ?_))))))));exact ⟨ll.length - (e+1),qO,e+1,bv,b0,Af.out ⟨O,O,O,O,O,O,O,O,O,O,trivial⟩,E,A,E6,g,qO,(by rw[CP hl];unfold Ay;rw[List.map_append,List.map_append];simpa[Ay] using az),Nat.le_trans ah ac.size,O⟩
      .have ag:e=ll.length:=qO
       rw[ag,List.take_length,<-ag] at hm;have hmB:GK W6 (.slice ma e mc) (Ay ll x):=Hd hm (by simp[Ay,ag]);have bp:=hC.ext E6;refine Ak (AR (AR (Ae (AB (Y (qA _ O (AA (AE (Y (qM _ O (qV (AH underlying99 O) (qM _ O (AA (AM (Am (λnn_ σ W9=>∃(k:Nat) (od:Bool),(∃jj_,σ=BQ jj_ [(1,(P6 P 0)),(7,(.slice oa H oc)),(10,(.slice ma e mc)),(33,(.slice (some ⟨pb,po,none⟩) p.length pc)),(34,(I6 (p.length:Int))),(35,(I6 (i:Int))),(52,(.slice oa H oc)),(53,(I6 (H:Int))),(54,(I6 (k:Int))),(13,(.bool od))])∧Chg AZ w0 W9∧Chg AZ w9 W9∧Az W9 P #[(.slice a ll.length c)] 49∧(k<=B.length)∧(od=decide (Ay ll x∈B.take k))∧(LSt Xs TB 1 W9 n1 (.slice oa H oc) vs (B.map Oo))∧(W9.ownsRow z0 TB 1 (.slice ma e mc) e ((Ay ll x).map Value.bool))∧(z0<=W9.heap.size)∧nn_=B.length - k) (n:=B.length - 0) ?_ ?_)))))))))))))))
       .exact ⟨0,false,Af.out ⟨O,O,O,O,O,O,O,O,O,O,trivial⟩,E,A,g,Nat.zero_le _,qP,bp,hm,ah,O⟩
       .clear E A g;rintro _ _ W9 ⟨k,od,⟨j9,rfl⟩,E,A,g,hk2,ae,z,W,U,rfl⟩;refine Y (qV (Av O O) (AA (AE (qC O (λa0=>?_) (λa0=>?_)))))
        .obtain ⟨mk,I⟩:=AL (l:=B) (i:=k) qO;obtain ⟨u,hu⟩:=AL (l:=vs) (i:=k) (by have:=z.len;simp at this;omega);have ai:=z.inn k u (Oo mk) hu (by rw[List.getElem?_map,I];rfl);obtain ⟨ua,uc,rfl⟩:=A9 ai;obtain ⟨gg,rfl,b2,au⟩:=Bj (z.on (by rw[List.length_map];exact al)) qO;have ad:=am mk (List.mem_of_getElem? I);have av:GK W9 (.slice ua mk.length uc) mk:=Hd ai O;have a6:GK W9 (.slice ma e mc) (Ay ll x):=Hd W (by simp[Ay,ag]);refine AK (AB (AE (AM (Y (qV (AC (b:=gg) (o:=0) (len:=H) (cap:=oc) (i:=k) (o':=0+k) O O O underlying99 Ld qO qO) (qV (AD O Mp ((by have G:=au k _ hu;exact G))) (qA _ O (AA (AG (qM _ O (qM _ O ?_)))))))))));rcases Bool.eq_false_or_eq_true (od) with hg|hg
         .have bf:=hg;refine AJ O O qD (v:=.bool true) (Aw hg) (Or.inl O) (AJ O O qD (v:=.bool true) (Aw hg) (Or.inl O) (AJ O O qD (v:=.bool true) (Aw hg) (Or.inl O) (qV (Ac (v:=(.bool true)) O (by rw[hg];rfl)) (qA _ O (AA (AP (AB (AG (qV (Aq O O (A2 qO)) (qM _ O (AA (AB ?_))))))))))));exact ⟨B.length - (k+1),qO,k+1,true,Af.out ⟨O,O,O,O,O,O,O,O,O,O,trivial⟩,E,A,g,qO,(by rw[CP I];symm;rw[decide_eq_true_eq];exact List.mem_append_left _ (of_decide_eq_true (ae.symm.trans hg))),z,W,U,O⟩
         .have bf:=hg;refine AF O O qD (Aw hg) (qM _ O (AF O O qD (Aw hg) (qM _ O (AF O O qD (Aw hg) (qE O (AT func64 kQ kQ O) (WP _ _ _ mk (Ay ll x) av a6 (by rw[ad];simp[Ay])) ?_)))));rintro _ b3 ⟨rfl,t⟩;replace g:=t.keep g;replace E:=E.ext t;replace A:=A.ext t;refine qV (Ac (v:=(.bool (decide (mk=Ay ll x)))) O (by rw[hg];rfl)) (qA _ O (AA (AP (AB (AG (qV (Aq O O (A2 qO)) (qM _ O (AA (AB ?_)))))))));exact ⟨B.length - (k+1),qO,k+1,decide (mk=Ay ll x),Af.out ⟨O,O,O,O,O,O,O,O,O,O,trivial⟩,E,A,g,qO,(by rw[CP I];exact TF (ae.symm.trans hg)),z.ext t,Aj W t,Nat.le_trans U t.size,O⟩
        .have a2:k=B.length:=qO
         rw[a2,List.take_length] at ae;have a8:(p.take (i+1)).map (Ay ll)=(p.take i).map (Ay ll)++[Ay ll x]:=by rw[CP M,List.map_append];rfl
         refine Ak (AR (AR (Ae (AB (Y (qM _ O (qV (Cj O) (AA (A3 O (λq=>?_) (λq=>?_))))))))))
         .have aw:=q;replace q:=by simpa using q
          have a5:od=false:=by simpa using q
          have F:H=(B.map Oo).length:=by rw[List.length_map];exact al
          have a1:Ay ll x∉B:=of_decide_eq_false (ae.symm.trans a5);refine AG (qM _ O (qM _ O (Ad (ps:=[(0,(.slice ma e mc))]) (c:=#[(.slice ma e mc)]) qD O underlying99 Ld Pr qD qD qK ?_)));intro b13 w13 Q;replace g:=Q.keep g;replace z:=z.ext Q.ext;replace W:=Aj W Q.ext;replace U:=Nat.le_trans U Q.ext.size;replace E:=E.ext Q.ext;have bn:=Q.blk;replace A:=A.ext Q.ext;refine BT (base:=n1) (n:=H) (m:=1) (xs:=vs) (news:=[(.slice ma e mc)]) (size:=1) (bytes:=24) (v:=(.slice oa H oc)) qD underlying99 Ld XS Pr O qD O (z.on F) O (O) (bn.cells O) qS (by unfold maxLen;omega) qO (qO) ?_;intro v8 bx af C ax;replace g:=C.keep (λh=>by have:=((z.on F).lt _ h).1;omega) g;replace E:=E.step C (λx M h=>absurd ((z.on F).lt x h).1 qO);replace A:=A.step C (λx M h=>absurd ((z.on F).lt x h).1 qO);obtain ⟨bg,bd,rfl⟩:=A9 af;have bq:=z.push F W ba (λk hk=>by have:=(hC.o.lt k hk).2;omega) af C ax;refine qA _ O (AA (AP (AB (AG (qV (Aq O O (A2 qO)) (qM _ O (AA (AB ?_))))))));exact ⟨p.length - (i+1),qO,i+1,B++[Ay ll x],vs++[.slice ma e mc],bg,bd,H+1,Af.out ⟨O,O,O,O,O,trivial⟩,E,A,g,qO,(by rw[a8,GG,<-aa];unfold Ht;rw[if_neg a1]),(λm hm=>by rcases List.mem_append.1 hm with G|G;exact am m G;rw[List.mem_singleton] at G;rw[G];simp[Ay]),(by simp;omega),qO,(by rw[List.map_append];have h9:=bq;rw[show (e,(Ay ll x).map Value.bool)=Oo (Ay ll x) by unfold Oo;simp[Ay,ag]] at h9;exact h9),(by have:=C.size;omega),O⟩
         .have aw:=q;replace q:=by simpa using q
          refine AK (AP (AB (AG (qV (Aq O O (A2 qO)) (qM _ O (AA (AB ?_)))))));exact ⟨p.length - (i+1),qO,i+1,B,vs,oa,oc,H,Af.out ⟨O,O,O,O,O,trivial⟩,E,A,g,qO,(by rw[a8,GG,<-aa];unfold Ht;rw[if_pos (of_decide_eq_true (ae.symm.trans (by simpa using q)))]),am,al,qO,z,qO,O⟩
    .have bu:i=p.length:=qO
     rw[bu,List.take_length] at aa;obtain ⟨n2,hn2e⟩:∃n2,n2=(R).heap.size:=⟨_,O⟩;have hbs2:P<n2:=by have:=g.lt;omega
     have hwn2:w0.heap.size<=n2:=by have:=E.size;omega
     have S:Chg AZ R R:=Chg.refl _ _;refine Ak (AR (AR (Ae (AB (Y (qA _ O (AA (AE (Y (qM _ O (qV (AH underlying99 O) (qM _ O (AA (AM (Am (λnn_ σ L=>∃(k:Nat) (cs:List (List Sp)) (us:List Value) (ca:Option Addr) (cc cn:Nat),(∃jj_,σ=BQ jj_ [(1,(P6 P 0)),(72,(.slice oa H oc)),(73,(I6 (H:Int))),(74,(I6 (k:Int))),(16,(.slice ca cn cc))])∧Chg AZ w0 L∧Chg AZ R L∧Az L P #[(.slice a ll.length c)] 49∧(k<=B.length)∧(cs.length=k)∧(cn=k)∧(∀(j:Nat) aj d,B[j]?=some aj->cs[j]?=some d->Cc d (λr=>decide (Ay ll r=aj)))∧(∀d∈cs,d.length<=16)∧(LSt M_ JV 2 L n2 (.slice ca cn cc) us (cs.map Qp))∧(n2<=L.heap.size)∧nn_=B.length - k) (n:=B.length - 0) ?_ ?_)))))))))))))))
     .exact ⟨0,[],[],none,0,0,Af.out ⟨O,O,O,O,O,trivial⟩,E,S,g,Nat.zero_le _,O,O,(λj aj d _ h=>by simp at h),(λd h=>absurd h List.not_mem_nil),LSt.start _ _ _ _ _,qO,O⟩
     .clear E S g;rintro _ _ L ⟨k,cs,us,ca,cc,cn,⟨j14,rfl⟩,E,S,g,hk3,X,hcn,ap,a3,D,Z,rfl⟩;refine Y (qV (Av O O) (AA (AE (qC O (λbb=>?_) (λbb=>?_)))))
      .obtain ⟨mk,I⟩:=AL (l:=B) (i:=k) qO;obtain ⟨u,hu⟩:=AL (l:=vs) (i:=k) (by have:=hC.len;simp at this;omega);have ai:=hC.inn k u (Oo mk) hu (by rw[List.getElem?_map,I];rfl);obtain ⟨ua,uc,rfl⟩:=A9 ai;have F:H=(B.map Oo).length:=by rw[List.length_map];exact al
       obtain ⟨gg,rfl,b2,au⟩:=Bj (hC.on F) qO;have ad:=am mk (List.mem_of_getElem? I);have av:=Hd ai O;refine AK (AB (AE (AM (Y (qV (AC (b:=gg) (o:=0) (len:=H) (cap:=oc) (i:=k) (o':=0+k) O O O underlying99 Ld qO qO) (qV (AD (v:=(.slice ua mk.length uc)) O Mp ((by have G:=au k _ hu;exact S.cell (λf=>f) G))) ?_))))));have a4:=D;have hbw0:=Z;have T:(L).heap.size<=(L).heap.size:=Nat.le_refl _;refine Au (v:=(.slice ua mk.length uc)) (c:=#[(.slice ua mk.length uc)]) (n:=1) qD Pr O Ld O O O qS ?_;intro bm wm Nm;replace g:=Nm.keep g;replace E:=E.ext Nm.ext;have Bm:=Nm.blk;replace S:=S.ext Nm.ext;refine AA (Y (qV (CA O O) (qV (AD O DE (g.cell O)) (qE O (AT func65 kQ kQ O) (TV _ _ _ (λr=>decide (Ay ll r=mk)) ll (h.ext E) qO ak (λp hp=>KV hp mk) (λw x hE=>CV.mk (first:=#[]) (cap:=#[.pointer (some ⟨P,0,none⟩),.pointer (some ⟨bm,0,none⟩)]) func66 kQ kQ O (U1 w P bm _ _ ll mk x (hE.keep g) (hE.keep Bm) ((h.ext E).ext hE) ((BL.ext av S).ext hE) ad))) ?_))));rintro _ b3 ⟨⟨out,hI,⟨⟨xa,xc,rfl⟩,bj⟩⟩,t⟩;replace g:=t.keep g;replace Bm:=t.keep Bm;replace T:=Nat.le_trans (Nat.le_trans T Nm.ext.size) t.size;replace D:=(D.ext Nm.ext).ext t;replace Z:=Nat.le_trans (Nat.le_trans Z Nm.ext.size) t.size;replace E:=E.ext t;replace S:=S.ext t;have hwm:=Nm.ext.size;have aq:=bj;refine qA _ O (AA (AE (Y (qM _ O (qV (AH underlying37 O) (qV (CH O O) (AA (qC O (λbt=>?_) (λbt=>?_)))))))))
       .refine Y (qA _ O (qA _ O (AA (AS (AO (Ag (AO (AO (Ag (AO (Cl results23 (v:=(.slice none 0 0)) (v':=(.int .i64 2)) O O ?_)))))))))));obtain ⟨cF,bk,br⟩:=TQ hP ak (aa▸I) hI qO;exact ⟨⟨[],2,.inr ⟨ar,cF,bk,.inl ⟨br,O,O⟩⟩,none,0,O,Eu _⟩,E⟩
       .have K:cn=(cs.map Qp).length:=by rw[List.length_map];omega
        refine AK (AB (AG (qM _ O (qM _ O (Ad (ps:=[(0,(.slice xa out.length xc))]) (c:=#[(.slice xa out.length xc)]) qD O underlying49 BW G4 qD qD qK ?_)))));intro b17 w17 J;replace g:=J.keep g;replace Bm:=J.keep Bm;replace T:=Nat.le_trans T J.ext.size;replace D:=D.ext J.ext;replace Z:=Nat.le_trans Z J.ext.size;replace aq:=Aj aq J.ext;replace E:=E.ext J.ext;have bi:=J.blk;replace S:=S.ext J.ext;refine BT (base:=n2) (n:=cn) (m:=1) (xs:=us) (news:=[(.slice xa out.length xc)]) (size:=1) (bytes:=24) (v:=(.slice ca cn cc)) qD underlying49 BW MI G4 O qD O (D.on K) O (O) (bi.cells O) qS (by unfold maxLen;omega) qO (Z) ?_;intro v8 bx af C ax;replace g:=C.keep (λh=>by have:=((D.on K).lt _ h).1;omega) g;replace E:=E.step C (λx M h=>absurd ((D.on K).lt x h).1 qO);replace S:=S.step C (λx M h=>absurd ((D.on K).lt x h).1 qO);obtain ⟨bh,bo,rfl⟩:=A9 af;refine qA _ O (AA (AP (AB (AG (qV (Aq O O (A2 qO)) (qM _ O (AA (AB ?_))))))));exact ⟨B.length - (k+1),qO,k+1,cs++[out],us++[.slice xa out.length xc],bh,bo,cn+1,Af.out ⟨O,O,O,O,O,trivial⟩,E,S,g,qO,(by simp;omega),qO,Qj ap X I hI,(λd hd=>by rcases List.mem_append.1 hd with G|G;exact a3 d G;rw[List.mem_singleton] at G;rw[G];omega),(by rw[List.map_append];exact D.push K aq qO (λk hk=>by have:=(a4.o.lt k hk).2;omega) af C ax),(by have:=C.size;omega),O⟩
      .have bc:k=B.length:=qO
       have an:LN ll cs:=⟨p,hP,by rw[<-aa,X,bc],λk aj d G h2=>ap k aj d (aa▸G) h2⟩;have ab:=D.spss;have ao:cn=cs.length:=qO
       refine Ak (AR (AR (Ae (AB (AE (Y (qM _ O (qV (AH underlying49 O) (qV (CH O O) (AA (qC O (λa7=>?_) (λa7=>?_))))))))))))
       .refine Y (qA _ O (qA _ O (AA (AS (AO (Cl results23 (v:=(.slice none 0 0)) (v':=(.int .i64 2)) O O ?_))))));exact ⟨⟨[],2,.inr ⟨ar,cs,an,.inl ⟨.inr qO,O,O⟩⟩,none,0,O,Eu _⟩,E⟩
       .refine AK (AB (Y (qM _ O (qA _ O (qA _ O (AA (AS (Cl results23 (v:=(.slice ca cn cc)) (v':=(.int .i64 0)) O O ?_))))))));rw[ao] at ab;exact ⟨⟨cs,0,.inr ⟨ar,cs,an,.inr ⟨λb1=>by rcases b1 with ⟨d,G,h2⟩|h2;have:=a3 d G;omega;omega,O,O⟩⟩,ca,cc,by rw[ao],ab⟩,E⟩
end Go.Proofs
namespace Go.Proofs
open Go Go.Eng Go.Sort
set_option maxRecDepth 100000
theorem Vd {S:Type} (F:S→Re→Bool×S) (Inv:S→(Nat→Prop)→World→Prop) (Pn:Re→Prop) (fv:Value) (wb:World)
    (hb:∀s D w,Inv s D w→∀b,D b→wb.heap.size≤b∧b<w.heap.size)
    (hst:∀s D w w',Inv s D w→Ao w w'→Inv s D w')
    (hP:∀t,Pn t→∀x∈t.args,Pn x)
    (hf:∀s D w t vs,Ao wb w→Pn t→Inv s D w→BR wb t vs→CV prog fv #[.agg vs.toArray] w fun v w'=>∃D',v=.bool (F s t).1∧Chg D w w'∧Inv (F s t).2 D' w'∧∀b,D' b→D b∨w.heap.size≤b) :
    ∀n t,t.size≤n→Pn t→∀s (D:Nat→Prop) w0 vs,Ao wb w0→Inv s D w0→BR wb t vs→
      CJ prog 93 #[.agg vs.toArray,fv] w0 fun v w'=>∃D',v=.bool (C' F t s).1∧Chg D w0 w'∧Inv (C' F t s).2 D' w'∧∀b,D' b→D b∨w0.heap.size≤b:=by
  have ad:∀{D:Nat→Prop} {w w':World},Ao wb w→(∀b,D b→wb.heap.size≤b)→Chg D w w'→Ao wb w':=fun e h c=>Chg.step e c fun x hx hm=>by have:=h x hm;omega
  intro n
  induction n with
  | zero=>intro t ht;have:=t.size_pos;omega
  | succ n ih=>
  intro t hn az s D w0 vs hE hI ht;obtain ⟨sa,sc,aa,ac,rfl,a6,a3,af⟩:=ht.form;have ag:=hb s D w0 hI;rw[FQ];refine F9 func93 rfl ntmps93 (Jo rfl) ?_;have E:Chg D w0 w0:=Chg.refl _ _;refine Y (BM (v:=(.agg (R6 t sa sc aa ac))) (c:=(R6 t sa sc aa ac)) qD rfl rfl ?_);intro br wr Nr;have Fr:=Nr.ge E;replace hI:=hst _ _ _ _ hI Nr.ext;replace E:=E.ext Nr.ext;have Br:=Nr.blk;refine qA _ rfl (AA (AE (Y (qM _ rfl (qV (AU (vs:=[(I6 t.kind),(.slice sa t.set.length sc),(.slice aa t.args.length ac),(I6 t.mn),(I6 t.mx),(.bool t.neg)]) rfl CI BE rfl (Br.cells rfl)) (De qD rfl rfl (hf s D _ t _ (hE.trans Nr.ext) az hI ht) ?_))))));rintro _ w2 ⟨D1,rfl,C2,hI,ar⟩;replace Br:=C2.keep (fun h=>by have:=(ag _ h).2;omega) Br;replace E:=E.trans C2;have hE2:Ao wb w2:=ad hE (fun b h=>(ag b h).1) E;have ae:∀b,D1 b→D b∨w0.heap.size≤b:=fun b h=>(ar b h).imp id (fun h=>by have:=Nr.size;omega);have ap:∀b,D1 b→b≠br:=fun b h e=>by rcases ar b h with h|h;have:=(ag b h).2;have:=Nr.eq;omega;have:=Nr.size;have:=Nr.eq;omega
  refine qV (Cj rfl) (AA (A3 rfl (fun h=>?_) (fun h=>?_)))
  · have kh:=h;replace h:=by simpa using h
    refine Y (qA _ rfl (AA (AS (AO (AV results93 (v:=(.bool false)) rfl ?_)))));exact ⟨D1,by rw[if_neg (by simp[h])],E,by rw[if_neg (by simp[h])];exact hI,ae⟩
  · have kh:=h;replace h:=by simpa using h
    rw[if_pos (by simpa using h)];generalize (F s t).2=s1 at hI⊢;have z2:br<w2.heap.size:=by have:=C2.size;have:=Nr.size;have:=Nr.eq;omega
    refine AK (AB (AE (Y (qF br 0 2 rfl underlying48 rfl G5 rfl (qV (AD rfl FB (Br.cell rfl)) (qV (AH underlying46 rfl) (qM _ rfl (AA (AM (Am (fun nn_ σ W2=>∃(k:Nat) (s':S) (D2:Nat→Prop),(∃jj_,σ=BQ jj_ [(1,fv),(12,(.slice aa t.args.length ac)),(13,(I6 (t.args.length:Int))),(14,(I6 (k:Int)))])∧Chg D w0 W2∧Az W2 br (R6 t sa sc aa ac) 48∧(k≤t.args.length)∧(Inv s' D2 W2)∧(Cy F t.args s1=Cy F (t.args.drop k) s')∧(∀b,D2 b→D b∨w0.heap.size≤b)∧(∀b,D2 b→b≠br)∧(br<W2.heap.size)∧nn_=t.args.length - k) (n:=t.args.length - 0) ?_ ?_))))))))))
    · exact ⟨0,s1,D1,Af.out ⟨rfl,rfl,rfl,rfl,trivial⟩,E,Br,Nat.zero_le _,hI,rfl,ae,ap,z2,rfl⟩
    · clear E Br;rintro _ _ W2 ⟨k,s',D2,⟨j2,rfl⟩,E,Br,hk,hI,ab,am,ak,hz,rfl⟩;have av:=hb s' D2 _ hI;have hE1:=E.size;refine Y (qV (Av rfl rfl) (AA (AE (qC rfl (fun a5=>?_) (fun a5=>?_)))))
      · obtain ⟨x,hx⟩:=AL (l:=t.args) (i:=k) qO;obtain ⟨b,o,rfl,aq⟩:∃b o,aa=some ⟨b,o,none⟩∧C4 wb b o t.args:=by
          rcases af with h|h
          · rw[h] at hx;simp at hx
          · exact h
        obtain ⟨us,a4,ax⟩:=aq.get hx;have an:=ax;obtain ⟨ah,ao,al,ai,rfl,_,_,_⟩:=ax.form;have aw:Ao wb _:=ad hE (fun b h=>(ag b h).1) E;have hsz:=Re.size_arg hx;refine AK (AB (AE (AM (Y (qV (AC (b:=b) (o:=o) (len:=t.args.length) (cap:=ac) (i:=k) (o':=o+k*6) rfl rfl rfl underlying46 BE qO qO) (qV (AU rfl CI BE rfl (a4.ext aw)) (Au (v:=(.agg (R6 x ah ao al ai))) (c:=(R6 x ah ao al ai)) (n:=6) qD FP rfl BE rfl rfl rfl qS ?_)))))));intro bz wz Nz;have Fz:=Nz.ge E;have Oz_br:=Nz.lt Br;replace Br:=Nz.keep Br;replace hI:=hst _ _ _ _ hI Nz.ext;replace E:=E.ext Nz.ext;have Bz:=Nz.blk;refine AA (Y (qV (AU (vs:=[(I6 x.kind),(.slice ah x.set.length ao),(.slice al x.args.length ai),(I6 x.mn),(I6 x.mx),(.bool x.neg)]) rfl CI BE rfl (Bz.cells rfl)) (qM _ rfl (qE rfl (AT func93 kQ kQ rfl) (ih x qO (hP t az x (List.mem_of_getElem? hx)) s' D2 _ _ (aw.trans Nz.ext) hI an) ?_))));rintro _ w9 ⟨D4,rfl,C9,hI,ay⟩;replace Br:=C9.keep (fun h=>by have h1:=ak _ h;have h2:=(av _ h).2;first|exact h1 rfl|(have:=Nz.eq;omega)) Br;replace Bz:=C9.keep (fun h=>by have h1:=ak _ h;have h2:=(av _ h).2;first|exact h1 rfl|(have:=Nz.eq;omega)) Bz;replace E:=E.step C9 (fun y hy h=>(am y h).resolve_right qO);have a0:=Dd hx;rw[a0,Dk] at ab;have au:∀b,D4 b→D b∨w0.heap.size≤b:=fun b h=>by rcases ay b h with h|h;exact am b h;exact .inr (by have:=Nz.size;omega)
        have aj:∀b,D4 b→b≠br:=fun b h e=>by rcases ay b h with h|h;exact ak b h e;have:=Nz.size;omega
        refine qV (Cj rfl) (AA (A3 rfl (fun h2=>?_) (fun h2=>?_)))
        · have a2:=h2;replace h2:=by simpa using h2
          refine Y (qA _ rfl (AA (AS (Ag (AO (AO (Ag (AO (AV results93 (v:=(.bool false)) rfl ?_)))))))));exact ⟨D4,by rw[ab,if_neg (by simp[h2])],E,by rw[ab,if_neg (by simp[h2])];exact hI,au⟩
        · have a2:=h2;replace h2:=by simpa using h2
          rw[if_pos (by simpa using h2)] at ab;refine AK (AP (AB (AG (qV (Aq rfl rfl (A2 qO)) (qM _ rfl (AA (AB ?_)))))));exact ⟨t.args.length - (k+1),qO,k+1,(C' F x s').2,D4,Af.out ⟨rfl,rfl,rfl,rfl,trivial⟩,E,Br,qO,hI,ab,au,aj,(by have:=C9.size;have:=Nz.size;omega),rfl⟩
      · have a1:k=t.args.length:=qO
        rw[a1,List.drop_length] at ab;refine Ak (AR (AR (Ae (AB (Y (qA _ rfl (AA (AS (AV results93 (v:=(.bool true)) rfl ?_)))))))));exact ⟨D2,by rw[ab];rfl,E,by rw[ab];exact hI,am⟩
end Go.Proofs
namespace Go.Proofs
open Go Go.Eng Go.Sort
set_option maxRecDepth 100000
abbrev XY:Nat:=49
theorem J7 (a:World) (v fv:Value) (ll:List (List Sp)) (p:List Sp->Bool) (h:Bg a v ll) (c:∀(w:World) (u:Value) (l:List Sp),Ao a w->A6 w u l->l∈ll->CV prog fv #[u] w λr w'=>r=.bool (p l)∧Ao w w') :
 CJ prog 53 #[v,fv] a λr w=>r=.bool (ll.any p)∧Ao a w:=by
 refine qR func53 O ntmps53 O (λE=>(Y (qA _ O (AA (Y (qM v O (qM _ O (qE O (AT func96 kQ kQ O) (O1 _ v fv ll p h c) ?_))))))));rintro _ w9 ⟨rfl,b⟩;replace E:=E.ext b;refine qV (C3 O O) (qA _ O (AA (AS (AV results53 (v:=(.bool (decide ((0:Int)<=PS p ll)))) O ?_))));exact ⟨CG (Jz p ll),E⟩
theorem O2 (a:World) (v fv:Value) (ll:List (List Sp)) (p:List Sp->Bool) (h:Bg a v ll) (b:∀(w:World) (u:Value) (l:List Sp),Ao a w->A6 w u l->CV prog fv #[u] w λr w'=>r=.bool (p l)∧Ao w w') :
 CJ prog 53 #[v,fv] a λr w=>r=.bool (ll.any p)∧Ao a w:=
 J7 a v fv ll p h λw u l e hs _=>b w u l e hs
theorem U8 (b:World) (c:Nat) (x:Re) (xs:List Value) (u:Value) (l:List Sp) (d:Az b c xs.toArray 48) (f:BR b x xs) (g:A6 b u l) :
 CJ prog 98 #[u,.pointer (some ⟨c,0,none⟩)] b λr w=>r=.bool (decide (l=x.set))∧Ao b w:=by
 obtain ⟨sa,sc,aa,ac,rfl,a,_,_⟩:=f.form;refine qR func98 O ntmps98 O (λE=>(Y (qA _ O (AA (Y (qM u O (qF c 0 1 O underlying48 O BW O (qV (AD O CC (d.cell O)) (qE O (AT func99 kQ kQ O) (Rt _ _ _ l x.set (g.ext E) (BL.ext a E)) ?_)))))))));rintro _ w9 ⟨rfl,e⟩;replace d:=e.keep d;replace E:=E.ext e;refine qA _ O (AA (AS (AV results98 (v:=(.bool (decide (l=x.set)))) O ?_)));exact ⟨O,E⟩
def Pl (bo base:Nat) (SR:List (List Sp)) (s:List (List Sp)) (D:Nat->Prop) (w:World):Prop:=
 ∃(oa:Option Addr) (oc:Nat) (vs:List Value),Az w bo #[.slice oa s.length oc] XY∧LSt M_ JV 2 w base (.slice oa s.length oc) vs (s.map Qp)∧(∀b,D b↔b=bo∨(Value.slice oa s.length oc).ownBlock=some b)∧bo<base∧base<=w.heap.size∧s.Nodup∧∀x∈s,x∈SR
def Vu (base:Nat) (l:List Sp):El:=λv w=>∃a c,v=.slice a l.length c∧w.ownsRow base JV 2 (.slice a l.length c) l.length (l.map BP).flatten
theorem IZ (base:Nat) (l:List Sp):LF (Vu base l):=by
 rintro v w w' e ⟨a,c,rfl,h⟩;exact ⟨a,c,O,Aj h e⟩
def OP (l:List Sp) (base:Nat):El:=λv w=>∃b a c,v=.slice (some ⟨b,0,none⟩) 1 1∧Az w b #[.slice a l.length c] M_∧base<=b∧w.ownsRow base JV 2 (.slice a l.length c) l.length (l.map BP).flatten
theorem JE (l:List Sp) (base:Nat):LF (OP l base):=by
 rintro v w w' e ⟨b,a,c,rfl,h,f,d⟩;exact ⟨b,a,c,O,Ao.keep e h,f,Aj d e⟩
theorem Pp {M:Nat->Prop} {N:Nat} {σ:CN} {w:World} {dst:Option Tmp} {ty:TypeId} {pos:String} {af:Array Edge} {g:Option (Nat×Bool)} {x:Operand} {a:Option Addr} {c base:Nat} {l:List Sp} (d:ev σ x=.slice a l.length c) (hb:base<=w.heap.size) (e:w.ownsRow base JV 2 (.slice a l.length c) l.length (l.map BP).flatten) :
 Cs M prog N ⟨dst,.buildSlice 49 1 #[(0,x)],ty,pos,af,g⟩ (OP l base) σ w:=by
 have b:=New.mk' w #[.slice a l.length c] M_;exact AY (FR (parts:=[(0,x)]) (ps:=[(0,.slice a l.length c)]) (by simp only[List.map,d]) underlying49 BW G4 qD qD qK) (Ao.chg b.ext) ⟨_,_,_,O,b.blk,hb,Aj e b.ext⟩
theorem MM {s:List (List Sp)} {t:Re} (h:t.kind=2->t.set∈s):Ey s t=s:=by
 unfold Ey;rw[if_neg λa=>a.2 (h a.1)]
theorem WS (G:World) (I base:Nat) (SR:List (List Sp)) (ae:SR.length<=1000∧∀s∈SR,A7 s=0) (s:List (List Sp)) (D:Nat->Prop) (x:Re) (xs:List Value) (hI:Pl I base SR s D G) (hP:Hw (λs=>s∈SR) x) (hx:BR G x xs) :
 CJ prog 97 #[.agg xs.toArray,.pointer (some ⟨I,0,none⟩)] G λv w'=>∃D',v=.bool true∧Chg D G w'∧Pl I base SR (Ey s x) D' w'∧∀b,D' b->D b∨G.heap.size<=b:=by
 have aw:=hx;have hI0:=hI;obtain ⟨sa,sc,aa,ac,rfl,am,_,_⟩:=hx.form;obtain ⟨R,S,vs,i,r,W,T,e,J,q⟩:=hI;have hbs0:=e;have a3:D I:=(W I).2 (.inl O);have hsl:s.length<=1000:=Nat.le_trans (Ic J q) ae.1;have ah:=λk h=>(r.o.lt k h).2;have hD0:∀b,D b->b<G.heap.size:=λb h=>by rcases (W b).1 h with h|h;omega;exact ah b h
 refine F9 func97 O ntmps97 (Jo O) ?_;have E:Chg D G G:=Chg.refl _ _;refine Y (BM (v:=(.agg (R6 x sa sc aa ac))) (c:=(R6 x sa sc aa ac)) qD O O ?_);intro V wz M;replace i:=M.keep i;replace r:=r.ext M.ext;replace e:=Nat.le_trans e M.ext.size;replace E:=E.ext M.ext;have P:=M.blk;refine qA _ O (AA (AE (Y (qF V 0 0 O underlying48 O Ab O (qV (AD O Aa (P.cell O)) (qV (As O O) (qM _ O ?_)))))));rcases Bool.eq_false_or_eq_true (decide ((x.kind:Int)=2)) with p|p
 .have j:=p;replace j:=of_decide_eq_true j;refine AF O O qD (Aw p) (qV (AD O DE (i.cell O)) (AF O O qD (Aw p) (qV (CA O O) (AF O O qD (Aw p) (qE O (AT func53 kQ kQ O) (O2 _ _ _ s (λl=>decide (l=x.set)) r.spss (λw u l hE hu=>CV.mk (first:=#[]) (cap:=#[.pointer (some ⟨V,0,none⟩)]) func98 kQ kQ O (U8 w V x _ u l (hE.keep P) (BR.ext (M.ext.trans hE) x aw) hu))) ?_)))));rintro _ w9 ⟨rfl,Q⟩;replace i:=Q.keep i;replace P:=Q.keep P;replace r:=r.ext Q;replace e:=Nat.le_trans e Q.size;replace E:=E.ext Q;refine AF O O qD (Aw p) (qV (Cj O) (qV (Ac (v:=(.bool (!(s.any λl=>decide (l=x.set))))) O (by rw[p];rfl)) (AA (A3 O (λL=>?_) (λL=>?_)))))
  .have au:=L;replace L:=by simpa using L
   have aj:x.set∉s:=λh=>L _ h O;have ak:=hP.s j;have hx16:=(K5 (ae.2 x.set ak)).2;have d:Ey s x=s++[x.set]:=by unfold Ey;rw[if_pos ⟨j,aj⟩]
   obtain ⟨F,aq⟩:∃n,n=(w9).heap.size:=⟨_,O⟩;have hn0:G.heap.size<=F:=by rw[aq];have:=Q.size;have:=M.size;omega
   obtain ⟨ay,g⟩:∃Fs:List (FactT (AZ)),Fs=[.eq (.slice R s.length S),.eq (P6 V 1),.eq (.slice sa x.set.length sc),.gen (Vu F x.set) (IZ _ _),.gen (OP x.set F) (JE _ _)]:=⟨_,O⟩;refine Iz (AZ) 5 3 [13,14,15,16,17] [[],[],[1],[2],[3]] ay g O mixed qK qK qK ?_ ?_
   .intro wd C;refine DagStepsT.cons (λt w' X U H=>?_) ?_
    .exact AY (AD (U 1 O) DE ((Chg.keep X (λf=>f) (C.keep i)).cell O)) (Chg.refl _ _) O
    refine DagStepsT.cons (λt w' X U H=>?_) ?_
    .exact AY (AN (U 2 O) underlying48 O BW O) (Chg.refl _ _) O
    refine DagStepsT.cons (λt w' X U H=>?_) ?_
    .have a0:t 14=(.pointer (some ⟨V,1,none⟩)):=H 1 O 14 (.eq (.pointer (some ⟨V,1,none⟩))) O (by rw[g];rfl);exact AY (AD a0 CC ((Chg.keep X (λf=>f) (C.keep P)).cell O)) (Chg.refl _ _) O
    refine DagStepsT.cons (λt w' X U H=>?_) ?_
    .have a1:t 15=(.slice sa x.set.length sc):=H 2 O 15 (.eq (.slice sa x.set.length sc)) O (by rw[g];rfl);exact Dv (AT func33 kQ kQ (LL a1)) ((Oh _ _ x.set (BL.ext (BL.ext am (M.ext.trans Q)) (C.trans X)) qO).mono (λv w h=>⟨(by obtain ⟨⟨⟨a,c,h1⟩,h2⟩,_⟩:=h;subst h1;exact ⟨a,c,O,Eo h2 (by have:=C.size;have:=X.size;omega)⟩:Vu F x.set v w),h.2⟩))
    refine DagStepsT.cons (λt w' X U H=>?_) ?_
    .obtain ⟨a2,a4,ab,af⟩:=(show (.gen (Vu F x.set) (IZ _ _):FactT (AZ)).In (t 16) w' from H 3 O 16 (.gen (Vu F x.set) (IZ _ _)) O (by rw[g];rfl));exact Pp ab (by have:=C.size;have:=X.size;omega) af
    exact DagStepsT.nil
   .intro t wd3 w3 C Z U H;have ap:t 13=(.slice R s.length S):=H 0 13 (.eq (.slice R s.length S)) O (by rw[g];rfl);obtain ⟨a2,a4,ab,af⟩:=(show (.gen (Vu F x.set) (IZ _ _):FactT (AZ)).In (t 16) w3 from H 3 16 (.gen (Vu F x.set) (IZ _ _)) O (by rw[g];rfl));obtain ⟨az,ag,al,ao,av,h17,ar⟩:=(show (.gen (OP x.set F) (JE _ _):FactT (AZ)).In (t 17) w3 from H 4 17 (.gen (OP x.set F) (JE _ _)) O (by rw[g];rfl));obtain ⟨j3,rfl⟩:=Af.out (σ:=t) (l:=[(1,(.pointer (some ⟨I,0,none⟩))),(13,(.slice R s.length S)),(17,(.slice (some ⟨az,0,none⟩) 1 1))]) ⟨U 1 O,ap,ao,trivial⟩;clear U H;replace i:=Chg.keep Z (λf=>f) (C.keep i);replace P:=Chg.keep Z (λf=>f) (C.keep P);replace r:=(r.ext C).ext Z;replace e:=Nat.le_trans (Nat.le_trans e C.size) Z.size;replace E:=(E.ext C).step Z (λ_ _ f=>f.elim);have hw3:=E.size;have ad:=r.on (n:=s.length) qP;refine BT (base:=base) (n:=s.length) (m:=1) (xs:=vs) (news:=[(.slice ag x.set.length al)]) (size:=1) (bytes:=24) (v:=(.slice R s.length S)) qD underlying49 BW MI G4 O qD O ad O (O) (av.cells O) qS (by unfold maxLen;omega) qO (e) ?_;intro v9 w29 ai K an;replace i:=K.keep (λh=>by have:=(ad.lt _ h).1;omega) i;replace E:=E.step K (λy hy h=>(W y).2 (.inr h));obtain ⟨A,z,rfl⟩:=A9 ai;have N:=r.push (n:=s.length) qP ar qO (λk h=>by have:=ah k h;omega) ai K an;have B:=Nat.le_trans e K.size;have ax:∀b,(Value.slice A (s.length+1) z).ownBlock=some b->D b∨G.heap.size<=b:=λb h=>by rcases an b h with h|h;exact .inl ((W b).2 (.inr h));exact .inr qO
    refine BB (b:=I) (o:=0) (c':=#[(.slice A (s.length+1) z)]) (v:=(.slice A (s.length+1) z)) O O O Hy i qP O ?_;intro w4 S4;replace N:=N.chg S4.chg (λb hb _ h=>by have h2:b=I:=h;omega);replace B:=Nat.le_trans B S4.chg.size;replace E:=S4.step E qQ;replace i:=S4.blk;refine AA (AB (Y (qA _ O (AA (AS (AV results97 (v:=(.bool true)) O (⟨λb=>b=I∨(Value.slice A (s.length+1) z).ownBlock=some b,O,E,⟨A,z,vs++[.slice ag x.set.length al],?_,?_,?_,T,B,?_,?_⟩,?_⟩)))))))
    .rw[d,List.length_append];exact i
    .rw[d,List.length_append,List.map_append];exact N
    .intro b;rw[d,List.length_append];exact Iff.rfl
    .rw[d,List.nodup_append];exact ⟨J,qP,λa ha b hb=>by rw[List.mem_singleton.1 hb];rintro rfl;exact aj ha⟩
    .intro y hy;rw[d] at hy;rcases List.mem_append.1 hy with h|h
     .exact q y h
     .rw[List.mem_singleton.1 h];exact ak
    .rintro b (rfl|h)
     .exact .inl a3
     .exact ax b h
  .have au:=L;replace L:=by simpa using L
   have d:Ey s x=s:=MM λ_=>L;refine AK (AB (Y (qA _ O (AA (AS (AV results97 (v:=(.bool true)) O ?_))))));exact ⟨D,O,E,by rw[d];exact ⟨R,S,vs,i,r,W,T,e,J,q⟩,λb h=>.inl h⟩
 .have j:=p;replace j:=of_decide_eq_false j;have d:Ey s x=s:=MM λh=>by simp[h] at p
  refine AJ O O qD (v:=.bool false) (Aw p) (Or.inl O) (AJ O O qD (v:=.bool false) (Aw p) (Or.inl O) (AJ O O qD (v:=.bool false) (Aw p) (Or.inl O) (AJ O O qD (v:=.bool false) (Aw p) (Or.inl O) (qV (Ac (v:=(.bool false)) O (by rw[p];rfl)) (AA (AW O (AK (AB (Y (qA _ O (AA (AS (AV results97 (v:=(.bool true)) O ?_)))))))))))));exact ⟨D,O,E,by rw[d];exact ⟨R,S,vs,i,r,W,T,e,J,q⟩,λb h=>.inl h⟩
theorem Pl.ext {f base:Nat} {g s:List (List Sp)} {D:Nat->Prop} {w w':World} (h:Pl f base g s D w) (e:Ao w w'):Pl f base g s D w':=by
 obtain ⟨j,k,vs,m,i,l,d,b,c,a⟩:=h;exact ⟨j,k,vs,e.keep m,i.ext e,l,d,Nat.le_trans b e.size,c,a⟩
theorem J3 {S:Type} (f:S->Re->S):∀(l:List Re) (s:S),Es (λs t=>(true,f s t)) l s=(true,l.foldl f s)
 | [],s=>rfl
 | t::l,s=>by simp only[Es,if_true,List.foldl_cons];exact J3 f l _
theorem VV (w0:World) (t:Re) (vs:List Value) (ht:BR w0 t vs) (hv:Hw (fun s=>A7 s=0) t) (hs:t.size≤1000) :
  CJ prog 54 #[.agg vs.toArray] w0 fun v w=>Bg w v (CM t)∧Ao w0 w:=by
 have af:=ht;obtain ⟨sa,sc,aa,ac,rfl,ah,_,_⟩:=ht.form;have ab:(CM t).length≤1000∧∀s∈CM t,A7 s=0:=⟨Nat.le_trans (J_ t) hs,Iv hv⟩;have hw:C' (fun s t=>(true,Ey s t)) t []=(true,CM t):=by rw[H2,J3];rfl
 have ai:Hw (fun s=>s∈CM t) t:=R1 fun s h=>h;refine qR func54 rfl ntmps54 rfl (fun E=>(Y (BM (v:=(.agg (R6 t sa sc aa ac))) (c:=(R6 t sa sc aa ac)) qD rfl rfl ?_)));intro br wr Nr;have Fr:=Nr.ge E;replace E:=E.ext Nr.ext;have Br:=Nr.blk;refine qA _ rfl (AA (Y (BO (c:=#[(.slice none 0 0)]) qD We rfl ?_)));intro bo wo No;have Fo:=No.ge E;have Oo_br:=No.lt Br;replace Br:=No.keep Br;replace E:=E.ext No.ext;have Bo:=No.blk;refine AA (Y (qV (AU (vs:=[(I6 t.kind),(.slice sa t.set.length sc),(.slice aa t.args.length ac),(I6 t.mn),(I6 t.mx),(.bool t.neg)]) rfl CI BE rfl (Br.cells rfl)) (qV (CA rfl rfl) ?_)));have ae:=Bo.lt;have ag:Pl bo wo.heap.size (CM t) [] (fun b=>b=bo) wo:=⟨none,0,[],Bo,LSt.start _ _ _ _ _,fun b=>⟨.inl,fun h=>h.elim id (fun h=>by cases h)⟩,Bo.lt,Nat.le_refl _,List.nodup_nil,fun x hx=>by cases hx⟩;refine qE rfl (AT func93 kQ kQ rfl) ((Vd (fun s t=>(true,Ey s t)) (Pl bo wo.heap.size (CM t)) (Hw (fun s=>s∈CM t)) _ wr (fun s D w hI b hb=>by obtain ⟨oa,oc,vs,hB,hL,hD,h1,h2,_,_⟩:=hI;rcases (hD b).1 hb with h|h;exact ⟨by have:=No.eq;omega,qO⟩;exact ⟨by have:=(hL.o.lt b h).1;have:=No.size;omega,(hL.o.lt b h).2⟩) (fun s D w w' hI e=>hI.ext e) (fun t h x hx=>h.a x hx) (fun s D w t vs hE hP hI hx=>CV.mk (first:=#[]) (cap:=#[.pointer (some ⟨bo,0,none⟩)]) func97 kQ kQ rfl (WS w bo wo.heap.size _ ab s D t vs hI hP (BR.ext hE t hx))) t.size t (Nat.le_refl _) ai [] (fun b=>b=bo) _ _ No.ext ag (BR.ext Nr.ext t af)).mono (R':=fun v w=>v=.bool true∧(∃oa oc vs,Az w bo #[.slice oa (CM t).length oc] XY∧LSt M_ JV 2 w wo.heap.size (.slice oa (CM t).length oc) vs ((CM t).map Qp))∧Chg (fun b=>b=bo) wo w) (fun v w h=>by obtain ⟨D',h1,h2,h3,_⟩:=h;rw[hw] at h1 h3;obtain ⟨oa,oc,vs,hB,hL,_⟩:=h3;exact ⟨h1,⟨oa,oc,vs,hB,hL⟩,h2⟩)) ?_;rintro _ w9 ⟨rfl,⟨oa,oc,us,ad,hL⟩,C9⟩;replace Br:=C9.keep qO Br;replace E:=E.step C9 (by intro x hx hm;omega);refine AA (Y (qV (AD rfl DE (ad.cell rfl)) (qA _ rfl (AA (AS (AV results54 (v:=(.slice oa ((CM t).length) oc)) rfl ?_))))));exact ⟨hL.spss,E⟩
end Go.Proofs
namespace Go.Proofs
open Go Go.Eng Go.Sort
set_option maxRecDepth 100000
mutual
theorem FE:∀{t:Re},Hr t->Hw (λs=>A7 s=0) t
 | .mk k s a m x g,h=>⟨λb=>((Vr (t:=.mk k s a m x g) h (by show k≠9;omega) (by show k≠10;omega) O).k2 b).2,Hx (JA h)⟩
theorem Hx:∀{ts:List Re},Ga ts->Jl (λs=>A7 s=0) ts
 | [],_=>trivial
 | t::ts,h=>by
  simp only[Ga] at h;exact ⟨FE h.1,Hx h.2⟩
end
end Go.Proofs
namespace Go.Proofs
open Go Go.Eng Go.Sort
set_option maxRecDepth 100000
structure RRow (S:Nat->Prop) (w:World) where
 t:Re
 vs:List Value
 h:Pk S w t vs
instance {S:Nat->Prop} {w:World}:Inhabited (RRow S w):=⟨⟨_,_,R8 S w 0⟩⟩
end Go.Proofs
namespace Go.Proofs
open Go Go.Eng Go.Sort
set_option maxRecDepth 100000
section
variable {c : Int} {t x : Re}
theorem Ro (c:Int) (t:Re):LZ c t=if t.kind=2 then (if BY t.set c=true then Fl else Dl) else if t.kind=3 then Rp c t.args else if t.kind=4∨t.kind=7∨t.kind=8 then OK t.kind [] (H5 c t.args) 0 0 false else if t.kind=5 then RG [(H5 c t.args).headD Dl,t] else if t.kind=6 then RG [(H5 c t.args).headD Dl,OK 6 [] [t.args.headD Dl] (max 0 (t.mn - 1)) (t.mx - 1) false] else Dl:=by
 cases t;simp only[LZ];rfl
theorem Oy (h:t.kind=2):LZ c t=if BY t.set c=true then Fl else Dl:=by rw[Ro];simp[h]
end
end Go.Proofs
namespace Go.Proofs
open Go Go.Eng Go.Sort
set_option maxRecDepth 100000
theorem pre6 {m x:Int} (y:Re) (h:0<=m∧m<=x∧x<=8):PreN 6 [] [y] m x false:=⟨qO,O,λ_=>rfl,qO,qO,qO,λ_=>rfl,λ_=>h⟩
end Go.Proofs
namespace Go.Proofs
open Go Go.Eng Go.Sort
set_option maxRecDepth 100000
theorem TT {ll out:List (List Sp)} {e:Int} (h:M0 ll out e) (d:∀l∈ll,A7 l=0) (c:e≠0):e=2:=by
 rcases h with ⟨b,_⟩|⟨_,cs,_,⟨_,a,_⟩|⟨_,a,_⟩⟩
 .exact absurd (IJ d) b
 .exact a
 .exact absurd a c
theorem Uz {ll out:List (List Sp)} {e:Int} (h:M0 ll out e) (f:∀l∈ll,A7 l=0) (he:e=0):LN ll out∧out.length<=16:=by
 rcases h with ⟨d,_⟩|⟨_,cs,c,⟨_,b,_⟩|⟨a,b,rfl⟩⟩
 .exact absurd (IJ f) d
 .omega
 .refine ⟨c,?_⟩;unfold Ka at a;exact Nat.le_of_not_lt λh=>a (.inr h)
end Go.Proofs
namespace Go.Proofs
open Go Go.Eng Go.Sort
set_option maxRecDepth 100000
theorem Jg {w:World} {b o:Nat} {c:Array Value} {t:TypeId} (h:Az w b c t):w.cell? ⟨b,o,none⟩=c[o]?:=by
 unfold Az at h;simp[World.cell?,h]
theorem J' {w w':World} {k:Nat} {v:Value} {rows:List (List Value)} (h:BL w k v rows) (j:∀b o r,r∈rows->A' w b o r->A' w' b o r):BL w' k v rows:=by
 obtain ⟨a,cap,g,f,c,h⟩:=h;refine ⟨a,cap,g,f,c,?_⟩;rcases h with h|⟨b,o,e,h⟩
 .exact .inl h
 .exact .inr ⟨b,o,e,λi r d=>j _ _ r (List.mem_of_getElem? d) (h i r d)⟩
theorem Qc {w w':World} {g T:Nat} {x:Int} {v:Value} {cs:List (List Sp)} (h:Bg w v cs) (m:∀l∈cs,l≠[]) (t:Az w g #[.int .i64 x,.slice none 0 0,.slice none 0 0] T) (c:Chg (λy=>y=g) w w'):Bg w' v cs:=by
 obtain ⟨us,A,z,q⟩:=h;have f:∀(u:Value) (l:List Sp),A6 w u l->A6 w' u l:=λu l h=>J' h λb o r k d=>by
  by_cases e:b=g
  .subst e;obtain ⟨s,_,rfl⟩:=List.mem_map.1 k;have a0:=d 0 _ O;have p:=d 1 _ O;rw[Jg t] at a0 p;exfalso
   match o with
   | 0=>simp at p
   | 1=>simp at a0
   | 2=>simp at a0
   | o+3=>simp at a0
  .exact d.chg c e
 refine ⟨us,J' A λb o r k d=>?_,z,λi u l n j=>f u l (q i u l n j)⟩;by_cases e:b=g
 .subst e;obtain ⟨u,n,rfl⟩:=List.mem_map.1 k;obtain ⟨i,hi⟩:=List.getElem?_of_mem n;obtain ⟨l,j⟩:=AL (l:=cs) (i:=i) (by rw[<-z];exact AI hi);obtain ⟨a,cap,B,_⟩:=q i u l hi j;have hn:=List.length_pos_iff.2 (m l (List.mem_of_getElem? j));have a0:=d 0 _ O;rw[Jg t,B] at a0;exfalso
  match o with
  | 0=>simp at a0
  | 1=>simp at a0;omega
  | 2=>simp at a0;omega
  | o+3=>simp at a0
 .exact d.chg c e
def Xu (t:Re) (m:Nat) (r:Value) (w:World):Prop:=
 (∃e,(Cb t 40≠0∧e=Cb t 40∨Cb t 40=0∧Dh [10] t=true∧e=3∨Cb t 40=0∧Dh [10] t=false∧((∃out,M0 (CM t) out 2)∨∃cs,M0 (CM t) cs 0∧trO cs.length cs t=none)∧e=2)∧r=.tuple #[.agg #[.int .i64 0,.slice none 0 0,.slice none 0 0],.slice none 0 0,.int .i64 e])∨
 (Cb t 40=0∧Dh [10] t=false∧∃(cs:List (List Sp)) (d:Dfa) (ca:Option Addr) (cc:Nat) (ea:Option Addr) (ec:Nat) (na:Option Addr) (nc:Nat),M0 (CM t) cs 0∧trO cs.length cs t=some d∧GoodD cs.length d∧d.next.length<=200∧1<=cs.length∧cs.length<=16∧
  r=.tuple #[.agg #[.int .i64 d.start,.slice ea d.accept.length ec,.slice na d.next.length nc],.slice ca cs.length cc,.int .i64 0]∧By (λb=>m<=b) w d [.int .i64 d.start,.slice ea d.accept.length ec,.slice na d.next.length nc]∧Bg w (.slice ca cs.length cc) cs)
theorem Uu (w0:World) (t:Re) (vs:List Value) (ht:BR w0 t vs) :
  CJ prog 58 #[.agg vs.toArray] w0 fun r w=>Xu t w0.heap.size r w∧Ao w0 w:=by
 have aj:=ht;obtain ⟨sa,sc,aa,ac,rfl,_,_,_⟩:=ht.form;refine qR func58 rfl ntmps58 rfl (fun E=>(Y (BM (v:=(.agg (R6 t sa sc aa ac))) (c:=(R6 t sa sc aa ac)) qD rfl rfl ?_)));intro bq wq Nq;have Fq:=Nq.ge E;replace E:=E.ext Nq.ext;have Bq:=Nq.blk;refine BO (c:=#[(I6 0),(.slice none 0 0),(.slice none 0 0)]) qD CU rfl ?_;intro br wr Nr;have Fr:=Nr.ge E;have Or_bq:=Nr.lt Bq;replace Bq:=Nr.keep Bq;replace E:=E.ext Nr.ext;have Br:=Nr.blk;refine qA _ rfl (qA _ rfl (AA (AE (Y (qV (AU (vs:=[(I6 t.kind),(.slice sa t.set.length sc),(.slice aa t.args.length ac),(I6 t.mn),(I6 t.mx),(.bool t.neg)]) rfl CI BE rfl (Bq.cells rfl)) (qE rfl (AT func50 kQ kQ rfl) (QT _ t _ (BR.ext E t aj)) ?_))))));rintro _ w9 ⟨rfl,X9⟩;replace Bq:=X9.keep Bq;replace Br:=X9.keep Br;replace E:=E.ext X9;refine qA _ rfl (AA (Y (qM _ rfl (qV (CO rfl rfl) (AA (qC rfl (fun he=>?_) (fun he=>?_)))))))
 ·refine Y (qV (BU (ps:=[]) (v:=(.agg #[(I6 0),(.slice none 0 0),(.slice none 0 0)])) rfl qK) (qM _ rfl (Al (b:=br) (o:=0) (c':=#[(I6 0),(.slice none 0 0),(.slice none 0 0)]) rfl rfl qS Ap rfl Br qL rfl ?_)));intro w2 S2;replace Bq:=S2.keep qO Bq;replace E:=S2.step E qQ;replace Br:=S2.blk;refine qA _ rfl (qA _ rfl (AA (AS (AO (ES results58 (vs:=[(.int .i64 0),(.slice none 0 0),(.slice none 0 0)]) (b:=br) (v':=(.slice none 0 0)) (v'':=(.int .i64 (Cb t 40))) rfl BC Ap rfl (Br.cells rfl) rfl rfl ?_)))));exact ⟨.inl ⟨_,.inl ⟨he,rfl⟩,rfl⟩,E⟩
 ·have ag:Cb t 40=0:=qO
  obtain ⟨ar,hsz⟩:=(FY qD qD).1 ag;have hv:=FE ar;have ab:=Iv hv;have ax:=J_ t;have a0:=Sw ab;refine AK (AB (AE (Y (qV (AU (vs:=[(I6 t.kind),(.slice sa t.set.length sc),(.slice aa t.args.length ac),(I6 t.mn),(I6 t.mx),(.bool t.neg)]) rfl CI BE rfl (Bq.cells rfl)) (Ad (ps:=[(0,(I6 10))]) (c:=#[(I6 10)]) qD rfl underlying22 Ab CW qD qD qK ?_)))));intro bk wk Nk;have Fk:=Nk.ge E;have Ok_bq:=Nk.lt Bq;have Ok_br:=Nk.lt Br;replace Bq:=Nk.keep Bq;replace Br:=Nk.keep Br;replace E:=E.ext Nk.ext;have Bk:=Nk.blk;refine qE rfl (AT func52 kQ kQ rfl) (Rh _ t _ [10] _ (BR.ext E t aj) (EV Bk rfl qD)) ?_;rintro _ w19 ⟨rfl,al⟩;replace Bq:=al.keep Bq;replace Br:=al.keep Br;replace Bk:=al.keep Bk;replace E:=E.ext al;refine AA (A3 rfl (fun hu=>?_) (fun hu=>?_))
  ·have a2:=hu;refine Y (qV (BU (ps:=[]) (v:=(.agg #[(I6 0),(.slice none 0 0),(.slice none 0 0)])) rfl qK) (Al (b:=br) (o:=0) (c':=#[(I6 0),(.slice none 0 0),(.slice none 0 0)]) rfl rfl qS Ap rfl Br qL rfl ?_));intro w4 S4;replace Bq:=S4.keep qO Bq;replace Bk:=S4.keep qO Bk;replace E:=S4.step E qQ;replace Br:=S4.blk;refine qA _ rfl (qA _ rfl (AA (AS (AO (ES results58 (vs:=[(.int .i64 0),(.slice none 0 0),(.slice none 0 0)]) (b:=br) (v':=(.slice none 0 0)) (v'':=(.int .i64 3)) rfl BC Ap rfl (Br.cells rfl) rfl rfl ?_)))));exact ⟨.inl ⟨3,.inr (.inl ⟨ag,hu,rfl⟩),rfl⟩,E⟩
  ·have a2:=hu;refine AK (AB (Y (qV (AU (vs:=[(I6 t.kind),(.slice sa t.set.length sc),(.slice aa t.args.length ac),(I6 t.mn),(I6 t.mx),(.bool t.neg)]) rfl CI BE rfl (Bq.cells rfl)) (qE rfl (AT func54 kQ kQ rfl) ((VV _ t _ (BR.ext E t aj) hv qO).mono (R':=fun v w=>(∃a c,v=.slice a (CM t).length c∧Bg w (.slice a (CM t).length c) (CM t))∧Ao _ w) (fun v w h=>⟨by obtain ⟨a,c,h1,_⟩:=h.1.form;exact ⟨a,c,h1,h1▸h.1⟩,h.2⟩)) ?_))));rintro _ w29 ⟨⟨a9,c9,rfl,a4⟩,ai⟩;replace Bq:=ai.keep Bq;replace Br:=ai.keep Br;replace Bk:=ai.keep Bk;replace E:=E.ext ai;refine qE rfl (AT func103 kQ kQ rfl) (U0 _ _ (CM t) a4 qO qO) ?_;rintro _ a3 ⟨⟨cs,e,ae,ca,cc,rfl,ad⟩,ak⟩;replace Bq:=ak.keep Bq;replace Br:=ak.keep Br;replace Bk:=ak.keep Bk;replace E:=E.ext ak;refine qM _ rfl (qV (Ai rfl rfl) (qV (Ai rfl rfl) (qA _ rfl (qA _ rfl (AA (AE (Y (qM _ rfl (qV (CO rfl rfl) (AA (qC rfl (fun aw=>?_) (fun aw=>?_))))))))))))
   ·have am:=TT ae ab aw;refine Y (qV (BU (ps:=[]) (v:=(.agg #[(I6 0),(.slice none 0 0),(.slice none 0 0)])) rfl qK) (qM _ rfl (Al (b:=br) (o:=0) (c':=#[(I6 0),(.slice none 0 0),(.slice none 0 0)]) rfl rfl qS Ap rfl Br qL rfl ?_)));intro w6 S6;replace Bq:=S6.keep qO Bq;replace Bk:=S6.keep qO Bk;replace E:=S6.step E qQ;replace Br:=S6.blk;refine qA _ rfl (qA _ rfl (AA (AS (AO (ES results58 (vs:=[(.int .i64 0),(.slice none 0 0),(.slice none 0 0)]) (b:=br) (v':=(.slice none 0 0)) (v'':=(.int .i64 e)) rfl BC Ap rfl (Br.cells rfl) rfl rfl ?_)))));exact ⟨.inl ⟨e,.inr (.inr ⟨ag,hu,.inl ⟨cs,by rw[←am];exact ae⟩,am⟩),rfl⟩,E⟩
   ·have am:e=0:=qO
    rw[am] at ae;obtain ⟨au,ah⟩:=Uz ae ab rfl;have av:=TR au (PV ab);have az:1≤cs.length:=by
     obtain ⟨cl,hm,_⟩:=Uy (c:=0) au (PV ab) qD qD;exact List.length_pos_of_mem hm
    refine AK (AB (Y (qV (AU (vs:=[(I6 t.kind),(.slice sa t.set.length sc),(.slice aa t.args.length ac),(I6 t.mn),(I6 t.mx),(.bool t.neg)]) rfl CI BE rfl (Bq.cells rfl)) (qM _ rfl ?_))));obtain ⟨n9,an⟩:∃n9,n9=(a3).heap.size:=⟨_,rfl⟩;have hlt:w0.heap.size≤n9∧br<n9:=⟨by rw[an];exact E.size,by rw[an];exact Br.lt⟩;refine qE rfl (AT func57 kQ kQ rfl) ((SN _ cs t _ ca cc ⟨az,ah⟩ (fun l hl=>(av l hl).1) ar qO ad (BR.ext E t aj)).mono (R':=fun r w=>(∃(d:Dfa) (ea:Option Addr) (ec:Nat) (na:Option Addr) (nc:Nat) (e:Int),r=.tuple #[.agg #[.int .i64 d.start,.slice ea d.accept.length ec,.slice na d.next.length nc],.int .i64 e]∧((e=0∧trO cs.length cs t=some d∧GoodD cs.length d∧d.next.length≤200∧By (fun b=>n9≤b) w d [.int .i64 d.start,.slice ea d.accept.length ec,.slice na d.next.length nc])∨(e=2∧trO cs.length cs t=none)))∧Ao _ w) (fun r w h=>⟨by
     rcases h.1 with ⟨d,ea,ec,na,nc,h1,h2,h3,h4,h5⟩|⟨h1,h2⟩
     ·exact ⟨d,ea,ec,na,nc,0,h4,.inl ⟨rfl,h1,h2,h3,by rw[an];exact h5⟩⟩
     ·exact ⟨⟨0,[],[]⟩,none,0,none,0,2,h2,.inr ⟨rfl,h1⟩⟩,h.2⟩)) ?_
    rintro _ w49 ⟨⟨d,ea,ec,na,nc,e9,rfl,ay⟩,af⟩;replace Bq:=af.keep Bq;replace Br:=af.keep Br;replace Bk:=af.keep Bk;replace E:=E.ext af;replace ad:=ad.ext af;refine qM _ rfl (qV (Ai rfl rfl) (qV (Ai rfl rfl) (Au (v:=(.agg #[(I6 d.start),(.slice ea d.accept.length ec),(.slice na d.next.length nc)])) (c:=#[(I6 d.start),(.slice ea d.accept.length ec),(.slice na d.next.length nc)]) (n:=3) qD CU rfl Ap rfl rfl rfl qS ?_)));intro bd wd Nd;have Fd:=Nd.ge E;have Od_bq:=Nd.lt Bq;have Od_br:=Nd.lt Br;have Od_bk:=Nd.lt Bk;replace Bq:=Nd.keep Bq;replace Br:=Nd.keep Br;replace Bk:=Nd.keep Bk;replace ad:=ad.ext Nd.ext;replace E:=E.ext Nd.ext;have Bd:=Nd.blk;refine qA _ rfl (AA (AE (Y (qM _ rfl (qV (CO rfl rfl) (AA (qC rfl (fun ap=>?_) (fun ap=>?_))))))))
    ·have aq:e9=2∧trO cs.length cs t=none:=by rcases ay with h|h;exact absurd h.1 ap;exact h
     refine Y (qV (BU (ps:=[]) (v:=(.agg #[(I6 0),(.slice none 0 0),(.slice none 0 0)])) rfl qK) (qM _ rfl (Al (b:=br) (o:=0) (c':=#[(I6 0),(.slice none 0 0),(.slice none 0 0)]) rfl rfl qS Ap rfl Br qL rfl ?_)));intro w8 S8;replace Bq:=S8.keep qO Bq;replace Bk:=S8.keep qO Bk;replace Bd:=S8.keep qO Bd;replace E:=S8.step E qQ;replace Br:=S8.blk;refine qA _ rfl (qA _ rfl (AA (AS (AO (ES results58 (vs:=[(.int .i64 0),(.slice none 0 0),(.slice none 0 0)]) (b:=br) (v':=(.slice none 0 0)) (v'':=(.int .i64 e9)) rfl BC Ap rfl (Br.cells rfl) rfl rfl ?_)))));exact ⟨.inl ⟨e9,.inr (.inr ⟨ag,hu,.inr ⟨cs,ae,aq.2⟩,aq.1⟩),rfl⟩,E⟩
    ·obtain ⟨_,hd,gd,a1,hD⟩:=ay.resolve_right (fun h=>ap (by rw[h.1];decide));replace hD:=hD.ext Nd.ext;have ao:=Br;refine AK (AB (Y (qV (AU (vs:=[(I6 d.start),(.slice ea d.accept.length ec),(.slice na d.next.length nc)]) rfl BC Ap rfl (Bd.cells rfl)) (qM _ rfl (Al (b:=br) (o:=0) (c':=#[(I6 d.start),(.slice ea d.accept.length ec),(.slice na d.next.length nc)]) rfl rfl qS Ap rfl Br qL rfl ?_)))));intro w9 S9;replace hD:=hD.put S9.chg fun y h1 h=>by have h':y=_:=h;omega
     replace ad:=Qc ad (fun l hl=>(av l hl).1) ao S9.chg;replace Bq:=S9.keep qO Bq;replace Bk:=S9.keep qO Bk;replace Bd:=S9.keep qO Bd;replace E:=S9.step E qQ;replace Br:=S9.blk;refine qA _ rfl (qA _ rfl (AA (AS (ES results58 (vs:=[(.int .i64 d.start),(.slice ea d.accept.length ec),(.slice na d.next.length nc)]) (b:=br) (v':=(.slice ca cs.length cc)) (v'':=(.int .i64 0)) rfl BC Ap rfl (Br.cells rfl) rfl rfl ?_))));exact ⟨.inr ⟨ag,hu,cs,d,ca,cc,ea,ec,na,nc,ae,hd,gd,a1,az,ah,rfl,hD.mono fun b hb=>by have hb':n9≤b:=hb;omega,ad⟩,E⟩
end Go.Proofs
namespace Go.Proofs
open Go Go.Eng Go.Sort
set_option maxRecDepth 100000
def Ri (s:List Sp) (cs:List (List Sp)):Prop:=∀x∈cs,∀o,Cc o (λr=>BY s r && BY x r)->o=[]∨o=x
open Classical in
noncomputable def unnB (s:List Sp) (cs:List (List Sp)):Bool:=decide (Ri s cs)
open Classical in
theorem Rj {s:List Sp} {cs:List (List Sp)} (h:Ri s cs):unnB s cs=true:=decide_eq_true h
open Classical in
theorem Pt {s:List Sp} {cs:List (List Sp)} (h:¬Ri s cs):unnB s cs=false:=decide_eq_false h
theorem NH {s l:List Sp} {cs:List (List Sp)} {k:Nat} {out:List Sp} (g:cs[k]?=some l) (f:Cc out (λr=>BY s r && BY l r)) (h:out=[]∨out=l) (c:∀(i:Nat) (x:List Sp),i<k->cs[i]?=some x->∀o,Cc o (λr=>BY s r && BY x r)->o=[]∨o=x):∀(i:Nat) (x:List Sp),i<k+1->cs[i]?=some x->∀o,Cc o (λr=>BY s r && BY x r)->o=[]∨o=x:=by
 intro i x hi a j b;rcases Nat.lt_or_ge i k with d|d
 .exact c i x d a j b
 .have e:i=k:=qO
  subst e;rw[g] at a;cases a;rw[Cc.eq b f λ_ _ _=>rfl];exact h
theorem Rk (z:World) (u v:Value) (s:List Sp) (cs:List (List Sp)) (hs:A6 z u s) (L:Bg z v cs) (F:Canon s) (G:∀x∈cs,Canon x∧x.length<=1000) (A:s.length<=1000) :
 CJ prog 56 #[u,v] z λr w=>r=.bool (unnB s cs)∧Ao z w:=by
 obtain ⟨a,c,rfl,_,hle⟩:=L.form;refine qR func56 O ntmps56 O (λE=>(Y (qA _ O (AA (AE (Y (qM _ O (qV (AH underlying49 O) (qM _ O (AA (AM (Am (λnn_ σ M=>∃(k:Nat),(∃jj_,σ=BQ jj_ [(0,u),(8,(.slice a cs.length c)),(9,(I6 (cs.length:Int))),(10,(I6 (k:Int)))])∧Chg AZ z M∧(k<=cs.length)∧(∀(i:Nat) (x:List Sp),i<k->cs[i]?=some x->∀o,Cc o (λr=>BY s r && BY x r)->o=[]∨o=x)∧nn_=cs.length - k) (n:=cs.length - 0) ?_ ?_))))))))))))
 .exact ⟨0,Af.out ⟨O,O,O,O,trivial⟩,E,Nat.zero_le _,(λi y h=>absurd h (Nat.not_lt_zero _)),O⟩
 .clear E;rintro _ _ M ⟨k,⟨j1,rfl⟩,E,hk,p,rfl⟩;refine Y (qV (Av O O) (AA (AE (qC O (λC=>?_) (λC=>?_)))))
  .obtain ⟨l,m⟩:=AL (l:=cs) (i:=k) qO;obtain ⟨b,o,rfl,B⟩:=CD L qO;obtain ⟨ra,rc,j,q⟩:=B k l m;have t:=G l (List.mem_of_getElem? m);refine AK (AB (AE (AM (Y (qV (AC (b:=b) (o:=o) (len:=cs.length) (cap:=c) (i:=k) (o':=o+k) O O O underlying49 BW qO qO) (qV (AD O CC (E.cell (λf=>f) j)) (qA _ O (AA (Y (qM u O (qM _ O (qE O (AT func100 kQ kQ O) (TP _ _ _ s l (hs.ext E) (q.ext E) F t.1 A t.2) ?_))))))))))));rintro _ w9 ⟨⟨out,H,_,⟨oa,oc,rfl⟩,J⟩,N⟩;replace E:=E.ext N;refine qA _ O (AA (Y (qM _ O (qV (AH underlying37 O) (qV (CH O O) (qM _ O ?_))))));rcases Bool.eq_false_or_eq_true (decide ((0:Int)<((out.length:Nat):Int))) with e|e
   .have d:=e;replace d:=of_decide_eq_true d;refine AF O O qD (Aw e) (qM _ O (AF O O qD (Aw e) (qM _ O (AF O O qD (Aw e) (qE O (AT func99 kQ kQ O) (Rt _ _ _ out l J (q.ext E)) ?_)))));rintro _ w19 ⟨rfl,D⟩;replace E:=E.ext D;refine AF O O qD (Aw e) (qV (Cj O) (qV (Ac (v:=(.bool (!(decide (out=l))))) O (by rw[e];rfl)) (AA (A3 O (λg=>?_) (λg=>?_)))))
    .have I:=g;replace g:=by simpa using g
     refine Y (qA _ O (AA (AS (Ag (AO (AO (Ag (AO (AV results56 (v:=(.bool false)) O ?_)))))))));exact ⟨CG (Pt λh=>by
      rcases h l (List.mem_of_getElem? m) out H with K|K
      .rw[K] at d;simp at d
      .simp[K] at g).symm,E⟩
    .have I:=g;replace g:=by simpa using g
     refine AK (AP (AB (AG (qV (Aq O O (A2 qO)) (qM _ O (AA (AB ?_)))))));exact ⟨cs.length - (k+1),qO,k+1,Af.out ⟨O,O,O,O,trivial⟩,E,qO,NH m H (.inr (by simpa using g)) p,O⟩
   .have d:=e;replace d:=of_decide_eq_false d;refine AJ O O qD (v:=.bool false) (Aw e) (Or.inl O) (AJ O O qD (v:=.bool false) (Aw e) (Or.inl O) (AJ O O qD (v:=.bool false) (Aw e) (Or.inl O) (AJ O O qD (v:=.bool false) (Aw e) (Or.inl O) (qV (Ac (v:=(.bool false)) O (by rw[e];rfl)) (AA (AW O (AK (AP (AB (AG (qV (Aq O O (A2 qO)) (qM _ O (AA (AB ?_))))))))))))));exact ⟨cs.length - (k+1),qO,k+1,Af.out ⟨O,O,O,O,trivial⟩,E,qO,NH m H (.inl (List.eq_nil_of_length_eq_zero qO)) p,O⟩
  .have hkk:k=cs.length:=qO
   refine Ak (AR (AR (Ae (AB (Y (qA _ O (AA (AS (AV results56 (v:=(.bool true)) O ?_)))))))));exact ⟨CG (Rj λx m=>by obtain ⟨i,hi⟩:=List.getElem?_of_mem m;exact p i x (by have:=AI hi;omega) hi).symm,E⟩
theorem UT (d:World) (u:Value) (s:List Sp) (cs:List (List Sp)) (b:Nat) (a:Option Addr) (c:Nat) (f:Az d b #[.slice a cs.length c] 49) (hs:A6 d u s) (j:Bg d (.slice a cs.length c) cs) (g:Canon s) (h:∀x∈cs,Canon x∧x.length<=1000) (e:s.length<=1000) :
 CJ prog 55 #[u,.pointer (some ⟨b,0,none⟩)] d λr w=>r=.bool (!unnB s cs)∧Ao d w:=by
 refine qR func55 O ntmps55 O (λE=>(Y (qA _ O (AA (Y (qM u O (qV (AD O DE (f.cell O)) (qE O (AT func56 kQ kQ O) (Rk _ _ _ s cs (hs.ext E) (j.ext E) g h e) ?_))))))));rintro _ w9 ⟨rfl,i⟩;replace f:=i.keep f;replace E:=E.ext i;refine qV (Cj O) (qA _ O (AA (AS (AV results55 (v:=(.bool (!(unnB s cs)))) O ?_))));exact ⟨O,E⟩
open Classical in
noncomputable def OvE (t:Re) (cs:List (List Sp)):Int:=if Cb t 40≠0 then Cb t 40 else if partE cs≠0 then partE cs else if Dh [10] t=true∨(CM t).any (λs=>!unnB s cs)=true then 3 else if trO cs.length cs t=none then 2 else 0
def Xt (t:Re) (cs:List (List Sp)) (m:Nat) (r:Value) (w:World):Prop:=∃(d:Dfa) (ea:Option Addr) (ec:Nat) (na:Option Addr) (nc:Nat),r=.tuple #[.agg #[.int .i64 d.start,.slice ea d.accept.length ec,.slice na d.next.length nc],.int .i64 (OvE t cs)]∧
 ((OvE t cs≠0∧d=⟨0,[],[]⟩∧ea=none∧ec=0∧na=none∧nc=0)∨(OvE t cs=0∧trO cs.length cs t=some d∧GoodD cs.length d∧d.next.length<=200∧By (λb=>m<=b) w d [.int .i64 d.start,.slice ea d.accept.length ec,.slice na d.next.length nc]))
theorem Mc {t:Re} {cs:List (List Sp)} {m:Nat} {w:World} {e:Int} (h:OvE t cs=e) (a:e≠0):Xt t cs m (.tuple #[.agg #[.int .i64 0,.slice none 0 0,.slice none 0 0],.int .i64 e]) w:=
 ⟨⟨0,[],[]⟩,none,0,none,0,by rw[h];rfl,.inl ⟨by rw[h];exact a,O,O,O,O,O⟩⟩
theorem RB (w0:World) (t:Re) (vs:List Value) (cs:List (List Sp)) (ca:Option Addr) (cc:Nat) (ht:BR w0 t vs) (hC:Bg w0 (.slice ca cs.length cc) cs) :
    CJ prog 17 #[.agg vs.toArray,.slice ca cs.length cc] w0 fun r w=>Xt t cs w0.heap.size r w∧Ao w0 w:=by
  have ak:=ht;obtain ⟨sa,sc,aa,ac,rfl,_,_,_⟩:=ht.form;refine qR func17 rfl ntmps17 rfl (fun E=>(Y (BM (v:=(.agg (R6 t sa sc aa ac))) (c:=(R6 t sa sc aa ac)) qD rfl rfl ?_)));intro bq wq Nq;have Fq:=Nq.ge E;replace E:=E.ext Nq.ext;have Bq:=Nq.blk;refine BM (v:=(.slice ca cs.length cc)) (c:=#[(.slice ca cs.length cc)]) qD rfl rfl ?_;intro bx wx Nx;have Fx:=Nx.ge E;have Ox_bq:=Nx.lt Bq;replace Bq:=Nx.keep Bq;replace E:=E.ext Nx.ext;have Bx:=Nx.blk;refine BO (c:=#[(I6 0),(.slice none 0 0),(.slice none 0 0)]) qD CU rfl ?_;intro br wr Nr;have Fr:=Nr.ge E;have Or_bq:=Nr.lt Bq;have Or_bx:=Nr.lt Bx;replace Bq:=Nr.keep Bq;replace Bx:=Nr.keep Bx;replace E:=E.ext Nr.ext;have Br:=Nr.blk;refine qA _ rfl (AA (AE (Y (qV (AU (vs:=[(I6 t.kind),(.slice sa t.set.length sc),(.slice aa t.args.length ac),(I6 t.mn),(I6 t.mx),(.bool t.neg)]) rfl CI BE rfl (Bq.cells rfl)) (qE rfl (AT func50 kQ kQ rfl) (QT _ t _ (BR.ext E t ak)) ?_)))));rintro _ w9 ⟨rfl,X9⟩;replace Bq:=X9.keep Bq;replace Bx:=X9.keep Bx;replace Br:=X9.keep Br;replace E:=E.ext X9;refine qA _ rfl (AA (Y (qM _ rfl (qV (CO rfl rfl) (AA (qC rfl (fun he=>?_) (fun he=>?_)))))))
  · refine Y (qV (BU (ps:=[]) (v:=(.agg #[(I6 0),(.slice none 0 0),(.slice none 0 0)])) rfl qK) (qM _ rfl (Al (b:=br) (o:=0) (c':=#[(I6 0),(.slice none 0 0),(.slice none 0 0)]) rfl rfl qS Ap rfl Br qL rfl ?_)));intro w2 S2;replace Bq:=S2.keep qO Bq;replace Bx:=S2.keep qO Bx;replace E:=S2.step E qQ;replace Br:=S2.blk;refine qA _ rfl (AA (AS (AO (BJ results17 (vs:=[(.int .i64 0),(.slice none 0 0),(.slice none 0 0)]) (b:=br) (v':=(.int .i64 (Cb t 40))) rfl BC Ap rfl (Br.cells rfl) rfl ?_))));exact ⟨Mc (by unfold OvE;rw[if_pos he]) he,E⟩
  · have aw:Cb t 40=0:=qO
    obtain ⟨ap,hsz⟩:=(FY qD qD).1 aw;have hv:=FE ap;have ag:=Iv hv;refine AK (AB (AE (Y (qV (AD rfl DE (Bx.cell rfl)) (qE rfl (AT func51 kQ kQ rfl) (Vt _ _ cs (hC.ext E)) ?_)))));rintro _ w19 ⟨rfl,al⟩;replace Bq:=al.keep Bq;replace Bx:=al.keep Bx;replace Br:=al.keep Br;replace E:=E.ext al;refine qA _ rfl (AA (Y (qM _ rfl (qV (CO rfl rfl) (AA (qC rfl (fun ab=>?_) (fun ab=>?_)))))))
    · refine Y (qV (BU (ps:=[]) (v:=(.agg #[(I6 0),(.slice none 0 0),(.slice none 0 0)])) rfl qK) (qM _ rfl (Al (b:=br) (o:=0) (c':=#[(I6 0),(.slice none 0 0),(.slice none 0 0)]) rfl rfl qS Ap rfl Br qL rfl ?_)));intro w4 S4;replace Bq:=S4.keep qO Bq;replace Bx:=S4.keep qO Bx;replace E:=S4.step E qQ;replace Br:=S4.blk;refine qA _ rfl (AA (AS (AO (BJ results17 (vs:=[(.int .i64 0),(.slice none 0 0),(.slice none 0 0)]) (b:=br) (v':=(.int .i64 (partE cs))) rfl BC Ap rfl (Br.cells rfl) rfl ?_))));exact ⟨Mc (by unfold OvE;rw[if_neg he,if_pos ab]) ab,E⟩
    · have ax:partE cs=0:=qO
      obtain ⟨h16,an,ad,aj⟩:=H' ax;have aq:=Iq an;have a2:∀l∈cs,Canon l∧l.length≤1000:=fun l hl=>⟨(CE (aq l hl)).1,by have:=(CE (aq l hl)).2;omega⟩;have au:∀l∈cs,l≠[]:=fun l hl=>by
        obtain ⟨i,hi⟩:=List.getElem?_of_mem hl;have h9:=(ad i (AI hi)).1
        rwa [List.getD,hi,Option.getD_some] at h9
      have av:1≤cs.length:=by
        have h9:=aj 0 qD qD;cases cs with
        | nil=>simp at h9
        | cons a l=>simp
      refine AK (AB (AE (Y (qV (AU (vs:=[(I6 t.kind),(.slice sa t.set.length sc),(.slice aa t.args.length ac),(I6 t.mn),(I6 t.mx),(.bool t.neg)]) rfl CI BE rfl (Bq.cells rfl)) (Ad (ps:=[(0,(I6 10))]) (c:=#[(I6 10)]) qD rfl underlying22 Ab CW qD qD qK ?_)))));intro bk wk Nk;have Fk:=Nk.ge E;have Ok_bq:=Nk.lt Bq;have Ok_bx:=Nk.lt Bx;have Ok_br:=Nk.lt Br;replace Bq:=Nk.keep Bq;replace Bx:=Nk.keep Bx;replace Br:=Nk.keep Br;replace E:=E.ext Nk.ext;have Bk:=Nk.blk;refine qE rfl (AT func52 kQ kQ rfl) (Rh _ t _ [10] _ (BR.ext E t ak) (EV Bk rfl qD)) ?_;rintro _ w29 ⟨rfl,ah⟩;replace Bq:=ah.keep Bq;replace Bx:=ah.keep Bx;replace Br:=ah.keep Br;replace Bk:=ah.keep Bk;replace E:=E.ext ah;refine qM _ rfl ?_;rcases Bool.eq_false_or_eq_true (Dh [10] t) with hu|hu
      · have az:=hu;refine AJ rfl rfl qD (v:=.bool true) (Aw hu) (Or.inl rfl) (AJ rfl rfl qD (v:=.bool true) (Aw hu) (Or.inl rfl) (AJ rfl rfl qD (v:=.bool true) (Aw hu) (Or.inl rfl) (AJ rfl rfl qD (v:=.bool true) (Aw hu) (Or.inl rfl) (qV (Ac (v:=(.bool true)) rfl (by rw[hu];rfl)) (AA (A4 rfl (Y (qV (BU (ps:=[]) (v:=(.agg #[(I6 0),(.slice none 0 0),(.slice none 0 0)])) rfl qK) (Al (b:=br) (o:=0) (c':=#[(I6 0),(.slice none 0 0),(.slice none 0 0)]) rfl rfl qS Ap rfl Br qL rfl ?_)))))))));intro w6 S6;replace Bq:=S6.keep qO Bq;replace Bx:=S6.keep qO Bx;replace Bk:=S6.keep qO Bk;replace E:=S6.step E qQ;replace Br:=S6.blk;refine qA _ rfl (AA (AS (AO (BJ results17 (vs:=[(.int .i64 0),(.slice none 0 0),(.slice none 0 0)]) (b:=br) (v':=(.int .i64 3)) rfl BC Ap rfl (Br.cells rfl) rfl ?_))));exact ⟨Mc (by unfold OvE;rw[if_neg he,if_neg ab,if_pos (.inl hu)]) qD,E⟩
      · have az:=hu;refine AF rfl rfl qD (Aw hu) (qV (AU (vs:=[(I6 t.kind),(.slice sa t.set.length sc),(.slice aa t.args.length ac),(I6 t.mn),(I6 t.mx),(.bool t.neg)]) rfl CI BE rfl (Bq.cells rfl)) (AF rfl rfl qD (Aw hu) (qE rfl (AT func54 kQ kQ rfl) ((VV _ t _ (BR.ext E t ak) hv qO).mono (R':=fun v w=>(∃a c,v=.slice a (CM t).length c∧Bg w (.slice a (CM t).length c) (CM t))∧Ao _ w) (fun v w h=>⟨by obtain ⟨a,c,h1,_⟩:=h.1.form;exact ⟨a,c,h1,h1▸h.1⟩,h.2⟩)) ?_)));rintro _ w39 ⟨⟨a9,c9,rfl,a0⟩,ai⟩;replace Bq:=ai.keep Bq;replace Bx:=ai.keep Bx;replace Br:=ai.keep Br;replace Bk:=ai.keep Bk;replace E:=E.ext ai;refine AF rfl rfl qD (Aw hu) (qV (CA rfl rfl) (AF rfl rfl qD (Aw hu) (qE rfl (AT func53 kQ kQ rfl) (J7 _ _ _ (CM t) (fun s=>!unnB s cs) a0 (fun w u s hE hs hm=>CV.mk (first:=#[]) (cap:=#[.pointer (some ⟨bx,0,none⟩)]) func55 kQ kQ rfl (UT w u s cs bx ca cc (hE.keep Bx) hs (hC.ext (Ao.trans E hE)) (CE (ag s hm)).1 a2 (by have:=(CE (ag s hm)).2;omega)))) ?_)));rintro _ ay ⟨rfl,ae⟩;replace Bq:=ae.keep Bq;replace Bx:=ae.keep Bx;replace Br:=ae.keep Br;replace Bk:=ae.keep Bk;replace E:=E.ext ae;refine qV (Ac (v:=(.bool ((CM t).any (fun s=>!unnB s cs)))) rfl (by rw[hu];rfl)) (AA (A3 rfl (fun hn=>?_) (fun hn=>?_)))
        · have a1:=hn;refine Y (qV (BU (ps:=[]) (v:=(.agg #[(I6 0),(.slice none 0 0),(.slice none 0 0)])) rfl qK) (Al (b:=br) (o:=0) (c':=#[(I6 0),(.slice none 0 0),(.slice none 0 0)]) rfl rfl qS Ap rfl Br qL rfl ?_));intro w8 S8;replace Bq:=S8.keep qO Bq;replace Bx:=S8.keep qO Bx;replace Bk:=S8.keep qO Bk;replace E:=S8.step E qQ;replace Br:=S8.blk;refine qA _ rfl (AA (AS (AO (BJ results17 (vs:=[(.int .i64 0),(.slice none 0 0),(.slice none 0 0)]) (b:=br) (v':=(.int .i64 3)) rfl BC Ap rfl (Br.cells rfl) rfl ?_))));exact ⟨Mc (by unfold OvE;rw[if_neg he,if_neg ab,if_pos (.inr hn)]) qD,E⟩
        · have a1:=hn;have ar:¬(Dh [10] t=true∨(CM t).any (fun s=>!unnB s cs)=true):=fun h=>h.elim (fun h=>by rw[hu] at h;cases h) (fun h=>by rw[hn] at h;cases h);refine AK (AB (Y (qV (AU (vs:=[(I6 t.kind),(.slice sa t.set.length sc),(.slice aa t.args.length ac),(I6 t.mn),(I6 t.mx),(.bool t.neg)]) rfl CI BE rfl (Bq.cells rfl)) (qV (AD rfl DE (Bx.cell rfl)) ?_))));obtain ⟨n9,am⟩:∃n9,n9=(ay).heap.size:=⟨_,rfl⟩;have hlt:w0.heap.size≤n9∧br<n9:=⟨by rw[am];exact E.size,by rw[am];exact Br.lt⟩;refine qE rfl (AT func57 kQ kQ rfl) ((SN _ cs t _ ca cc ⟨av,qO⟩ au ap qO (hC.ext E) (BR.ext E t ak)).mono (R':=fun r w=>(∃(d:Dfa) (ea:Option Addr) (ec:Nat) (na:Option Addr) (nc:Nat),r=.tuple #[.agg #[.int .i64 d.start,.slice ea d.accept.length ec,.slice na d.next.length nc],.int .i64 (OvE t cs)]∧((OvE t cs≠0∧d=⟨0,[],[]⟩∧ea=none∧ec=0∧na=none∧nc=0)∨(OvE t cs=0∧trO cs.length cs t=some d∧GoodD cs.length d∧d.next.length≤200∧By (fun b=>n9≤b) w d [.int .i64 d.start,.slice ea d.accept.length ec,.slice na d.next.length nc])))∧Ao _ w) (fun r w h=>⟨by
            rcases h.1 with ⟨d,ea,ec,na,nc,h1,h2,h3,h4,h5⟩|⟨h1,h2⟩
            · have e0:OvE t cs=0:=by unfold OvE;rw[if_neg he,if_neg ab,if_neg ar,if_neg (by rw[h1];simp)]
              exact ⟨d,ea,ec,na,nc,by rw[e0];exact h4,.inr ⟨e0,h1,h2,h3,by rw[am];exact h5⟩⟩
            · have e0:OvE t cs=2:=by unfold OvE;rw[if_neg he,if_neg ab,if_neg ar,if_pos h1]
              exact ⟨⟨0,[],[]⟩,none,0,none,0,by rw[e0];exact h2,.inl ⟨by rw[e0];decide,rfl,rfl,rfl,rfl,rfl⟩⟩,h.2⟩)) ?_
          rintro _ w59 ⟨⟨d,ea,ec,na,nc,rfl,ao⟩,af⟩;replace Bq:=af.keep Bq;replace Bx:=af.keep Bx;replace Br:=af.keep Br;replace Bk:=af.keep Bk;replace E:=E.ext af;refine qV (Ai rfl rfl) (qV (Ai rfl rfl) (Al (b:=br) (o:=0) (c':=#[(I6 d.start),(.slice ea d.accept.length ec),(.slice na d.next.length nc)]) rfl rfl qS Ap rfl Br qL rfl ?_));intro w9 S9;replace ao:=Or.imp id (fun h=>And.intro h.1 (And.intro h.2.1 (And.intro h.2.2.1 (And.intro h.2.2.2.1 (By.put h.2.2.2.2 S9.chg fun y h1 h=>by have h':y=br:=h;omega))))) ao;replace Bq:=S9.keep qO Bq;replace Bx:=S9.keep qO Bx;replace Bk:=S9.keep qO Bk;replace E:=S9.step E qQ;replace Br:=S9.blk;refine qA _ rfl (AA (AS (BJ results17 (vs:=[(.int .i64 d.start),(.slice ea d.accept.length ec),(.slice na d.next.length nc)]) (b:=br) (v':=(.int .i64 (OvE t cs))) rfl BC Ap rfl (Br.cells rfl) rfl ?_)));exact ⟨⟨d,ea,ec,na,nc,rfl,ao.imp id fun h=>⟨h.1,h.2.1,h.2.2.1,h.2.2.2.1,h.2.2.2.2.mono fun b hb=>by have hb':n9≤b:=hb;omega⟩⟩,E⟩
end Go.Proofs
namespace Go.Proofs
open Go Go.Eng Go.Sort
set_option maxRecDepth 100000
theorem XP (U:World) (v:Value) (ll:List (List Sp)) (h:Bg U v ll) :
 CJ prog 20 #[v] U λr w=>r=.int .i64 (partE ll)∧Ao U w:=by
 obtain ⟨a,c,rfl,_,hle⟩:=h.form;refine qR func20 O ntmps20 O (λE=>(Y (qA _ O (AA (AE (Y (qM _ O (qV (AH underlying49 O) (qV (CH O O) (AA (qC O (λal=>?_) (λal=>?_))))))))))))
 .refine Y (qA _ O (AA (AS (AO (AV results20 (v:=(.int .i64 2)) O ?_)))));exact ⟨A5 (Jb qO).symm,E⟩
 .have t:¬16<ll.length:=qO
  refine AK (AB (AE (Y (qM _ O (qV (AH underlying49 O) (qM _ O (AA (AM (Am (λnn_ σ W2=>∃(k:Nat),(∃jj_,σ=BQ jj_ [(0,(.slice a ll.length c)),(17,(.slice a ll.length c)),(18,(I6 (ll.length:Int))),(19,(I6 (k:Int)))])∧Chg AZ U W2∧(k<=ll.length)∧(∀l∈ll.take k,A7 l=0)∧nn_=ll.length - k) (n:=ll.length - 0) ?_ ?_)))))))))
  .exact ⟨0,Af.out ⟨O,O,O,O,trivial⟩,E,Nat.zero_le _,qP,O⟩
  .clear E;rintro _ _ W2 ⟨k,⟨j2,rfl⟩,E,hk,V,rfl⟩;refine Y (qV (Av O O) (AA (AE (qC O (λak=>?_) (λak=>?_)))))
   .obtain ⟨l,B⟩:=AL (l:=ll) (i:=k) qO;obtain ⟨b,o,rfl,C⟩:=CD h qO;obtain ⟨ra,rc,m,H⟩:=C k l B;refine AK (AB (AE (AM (Y (qV (AC (b:=b) (o:=o) (len:=ll.length) (cap:=c) (i:=k) (o':=o+k) O O O underlying49 BW qO qO) (qV (AD O CC (E.cell (λf=>f) m)) (qA _ O (AA (Y (qM _ O (qE O (AT func24 kQ kQ O) (My _ _ l (H.ext E)) ?_)))))))))));rintro _ w9 ⟨rfl,X9⟩;replace E:=E.ext X9;refine qA _ O (AA (Y (qM _ O (qV (CO O O) (AA (qC O (λhc=>?_) (λhc=>?_)))))))
    .refine Y (qM _ O (qA _ O (AA (AS (Ag (AO (AO (Ag (AO (AV results20 (v:=(.int .i64 (A7 l))) O ?_))))))))));have hb:=G0 V B hc;exact ⟨A5 ((Lo t (by rw[hb];exact hc)).trans hb).symm,E⟩
    .refine AK (AP (AB (AG (qV (Aq O O (A2 qO)) (qM _ O (AA (AB ?_)))))));exact ⟨ll.length - (k+1),qO,k+1,Af.out ⟨O,O,O,O,trivial⟩,E,qO,(λy hy=>by rw[CP B] at hy;rcases List.mem_append.1 hy with A|A;exact V y A;rw[List.mem_singleton] at A;subst A;omega),O⟩
   .have ai:k=ll.length:=qO
    rw[ai,List.take_length] at V;have J:=Ej V;have ae:∀l∈ll,Canon l:=λl N=>(CE (V l N)).1;have L:∀s∈ll.flatten,C_ s:=λs hs=>by obtain ⟨l,N,hs⟩:=List.mem_flatten.1 hs;exact (ae l N).ok s hs
    have hf:=J0 V;refine Ak (AR (AR (Ae (AB (Y (qA _ O (AA (AE (Y (qM _ O (qV (AH underlying49 O) (qM _ O (AA (AM (Am (λnn_ σ W5=>∃(u:Nat) (la:Int),(∃jj_,σ=BQ jj_ [(0,(.slice a ll.length c)),(29,(.slice a ll.length c)),(30,(I6 (ll.length:Int))),(31,(I6 (u:Int))),(6,(I6 la))])∧Chg AZ U W5∧(u<=ll.length)∧(∀j,j<u->PU ll j)∧(la=KZ ll u)∧nn_=ll.length - u) (n:=ll.length - 0) ?_ ?_)))))))))))))))
    .exact ⟨0,-1,Af.out ⟨O,O,O,O,O,trivial⟩,E,Nat.zero_le _,(λj h=>absurd h (Nat.not_lt_zero _)),O,O⟩
    .clear E;rintro _ _ W5 ⟨u,la,⟨j5,rfl⟩,E,hk2,hh,Z,rfl⟩;refine Y (qV (Av O O) (AA (AE (qC O (λab=>?_) (λab=>?_)))))
     .obtain ⟨l,B⟩:=AL (l:=ll) (i:=u) qO;obtain ⟨b,o,rfl,C⟩:=CD h qO;obtain ⟨ra,rc,m,H⟩:=C u l B;have F:=Ko (d:=[]) B;refine AK (AB (AE (AM (Y (qV (AC (b:=b) (o:=o) (len:=ll.length) (cap:=c) (i:=u) (o':=o+u) O O O underlying49 BW qO qO) (qV (AD O CC (E.cell (λf=>f) m)) (qA _ O (AA (AE (Y (qM _ O (qV (AH underlying37 O) (qV (As O O) (qM _ O ?_))))))))))))));rcases Bool.eq_false_or_eq_true (decide ((((l.length:Nat):Int):Int)=0)) with g|g
      .have q:=g;replace q:=of_decide_eq_true q;refine AJ O O qD (v:=.bool true) (Aw g) (Or.inl O) (AJ O O qD (v:=.bool true) (Aw g) (Or.inl O) (AJ O O qD (v:=.bool true) (Aw g) (Or.inl O) (AJ O O qD (v:=.bool true) (Aw g) (Or.inl O) (AJ O O qD (v:=.bool true) (Aw g) (Or.inl O) (AJ O O qD (v:=.bool true) (Aw g) (Or.inl O) (qV (Ac (v:=(.bool true)) O (by rw[g];rfl)) (AA (A4 O (Y (qA _ O (AA (AS (AO (Ag (AO (AO (Ag (AO (AV results20 (v:=(.int .i64 3)) O ?_)))))))))))))))))));exact ⟨A5 (ED t J (QE (k:=u) qO λhd=>by have A:=hd.1;rw[F] at A;exact A (List.eq_nil_of_length_eq_zero qO))).symm,E⟩
      .have q:=g;replace q:=of_decide_eq_false q;have P:l≠[]:=λe=>by subst e;exact q O
       obtain ⟨s1,S,M⟩:=JL P;obtain ⟨sb,so,rfl,ag⟩:=BH H (by cases l with|nil=>exact absurd rfl P|cons x y=>simp);have hlpos:0<l.length:=AI S;refine AF O O qD (Aw g) (qM _ O (AF O O qD (Aw g) (qV (AC (b:=sb) (o:=so) (len:=l.length) (cap:=rc) (i:=0) (o':=so+0*2) O O O underlying37 BA qO qO) (AF O O qD (Aw g) (qF _ _ _ O underlying74 O Ab O (AF O O qD (Aw g) (qV (AD O Aa (E.cell (λf=>f) (ag 0 s1 S 0 _ O))) (AF O O qD (Aw g) (qM _ O (AF O O qD (Aw g) (qV (GY O O) (qV (Ac (v:=(.bool (decide ((s1.1:Int)<=la)))) O (by rw[g];rfl)) (AA (qC O (λam=>?_) (λam=>?_)))))))))))))))
       .refine Y (qA _ O (AA (AS (AO (Ag (AO (AO (Ag (AO (AV results20 (v:=(.int .i64 3)) O ?_))))))))));exact ⟨A5 (ED t J (QE (k:=u) qO λhd=>by have A:=hd.2;rw[F,M,<-Z] at A;omega)).symm,E⟩
       .refine AK (AB (AG (qM _ O (qV (AC (b:=sb) (o:=so) (len:=l.length) (cap:=rc) (i:=0) (o':=so+0*2) O O O underlying37 BA qO qO) (qF _ _ _ O underlying74 O Ab O (qV (AD O Aa (E.cell (λf=>f) (ag 0 s1 S 0 _ O))) (qA _ O (AA (AP (AB (AG (qV (Aq O O (A2 qO)) (qM _ O (AA (AB ?_)))))))))))))));exact ⟨ll.length - (u+1),qO,u+1,s1.1,Af.out ⟨O,O,O,O,O,trivial⟩,E,qO,Mn hh ⟨by rw[F];exact P,by rw[F,M,<-Z];omega⟩,(by show s1.1=BK (ll.getD u []);rw[F,M]),O⟩
     .have hk22:u=ll.length:=qO
      have I:HH ll:=λj hj=>hh j qO;refine Ak (AR (AR (Ae (AB (AE (Y (qM _ O (qE O (AT func63 kQ kQ O) (KK _ _ ll (h.ext E) qO L) ?_))))))));rintro _ w9 ⟨⟨p,hP,⟨pa,pc,rfl⟩,K⟩,X9⟩;replace E:=E.ext X9;have af:=SG hP L;have hpl:p.length<=1114112:=Jw hP.1 (λx B=>Cg hP L B);refine qV (AH underlying22 O) (qM _ O (AA (AM (Am (λnn_ σ W9=>∃(i:Nat),(∃jj_,σ=BQ jj_ [(0,(.slice a ll.length c)),(52,(.slice pa p.length pc)),(53,(I6 (p.length:Int))),(54,(I6 (i:Int)))])∧Chg AZ U W9∧(i<=p.length)∧(∀r∈p.take i,ll.countP (λl=>BY l r)=1)∧(CF W9 (.slice pa p.length pc) p)∧nn_=p.length - i) (n:=p.length - 0) ?_ ?_))))
      .exact ⟨0,Af.out ⟨O,O,O,O,trivial⟩,E,Nat.zero_le _,qP,K,O⟩
      .clear E;rintro _ _ W9 ⟨i,⟨j9,rfl⟩,E,hi,D,K,rfl⟩;refine Y (qV (Av O O) (AA (AE (qC O (λW=>?_) (λW=>?_)))))
       .obtain ⟨x,B⟩:=AL (l:=p) (i:=i) qO;obtain ⟨pb,po,rfl,aj⟩:=BF (l:=p) K qO;refine AK (AB (AE (AM (Y (qV (AC (b:=pb) (o:=po) (len:=p.length) (cap:=pc) (i:=i) (o':=po+i) O O O underlying22 Ab qO qO) (qV (AD O Aa (aj i x B)) (qA _ O (AA (Y (qA _ O (AA (AE (Y (qM _ O (qV (AH underlying49 O) (qM _ O (AA (AM (Am (λnn_ σ T=>∃(z:Nat) (mn:Nat),(∃jj_,σ=BQ jj_ [(0,(.slice a ll.length c)),(10,(I6 x)),(52,(.slice (some ⟨pb,po,none⟩) p.length pc)),(53,(I6 (p.length:Int))),(54,(I6 (i:Int))),(58,(.slice a ll.length c)),(59,(I6 (ll.length:Int))),(60,(I6 (z:Int))),(11,(I6 (mn:Int)))])∧Chg AZ U T∧(z<=ll.length)∧(mn=(ll.take z).countP (λl=>BY l x))∧(mn<=z)∧(CF T (.slice (some ⟨pb,po,none⟩) p.length pc) p)∧nn_=ll.length - z) (n:=ll.length - 0) ?_ ?_)))))))))))))))))))
        .exact ⟨0,0,Af.out ⟨O,O,O,O,O,O,O,O,O,trivial⟩,E,Nat.zero_le _,O,Nat.le_refl _,K,O⟩
        .clear E;rintro _ _ T ⟨z,mn,⟨j11,rfl⟩,E,hk3,Q,hml,K,rfl⟩;refine Y (qV (Av O O) (AA (AE (qC O (λX=>?_) (λX=>?_)))))
         .obtain ⟨l,N⟩:=AL (l:=ll) (i:=z) qO;obtain ⟨b,o,rfl,C⟩:=CD h qO;obtain ⟨ra,rc,m,H⟩:=C z l N;refine AK (AB (AE (AM (Y (qV (AC (b:=b) (o:=o) (len:=ll.length) (cap:=c) (i:=z) (o':=o+z) O O O underlying49 BW qO qO) (qV (AD O CC (E.cell (λf=>f) m)) (qA _ O (AA (Y (qM _ O (qM _ O (qE O (AT func49 kQ kQ O) (Ml _ _ l x (H.ext E)) ?_))))))))))));rintro _ w51 ⟨rfl,R⟩;replace E:=E.ext R;refine AA (A3 O (λG=>?_) (λG=>?_))
          .have ac:=G;refine AG (qM _ O (qV (Aq (c:=((mn+1:Nat):Int)) O O ((A2 qO).trans qO)) (qA _ O (AA (AP (AB (AG (qV (Aq O O (A2 qO)) (qM _ O (AA (AB ?_)))))))))));exact ⟨ll.length - (z+1),qO,z+1,mn+1,Af.out ⟨O,O,O,O,O,O,O,O,O,trivial⟩,E,qO,(by rw[CP N,List.countP_append,Q];simp[G]),qO,K.ext R,O⟩
          .have ac:=G;refine AK (AP (AB (AG (qV (Aq O O (A2 qO)) (qM _ O (AA (AB ?_)))))));exact ⟨ll.length - (z+1),qO,z+1,mn,Af.out ⟨O,O,O,O,O,O,O,O,O,trivial⟩,E,qO,(by rw[CP N,List.countP_append,Q];simp[G]),qO,K.ext R,O⟩
         .have aa:z=ll.length:=qO
          rw[aa,List.take_length] at Q;refine Ak (AR (AR (Ae (AB (Y (qM _ O (qV (CO O O) (AA (qC O (λad=>?_) (λad=>?_))))))))))
          .refine Y (qA _ O (AA (AS (Ag (AO (AO (Ag (AO (AV results20 (v:=(.int .i64 3)) O ?_)))))))));exact ⟨A5 (ED t J λhq=>by have A:=af.1 hq.2 x (List.mem_of_getElem? B);omega).symm,E⟩
          .refine AK (AP (AB (AG (qV (Aq O O (A2 qO)) (qM _ O (AA (AB ?_)))))));exact ⟨p.length - (i+1),qO,i+1,Af.out ⟨O,O,O,O,trivial⟩,E,qO,(λr hr=>by rw[CP B] at hr;rcases List.mem_append.1 hr with A|A;exact D r A;rw[List.mem_singleton] at A;subst A;omega),K,O⟩
       .have ah:i=p.length:=qO
        rw[ah,List.take_length] at D;refine Ak (AR (AR (Ae (AB (Y (qA _ O (AA (AS (AV results20 (v:=(.int .i64 0)) O ?_)))))))));exact ⟨A5 (N9 t J ⟨I,af.2 D⟩).symm,E⟩
end Go.Proofs
namespace Go.Proofs
open Go Go.Eng Go.Sort
set_option maxRecDepth 100000
def LE (w:World) (v:Value) (us:List Value):Prop:=BL w 1 v (us.map λx=>[x])∧∀u∈us,u.oneCell'=true
theorem LE.ext {w w':World} {v:Value} {us:List Value} (h:LE w v us) (e:Ao w w'):LE w' v us:=⟨h.1.ext e,h.2⟩
theorem Rg {w:World} {a:Option Addr} {n c:Nat} {us:List Value} (h:LE w (.slice a n c) us):(n=0∧us=[])∨∃b o,a=some ⟨b,o,none⟩∧A' w b o us:=by
 have hn:n=us.length:=by have:=(BL.cap h.1).2;simpa using this.symm
 rcases Nat.eq_zero_or_pos n with d|d
 .left;exact ⟨d,List.eq_nil_of_length_eq_zero qO⟩
 .right;obtain ⟨b,o,e,g⟩:=BL.at h.1 d;refine ⟨b,o,e,λi u f=>?_⟩;have:=g i [u] (by simp[f]) 0 _ O;simpa using this
theorem Bg.vals {w:World} {v:Value} {ll:List (List Sp)} (h:Bg w v ll):∃us,LE w v us∧us.length=ll.length∧∀(i:Nat) u l,us[i]?=some u->ll[i]?=some l->A6 w u l:=by
 obtain ⟨us,e,d,b⟩:=h;refine ⟨us,⟨e,λu g=>?_⟩,d,b⟩;obtain ⟨i,hi⟩:=List.getElem?_of_mem g;obtain ⟨l,f⟩:=AL (l:=ll) (i:=i) (by have:=AI hi;omega);obtain ⟨a,c,rfl⟩:=BL.form (b i u l hi f);rfl
theorem Qd {w:World} {v:Value} {us vs:List Value} {A B:List (List Sp)} (h:BL w 1 v ((us++vs).map λx=>[x])) (c:us.length=A.length) (f:vs.length=B.length) (e:∀(i:Nat) u l,us[i]?=some u->A[i]?=some l->A6 w u l) (d:∀(i:Nat) u l,vs[i]?=some u->B[i]?=some l->A6 w u l):Bg w v (A++B):=by
 refine ⟨us++vs,h,by simp[c,f],λi u l hi a=>?_⟩;rcases Nat.lt_or_ge i us.length with b|b
 .rw[List.getElem?_append_left b] at hi;rw[List.getElem?_append_left qO] at a;exact e i u l hi a
 .rw[List.getElem?_append_right b] at hi;rw[List.getElem?_append_right qO] at a;exact d (i - us.length) u l hi (by rw[c];exact a)
theorem SJ {w:World} {base n:Nat} {v:Value} {us:List Value} (h:w.ownsRow base M_ 1 v n us) (b:n=us.length):BL w 1 v (us.map λx=>[x]):=by
 rw[show us=(us.map λx=>[x]).flatten by simp[List.flatten_eq_flatMap,List.flatMap_map]] at h;exact DY h (by intro r a;simp only[List.mem_map] at a;obtain ⟨x,_,rfl⟩:=a;rfl) (by simp[b]) qD
end Go.Proofs
namespace Go.Proofs
open Go Go.Eng Go.Sort
set_option maxRecDepth 100000
def LO:List (List Sp):=[[(0,96),(98,1114111)],[(97,97)]]
theorem TS {out:List (List Sp)} {e:Int} (h:M0 [[(97,97)]] out e):e=0∧out=LO:=by
 have c1:Canon [((97:Int),(97:Int))]:=Canon.one (by unfold C_;simp);rcases h with ⟨f,_⟩|⟨_,cs,d,s⟩
 .refine absurd (Ej λl a=>?_) f;simp at a;subst a;exact RD c1 qP
 .obtain ⟨p,m,a,k⟩:=d;have u:p=[0,97,98]:=Lv m.1 qP λx=>by
   rw[m.2 x];unfold G2;simp
  subst u;have q:DT (([0,97,98]:List Int).map (Ay [[(97,97)]]))=[[false],[true]]:=qD
  rw[q] at a k;have mk:∀r,Ay [[(97,97)]] r=[decide (97<=r) && decide (r<=97)]:=λr=>by simp[Ay,BY]
  obtain ⟨x,y,rfl⟩:∃x y,cs=[x,y]:=by
   rcases cs with _|⟨x,_|⟨y,_|⟨z,t⟩⟩⟩<;>simp at a;exact ⟨x,y,O⟩
  have n:=k 0 _ x O O;have f:=k 1 _ y O O;have o:x=[(0,96),(98,1114111)]:=Hn n.1 (RH qD qD qD qD qD) λr g j=>by
   rw[n.2 r g j,Bool.eq_iff_iff,decide_eq_true_eq,mk];simp only[CQ,ER,Bool.or_false,Bool.or_eq_true,Bool.and_eq_true,decide_eq_true_eq,List.cons.injEq,and_true,Bool.and_eq_false_iff,decide_eq_false_iff_not];omega
  have v:y=[(97,97)]:=Hn f.1 c1 λr g j=>by
   rw[f.2 r g j,Bool.eq_iff_iff,decide_eq_true_eq,mk];simp only[CQ,ER,Bool.or_false,Bool.and_eq_true,decide_eq_true_eq,List.cons.injEq,and_true]
  subst o;subst v;rcases s with ⟨i,_⟩|⟨_,i,b⟩
  .rcases i with ⟨c,d,b⟩|b
   .simp at d;rcases d with rfl|rfl<;>simp at b
   .simp at b
  .exact ⟨i,b⟩
def aD:Dfa:=⟨0,[-1,0],[[-1,1],[-1,-1]]⟩
theorem Wk (s:Int) (x:Nat):BN aD s x = -1∨BN aD s x=1:=by
 unfold BN aD;split
 .exact .inl O
 .match s.toNat,x with
  | 0,0=>exact .inl O
  | 0,1=>exact .inr O
  | 0,x+2=>exact .inl O
  | 1,0=>exact .inl O
  | 1,1=>exact .inl O
  | 1,x+2=>exact .inl O
  | n+2,x=>exact .inl O
theorem XR:Db 2 (beh (Gp LO [(97,97)]) 0) aD:=by
 have e:Gp LO [(97,97)]=aD:=by unfold Gp aD setRow LO;simp[BY,BK,List.replicate]
 rw[e];refine ⟨2,⟨⟨O,O,qD,qD,qD⟩,O,?_,?_,qD⟩,λw _=>rfl,?_,?_⟩
 .intro k x h
  match k,h with
  | 0,h=>simp[aD] at h;subst h;decide
  | 1,h=>simp[aD] at h;subst h;decide
  | 2,h=>simp[aD] at h;subst h;decide
  | 3,h=>simp[aD] at h;subst h;decide
  | k+4,h=>simp[aD] at h
 .intro i hi
  match i,hi with
  | 0,_=>decide
  | 1,_=>decide
 .intro s t a h2 h3 h4 h;have c:=h [] (λx b=>by cases b);have hs:s=0∨s=1:=qO
  have d:t=0∨t=1:=qO
  rcases hs with rfl|rfl<;>rcases d with rfl|rfl
  .rfl
  .exact absurd c qD
  .exact absurd c qD
  .rfl
 .intro s x _ h;rcases Wk s x with a|a
  .rw[a] at h;exact absurd h qD
  .rw[a];exact ⟨[],(λx b=>by cases b),qD⟩
def aR:Re:=.mk 2 [(97,97)] [] 0 0 false
theorem Wf:trO 2 LO aR=some aD:=by
 have h:trN 2 LO aR=some aD:=by rw[VL rfl];exact Ho XR
 exact (IQ h).1 qD
end Go.Proofs
namespace Go.Proofs
open Go Go.Eng Go.Sort
set_option maxRecDepth 100000
theorem Ui {c:Nat} {u v:List Nat}:E3 c (u++v)↔E3 c u∧E3 c v:=by
 unfold E3;simp only[List.mem_append];exact ⟨λh=>⟨λx a=>h x (.inl a),λx a=>h x (.inr a)⟩,λh x a=>a.elim (h.1 x) (h.2 x)⟩
open Classical in
section
variable {c : Nat} {cs : List (List Sp)} {a b d : Dfa} {A B : Lg} {f : List Nat → Int}
theorem On {d:Dfa}:∀(w:List Nat),beh d (-1) w = -1:=λw=>Dy qD
end
end Go.Proofs
namespace Go.Proofs
open Go Go.Eng Go.Sort
set_option maxRecDepth 100000
def JY:Re:=.mk 5 [] [aR] 0 0 false
def sD:Dfa:=⟨0,[0],[[-1,0]]⟩
theorem Vh:BN sD 0 1=0:=qD
theorem Wj (s:Int) (x:Nat):BN sD s x = -1∨BN sD s x=0:=by
 unfold BN sD;split
 .exact .inl O
 .match s.toNat,x with
  | 0,0=>exact .inl O
  | 0,1=>exact .inr O
  | 0,x+2=>exact .inl O
  | n+1,x=>exact .inl O
theorem VU:∀w:List Nat,E3 2 w->beh sD 0 w=if ∀x∈w,x=1 then 0 else -1
 | [],_=>by rw[if_pos qP];rfl
 | x::w,h=>by
  have hx:=h.head;have e:x=0∨x=1:=qO
  rcases e with rfl|rfl
  .show beh sD (BN sD 0 0) w=_;rw[show BN sD 0 0 = -1 by decide,On,if_neg];intro a;exact absurd (a 0 qP) qD
  .show beh sD (BN sD 0 1) w=_;rw[Vh,VU w h.tail];by_cases a:∀x∈w,x=1
   .rw[if_pos a,if_pos (by simpa using a)]
   .rw[if_neg a,if_neg (by simpa using a)]
theorem WR {w:List Nat} (h:E3 2 w):0<=beh aD 0 w↔w=[1]:=by
 match w,h with
 | [],_=>exact ⟨λh=>absurd h qD,λh=>by cases h⟩
 | [x],h=>
  have a:=h.head;have e:x=0∨x=1:=qO
  rcases e with rfl|rfl
  .exact ⟨λh=>absurd h qD,λh=>by simp at h⟩
  .exact ⟨λ_=>rfl,λ_=>qD⟩
 | x::y::w,h=>
  have a:=h.head;have hy:=h.tail.head;have e:x=0∨x=1:=qO
  have f:y=0∨y=1:=qO
  have b:beh aD 0 (x::y::w) = -1:=by
   show beh aD (BN aD (BN aD 0 x) y) w = -1;have:BN aD (BN aD 0 x) y = -1:=by rcases e with rfl|rfl<;>rcases f with rfl|rfl<;>decide
   rw[this,On]
  rw[b];exact ⟨λh=>absurd h qD,λh=>by simp at h⟩
theorem La:∀n:Nat,StarW (beh aD 0) (List.replicate n 1)
 | 0=>.nil
 | n+1=>by
  rw[List.replicate_succ,show (1::List.replicate n 1)=[1]++List.replicate n 1 from rfl];exact .cons qD (La n)
theorem Rq {w:List Nat} (d:E3 2 w):StarW (beh aD 0) w↔∀x∈w,x=1:=by
 constructor
 .intro h
  induction h with
  | nil=>intro x b;cases b
  | @cons u v h1 _ ih=>
   obtain ⟨c,f⟩:=Ui.1 d;have e:=(WR c).1 h1;subst e;intro x b;rcases List.mem_append.1 b with a|a
   .simpa using a
   .exact ih f x a
 .intro h;have e:w=List.replicate w.length 1:=List.eq_replicate_iff.2 ⟨O,h⟩;rw[e];exact La _
theorem XQ:Db 2 (starB aD) sD:=by
 refine ⟨1,⟨⟨O,O,qD,qD,qD⟩,O,?_,?_,qD⟩,λw b=>?_,?_,?_⟩
 .intro k x h
  match k,h with
  | 0,h=>simp[sD] at h;subst h;decide
  | 1,h=>simp[sD] at h;subst h;decide
  | k+2,h=>simp[sD] at h
 .intro i hi;obtain rfl:i=0:=qO
  decide
 .rw[VU w b];unfold starB;rw[show aD.start=0 from rfl];by_cases h:∀x∈w,x=1
  .rw[if_pos h,if_pos ((Rq b).2 h)]
  .rw[if_neg h,if_neg λc=>h ((Rq b).1 c)]
 .intro s t a c h3 h4 _;omega
 .intro s x _ h;rcases Wj s x with a|a
  .rw[a] at h;exact absurd h qD
  .rw[a];exact ⟨[],(λx d=>by cases d),qD⟩
def Xa:List ByteArray:=[(false,false),(false,true),(true,false),(true,true)].map λp:Bool×Bool=>Cn 2 λs=>if s=0 then p.1 else p.2
theorem Uh (f:Nat->Bool):Cn 2 f∈Xa:=by
 have e:Cn 2 f=Cn 2 λs=>if s=0 then f 0 else f 1:=Kg λs hs=>by
  have:s=0∨s=1:=qO
  rcases this with rfl|rfl<;>rfl
 rw[e];unfold Xa;refine List.mem_map.2 ⟨(f 0,f 1),?_,O⟩;cases f 0<;>cases f 1<;>simp
theorem XF:GA 2 (EZ aD 2 (Cf aD 2)) (Cf aD 2) 20000:=by
 intro l hd b;have a:(Cf aD 2).size≠(2+7) / 8:=by rw[MK];omega
 have ok:OkD 2 2 aD:=⟨O,O,qD,qD,qD⟩;have:=JB (m:=Cf aD 2::Xa) hd λk c=>by
  rcases KE ok a (b k c) with h|h
  .rw[h];simp
  .rw[h];exact List.mem_cons_of_mem _ (Uh _)
 have e:(Cf aD 2::Xa).length=5:=rfl;omega
theorem VI:trO 2 LO JY=some sD:=by
 have h:trN 2 LO JY=some sD:=by
  rw[Pu O O (y:=aR) O,Wf];show stO 2 aD=some sD;unfold stO;rw[show aD.next.length=2 from O,if_pos XF];exact Ho XQ
 exact (IQ h).1 qD
theorem Xg {m:Nat} {r:Value} {w:World} (h:Xu JY m r w):∃g i c f k j,r=.tuple #[.agg #[.int .i64 0,.slice g 1 i,.slice c 1 f],.slice k 2 j,.int .i64 0]∧B' w sD [.int .i64 0,.slice g 1 i,.slice c 1 f]:=by
 have p:Cb JY 40=0:=(FY qD qD).2 ⟨by unfold JY aR;simp only[Hr,Ga,and_true];exact ⟨qD,qD⟩,qD⟩;have l:Dh [10] JY=false:=qD
 have hs:CM JY=[[(97,97)]]:=qD
 rcases h with ⟨e,a,_⟩|⟨_,_,cs,d,k,j,g,i,c,f,a,b,_,_,_,_,o,n,_⟩
 .rcases a with ⟨a,_⟩|⟨_,a,_⟩|⟨_,_,a,_⟩
  .exact absurd p a
  .rw[l] at a;cases a
  .rw[hs] at a;rcases a with ⟨out,a⟩|⟨cs,a,b⟩
   .exact absurd (TS a).1 qD
   .rw[(TS a).2] at b;have:=VI;rw[show (LO.length:Nat)=2 from rfl] at b;rw[b] at this;cases this
 .rw[hs] at a;have q:=(TS a).2;subst q;rw[show (LO.length:Nat)=2 from rfl] at b;rw[VI] at b;cases b;exact ⟨g,i,c,f,k,j,o,n.at'⟩
end Go.Proofs
namespace Go.Proofs
open Go Go.Eng
set_option maxRecDepth 100000
theorem Wo (w0:World) (lo hi:Int):CJ prog 84 #[.int .i64 lo,.int .i64 hi] w0 fun v w=>v=.agg #[.int .i64 lo,.int .i64 hi]∧Ao w0 w:=by
 refine qR func84 rfl ntmps84 rfl (fun E=>(Y (BO (c:=#[(I6 0),(I6 0)]) qD C8 rfl ?_)));intro b1 w1 N1;have F1:=N1.ge E;replace E:=E.ext N1.ext;have B1:=N1.blk;refine AA (Y (qM _ rfl (qM _ rfl (qV (BU (ps:=[(0,(I6 lo)),(1,(I6 hi))]) (v:=(.agg #[(I6 lo),(I6 hi)])) rfl qK) (Al (b:=b1) (o:=0) (c':=#[(I6 lo),(I6 hi)]) rfl rfl qS BA rfl B1 qL rfl ?_)))));intro w2 S2;replace E:=S2.step E qQ;replace B1:=S2.blk;refine AA (AS (Cp results84 (vs:=[(.int .i64 lo),(.int .i64 hi)]) (b:=b1) rfl EM BA rfl (B1.cells rfl) ?_));exact ⟨rfl,E⟩
theorem V0 (w0:World) (r:Int):CJ prog 41 #[.int .i64 r] w0 fun v w=>∃b,v=.agg #[.int .i64 2,.slice (some ⟨b,0,none⟩) 1 1,.slice none 0 0,.int .i64 0,.int .i64 0,.bool false]∧A6 w (.slice (some ⟨b,0,none⟩) 1 1) [(r,r)]∧Ao w0 w:=by
 refine qR func41 rfl ntmps41 rfl (fun E=>(Y (BO (c:=#[(I6 0),(.slice none 0 0),(.slice none 0 0),(I6 0),(I6 0),(.bool false)]) qD FP rfl ?_)));intro bp wp Np;have Fp:=Np.ge E;replace E:=E.ext Np.ext;have Bp:=Np.blk;refine AA (Y (qM _ rfl (qM _ rfl (qE rfl (AT func84 kQ kQ rfl) (Wo _ r r) ?_))));rintro _ w9 ⟨rfl,X9⟩;replace Bp:=X9.keep Bp;replace E:=E.ext X9;refine Ad (ps:=[(0,(.agg #[(I6 r),(I6 r)]))]) (c:=#[(I6 r),(I6 r)]) qD rfl underlying37 BA C8 qD qD qK ?_;intro bq wq Nq;have Fq:=Nq.ge E;have Oq_bp:=Nq.lt Bp;replace Bp:=Nq.keep Bp;replace E:=E.ext Nq.ext;have Bq:=Nq.blk;refine qV (BU (ps:=[(0,(I6 2)),(1,(.slice (some ⟨bq,0,none⟩) 1 1))]) (v:=(.agg #[(I6 2),(.slice (some ⟨bq,0,none⟩) 1 1),(.slice none 0 0),(I6 0),(I6 0),(.bool false)])) rfl qK) (Al (b:=bp) (o:=0) (c':=#[(I6 2),(.slice (some ⟨bq,0,none⟩) 1 1),(.slice none 0 0),(I6 0),(I6 0),(.bool false)]) rfl rfl qS BE rfl Bp qL rfl ?_);intro w1 S1;replace Bq:=S1.keep qO Bq;replace E:=S1.step E qQ;replace Bp:=S1.blk;refine AA (AS (Cp results41 (vs:=[(.int .i64 2),(.slice (some ⟨bq,0,none⟩) 1 1),(.slice none 0 0),(.int .i64 0),(.int .i64 0),(.bool false)]) (b:=bp) rfl CI BE rfl (Bp.cells rfl) ?_));exact ⟨bq,rfl,MV [(r,r)] Bq qP qP,E⟩
theorem Ue (w0:World) (t:Re) (vs:List Value) (ht:BR w0 t vs):CJ prog 40 #[.agg vs.toArray] w0 fun v w=>(∃b,v=.agg #[.int .i64 5,.slice none 0 0,.slice (some ⟨b,0,none⟩) 1 1,.int .i64 0,.int .i64 0,.bool false]∧BR w (Wl t) [.int .i64 5,.slice none 0 0,.slice (some ⟨b,0,none⟩) 1 1,.int .i64 0,.int .i64 0,.bool false])∧Ao w0 w:=by
 have ad:=ht;obtain ⟨sa,sc,aa,ac,rfl,ae,af,ab⟩:=ht.form;refine qR func40 rfl ntmps40 rfl (fun E=>(Y (BM (v:=(.agg (R6 t sa sc aa ac))) (c:=(R6 t sa sc aa ac)) qD rfl rfl ?_)));intro bp wp Np;have Fp:=Np.ge E;replace E:=E.ext Np.ext;have Bp:=Np.blk;refine BO (c:=#[(I6 0),(.slice none 0 0),(.slice none 0 0),(I6 0),(I6 0),(.bool false)]) qD FP rfl ?_;intro bo wo No;have Fo:=No.ge E;have Oo_bp:=No.lt Bp;replace Bp:=No.keep Bp;replace E:=E.ext No.ext;have Bo:=No.blk;refine AA (Y (qV (AU (vs:=[(I6 t.kind),(.slice sa t.set.length sc),(.slice aa t.args.length ac),(I6 t.mn),(I6 t.mx),(.bool t.neg)]) rfl CI BE rfl (Bp.cells rfl)) (Ad (ps:=[(0,(.agg (R6 t sa sc aa ac)))]) (c:=(R6 t sa sc aa ac)) qD rfl underlying46 BE FP qD qD qK ?_)));intro bq wq Nq;have Fq:=Nq.ge E;have Oq_bp:=Nq.lt Bp;have Oq_bo:=Nq.lt Bo;replace Bp:=Nq.keep Bp;replace Bo:=Nq.keep Bo;replace E:=E.ext Nq.ext;have Bq:=Nq.blk;refine qV (BU (ps:=[(0,(I6 5)),(2,(.slice (some ⟨bq,0,none⟩) 1 1))]) (v:=(.agg #[(I6 5),(.slice none 0 0),(.slice (some ⟨bq,0,none⟩) 1 1),(I6 0),(I6 0),(.bool false)])) rfl qK) (Al (b:=bo) (o:=0) (c':=#[(I6 5),(.slice none 0 0),(.slice (some ⟨bq,0,none⟩) 1 1),(I6 0),(I6 0),(.bool false)]) rfl rfl qS BE rfl Bo qL rfl ?_);intro w1 S1;replace Bp:=S1.keep qO Bp;replace Bq:=S1.keep qO Bq;replace E:=S1.step E qQ;replace Bo:=S1.blk;refine AA (AS (Cp results40 (vs:=[(.int .i64 5),(.slice none 0 0),(.slice (some ⟨bq,0,none⟩) 1 1),(.int .i64 0),(.int .i64 0),(.bool false)]) (b:=bo) rfl CI BE rfl (Bo.cells rfl) ?_));exact ⟨⟨bq,rfl,BR.of (set:=[]) (args:=[t]) (BL.nil _ _ _ _) qP (.inr ⟨bq,0,rfl,by simp only[C4];exact ⟨⟨_,Bq.cells rfl,BR.ext E t ad⟩,trivial⟩⟩)⟩,E⟩
end Go.Proofs
namespace Go.Proofs
open Go Go.Eng Go.Sort
set_option maxRecDepth 100000
theorem B'.parts {w:World} {d:Dfa} {s:Int} {c i:Option Addr} {b g e a:Nat} (h:B' w d [.int .i64 s,.slice c e b,.slice i a g]):CF w (.slice c e b) d.accept∧EY w (.slice i a g) d.next:=by
 obtain ⟨_,_,_,_,f,k,j⟩:=h;simp only[List.cons.injEq,Value.slice.injEq,and_true] at f;obtain ⟨_,⟨rfl,rfl,rfl⟩,rfl,rfl,rfl⟩:=f;exact ⟨k,j⟩
end Go.Proofs
namespace Go.Proofs
open Go Go.Eng Go.Sort
set_option maxRecDepth 100000
def d2 (x0 x1 y0 y1:Int):Dfa:=⟨0,[x0,x1],[[y0],[y1]]⟩
end Go.Proofs
namespace Go.Proofs
open Go Go.Eng Go.Sort
set_option maxRecDepth 100000
theorem WC {w:World} {a p q n e g f h:Nat} (o:Az w a #[.int .i64 0,.int .i64 (-1)] e) (m:Az w p #[.int .i64 1] g) (s:Az w q #[.int .i64 0] f) (k:Az w n #[.slice (some ⟨p,0,none⟩) 1 1,.slice (some ⟨q,0,none⟩) 1 1] h) :
 B' w Kw [.int .i64 0,.slice (some ⟨a,0,none⟩) 2 2,.slice (some ⟨n,0,none⟩) 2 2]:=by
 refine ⟨_,_,_,_,O,Kj (l:=[0,-1]) (rest:=[]) o qP qP,[.slice (some ⟨p,0,none⟩) 1 1,.slice (some ⟨q,0,none⟩) 1 1],⟨_,_,O,qP,qP,.inr ⟨n,0,O,?_⟩⟩,O,?_⟩
 .intro i r c;rcases i with _|_|i
  .simp at c;subst c;intro j u b;cases j with
   | zero=>simp at b;subst b;exact k.cell O
   | succ j=>simp at b
  .simp at c;subst c;intro j u b;cases j with
   | zero=>simp at b;subst b;exact k.cell O
   | succ j=>simp at b
  .simp at c
 .intro i u l b d;rcases i with _|_|i
  .simp[Kw] at b d;subst b;subst d;exact Kj (l:=[1]) (rest:=[]) m qP qP
  .simp[Kw] at b d;subst b;subst d;exact Kj (l:=[0]) (rest:=[]) s qP qP
  .simp at b
theorem QO (w0:World):CJ prog 60 #[] w0 fun r w=>(∃aa ac na nc,r=.agg #[.int .i64 0,.slice aa 2 ac,.slice na 2 nc]∧B' w Kw [.int .i64 0,.slice aa 2 ac,.slice na 2 nc])∧Ao w0 w:=by
 refine qR func60 rfl ntmps60 rfl (fun E=>(Y (BO (c:=#[(I6 0),(.slice none 0 0),(.slice none 0 0)]) qD CU rfl ?_)));intro bt wt Nt;have Ft:=Nt.ge E;replace E:=E.ext Nt.ext;have Bt:=Nt.blk;refine AA (Y (Ad (ps:=[(0,(I6 0)),(1,(I6 (-1)))]) (c:=#[(I6 0),(I6 (-1))]) qD rfl underlying22 Ab CW qD qD qK ?_));intro ba wa Na;have Fa:=Na.ge E;have Oa_bt:=Na.lt Bt;replace Bt:=Na.keep Bt;replace E:=E.ext Na.ext;have Ba:=Na.blk;refine Ad (ps:=[(0,(I6 1))]) (c:=#[(I6 1)]) qD rfl underlying22 Ab CW qD qD qK ?_;intro bp wp Np;have Fp:=Np.ge E;have Op_bt:=Np.lt Bt;have Op_ba:=Np.lt Ba;replace Bt:=Np.keep Bt;replace Ba:=Np.keep Ba;replace E:=E.ext Np.ext;have Bp:=Np.blk;refine Ad (ps:=[(0,(I6 0))]) (c:=#[(I6 0)]) qD rfl underlying22 Ab CW qD qD qK ?_;intro bq wq Nq;have Fq:=Nq.ge E;have Oq_bt:=Nq.lt Bt;have Oq_ba:=Nq.lt Ba;have Oq_bp:=Nq.lt Bp;replace Bt:=Nq.keep Bt;replace Ba:=Nq.keep Ba;replace Bp:=Nq.keep Bp;replace E:=E.ext Nq.ext;have Bq:=Nq.blk;refine Ad (ps:=[(0,(.slice (some ⟨bp,0,none⟩) 1 1)),(1,(.slice (some ⟨bq,0,none⟩) 1 1))]) (c:=#[(.slice (some ⟨bp,0,none⟩) 1 1),(.slice (some ⟨bq,0,none⟩) 1 1)]) qD rfl underlying50 BG EG qD qD qK ?_;intro bn wn Nn;have Fn:=Nn.ge E;have On_bt:=Nn.lt Bt;have On_ba:=Nn.lt Ba;have On_bp:=Nn.lt Bp;have On_bq:=Nn.lt Bq;replace Bt:=Nn.keep Bt;replace Ba:=Nn.keep Ba;replace Bp:=Nn.keep Bp;replace Bq:=Nn.keep Bq;replace E:=E.ext Nn.ext;have Bn:=Nn.blk;refine qV (BU (ps:=[(1,(.slice (some ⟨ba,0,none⟩) 2 2)),(2,(.slice (some ⟨bn,0,none⟩) 2 2))]) (v:=(.agg #[(I6 0),(.slice (some ⟨ba,0,none⟩) 2 2),(.slice (some ⟨bn,0,none⟩) 2 2)])) rfl qK) (Al (b:=bt) (o:=0) (c':=#[(I6 0),(.slice (some ⟨ba,0,none⟩) 2 2),(.slice (some ⟨bn,0,none⟩) 2 2)]) rfl rfl qS Ap rfl Bt qL rfl ?_);intro w1 S1;replace Ba:=S1.keep qO Ba;replace Bp:=S1.keep qO Bp;replace Bq:=S1.keep qO Bq;replace Bn:=S1.keep qO Bn;replace E:=S1.step E qQ;replace Bt:=S1.blk;refine AA (AS (Cp results60 (vs:=[(.int .i64 0),(.slice (some ⟨ba,0,none⟩) 2 2),(.slice (some ⟨bn,0,none⟩) 2 2)]) (b:=bt) rfl BC Ap rfl (Bt.cells rfl) ?_));exact ⟨⟨_,_,_,_,rfl,WC Ba Bp Bq Bn⟩,E⟩
theorem PX (w0:World):CJ prog 18 #[] w0 λv w=>v=.bool true∧Ao w0 w:=by
 refine qR func18 O ntmps18 O (λE=>(Y (qA (.bool false) O (AA (Y (qE O (AT (vs:=[(I6 97)]) func41 kQ kQ O) (V0 _ 97) ?_))))));rintro _ w9 ⟨b9,rfl,U,X9⟩;have hA:BR w9 aR [.int .i64 2,.slice (some ⟨b9,0,none⟩) 1 1,.slice none 0 0,.int .i64 0,.int .i64 0,.bool false]:=BR.of (set:=[(97,97)]) (args:=[]) U ⟨qD,qD⟩ (.inl O);refine qE O (AT (vs:=[(.agg #[(I6 2),(.slice (some ⟨b9,0,none⟩) 1 1),(.slice none 0 0),(I6 0),(I6 0),(.bool false)])]) func40 kQ kQ O) (Ue _ aR _ hA) ?_;rintro _ w19 ⟨⟨Z,rfl,hS⟩,M⟩;refine qE O (AT (vs:=[(.agg #[(I6 5),(.slice none 0 0),(.slice (some ⟨Z,0,none⟩) 1 1),(I6 0),(I6 0),(.bool false)])]) func58 kQ kQ O) ((Uu _ JY _ hS).mono (R':=λr w=>(∃s m q d p l,r=.tuple #[.agg #[.int .i64 0,.slice s 1 m,.slice q 1 d],.slice p 2 l,.int .i64 0]∧B' w sD [.int .i64 0,.slice s 1 m,.slice q 1 d])∧Ao _ w) (λr w h=>⟨Xg h.1,h.2⟩)) ?_;rintro _ w29 ⟨⟨s,m,q,d,p,l,rfl,V⟩,T⟩;replace E:=((E.ext X9).ext M).ext T;refine qM (.tuple #[(.agg #[(I6 0),(.slice s 1 m),(.slice q 1 d)]),(.slice p 2 l),(I6 0)]) O (qV (Ai (vs:=#[(.agg #[(I6 0),(.slice s 1 m),(.slice q 1 d)]),(.slice p 2 l),(I6 0)]) (v:=(.agg #[(I6 0),(.slice s 1 m),(.slice q 1 d)])) O O) (qV (Ai (vs:=#[(.agg #[(I6 0),(.slice s 1 m),(.slice q 1 d)]),(.slice p 2 l),(I6 0)]) (v:=(.slice p 2 l)) O O) (qV (Ai (vs:=#[(.agg #[(I6 0),(.slice s 1 m),(.slice q 1 d)]),(.slice p 2 l),(I6 0)]) (v:=(I6 0)) O O) (Au (v:=(.agg #[(I6 0),(.slice s 1 m),(.slice q 1 d)])) (c:=#[(I6 0),(.slice s 1 m),(.slice q 1 d)]) (n:=3) qD CU O Ap O O O qS ?_))));intro R wd J;have u:=J.blk;refine qA (.slice p 2 l) O (qA (I6 0) O (AA (Y (qE O (AT (vs:=[]) func60 kQ kQ O) (QO _) ?_))));rintro _ w39 ⟨⟨pa,pc,qa,qc,rfl,B⟩,y⟩;replace u:=y.keep u;replace E:=(E.ext J.ext).ext y;refine Ad (ps:=[(0,(I6 0)),(1,(I6 0))]) (c:=#[(I6 0),(I6 0)]) qD O underlying22 Ab CW qD qD qK ?_;intro bu wu C;replace B:=B.ext C.ext;have D:=C.blk;refine qE O (AT (vs:=[(.agg #[(I6 0),(.slice pa 2 pc),(.slice qa 2 qc)]),(.slice (some ⟨bu,0,none⟩) 2 2)]) func59 kQ kQ O) ((QP _ 2 1 Kw _ _ [0,0] Sz B ⟨qD,qD⟩ ⟨qD,qD⟩ (EV D O qD) qD qD).mono (R':=λr w=>r=.tuple #[.int .i64 0,.int .i64 0]∧Ao _ w) (λr w h=>⟨h.1.trans (by rw[show beh Kw Kw.start (([0,0]:List Int).map Int.toNat)=0 by decide]),h.2⟩)) ?_;rintro _ w49 ⟨rfl,f⟩;replace B:=B.ext f;refine qM (.tuple #[(I6 0),(I6 0)]) O (qV (Ai (vs:=#[(I6 0),(I6 0)]) (v:=(I6 0)) O O) (qV (Ai (vs:=#[(I6 0),(I6 0)]) (v:=(I6 0)) O O) (qA (I6 0) O (qA (I6 0) O (AA (Y (qE O (AT (vs:=[]) func60 kQ kQ O) (QO _) ?_)))))));rintro _ w59 ⟨⟨I,P,K,X,rfl,j⟩,t⟩;replace u:=t.keep (f.keep (C.keep u));replace D:=t.keep (f.keep D);replace E:=((E.ext C.ext).ext f).ext t;refine Ad (ps:=[(0,(I6 0))]) (c:=#[(I6 0)]) qD O underlying22 Ab CW qD qD qK ?_;intro bv wv z;replace j:=j.ext z.ext;have S:=z.blk;refine qE O (AT (vs:=[(.agg #[(I6 0),(.slice I 2 P),(.slice K 2 X)]),(.slice (some ⟨bv,0,none⟩) 1 1)]) func59 kQ kQ O) ((QP _ 2 1 Kw _ _ [0] Sz j ⟨qD,qD⟩ ⟨qD,qD⟩ (EV S O qD) qD qD).mono (R':=λr w=>r=.tuple #[.int .i64 (-1),.int .i64 0]∧Ao _ w) (λr w h=>⟨h.1.trans (by rw[show beh Kw Kw.start (([0]:List Int).map Int.toNat) = -1 by decide]),h.2⟩)) ?_;rintro _ w69 ⟨rfl,e⟩;replace u:=e.keep (z.keep u);replace D:=e.keep (z.keep D);replace S:=e.keep S;replace V:=((((((V.ext J.ext).ext y).ext C.ext).ext f).ext t).ext z.ext).ext e;replace j:=j.ext e;replace E:=(E.ext z.ext).ext e;obtain ⟨hA1,W⟩:=V.parts;obtain ⟨A,x,rfl,L⟩:=Ca (n:=1) W qD;obtain ⟨ra,H,g,Q⟩:=L 0 [-1,0] O;obtain ⟨G,F,rfl,N⟩:=BF (n:=2) Q qD;refine qM (.tuple #[(I6 (-1)),(I6 0)]) O (qV (Ai (vs:=#[(I6 (-1)),(I6 0)]) (v:=(I6 (-1))) O O) (qV (Ai (vs:=#[(I6 (-1)),(I6 0)]) (v:=(I6 0)) O O) (qA (I6 (-1)) O (qA (I6 0) O (AA (Y (qM (I6 0) O (qV (As (k:=.i64) (a:=0) (b:=0) O O) (qM (.bool true) O (AF (oj:=_) O O qD O (qM (I6 0) O (AF (oj:=_) O O qD O (qV (As (k:=.i64) (a:=0) (b:=0) O O) (qV (Ac (b:=true) (v:=(.bool true)) O O) (qM (.bool true) O ?_)))))))))))))));refine AF (oj:=_) O O qD O (qM (I6 0) O (AF (oj:=_) O O qD O (qV (As (k:=.i64) (a:=0) (b:=0) O O) (qV (Ac (b:=true) (v:=(.bool true)) O O) (qM (.bool true) O (AF (oj:=_) O O qD O (qM (I6 0) O (AF (oj:=_) O O qD O (qV (As (k:=.i64) (a:=0) (b:=0) O O) (qV (Ac (b:=true) (v:=(.bool true)) O O) (qM (.bool true) O (AF (oj:=_) O O qD O (qM (I6 (-1)) O (AF (oj:=_) O O qD O ?_))))))))))))));refine qV (As (k:=.i64) (a:=-1) (b:=(-1)) O O) (qV (Ac (b:=true) (v:=(.bool true)) O O) (qM (.bool true) O (AF (oj:=_) O O qD O (qM (.slice p 2 l) O (AF (oj:=_) O O qD O (qV (AH (ad:=p) (n:=2) (cap:=l) underlying49 O) (AF (oj:=_) O O qD O (qV (As (k:=.i64) (a:=2) (b:=2) O O) (qV (Ac (b:=true) (v:=(.bool true)) O O) (qM (.bool true) O (AF (oj:=_) O O qD O (qF R 0 2 O underlying52 O CB O (AF (oj:=_) O O qD O (qV (AD (v:=(.slice (some ⟨A,x,none⟩) 1 d)) O B0 (u.cell O)) ?_))))))))))))));refine AF (oj:=_) O O qD O (qV (AH (ad:=some ⟨A,x,none⟩) (n:=1) (cap:=d) underlying50 O) (AF (oj:=_) O O qD O (qV (As (k:=.i64) (a:=1) (b:=1) O O) (qV (Ac (b:=true) (v:=(.bool true)) O O) (qM (.bool true) O (AF (oj:=_) O O qD O (qF R 0 2 O underlying52 O CB O (AF (oj:=_) O O qD O (qV (AD (v:=(.slice (some ⟨A,x,none⟩) 1 d)) O B0 (u.cell O)) (AF (oj:=_) O O qD O (qV (AC (b:=A) (o:=x) (len:=1) (cap:=d) (i:=0) (o':=x+0) O O O underlying50 BG qO qO) (AF (oj:=_) O O qD O (qV (AD (v:=(.slice (some ⟨G,F,none⟩) 2 H)) O BX (g)) (AF (oj:=_) O O qD O ?_))))))))))))));refine qV (AH (ad:=some ⟨G,F,none⟩) (n:=2) (cap:=H) underlying22 O) (AF (oj:=_) O O qD O (qV (As (k:=.i64) (a:=2) (b:=2) O O) (qV (Ac (b:=true) (v:=(.bool true)) O O) (qM (.bool true) O (AF (oj:=_) O O qD O (qF R 0 2 O underlying52 O CB O (AF (oj:=_) O O qD O (qV (AD (v:=(.slice (some ⟨A,x,none⟩) 1 d)) O B0 (u.cell O)) (AF (oj:=_) O O qD O (qV (AC (b:=A) (o:=x) (len:=1) (cap:=d) (i:=0) (o':=x+0) O O O underlying50 BG qO qO) (AF (oj:=_) O O qD O (qV (AD (v:=(.slice (some ⟨G,F,none⟩) 2 H)) O BX (g)) (AF (oj:=_) O O qD O (qV (AC (b:=G) (o:=F) (len:=2) (cap:=H) (i:=0) (o':=F+0) O O O underlying22 Ab qO qO) ?_))))))))))))));refine AF (oj:=_) O O qD O (qV (AD (v:=(I6 (-1))) O Aa (N 0 (-1) O)) (AF (oj:=_) O O qD O (qV (As (k:=.i64) (a:=-1) (b:=(-1)) O O) (qV (Ac (b:=true) (v:=(.bool true)) O O) (qA (.bool true) O (AA (AS (AV results18 (v:=(.bool true)) O ?_))))))));exact ⟨O,E⟩
end Go.Proofs
namespace Go.Proofs
open Go Go.Eng Go.Sort
set_option maxRecDepth 100000
theorem Lu (ll:List (List Sp)) (r s:Int):Ay ll r=Ay ll s↔∀l∈ll,BY l r=BY l s:=by
 unfold Ay;rw[List.map_inj_left]
end Go.Proofs
namespace Go.Proofs
open Go Go.Eng Go.Sort
set_option maxRecDepth 100000
theorem U6 {a b:List Sp} (k:Canon a) (hb:Canon b):∃o,Cc o λr=>BY a r && BY b r:=by
 have j:=(Cc.self k).rest;have g:=(Cc.self hb).rest;obtain ⟨c,m⟩:=QD (DZ a++DZ b);have l:∀s∈DZ a++DZ b,C_ s:=λs hs=>by
  rcases List.mem_append.1 hs with h|h
  .exact j.1.1 s h
  .exact g.1.1 s h
 have i:=((Cc.join m l).1).rest;refine ⟨_,i.1,λr d f=>?_⟩;rw[i.2 r d f];show (!BY (DZ a++DZ b) r)=_;have e:BY (DZ a++DZ b) r=(BY (DZ a) r || BY (DZ b) r):=by unfold BY;rw[List.any_append]
 rw[e,j.2 r d f,g.2 r d f];show (!(!BY a r || !BY b r))=(BY a r && BY b r);cases BY a r<;>cases BY b r<;>rfl
theorem ME {cs:List (List Sp)} (h:Gu cs) {r:Int} (b:0<=r) (d:r<=1114111):∃y∈cs,BY y r=true:=by
 have h1:=h r b d;obtain ⟨y,c,a⟩:=List.countP_pos_iff.1 (show 0<cs.countP λl=>BY l r by omega);exact ⟨y,c,a⟩
theorem Ia:∀{cs:List (List Sp)} {r:Int},cs.countP (λl=>BY l r)=1->∀{i j:Nat} {x y:List Sp},cs[i]?=some x->cs[j]?=some y->BY x r=true->BY y r=true->i=j
 | [],r,h,i,j,x,y,hx,_,_,_=>by simp at hx
 | c::cs,r,h,i,j,x,y,hx,hy,h1,h2=>by
  rw[List.countP_cons] at h;have a:∀(k:Nat) z,cs[k]?=some z->BY z r=true->0<cs.countP λl=>BY l r:=λk z a b=>List.countP_pos_iff.2 ⟨z,List.mem_of_getElem? a,b⟩
  match i,j with
  | 0,0=>rfl
  | 0,j+1=>
   rw[List.getElem?_cons_zero,Option.some.injEq] at hx;subst hx;rw[List.getElem?_cons_succ] at hy;have:=a j y hy h2;rw[if_pos h1] at h;omega
  | i+1,0=>
   rw[List.getElem?_cons_zero,Option.some.injEq] at hy;subst hy;rw[List.getElem?_cons_succ] at hx;have:=a i x hx h1;rw[if_pos h2] at h;omega
  | i+1,j+1=>
   rw[List.getElem?_cons_succ] at hx hy;have b:=a i x hx h1;have d:cs.countP (λl=>BY l r)=1:=by split at h<;>omega
   rw[Ia d hx hy h1 h2]
theorem TJ {cs:List (List Sp)} {s:List Sp} {out:List (List Sp)} {e:Int} (hp:partE cs=0) (hs:Ri s cs) (hv:A7 s=0) (h:M0 (cs++[s]) out e):e=0∧out.length=cs.length:=by
 obtain ⟨h16,L,D,d⟩:=H' hp;have H:=Iq L;have f:∀y∈cs,Canon y:=λy b=>(CE (H y b)).1;have N:∀l∈cs++[s],A7 l=0:=λl n=>by
  rcases List.mem_append.1 n with z|z
  .exact H l z
  .rw[List.mem_singleton.1 z];exact hv
 rcases h with ⟨z,_⟩|⟨_,m,hc,hf⟩
 .exact absurd (Ej N) z
 have G:=hc.parted (PV N);have K:∀(i:Nat) y,cs[i]?=some y->y≠[]:=λi y b=>by
  have z:=(D i (AI b)).1
  rwa [List.getD,b,Option.getD_some] at z
 -- what a class of the one meets of a class of the other is all of it
 have F:∀(x y:List Sp) (k i:Nat) (r:Int),m[k]?=some x->cs[i]?=some y->0<=r->r<=1114111->BY x r=true->BY y r=true->x=y:=λx y k i r B b v r1 z u=>by
  refine Hn (G.can x (List.mem_of_getElem? B)) (f y (List.mem_of_getElem? b)) λq U S=>?_;have P:=(G.mark k x r B v r1).1 z;rw[Bool.eq_iff_iff];constructor
  .intro I;have Z:=(G.mark k x q B U S).1 I;have:=(Lu _ q r).1 (Z.trans P.symm) y (List.mem_append_left _ (List.mem_of_getElem? b));rw[this];exact u
  .intro I;refine (G.mark k x q B U S).2 (Eq.trans ?_ P);refine (Lu _ q r).2 λl n=>?_;rcases List.mem_append.1 n with h4|h4
   .obtain ⟨j,A⟩:=List.getElem?_of_mem h4;have A:cs[j]?=some l:=A;cases hq:BY l q with
    | true=>
     have C:=Ia (d q U S) A b hq I;subst C;rw[A] at b;cases b;exact u.symm
    | false=>
     cases hr:BY l r with
     | false=>rfl
     | true=>
      have C:=Ia (d r v r1) A b hr u;subst C;rw[A] at b;cases b;rw[I] at hq;cases hq
   .rw[List.mem_singleton.1 h4];obtain ⟨o,X⟩:=U6 (CE hv).1 (f y (List.mem_of_getElem? b));have C:BY o q=(BY s q && BY y q):=X.2 q U S;have Q:BY o r=(BY s r && BY y r):=X.2 r v r1;rw[I,Bool.and_true] at C;rw[u,Bool.and_true] at Q;rcases hs y (List.mem_of_getElem? b) o X with T|T
    .rw[T] at C Q;rw[<-C,<-Q];rfl
    .rw[T,I] at C;rw[T,u] at Q;rw[<-C,<-Q]
 have E:∀x∈m,x∈cs:=λx B=>by
  obtain ⟨k,J⟩:=List.getElem?_of_mem B;have J:m[k]?=some x:=J;have n:=G.low x B;have g:BY x (BK x)=true:=(G.mark k x (BK x) J n.1 n.2).2 O;obtain ⟨y,b,u⟩:=ME d n.1 n.2;obtain ⟨i,hi⟩:=List.getElem?_of_mem b;rw[F x y k i _ J hi n.1 n.2 g u];exact b
 have M:∀y∈cs,y∈m:=λy b=>by
  obtain ⟨i,hi⟩:=List.getElem?_of_mem b;have hi:cs[i]?=some y:=hi;obtain ⟨p,w⟩:∃p,p∈y:=List.exists_mem_of_ne_nil y (K i y hi);have t:=(f y b).1 p w;have g:BY y p.1=true:=by
   unfold BY;rw[List.any_eq_true];exact ⟨p,w,by unfold C_ at t;simp;omega⟩
  have v:0<=p.1∧p.1<=1114111:=by unfold C_ at t;omega
  obtain ⟨x,B,u⟩:=ME G.part v.1 v.2;obtain ⟨k,J⟩:=List.getElem?_of_mem B;rw[<-F x y k i _ J hi v.1 v.2 u g];exact B
 have V:m.Nodup:=List.pairwise_iff_getElem.2 λi j hi A aa he=>by
  exact absurd (G.inj i j _ _ (List.getElem?_eq_getElem hi) (List.getElem?_eq_getElem A) (by rw[he])) qO
 have nd:cs.Nodup:=List.pairwise_iff_getElem.2 λi j hi A aa he=>by
  have b:=List.getElem?_eq_getElem A;obtain ⟨p,w⟩:∃p,p∈cs[j]:=List.exists_mem_of_ne_nil _ (K j _ b);have t:=(f _ (List.mem_of_getElem? b)).1 p w;have g:BY cs[j] p.1=true:=by
   unfold BY;rw[List.any_eq_true];exact ⟨p,w,by unfold C_ at t;simp;omega⟩
  have v:0<=p.1∧p.1<=1114111:=by unfold C_ at t;omega
  have:=Ia (d p.1 v.1 v.2) (List.getElem?_eq_getElem hi) b (by rw[he];exact g) g;omega
 have R:m.length=cs.length:=Nat.le_antisymm (Ic V E) (Ic nd M);rcases hf with ⟨n,_⟩|⟨_,z,u⟩
 .rcases n with ⟨c,W,hc2⟩|n
  .have:=(CE (H c (E c W))).2;omega
  .omega
 .exact ⟨z,by rw[u];exact R⟩
end Go.Proofs
