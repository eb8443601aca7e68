/- Contracts and plain lemmas, part 2. -/
import Derived.Test.YtdbomjjhpidajaaGreatDoorZl1
open Go.Proofs.Tryz
set_option maxHeartbeats 16000000
set_option linter.unusedVariables false
namespace Go.Proofs
open Go Go.Eng
set_option maxRecDepth 100000
def zDk (w:World) (v:Value) (ll:List (List Int)):Prop:=∃vs:List Value,zCI w 1 v (vs.map fun x=>[x])∧vs.length=ll.length∧∀(i:Nat) (u:Value) (l:List Int),vs[i]?=some u→ll[i]?=some l→zBZ w u l
theorem zDk.ext {w w':World} {v:Value} {ll:List (List Int)} (h:zDk w v ll) (e:Ext w w'):zDk w' v ll:=by
 obtain ⟨vs,h1,h2,h3⟩:=h;exact ⟨vs,h1.ext e,h2,fun i u l hu hl=>(h3 i u l hu hl).ext e⟩
theorem zDk.form {w:World} {v:Value} {ll:List (List Int)} (h:zDk w v ll):∃a c,v=.slice a ll.length c∧ll.length≤c∧ll.length≤9223372036854775807:=by
 obtain ⟨vs,h1,h2,_⟩:=h;obtain ⟨a,c,rfl⟩:=h1.form;have:=h1.cap;have:=h1.le;simp only[List.length_map] at *;rw[h2] at *;exact ⟨a,c,rfl,qO,qO⟩
theorem zBs {w:World} {a:Option Addr} {n c:Nat} {ll:List (List Int)} (h:zDk w (.slice a n c) ll) (hn:0<n) :
  ∃b o,a=some ⟨b,o,none⟩∧∀i l,ll[i]?=some l→∃ra rc,w.cell? ⟨b,o+i,none⟩=some (.slice ra l.length rc)∧zBZ w (.slice ra l.length rc) l:=by
 obtain ⟨vs,h1,h2,h3⟩:=h;obtain ⟨b,o,ha,hc⟩:=zCI.at h1 hn;refine ⟨b,o,ha,fun i l hl=>?_⟩;have hi:i<vs.length:=by have:=zAE hl;omega
 have hu:vs[i]?=some vs[i]:=List.getElem?_eq_getElem hi;have h4:=h3 i vs[i] l hu hl;obtain ⟨ra,rc,hf⟩:=zCI.form h4;simp only[List.length_map] at hf;have h5:=hc i [vs[i]] (by simp[hu]) 0 _ rfl;rw[Nat.mul_one,Nat.add_zero,hf] at h5;rw[hf] at h4;exact ⟨ra,rc,h5,h4⟩
def zBk (w:World) (d:Dfa) (vs:List Value):Prop:=∃aa ac na nc,vs=[.int .i64 d.start,.slice aa d.accept.length ac,.slice na d.next.length nc]∧zBZ w (.slice aa d.accept.length ac) d.accept∧zDk w (.slice na d.next.length nc) d.next
theorem zBk.ext {w w':World} {d:Dfa} {vs:List Value} (h:zBk w d vs) (e:Ext w w'):zBk w' d vs:=by
 obtain ⟨aa,ac,na,nc,h1,h2,h3⟩:=h;exact ⟨aa,ac,na,nc,h1,h2.ext e,h3.ext e⟩
def zNS (l:List Int):Int:=l.foldl min (l.headD 0)
def zPz (l:List Int):Int:=l.foldl max (l.headD 0)
theorem zFT (f:Int→Int→Int) {l:List Int} {k:Nat} {x z:Int} (hx:l[k]?=some x):(l.take (k+1)).foldl f z=f ((l.take k).foldl f z) x:=by
 rw[List.take_add_one,hx];simp[List.foldl_append]
theorem zHr:∀(l:List Int) (z:Int),l.foldl min z≤z∧∀x∈l,l.foldl min z≤x
  | [],z=>⟨Int.le_refl _,fun x h=>by simp at h⟩
  | y::l,z=>by
    obtain ⟨h1,h2⟩:=zHr l (min z y);refine ⟨by simp only[List.foldl_cons];omega,fun x hx=>?_⟩;simp only[List.foldl_cons];rcases List.mem_cons.1 hx with rfl|hx
    · omega
    · exact h2 x hx
theorem zHC:∀(l:List Int) (z:Int),l.foldl min z=z∨l.foldl min z∈l
  | [],z=>.inl rfl
  | y::l,z=>by
    simp only[List.foldl_cons];rcases zHC l (min z y) with h|h
    · rw[h];by_cases hc:z≤y
      · left;omega
      · right;rw[show min z y=y from qO];simp
    · right;simp[h]
theorem zHs:∀(l:List Int) (z:Int),z≤l.foldl max z∧∀x∈l,x≤l.foldl max z
  | [],z=>⟨Int.le_refl _,fun x h=>by simp at h⟩
  | y::l,z=>by
    obtain ⟨h1,h2⟩:=zHs l (max z y);refine ⟨by simp only[List.foldl_cons];omega,fun x hx=>?_⟩;simp only[List.foldl_cons];rcases List.mem_cons.1 hx with rfl|hx
    · omega
    · exact h2 x hx
theorem zHD:∀(l:List Int) (z:Int),l.foldl max z=z∨l.foldl max z∈l
  | [],z=>.inl rfl
  | y::l,z=>by
    simp only[List.foldl_cons];rcases zHD l (max z y) with h|h
    · rw[h];by_cases hc:y≤z
      · left;omega
      · right;rw[show max z y=y from qO];simp
    · right;simp[h]
theorem zNa {l:List Int} (h:l≠[]):l.headD 0∈l:=by cases l with|nil=>exact absurd rfl h|cons x l=>simp
theorem zPy {l:List Int} (h:l≠[]) {z:Int}:z≤zNS l↔∀x∈l,z≤x:=by
 constructor
 ·intro h1 x hx;have:=(zHr l (l.headD 0)).2 x hx;unfold zNS at h1;omega
 ·intro h1;unfold zNS;rcases zHC l (l.headD 0) with h2|h2
  ·rw[h2];exact h1 _ (zNa h)
  ·exact h1 _ h2
theorem zUX {l:List Int} (h:l≠[]) {z:Int}:zPz l<z↔∀x∈l,x<z:=by
 constructor
 ·intro h1 x hx;have:=(zHs l (l.headD 0)).2 x hx;unfold zPz at h1;omega
 ·intro h1;unfold zPz;rcases zHD l (l.headD 0) with h2|h2
  ·rw[h2];exact h1 _ (zNa h)
  ·exact h1 _ h2
theorem zRv (w0:World) (v:Value) (l:List Int) (h:zBZ w0 v l) (hl:l≠[]):Ret prog 71 #[v] w0 fun r w=>r=.int .i64 (zNS l)∧Ext w0 w:=by
 obtain ⟨a,c,rfl⟩:=zCI.form h;have ae:l.length≤9223372036854775807:=by simpa using zCI.le h
 simp only[List.length_map] at h⊢;have aa:0<l.length:=List.length_pos_iff.2 hl;obtain ⟨b,o,rfl,ac⟩:=zBG h aa;obtain ⟨x0,ab⟩:=zAN (l:=l) (i:=0) aa;have hh:l.headD 0=x0:=by cases l with|nil=>simp at ab|cons y l=>simpa using ab
 refine qR func71 rfl ntmps71 rfl (fun E=>(zAA (qA (I6 0) rfl (zAB (zAH (zAA (qM (.slice (some ⟨b,o,none⟩) l.length c) rfl (qV (zAJ (ad:=some ⟨b,o,none⟩) (n:=l.length) (cap:=c) underlying22 rfl) (qV (zBF (k:=.i64) (a:=(l.length:Int)) (b:=1) rfl rfl) (zAB ?_))))))))));have ah:(decide ((((l.length:Nat):Int):Int)<1))=false:=by simp;omega
 refine zAP (cbk ah) (zAO (zAC (zAA (qM (.slice (some ⟨b,o,none⟩) l.length c) rfl (qV (zAD (b:=b) (o:=o) (len:=l.length) (cap:=c) (i:=0) (o':=o+0) rfl rfl rfl underlying22 zAy qO qO) (qV (zAI (v:=(I6 x0)) rfl zAo (E.cell (fun f=>f) (ac 0 x0 ab))) (qA (I6 x0) rfl (zAB (zAH (zAA (qA (I6 1) rfl (zAB (zAS (zAp (fun nn_ σ W2=>∃(k:Nat) (m:Int),(∃jj_,σ=zCT jj_ [(0,(.slice (some ⟨b,o,none⟩) l.length c)),(4,(I6 (k:Int))),(3,(I6 m))])∧Chg zAh w0 W2∧(1≤k∧k≤l.length)∧(m=(l.take k).foldl min (l.headD 0))∧nn_=l.length - k) (n:=l.length - 1) ?_ ?_))))))))))))))
 ·exact ⟨1,x0,zAz.out ⟨rfl,rfl,rfl,trivial⟩,E,⟨Nat.le_refl _,qO⟩,(by rw[zFT _ ab,hh];simp),rfl⟩
 ·clear E;rintro _ _ W2 ⟨k,m,⟨j2,rfl⟩,E,hk,hm,rfl⟩;refine zAH (zAA (qM (I6 (k:Int)) rfl (qM (.slice (some ⟨b,o,none⟩) l.length c) rfl (qV (zAJ (ad:=some ⟨b,o,none⟩) (n:=l.length) (cap:=c) underlying22 rfl) (qV (zBF (k:=.i64) (a:=(k:Int)) (b:=(l.length:Int)) rfl rfl) (zAB (qC rfl (fun af=>?_) (fun af=>?_))))))))
  ·obtain ⟨x,hx⟩:=zAN (l:=l) (i:=k) qO;refine zAO (zAC (zAH (zAS (zAF (qM (I6 m) rfl (qM (.slice (some ⟨b,o,none⟩) l.length c) rfl (qM (I6 (k:Int)) rfl (qV (zAD (b:=b) (o:=o) (len:=l.length) (cap:=c) (i:=k) (o':=o+k) rfl rfl rfl underlying22 zAy qO qO) (qV (zAI (v:=(I6 x)) rfl zAo (E.cell (fun f=>f) (ac k x hx))) (qV (zVn rfl rfl rfl) (qA (I6 (min m x)) rfl (zAB (zAR (zAC (zAF (qM (I6 (k:Int)) rfl (qV (zAv (k:=.i64) (a:=(k:Int)) (b:=1) (c:=(k:Int)+1) rfl rfl (zBb qO)) (qA (I6 ((k:Int)+1)) rfl (zAB (zAC ?_))))))))))))))))))));exact ⟨l.length - (k+1),qO,k+1,(min m x),zAz.out ⟨rfl,rfl,rfl,trivial⟩,E,⟨qO,qO⟩,(by rw[zFT _ hx,hm]),rfl⟩
  ·have ag:k=l.length:=qO
   refine zAn (zAT (zAT (zAg (zAC (zAA (qM (I6 m) rfl (qA (I6 m) rfl (zAB (zAV (zAY results71 (v:=(.int .i64 m)) rfl (⟨zBJ ?_,E⟩)))))))))));rw[hm,ag,List.take_length];rfl
theorem zUW (w0:World) (v:Value) (l:List Int) (h:zBZ w0 v l) (hl:l≠[]):Ret prog 72 #[v] w0 fun r w=>r=.int .i64 (zPz l)∧Ext w0 w:=by
 obtain ⟨a,c,rfl⟩:=zCI.form h;have ae:l.length≤9223372036854775807:=by simpa using zCI.le h
 simp only[List.length_map] at h⊢;have aa:0<l.length:=List.length_pos_iff.2 hl;obtain ⟨b,o,rfl,ac⟩:=zBG h aa;obtain ⟨x0,ab⟩:=zAN (l:=l) (i:=0) aa;have hh:l.headD 0=x0:=by cases l with|nil=>simp at ab|cons y l=>simpa using ab
 refine qR func72 rfl ntmps72 rfl (fun E=>(zAA (qA (I6 0) rfl (zAB (zAH (zAA (qM (.slice (some ⟨b,o,none⟩) l.length c) rfl (qV (zAJ (ad:=some ⟨b,o,none⟩) (n:=l.length) (cap:=c) underlying22 rfl) (qV (zBF (k:=.i64) (a:=(l.length:Int)) (b:=1) rfl rfl) (zAB ?_))))))))));have ah:(decide ((((l.length:Nat):Int):Int)<1))=false:=by simp;omega
 refine zAP (cbk ah) (zAO (zAC (zAA (qM (.slice (some ⟨b,o,none⟩) l.length c) rfl (qV (zAD (b:=b) (o:=o) (len:=l.length) (cap:=c) (i:=0) (o':=o+0) rfl rfl rfl underlying22 zAy qO qO) (qV (zAI (v:=(I6 x0)) rfl zAo (E.cell (fun f=>f) (ac 0 x0 ab))) (qA (I6 x0) rfl (zAB (zAH (zAA (qA (I6 1) rfl (zAB (zAS (zAp (fun nn_ σ W2=>∃(k:Nat) (m:Int),(∃jj_,σ=zCT jj_ [(0,(.slice (some ⟨b,o,none⟩) l.length c)),(4,(I6 (k:Int))),(3,(I6 m))])∧Chg zAh w0 W2∧(1≤k∧k≤l.length)∧(m=(l.take k).foldl max (l.headD 0))∧nn_=l.length - k) (n:=l.length - 1) ?_ ?_))))))))))))))
 ·exact ⟨1,x0,zAz.out ⟨rfl,rfl,rfl,trivial⟩,E,⟨Nat.le_refl _,qO⟩,(by rw[zFT _ ab,hh];simp),rfl⟩
 ·clear E;rintro _ _ W2 ⟨k,m,⟨j2,rfl⟩,E,hk,hm,rfl⟩;refine zAH (zAA (qM (I6 (k:Int)) rfl (qM (.slice (some ⟨b,o,none⟩) l.length c) rfl (qV (zAJ (ad:=some ⟨b,o,none⟩) (n:=l.length) (cap:=c) underlying22 rfl) (qV (zBF (k:=.i64) (a:=(k:Int)) (b:=(l.length:Int)) rfl rfl) (zAB (qC rfl (fun af=>?_) (fun af=>?_))))))))
  ·obtain ⟨x,hx⟩:=zAN (l:=l) (i:=k) qO;refine zAO (zAC (zAH (zAS (zAF (qM (I6 m) rfl (qM (.slice (some ⟨b,o,none⟩) l.length c) rfl (qM (I6 (k:Int)) rfl (qV (zAD (b:=b) (o:=o) (len:=l.length) (cap:=c) (i:=k) (o':=o+k) rfl rfl rfl underlying22 zAy qO qO) (qV (zAI (v:=(I6 x)) rfl zAo (E.cell (fun f=>f) (ac k x hx))) (qV (zTF rfl rfl rfl) (qA (I6 (max m x)) rfl (zAB (zAR (zAC (zAF (qM (I6 (k:Int)) rfl (qV (zAv (k:=.i64) (a:=(k:Int)) (b:=1) (c:=(k:Int)+1) rfl rfl (zBb qO)) (qA (I6 ((k:Int)+1)) rfl (zAB (zAC ?_))))))))))))))))))));exact ⟨l.length - (k+1),qO,k+1,(max m x),zAz.out ⟨rfl,rfl,rfl,trivial⟩,E,⟨qO,qO⟩,(by rw[zFT _ hx,hm]),rfl⟩
  ·have ag:k=l.length:=qO
   refine zAn (zAT (zAT (zAg (zAC (zAA (qM (I6 m) rfl (qA (I6 m) rfl (zAB (zAV (zAY results72 (v:=(.int .i64 m)) rfl (⟨zBJ ?_,E⟩)))))))))));rw[hm,ag,List.take_length];rfl
def zDb (n:Int) (r:List Int):Bool:=decide (zNS r < -1) || decide (n≤zPz r)
def zRB (d:Dfa):Bool:=(decide (d.start<0) || decide ((d.next.length:Int)≤d.start)) || decide (zNS d.accept < -1)
def zGj (c:Nat) (r:List Int):Bool:=decide ((r.length:Int)=0) || decide ((r.length:Int)≠(c:Int))
def zMh (d:Dfa):Nat:=(d.next.headD []).length
def zCh (d:Dfa):Int:=
 if 200<d.next.length then 2 else if d.next.length=0∨d.accept.length≠d.next.length then 3 else if 16<zMh d then 2
 else if d.next.any (zGj (zMh d))=true then 3
 else if (zRB d || d.next.any (zDb d.next.length))=true then 1 else 0
theorem zKM (w0:World) (d:Dfa) (vs:List Value) (hd:zBk w0 d vs):Ret prog 36 #[.agg vs.toArray] w0 fun r w=>r=.int .i64 (zCh d)∧Ext w0 w:=by
 obtain ⟨aa,ac,na,nc,rfl,ha,hn⟩:=hd;have hal:d.accept.length≤9223372036854775807:=by simpa using zCI.le ha
 obtain ⟨_,_,hv,bq,hle⟩:=hn.form;simp only[Value.slice.injEq] at hv;obtain ⟨rfl,_,rfl⟩:=hv;refine qR func36 rfl ntmps36 rfl (fun E=>(zAA (zBQ (v:=(.agg #[(I6 d.start),(.slice aa d.accept.length ac),(.slice na d.next.length nc)])) (c:=#[(I6 d.start),(.slice aa d.accept.length ac),(.slice na d.next.length nc)]) qD rfl rfl ?_)));intro br wr Nr;replace E:=E.ext Nr.ext;have Br:=Nr.blk;refine qA _ rfl (zAB (zAA (qF br 0 2 rfl underlying34 rfl zBu rfl (qV (zAI rfl zBi (Br.cell rfl)) (qV (zAJ underlying32 rfl) (qA _ rfl (zAB (zAH (zAS (zAA (qM _ rfl (qV (zDB rfl rfl) (qA _ rfl (zAB (qC rfl (fun h1=>?_) (fun h1=>?_))))))))))))))))
 ·refine zAA (qA _ rfl (zAB (zAV (zAi (zAU (zAY results36 (v:=(.int .i64 2)) rfl ?_))))));exact ⟨zBJ (by unfold zCh;rw[if_pos qO]),E⟩
 ·refine zAA (qM _ rfl ?_);obtain ⟨e2,bc⟩:∃e,(decide ((((d.next.length:Nat):Int):Int)=0))=e:=⟨_,rfl⟩;refine qV ((zAs rfl rfl).trans (by rw[bc];try rfl)) (qM _ rfl (qG (.bool e2) (nU e2 (P6 br 1)) (by cases e2<;>first|exact gA|exact gB|exact .inl ⟨rfl,zAZ rfl underlying34 rfl zBL rfl⟩) (qG (.bool e2) (nU e2 (.slice aa d.accept.length ac)) (by cases e2<;>first|exact gA|exact gB|exact .inl ⟨rfl,zAI rfl zBP (Br.cell rfl)⟩) (qG (.bool e2) (nU e2 (I6 (d.accept.length:Int))) (by cases e2<;>first|exact gA|exact gB|exact .inl ⟨rfl,zAJ underlying22 rfl⟩) (qG (.bool e2) (nU e2 (I6 (d.next.length:Int))) (by cases e2<;>first|exact gA|exact gB|exact .inl ⟨rfl,zAl rfl⟩) ?_)))));obtain ⟨e3,bg⟩:∃e,(decide ((((d.accept.length:Nat):Int):Int)≠((d.next.length:Nat):Int)))=e:=⟨_,rfl⟩;refine qG (.bool e2) (nU e2 (.bool e3)) (by cases e2<;>first|exact gA|exact gB|exact .inl ⟨rfl,(zDA rfl rfl).trans (by rw[bg];try rfl)⟩) ?_;obtain ⟨e4,be⟩:∃e,(e2 || e3)=e:=⟨_,rfl⟩;refine qV (zAr (v:=.bool e4) rfl (by rw[←be];cases e2<;>rfl)) (qA _ rfl (zAB ?_));subst be;subst bg;subst bc;refine zBD rfl (fun h2=>?_) (fun h2=>?_)
  ·have bm:=h2;refine zAA (qA _ rfl (zAB (zAV (zAi (zAU (zAY results36 (v:=(.int .i64 3)) rfl ?_))))));exact ⟨zBJ (by unfold zCh;rw[if_neg qO,if_pos (by simp only[Bool.or_eq_true,decide_eq_true_eq] at h2;omega)]),E⟩
  ·have bm:=h2;simp only[Bool.or_eq_false_iff,decide_eq_false_iff_not] at h2;have ar:¬(d.next.length=0∨d.accept.length≠d.next.length):=qO
   obtain ⟨an,ai⟩:=zAN (l:=d.next) (i:=0) qO;have bb:zMh d=an.length:=by unfold zMh;cases hq:d.next with|nil=>rw[hq] at ai;simp at ai|cons y l=>rw[hq] at ai;simp at ai;simp[ai]
   obtain ⟨nb,no,bi,am⟩:=zBs hn qO;subst bi;obtain ⟨bj,bo,ao,a6⟩:=am 0 an ai;refine zAA (qF br 0 2 rfl underlying34 rfl zBu rfl (qV (zAI rfl zBi (Br.cell rfl)) (qV (zAD (b:=nb) (o:=no) (len:=d.next.length) (cap:=nc) (i:=0) (o':=no+0) rfl rfl rfl underlying32 zBL qO qO) (qV (zAI rfl zBP (E.cell (fun f=>f) ao)) (qV (zAJ underlying22 rfl) (qV (zDB rfl rfl) (qA _ rfl (zAB (qC rfl (fun h3=>?_) (fun h3=>?_))))))))))
   ·refine zAA (qA _ rfl (zAB (zAV (zAi (zAU (zAY results36 (v:=(.int .i64 2)) rfl ?_))))));exact ⟨zBJ (by unfold zCh;rw[if_neg qO,if_neg ar,if_pos qO]),E⟩
   ·refine zAO (zAR (zAC (zAH (zAA (qF br 0 2 rfl underlying34 rfl zBu rfl (qV (zAI rfl zBi (Br.cell rfl)) (qV (zAJ underlying32 rfl) (qM _ rfl (zAB (zAS (zAp (fun nn_ σ W7=>∃(k:Nat),(∃jj_,σ=zCT jj_ [(1,(P6 br 0)),(3,(I6 (d.next.length:Int))),(33,(.slice (some ⟨nb,no,none⟩) d.next.length nc)),(34,(I6 (d.next.length:Int))),(35,(I6 (k:Int)))])∧Chg zAh w0 W7∧Blk W7 br #[(I6 d.start),(.slice aa d.accept.length ac),(.slice (some ⟨nb,no,none⟩) d.next.length nc)] 34∧(k≤d.next.length)∧((d.next.take k).any (zGj (zMh d))=false)∧nn_=d.next.length - k) (n:=d.next.length - 0) ?_ ?_)))))))))))
    ·exact ⟨0,zAz.out ⟨rfl,rfl,rfl,rfl,rfl,trivial⟩,E,Br,Nat.zero_le _,rfl,rfl⟩
    ·clear E Br;rintro _ _ W7 ⟨k,⟨j7,rfl⟩,E,Br,hk,au,rfl⟩;refine zAA (qV (zBF rfl rfl) (zAB (zAH (qC rfl (fun bk=>?_) (fun bk=>?_)))))
     ·obtain ⟨ab,af⟩:=zAN (l:=d.next) (i:=k) qO;obtain ⟨ra,rc,ah,ae⟩:=am k ab af;have hrl:ab.length≤9223372036854775807:=by simpa using zCI.le ae
      refine zAO (zAC (zAH (zAS (zAA (qV (zAD (b:=nb) (o:=no) (len:=d.next.length) (cap:=nc) (i:=k) (o':=no+k) rfl rfl rfl underlying32 zBL qO qO) (qV (zAI rfl zBP (E.cell (fun f=>f) ah)) (qA _ rfl (zAB (zAA (qM _ rfl (qV (zAJ underlying22 rfl) ?_)))))))))));obtain ⟨e9,a5⟩:∃e,(decide ((((ab.length:Nat):Int):Int)=0))=e:=⟨_,rfl⟩;refine qV ((zAs rfl rfl).trans (by rw[a5];try rfl)) (qM _ rfl (qG (.bool e9) (nU e9 (.slice ra ab.length rc)) (by cases e9<;>first|exact gA|exact gB|exact .inl ⟨rfl,zAl rfl⟩) (qG (.bool e9) (nU e9 (I6 (ab.length:Int))) (by cases e9<;>first|exact gA|exact gB|exact .inl ⟨rfl,zAJ underlying22 rfl⟩) (qG (.bool e9) (nU e9 (P6 br 2)) (by cases e9<;>first|exact gA|exact gB|exact .inl ⟨rfl,zAZ rfl underlying34 rfl zBu rfl⟩) (qG (.bool e9) (nU e9 (.slice (some ⟨nb,no,none⟩) d.next.length nc)) (by cases e9<;>first|exact gA|exact gB|exact .inl ⟨rfl,zAI rfl zBi (Br.cell rfl)⟩) (qG (.bool e9) (nU e9 (.pointer (some ⟨nb,no+0,none⟩))) (by cases e9<;>first|exact gA|exact gB|exact .inl ⟨rfl,zAD (i:=0) rfl rfl rfl underlying32 zBL (by have:=of_decide_eq_false a5;omega) qO⟩) (qG (.bool e9) (nU e9 (.slice bj an.length bo)) (by cases e9<;>first|exact gA|exact gB|exact .inl ⟨rfl,zAI rfl zBP (E.cell (fun f=>f) ao)⟩) (qG (.bool e9) (nU e9 (I6 (an.length:Int))) (by cases e9<;>first|exact gA|exact gB|exact .inl ⟨rfl,zAJ underlying22 rfl⟩) ?_))))))));obtain ⟨bd,a1⟩:∃e,(decide ((((ab.length:Nat):Int):Int)≠((an.length:Nat):Int)))=e:=⟨_,rfl⟩;refine qG (.bool e9) (nU e9 (.bool bd)) (by cases e9<;>first|exact gA|exact gB|exact .inl ⟨rfl,(zDA rfl rfl).trans (by rw[a1];try rfl)⟩) ?_;obtain ⟨bn,a0⟩:∃e,(e9 || bd)=e:=⟨_,rfl⟩;refine qV (zAr (v:=.bool bn) rfl (by rw[←a0];cases e9<;>rfl)) (zAB ?_);subst a0;subst a1;subst a5;refine zBD rfl (fun hf=>?_) (fun hf=>?_)
      ·have bh:=hf;refine zAA (qA _ rfl (zAB (zAV (zAi (zAU (zAU (zAi (zAU (zAY results36 (v:=(.int .i64 3)) rfl (⟨zBJ ?_,E⟩))))))))));unfold zCh;rw[if_neg qO,if_neg ar,if_neg qO,if_pos];exact List.any_eq_true.2 ⟨ab,List.mem_of_getElem? af,by unfold zGj;rw[bb];simpa using hf⟩
      ·have bh:=hf;refine zAO (zAR (zAC (zAF (qV (zAv rfl rfl (zBb qO)) (qM _ rfl (zAB (zAC ?_)))))));exact ⟨d.next.length - (k+1),qO,k+1,zAz.out ⟨rfl,rfl,rfl,rfl,rfl,trivial⟩,E,Br,qO,(by rw[List.take_add_one,af,List.any_append,au];simp only[Option.toList_some,List.any_cons,List.any_nil,Bool.or_false,Bool.false_or];unfold zGj;rw[bb];simpa using hf),rfl⟩
     ·have bp:k=d.next.length:=qO
      rw[bp,List.take_length] at au;have ap:∀ab∈d.next,ab≠[]:=fun ab hr he=>by have:=(List.any_eq_false.1 au) ab hr;simp[zGj,he] at this
      have a9:d.accept≠[]:=fun he=>by rw[he] at ar;simp at ar;omega
      refine zAn (zAT (zAT (zAg (zAC (zAA (qF br 0 0 rfl underlying34 rfl zAy rfl (qV (zAI rfl zAo (Br.cell rfl)) (qV (zBF rfl rfl) (qM _ rfl ?_)))))))));rcases Bool.eq_false_or_eq_true (decide ((d.start:Int)<0)) with g1|g1
      ·have a2:=g1;replace a2:=of_decide_eq_true a2;refine zAM rfl rfl qD (v:=.bool true) (cbk g1) (Or.inl rfl) (zAM rfl rfl qD (v:=.bool true) (cbk g1) (Or.inl rfl) (zAM rfl rfl qD (v:=.bool true) (cbk g1) (Or.inl rfl) (zAM rfl rfl qD (v:=.bool true) (cbk g1) (Or.inl rfl) (qV (zAr (v:=(.bool true)) rfl (by rw[g1];rfl)) (qM _ rfl (zAM rfl rfl qD (v:=.bool true) rfl (Or.inl rfl) (zAM rfl rfl qD (v:=.bool true) rfl (Or.inl rfl) (zAM rfl rfl qD (v:=.bool true) rfl (Or.inl rfl) (zAM rfl rfl qD (v:=.bool true) rfl (Or.inl rfl) (qV (zAr rfl rfl) (qA _ rfl (zAB (zAH (zAA (qF br 0 2 rfl underlying34 rfl zBu rfl (qV (zAI rfl zBi (Br.cell rfl)) ?_))))))))))))))));refine qV (zAJ underlying32 rfl) (qM _ rfl (zAB (zAS (zAp (fun nn_ σ a8=>∃(q:Nat) (al:Bool),(∃jj_,σ=zCT jj_ [(3,(I6 (d.next.length:Int))),(69,(.slice (some ⟨nb,no,none⟩) d.next.length nc)),(70,(I6 (d.next.length:Int))),(71,(I6 (q:Int))),(6,(.bool al))])∧Chg zAh w0 a8∧Blk a8 br #[(I6 d.start),(.slice aa d.accept.length ac),(.slice (some ⟨nb,no,none⟩) d.next.length nc)] 34∧(q≤d.next.length)∧(al=(zRB d || (d.next.take q).any (zDb d.next.length)))∧nn_=d.next.length - q) (n:=d.next.length - 0) ?_ ?_))))
       ·exact ⟨0,true,zAz.out ⟨rfl,rfl,rfl,rfl,rfl,trivial⟩,E,Br,Nat.zero_le _,(by simp only[List.take_zero,List.any_nil,Bool.or_false];unfold zRB;rw[g1];rfl),rfl⟩
       ·clear E Br;rintro _ _ a8 ⟨q,al,⟨j14,rfl⟩,E,Br,hq,ag,rfl⟩;refine zAA (qV (zBF rfl rfl) (zAB (zAH (qC rfl (fun aq=>?_) (fun aq=>?_)))))
        ·obtain ⟨ab,af⟩:=zAN (l:=d.next) (i:=q) qO;obtain ⟨ra,rc,ah,ae⟩:=am q ab af;have ak:ab≠[]:=ap ab (List.mem_of_getElem? af);have ad:(zRB d || (d.next.take (q+1)).any (zDb d.next.length))=(al || zDb d.next.length ab):=by rw[List.take_add_one,af,List.any_append,ag];simp[Bool.or_assoc]
         refine zAO (zAC (zAH (zAS (zAA (qV (zAD (b:=nb) (o:=no) (len:=d.next.length) (cap:=nc) (i:=q) (o':=no+q) rfl rfl rfl underlying32 zBL qO qO) (qV (zAI rfl zBP (E.cell (fun f=>f) ah)) (qA _ rfl (zAB (zAF (qM _ rfl (qM _ rfl ?_)))))))))));rcases Bool.eq_false_or_eq_true (al) with g5|g5
         ·have ay:=g5;refine zAM rfl rfl qD (v:=.bool true) (cbk g5) (Or.inl rfl) (zAM rfl rfl qD (v:=.bool true) (cbk g5) (Or.inl rfl) (zAM rfl rfl qD (v:=.bool true) (cbk g5) (Or.inl rfl) (qV (zAr (v:=(.bool true)) rfl (by rw[g5];rfl)) (qM _ rfl (zAM rfl rfl qD (v:=.bool true) rfl (Or.inl rfl) (zAM rfl rfl qD (v:=.bool true) rfl (Or.inl rfl) (zAM rfl rfl qD (v:=.bool true) rfl (Or.inl rfl) (zAM rfl rfl qD (v:=.bool true) rfl (Or.inl rfl) (qV (zAr rfl rfl) (qA _ rfl (zAB (zAR (zAC (zAF (qV (zAv rfl rfl (zBb qO)) (qM _ rfl (zAB (zAC ?_))))))))))))))))));exact ⟨d.next.length - (q+1),qO,q+1,true,zAz.out ⟨rfl,rfl,rfl,rfl,rfl,trivial⟩,E,Br,qO,(by rw[ad,g5];rfl),rfl⟩
         ·have ay:=g5;refine zAG rfl rfl qD (cbk g5) (qM _ rfl (zAG rfl rfl qD (cbk g5) (qE rfl (zAQ func71 kQ kQ rfl) (zRv _ _ ab (ae.ext E) ak) ?_)));rintro _ ba ⟨rfl,av⟩;replace Br:=av.keep Br;replace E:=E.ext av;refine zAG rfl rfl qD (cbk g5) (qV (zBF rfl rfl) (qV (zAr (v:=(.bool (decide ((zNS ab:Int)<(-1))))) rfl (by rw[g5];rfl)) (qM _ rfl ?_)));rcases Bool.eq_false_or_eq_true (decide ((zNS ab:Int)<(-1))) with g6|g6
          ·have aj:=g6;replace aj:=of_decide_eq_true aj;refine zAM rfl rfl qD (v:=.bool true) (cbk g6) (Or.inl rfl) (zAM rfl rfl qD (v:=.bool true) (cbk g6) (Or.inl rfl) (zAM rfl rfl qD (v:=.bool true) (cbk g6) (Or.inl rfl) (zAM rfl rfl qD (v:=.bool true) (cbk g6) (Or.inl rfl) (qV (zAr (v:=(.bool true)) rfl (by rw[g6];rfl)) (qA _ rfl (zAB (zAR (zAC (zAF (qV (zAv rfl rfl (zBb qO)) (qM _ rfl (zAB (zAC ?_)))))))))))));exact ⟨d.next.length - (q+1),qO,q+1,true,zAz.out ⟨rfl,rfl,rfl,rfl,rfl,trivial⟩,E,Br,qO,(by rw[ad,g5];unfold zDb;rw[g6];rfl),rfl⟩
          ·have aj:=g6;replace aj:=of_decide_eq_false aj;refine zAG rfl rfl qD (cbk g6) (qM _ rfl (zAG rfl rfl qD (cbk g6) (qE rfl (zAQ func72 kQ kQ rfl) (zUW _ _ ab (ae.ext E) ak) ?_)));rintro _ bf ⟨rfl,aw⟩;replace Br:=aw.keep Br;replace E:=E.ext aw;refine zAG rfl rfl qD (cbk g6) (qM _ rfl (zAG rfl rfl qD (cbk g6) (qV (zDK rfl rfl) (qV (zAr (v:=(.bool (decide (((d.next.length:Int):Int)≤zPz ab)))) rfl (by rw[g6];rfl)) (qA _ rfl (zAB (zAR (zAC (zAF (qV (zAv rfl rfl (zBb qO)) (qM _ rfl (zAB (zAC ?_)))))))))))));exact ⟨d.next.length - (q+1),qO,q+1,(decide ((((d.next.length:Nat):Int):Int)≤zPz ab)),zAz.out ⟨rfl,rfl,rfl,rfl,rfl,trivial⟩,E,Br,qO,(by rw[ad,g5];unfold zDb;rw[g6];rfl),rfl⟩
        ·have az:q=d.next.length:=qO
         rw[az,List.take_length] at ag;refine zAn (zAT (zAT (zAg (zAC (zAH (zAA (qM _ rfl (zAB (zBD rfl (fun hb=>?_) (fun hb=>?_))))))))))
         ·have a3:=hb;refine zAA (qA _ rfl (zAB (zAV (zAU (zAY results36 (v:=(.int .i64 1)) rfl ?_)))));exact ⟨zBJ (by unfold zCh;rw[if_neg qO,if_neg ar,if_neg qO,if_neg (by rw[au];simp),if_pos (by rw[←ag];exact hb)]),E⟩
         ·have a3:=hb;refine zAO (zAC (zAA (qA _ rfl (zAB (zAV (zAY results36 (v:=(.int .i64 0)) rfl ?_))))));exact ⟨zBJ (by unfold zCh;rw[if_neg qO,if_neg ar,if_neg qO,if_neg (by rw[au];simp),if_neg (by rw[←ag,hb];simp)]),E⟩
      ·have a2:=g1;replace a2:=of_decide_eq_false a2;refine zAG rfl rfl qD (cbk g1) (qF br 0 0 rfl underlying34 rfl zAy rfl (zAG rfl rfl qD (cbk g1) (qV (zAI rfl zAo (Br.cell rfl)) (zAG rfl rfl qD (cbk g1) (qM _ rfl (zAG rfl rfl qD (cbk g1) (qV (zDK rfl rfl) (qV (zAr (v:=(.bool (decide (((d.next.length:Int):Int)≤d.start)))) rfl (by rw[g1];rfl)) (qM _ rfl ?_)))))))));rcases Bool.eq_false_or_eq_true (decide ((((d.next.length:Nat):Int):Int)≤d.start)) with g2|g2
       ·have ax:=g2;replace ax:=of_decide_eq_true ax;refine zAM rfl rfl qD (v:=.bool true) (cbk g2) (Or.inl rfl) (zAM rfl rfl qD (v:=.bool true) (cbk g2) (Or.inl rfl) (zAM rfl rfl qD (v:=.bool true) (cbk g2) (Or.inl rfl) (zAM rfl rfl qD (v:=.bool true) (cbk g2) (Or.inl rfl) (qV (zAr (v:=(.bool true)) rfl (by rw[g2];rfl)) (qA _ rfl (zAB (zAH (zAA (qF br 0 2 rfl underlying34 rfl zBu rfl (qV (zAI rfl zBi (Br.cell rfl)) (qV (zAJ underlying32 rfl) (qM _ rfl (zAB (zAS (zAp (fun nn_ σ a4=>∃(q:Nat) (al:Bool),(∃jj_,σ=zCT jj_ [(3,(I6 (d.next.length:Int))),(69,(.slice (some ⟨nb,no,none⟩) d.next.length nc)),(70,(I6 (d.next.length:Int))),(71,(I6 (q:Int))),(6,(.bool al))])∧Chg zAh w0 a4∧Blk a4 br #[(I6 d.start),(.slice aa d.accept.length ac),(.slice (some ⟨nb,no,none⟩) d.next.length nc)] 34∧(q≤d.next.length)∧(al=(zRB d || (d.next.take q).any (zDb d.next.length)))∧nn_=d.next.length - q) (n:=d.next.length - 0) ?_ ?_)))))))))))))))
        ·exact ⟨0,true,zAz.out ⟨rfl,rfl,rfl,rfl,rfl,trivial⟩,E,Br,Nat.zero_le _,(by simp only[List.take_zero,List.any_nil,Bool.or_false];unfold zRB;rw[g1,g2];rfl),rfl⟩
        ·clear E Br;rintro _ _ a4 ⟨q,al,⟨j20,rfl⟩,E,Br,hq,ag,rfl⟩;refine zAA (qV (zBF rfl rfl) (zAB (zAH (qC rfl (fun aq=>?_) (fun aq=>?_)))))
         ·obtain ⟨ab,af⟩:=zAN (l:=d.next) (i:=q) qO;obtain ⟨ra,rc,ah,ae⟩:=am q ab af;have ak:ab≠[]:=ap ab (List.mem_of_getElem? af);have ad:(zRB d || (d.next.take (q+1)).any (zDb d.next.length))=(al || zDb d.next.length ab):=by rw[List.take_add_one,af,List.any_append,ag];simp[Bool.or_assoc]
          refine zAO (zAC (zAH (zAS (zAA (qV (zAD (b:=nb) (o:=no) (len:=d.next.length) (cap:=nc) (i:=q) (o':=no+q) rfl rfl rfl underlying32 zBL qO qO) (qV (zAI rfl zBP (E.cell (fun f=>f) ah)) (qA _ rfl (zAB (zAF (qM _ rfl (qM _ rfl ?_)))))))))));rcases Bool.eq_false_or_eq_true (al) with g5|g5
          ·have ay:=g5;refine zAM rfl rfl qD (v:=.bool true) (cbk g5) (Or.inl rfl) (zAM rfl rfl qD (v:=.bool true) (cbk g5) (Or.inl rfl) (zAM rfl rfl qD (v:=.bool true) (cbk g5) (Or.inl rfl) (qV (zAr (v:=(.bool true)) rfl (by rw[g5];rfl)) (qM _ rfl (zAM rfl rfl qD (v:=.bool true) rfl (Or.inl rfl) (zAM rfl rfl qD (v:=.bool true) rfl (Or.inl rfl) (zAM rfl rfl qD (v:=.bool true) rfl (Or.inl rfl) (zAM rfl rfl qD (v:=.bool true) rfl (Or.inl rfl) (qV (zAr rfl rfl) (qA _ rfl (zAB (zAR (zAC (zAF (qV (zAv rfl rfl (zBb qO)) (qM _ rfl (zAB (zAC ?_))))))))))))))))));exact ⟨d.next.length - (q+1),qO,q+1,true,zAz.out ⟨rfl,rfl,rfl,rfl,rfl,trivial⟩,E,Br,qO,(by rw[ad,g5];rfl),rfl⟩
          ·have ay:=g5;refine zAG rfl rfl qD (cbk g5) (qM _ rfl (zAG rfl rfl qD (cbk g5) (qE rfl (zAQ func71 kQ kQ rfl) (zRv _ _ ab (ae.ext E) ak) ?_)));rintro _ ba ⟨rfl,av⟩;replace Br:=av.keep Br;replace E:=E.ext av;refine zAG rfl rfl qD (cbk g5) (qV (zBF rfl rfl) (qV (zAr (v:=(.bool (decide ((zNS ab:Int)<(-1))))) rfl (by rw[g5];rfl)) (qM _ rfl ?_)));rcases Bool.eq_false_or_eq_true (decide ((zNS ab:Int)<(-1))) with g6|g6
           ·have aj:=g6;replace aj:=of_decide_eq_true aj;refine zAM rfl rfl qD (v:=.bool true) (cbk g6) (Or.inl rfl) (zAM rfl rfl qD (v:=.bool true) (cbk g6) (Or.inl rfl) (zAM rfl rfl qD (v:=.bool true) (cbk g6) (Or.inl rfl) (zAM rfl rfl qD (v:=.bool true) (cbk g6) (Or.inl rfl) (qV (zAr (v:=(.bool true)) rfl (by rw[g6];rfl)) (qA _ rfl (zAB (zAR (zAC (zAF (qV (zAv rfl rfl (zBb qO)) (qM _ rfl (zAB (zAC ?_)))))))))))));exact ⟨d.next.length - (q+1),qO,q+1,true,zAz.out ⟨rfl,rfl,rfl,rfl,rfl,trivial⟩,E,Br,qO,(by rw[ad,g5];unfold zDb;rw[g6];rfl),rfl⟩
           ·have aj:=g6;replace aj:=of_decide_eq_false aj;refine zAG rfl rfl qD (cbk g6) (qM _ rfl (zAG rfl rfl qD (cbk g6) (qE rfl (zAQ func72 kQ kQ rfl) (zUW _ _ ab (ae.ext E) ak) ?_)));rintro _ bf ⟨rfl,aw⟩;replace Br:=aw.keep Br;replace E:=E.ext aw;refine zAG rfl rfl qD (cbk g6) (qM _ rfl (zAG rfl rfl qD (cbk g6) (qV (zDK rfl rfl) (qV (zAr (v:=(.bool (decide (((d.next.length:Int):Int)≤zPz ab)))) rfl (by rw[g6];rfl)) (qA _ rfl (zAB (zAR (zAC (zAF (qV (zAv rfl rfl (zBb qO)) (qM _ rfl (zAB (zAC ?_)))))))))))));exact ⟨d.next.length - (q+1),qO,q+1,(decide ((((d.next.length:Nat):Int):Int)≤zPz ab)),zAz.out ⟨rfl,rfl,rfl,rfl,rfl,trivial⟩,E,Br,qO,(by rw[ad,g5];unfold zDb;rw[g6];rfl),rfl⟩
         ·have az:q=d.next.length:=qO
          rw[az,List.take_length] at ag;refine zAn (zAT (zAT (zAg (zAC (zAH (zAA (qM _ rfl (zAB (zBD rfl (fun hb=>?_) (fun hb=>?_))))))))))
          ·have a3:=hb;refine zAA (qA _ rfl (zAB (zAV (zAU (zAY results36 (v:=(.int .i64 1)) rfl ?_)))));exact ⟨zBJ (by unfold zCh;rw[if_neg qO,if_neg ar,if_neg qO,if_neg (by rw[au];simp),if_pos (by rw[←ag];exact hb)]),E⟩
          ·have a3:=hb;refine zAO (zAC (zAA (qA _ rfl (zAB (zAV (zAY results36 (v:=(.int .i64 0)) rfl ?_))))));exact ⟨zBJ (by unfold zCh;rw[if_neg qO,if_neg ar,if_neg qO,if_neg (by rw[au];simp),if_neg (by rw[←ag,hb];simp)]),E⟩
       ·have ax:=g2;replace ax:=of_decide_eq_false ax;refine zAG rfl rfl qD (cbk g2) (qF br 0 1 rfl underlying34 rfl zBL rfl (zAG rfl rfl qD (cbk g2) (qV (zAI rfl zBP (Br.cell rfl)) (zAG rfl rfl qD (cbk g2) (qE rfl (zAQ func71 kQ kQ rfl) (zRv _ _ d.accept (ha.ext E) a9) ?_)))));rintro _ w9 ⟨rfl,X9⟩;replace Br:=X9.keep Br;replace E:=E.ext X9;refine zAG rfl rfl qD (cbk g2) (qV (zBF rfl rfl) (qV (zAr (v:=(.bool (decide ((zNS d.accept:Int)<(-1))))) rfl (by rw[g2];rfl)) (qA _ rfl (zAB (zAH (zAA (qF br 0 2 rfl underlying34 rfl zBu rfl (qV (zAI rfl zBi (Br.cell rfl)) (qV (zAJ underlying32 rfl) (qM _ rfl (zAB (zAS (zAp (fun nn_ σ a7=>∃(q:Nat) (al:Bool),(∃jj_,σ=zCT jj_ [(3,(I6 (d.next.length:Int))),(69,(.slice (some ⟨nb,no,none⟩) d.next.length nc)),(70,(I6 (d.next.length:Int))),(71,(I6 (q:Int))),(6,(.bool al))])∧Chg zAh w0 a7∧Blk a7 br #[(I6 d.start),(.slice aa d.accept.length ac),(.slice (some ⟨nb,no,none⟩) d.next.length nc)] 34∧(q≤d.next.length)∧(al=(zRB d || (d.next.take q).any (zDb d.next.length)))∧nn_=d.next.length - q) (n:=d.next.length - 0) ?_ ?_)))))))))))))
        ·exact ⟨0,(decide ((zNS d.accept:Int)<(-1))),zAz.out ⟨rfl,rfl,rfl,rfl,rfl,trivial⟩,E,Br,Nat.zero_le _,(by simp only[List.take_zero,List.any_nil,Bool.or_false];unfold zRB;rw[g1,g2];rfl),rfl⟩
        ·clear E Br;rintro _ _ a7 ⟨q,al,⟨j25,rfl⟩,E,Br,hq,ag,rfl⟩;refine zAA (qV (zBF rfl rfl) (zAB (zAH (qC rfl (fun aq=>?_) (fun aq=>?_)))))
         ·obtain ⟨ab,af⟩:=zAN (l:=d.next) (i:=q) qO;obtain ⟨ra,rc,ah,ae⟩:=am q ab af;have ak:ab≠[]:=ap ab (List.mem_of_getElem? af);have ad:(zRB d || (d.next.take (q+1)).any (zDb d.next.length))=(al || zDb d.next.length ab):=by rw[List.take_add_one,af,List.any_append,ag];simp[Bool.or_assoc]
          refine zAO (zAC (zAH (zAS (zAA (qV (zAD (b:=nb) (o:=no) (len:=d.next.length) (cap:=nc) (i:=q) (o':=no+q) rfl rfl rfl underlying32 zBL qO qO) (qV (zAI rfl zBP (E.cell (fun f=>f) ah)) (qA _ rfl (zAB (zAF (qM _ rfl (qM _ rfl ?_)))))))))));rcases Bool.eq_false_or_eq_true (al) with g5|g5
          ·have ay:=g5;refine zAM rfl rfl qD (v:=.bool true) (cbk g5) (Or.inl rfl) (zAM rfl rfl qD (v:=.bool true) (cbk g5) (Or.inl rfl) (zAM rfl rfl qD (v:=.bool true) (cbk g5) (Or.inl rfl) (qV (zAr (v:=(.bool true)) rfl (by rw[g5];rfl)) (qM _ rfl (zAM rfl rfl qD (v:=.bool true) rfl (Or.inl rfl) (zAM rfl rfl qD (v:=.bool true) rfl (Or.inl rfl) (zAM rfl rfl qD (v:=.bool true) rfl (Or.inl rfl) (zAM rfl rfl qD (v:=.bool true) rfl (Or.inl rfl) (qV (zAr rfl rfl) (qA _ rfl (zAB (zAR (zAC (zAF (qV (zAv rfl rfl (zBb qO)) (qM _ rfl (zAB (zAC ?_))))))))))))))))));exact ⟨d.next.length - (q+1),qO,q+1,true,zAz.out ⟨rfl,rfl,rfl,rfl,rfl,trivial⟩,E,Br,qO,(by rw[ad,g5];rfl),rfl⟩
          ·have ay:=g5;refine zAG rfl rfl qD (cbk g5) (qM _ rfl (zAG rfl rfl qD (cbk g5) (qE rfl (zAQ func71 kQ kQ rfl) (zRv _ _ ab (ae.ext E) ak) ?_)));rintro _ ba ⟨rfl,av⟩;replace Br:=av.keep Br;replace E:=E.ext av;refine zAG rfl rfl qD (cbk g5) (qV (zBF rfl rfl) (qV (zAr (v:=(.bool (decide ((zNS ab:Int)<(-1))))) rfl (by rw[g5];rfl)) (qM _ rfl ?_)));rcases Bool.eq_false_or_eq_true (decide ((zNS ab:Int)<(-1))) with g6|g6
           ·have aj:=g6;replace aj:=of_decide_eq_true aj;refine zAM rfl rfl qD (v:=.bool true) (cbk g6) (Or.inl rfl) (zAM rfl rfl qD (v:=.bool true) (cbk g6) (Or.inl rfl) (zAM rfl rfl qD (v:=.bool true) (cbk g6) (Or.inl rfl) (zAM rfl rfl qD (v:=.bool true) (cbk g6) (Or.inl rfl) (qV (zAr (v:=(.bool true)) rfl (by rw[g6];rfl)) (qA _ rfl (zAB (zAR (zAC (zAF (qV (zAv rfl rfl (zBb qO)) (qM _ rfl (zAB (zAC ?_)))))))))))));exact ⟨d.next.length - (q+1),qO,q+1,true,zAz.out ⟨rfl,rfl,rfl,rfl,rfl,trivial⟩,E,Br,qO,(by rw[ad,g5];unfold zDb;rw[g6];rfl),rfl⟩
           ·have aj:=g6;replace aj:=of_decide_eq_false aj;refine zAG rfl rfl qD (cbk g6) (qM _ rfl (zAG rfl rfl qD (cbk g6) (qE rfl (zAQ func72 kQ kQ rfl) (zUW _ _ ab (ae.ext E) ak) ?_)));rintro _ bf ⟨rfl,aw⟩;replace Br:=aw.keep Br;replace E:=E.ext aw;refine zAG rfl rfl qD (cbk g6) (qM _ rfl (zAG rfl rfl qD (cbk g6) (qV (zDK rfl rfl) (qV (zAr (v:=(.bool (decide (((d.next.length:Int):Int)≤zPz ab)))) rfl (by rw[g6];rfl)) (qA _ rfl (zAB (zAR (zAC (zAF (qV (zAv rfl rfl (zBb qO)) (qM _ rfl (zAB (zAC ?_)))))))))))));exact ⟨d.next.length - (q+1),qO,q+1,(decide ((((d.next.length:Nat):Int):Int)≤zPz ab)),zAz.out ⟨rfl,rfl,rfl,rfl,rfl,trivial⟩,E,Br,qO,(by rw[ad,g5];unfold zDb;rw[g6];rfl),rfl⟩
         ·have az:q=d.next.length:=qO
          rw[az,List.take_length] at ag;refine zAn (zAT (zAT (zAg (zAC (zAH (zAA (qM _ rfl (zAB (zBD rfl (fun hb=>?_) (fun hb=>?_))))))))))
          ·have a3:=hb;refine zAA (qA _ rfl (zAB (zAV (zAU (zAY results36 (v:=(.int .i64 1)) rfl ?_)))));exact ⟨zBJ (by unfold zCh;rw[if_neg qO,if_neg ar,if_neg qO,if_neg (by rw[au];simp),if_pos (by rw[←ag];exact hb)]),E⟩
          ·have a3:=hb;refine zAO (zAC (zAA (qA _ rfl (zAB (zAV (zAY results36 (v:=(.int .i64 0)) rfl ?_))))));exact ⟨zBJ (by unfold zCh;rw[if_neg qO,if_neg ar,if_neg qO,if_neg (by rw[au];simp),if_neg (by rw[←ag,hb];simp)]),E⟩
end Go.Proofs
namespace Go.Proofs
open Go Go.Eng Go.Sort
set_option maxRecDepth 100000
abbrev TDI:Nat:=3
abbrev zDg:Nat:=22
def zKB (l:List Int):Nat×List Value:=(l.length,l.map (Value.int .i64))
theorem zSE (n:Nat):(List.replicate n ([]:List Int)).map zKB=List.replicate n (0,[]):=by simp[zKB]
theorem zJM (l:List Int):(l.map zMa).flatten=l.map (Value.int .i64):=by
  induction l with
  | nil=>rfl
  | cons x l ih=>simp[zMa];simpa[zMa] using ih
theorem zEZ {w:World} {base n:Nat} {v:Value} {l:List Int} (h:w.ownsRow base TDI 1 v n (l.map (Value.int .i64))) (hn:n=l.length):zBZ w v l:=by
 rw[←zJM] at h;exact zDS h (by intro x hx;simp only[List.mem_map] at hx;obtain ⟨p,_,rfl⟩:=hx;rfl) (by simp[hn]) qD
theorem zMB {n c:Nat} {d:Dfa} (ok:OkD n c d) {s k:Nat} {row:List Int} {x:Int} (hr:d.next[s]?=some row) (hx:row[k]?=some x):toD d ((s:Nat):Int) k=x∧k<c∧s<n∧-1≤x∧x<n:=by
 have h1:=ok.row row (List.mem_of_getElem? hr);exact ⟨zEl hr hx,by rw[←h1.1];exact zAE hx,by rw[←ok.nl];exact zAE hr,(h1.2 x (List.mem_of_getElem? hx)).1,(h1.2 x (List.mem_of_getElem? hx)).2⟩
theorem zQr (n:Nat) (into:List (List Int)):zId into (List.replicate n false) []:=fun t h=>by
 have:=(List.mem_replicate.1 (List.mem_of_getElem? h)).2;cases this
theorem zLn {M:List Bool} {k:Nat} (b:Bool):((M.map Value.bool).toArray).setIfInBounds (0+k) (.bool b)=((M.set k b).map Value.bool).toArray:=by
 apply Array.ext';rw[Array.toList_setIfInBounds,Nat.zero_add,←List.map_set]
theorem zXA {α:Type} {l:List α} (h:0<l.length):∃o c,l=o++[c]:=⟨l.dropLast,l.getLast (List.ne_nil_of_length_pos h),(List.dropLast_concat_getLast _).symm⟩
theorem zWD (w0:World) (n c:Nat) (d:Dfa) (dv:List Value) (ok:OkD n c d) (h:zBk w0 d dv) (hn:n≤20000∧c≤16) :
  Ret prog 106 #[.agg dv.toArray] w0 fun r w=>(∃M b,LiveOf n c d M∧r=.slice (some ⟨b,0,none⟩) n n∧w0.heap.size≤b∧Blk w b (M.map Value.bool).toArray 4)∧Ext w0 w:=by
 obtain ⟨aa,ac,na,nc,rfl,bb,a6⟩:=h;have b5:=ok.nl;have b8:=ok.al;have hnc:n*c≤320000:=by have:=Nat.mul_le_mul hn.1 hn.2;omega
 rw[b8] at bb;rw[b5] at a6;rw[b8,b5];refine qR func106 rfl ntmps106 rfl (fun E=>(zAA (zBQ (v:=(.agg #[(I6 d.start),(.slice aa n ac),(.slice na n nc)])) (c:=#[(I6 d.start),(.slice aa n ac),(.slice na n nc)]) qD rfl rfl ?_)));intro bd wd Nd;replace E:=E.ext Nd.ext;have Bd:=Nd.blk;refine qA _ rfl (zAB (zAA (qF bd 0 2 rfl underlying34 rfl zBu rfl (qV (zAI rfl zBi (Bd.cell rfl)) (qV (zAJ underlying32 rfl) (zEx (n:=n) (z:=(.slice none 0 0)) (bytes:=24) qD underlying32 zBL zMk zEg rfl rfl rfl qO qO ?_))))));intro bi wi Ni;replace Bd:=Ni.keep Bd;replace E:=E.ext Ni.ext;have Bi:=Ni.blk;refine qA _ rfl (zAB (zAH (zAA (qF bd 0 2 rfl underlying34 rfl zBu rfl (qV (zAI rfl zBi (Bd.cell rfl)) (qV (zAJ underlying32 rfl) (qM _ rfl (zAB (zAS ?_)))))))));obtain ⟨n1,cg⟩:∃n1,n1=wd.heap.size:=⟨_,rfl⟩;have hw1:w0.heap.size≤n1:=by have:=Nd.ext.size;omega
 have a5:n1≤bi:=by have:=Ni.eq;omega
 have cn:bd<n1:=by have:=Nd.eq;have:=Nd.size;omega
 have a3:=GSt.made (To:=zDg) (e:=TDI) (sz:=1) (base:=n1) (n:=n) Bi a5 qO a5;have cs:n1≤wi.heap.size:=by have:=Ni.ext.size;omega
 refine zAp (fun nn_ σ W1=>∃(s:Nat) (ae:List (List Int)) (vs:List Value),(∃jj_,σ=zCT jj_ [(1,(P6 bd 0)),(3,(.slice (some ⟨bi,0,none⟩) n n)),(20,(.slice na n nc)),(21,(I6 (n:Int))),(22,(I6 (s:Int)))])∧Chg zAh w0 W1∧Blk W1 bd #[(I6 d.start),(.slice aa n ac),(.slice na n nc)] 34∧(s≤n)∧(IntoP n c d ae s 0)∧(GSt zDg TDI 1 W1 n1 (.slice (some ⟨bi,0,none⟩) n n) vs (ae.map zKB))∧(n1≤W1.heap.size)∧nn_=n - s) (n:=n - 0) ?_ ?_
 ·exact ⟨0,List.replicate n [],List.replicate n (.slice none 0 0),zAz.out ⟨rfl,rfl,rfl,rfl,rfl,trivial⟩,E,Bd,Nat.zero_le _,IntoP.start n c d,(by rw[zSE];exact a3),cs,rfl⟩
 ·clear E Bd;rintro _ _ W1 ⟨s,ae,vs,⟨j1,rfl⟩,E,Bd,hs,hI,hG,ak,rfl⟩;refine zAA (qV (zBF rfl rfl) (zAB (zAH (qC rfl (fun ck=>?_) (fun ck=>?_)))))
  ·obtain ⟨row,ax⟩:=zAN (l:=d.next) (i:=s) qO;have hrl:=(ok.row row (List.mem_of_getElem? ax)).1;obtain ⟨b,o,rfl,cz⟩:=zBs (n:=n) a6 qO;obtain ⟨ra,rc,a4,ci⟩:=cz s row ax;refine zAO (zAC (zAH (zAS (zAA (qM _ rfl (qV (zAD (b:=b) (o:=o) (len:=n) (cap:=nc) (i:=s) (o':=o+s) rfl rfl rfl underlying32 zBL qO qO) (qV (zAI rfl zBP (E.cell (fun f=>f) a4)) (qA _ rfl (qA _ rfl (zAB (zAA (qM _ rfl (qV (zAJ underlying22 rfl) (qM _ rfl (zAB (zAS (zAp (fun nn_ σ W3=>∃(k:Nat) (ae:List (List Int)) (vs:List Value),(∃jj_,σ=zCT jj_ [(1,(P6 bd 0)),(3,(.slice (some ⟨bi,0,none⟩) n n)),(4,(I6 (s:Int))),(20,(.slice (some ⟨b,o,none⟩) n nc)),(21,(I6 (n:Int))),(22,(I6 (s:Int))),(27,(.slice ra row.length rc)),(28,(I6 (row.length:Int))),(29,(I6 (k:Int)))])∧Chg zAh w0 W3∧Blk W3 bd #[(I6 d.start),(.slice aa n ac),(.slice (some ⟨b,o,none⟩) n nc)] 34∧(k≤c)∧(IntoP n c d ae s k)∧(GSt zDg TDI 1 W3 n1 (.slice (some ⟨bi,0,none⟩) n n) vs (ae.map zKB))∧(n1≤W3.heap.size)∧nn_=c - k) (n:=c - 0) ?_ ?_)))))))))))))))))
   ·exact ⟨0,ae,vs,zAz.out ⟨rfl,rfl,rfl,rfl,rfl,rfl,rfl,rfl,rfl,trivial⟩,E,Bd,Nat.zero_le _,hI,hG,ak,rfl⟩
   ·clear E Bd;rintro _ _ W3 ⟨k,ae,vs,⟨j3,rfl⟩,E,Bd,hk,hI,hG,ak,rfl⟩;refine zAA (qV (zBF rfl rfl) (zAB (zAH (qC rfl (fun bw=>?_) (fun bw=>?_)))))
    ·obtain ⟨x,hx⟩:=zAN (l:=row) (i:=k) qO;obtain ⟨rb,ro,rfl,ct⟩:=zBG ci qO;obtain ⟨br,bq,_,hxl,c6⟩:=zMB ok ax hx;refine zAO (zAC (zAH (zAS (zAA (qV (zAD (b:=rb) (o:=ro) (len:=row.length) (cap:=rc) (i:=k) (o':=ro+k) rfl rfl rfl underlying22 zAy qO qO) (qV (zAI rfl zAo (E.cell (fun f=>f) (ct k x hx))) (qA _ rfl (zAB (zAA (qM _ rfl (qV (zDK rfl rfl) (zAB (qC rfl (fun a7=>?_) (fun a7=>?_))))))))))))))
     ·obtain ⟨t,cv⟩:=Int.eq_ofNat_of_zero_le a7;rw[cv] at br c6;obtain ⟨lt,ap⟩:=zAN (l:=ae) (i:=t) (by have:=hI.len;omega);have hin:=hI.sht lt (List.mem_of_getElem? ap);have hsc:s*c≤n*c:=Nat.mul_le_mul_right c qO;have ai:(ae.map zKB).length=n:=by rw[List.length_map];exact hI.len
      obtain ⟨v1,ar⟩:=zAN (l:=vs) (i:=t) (by have:=hG.l.len;omega);have bc:(ae.map zKB)[t]?=some (lt.length,lt.map (Value.int .i64)):=by rw[List.getElem?_map,ap];rfl
      have ag:=hG.l.inn t v1 _ ar bc;obtain ⟨va,vc,rfl⟩:=zBO ag;obtain ⟨gg,a9,_,bj⟩:=zBe (hG.l.on ai.symm) qO;simp only[Option.some.injEq,Addr.mk.injEq,and_true] at a9;subst a9;have a3:=hG;refine zAF (qM _ rfl (qM _ rfl (qM _ rfl (qM _ rfl (qV (zAD (b:=bi) (o:=0) (len:=n) (cap:=n) (i:=t) (o':=0+t) rfl rfl qO underlying32 zBL qO qO) (qV (zAI rfl zBP (bj t _ ar)) (qM _ rfl (zAc (ps:=[(0,(I6 (s:Int)))]) (c:=#[(I6 (s:Int))]) qD rfl underlying22 zAy zDI qD qD qK ?_))))))));intro b6 w6 N6;replace Bd:=N6.keep Bd;replace a3:=a3.ext N6.ext;replace ag:=zAj ag N6.ext;replace ak:=Nat.le_trans ak N6.ext.size;replace E:=E.ext N6.ext;have B6:=N6.blk;refine zBp (base:=n1) (n:=lt.length) (m:=1) (xs:=(lt.map (Value.int .i64))) (news:=[(I6 (s:Int))]) (size:=1) (bytes:=8) (v:=(.slice va lt.length vc)) qD underlying22 zAy zJU zDI rfl qD rfl ag rfl (rfl) (B6.cells rfl) qS (by unfold maxLen;omega) qO (ak) ?_;intro v7 cd am ah bp;replace Bd:=ah.keep (fun h=>by have:=(ag.lt _ h).1;omega) Bd;replace E:=E.step ah (fun x hx h=>absurd (ag.lt x h).1 qO);obtain ⟨bo,b1,rfl⟩:=zBO am;have cf:=a3.l;have hCv:=ah;obtain ⟨ch,bn,c7⟩:=zRh (zAq (cf.on ai.symm) ah (fun b hb hm=>cf.apo t _ _ ar hm hb));have b3:=Nat.le_trans ak ah.size;have b7:True:=trivial;have bg:=bn;refine qV (zAD (b:=bi) (o:=0) (len:=n) (cap:=n) (i:=t) (o':=0+t) rfl rfl qO underlying32 zBL qO qO) (zBC (b:=bi) (o:=0+t) (c':=ch.setIfInBounds (0+t) (.slice bo (lt.length+1) b1)) (v:=(.slice bo (lt.length+1) b1)) rfl rfl rfl zBL bn qO (rfl) ?_);intro w7 S7;replace b7:=S7;replace b3:=Nat.le_trans b3 S7.chg.size;replace Bd:=S7.keep qO Bd;replace E:=S7.step E qQ;replace bn:=S7.blk;have c3:=a3.grow ai.symm ar bc (m':=lt.length+1) (xs':=(lt++[((s:Nat):Int)]).map (Value.int .i64)) (by rw[List.map_append];exact am) ah bp bg (by simpa using b7);refine zAB (zAR (zAC (zAF (qV (zAv rfl rfl (zBb qO)) (qM _ rfl (zAB (zAC ?_)))))));exact ⟨c - (k+1),qO,k+1,ae.set t (lt++[((s:Nat):Int)]),vs.set t (.slice bo (lt.length+1) b1),zAz.out ⟨rfl,rfl,rfl,rfl,rfl,rfl,rfl,rfl,rfl,trivial⟩,E,Bd,qO,hI.add qO bq br ap,(by rw[List.map_set];simpa[zKB] using c3),b3,rfl⟩
     ·refine zAO (zAR (zAC (zAF (qV (zAv rfl rfl (zBb qO)) (qM _ rfl (zAB (zAC ?_)))))));exact ⟨c - (k+1),qO,k+1,ae,vs,zAz.out ⟨rfl,rfl,rfl,rfl,rfl,rfl,rfl,rfl,rfl,trivial⟩,E,Bd,qO,hI.skip (by rw[br];omega),hG,ak,rfl⟩
    ·refine zAn (zAT (zAT (zAg (zAR (zAC (zAF (qV (zAv rfl rfl (zBb qO)) (qM _ rfl (zAB (zAC ?_))))))))));exact ⟨n - (s+1),qO,s+1,ae,vs,zAz.out ⟨rfl,rfl,rfl,rfl,rfl,trivial⟩,E,Bd,qO,hI.row qO,hG,ak,rfl⟩
  ·have c8:s=n:=qO
   rw[c8] at hI;obtain ⟨n2,c5⟩:∃n2,n2=(W1).heap.size:=⟨_,rfl⟩;have c2:bd<n2:=by have:=Bd.lt;omega
   have cu:w0.heap.size≤n2:=by have:=E.size;omega
   have E1:Chg zAh W1 W1:=Chg.refl _ _;refine zAn (zAT (zAT (zAg (zAC (zAA (qF bd 0 2 rfl underlying34 rfl zBu rfl (qV (zAI rfl zBi (Bd.cell rfl)) (qV (zAJ underlying32 rfl) (zEx (n:=n) (z:=(.bool false)) (bytes:=1) qD underlying139 zTB byt4 zer4 rfl rfl rfl qO qO ?_)))))))));intro bl wl Nl;replace Bd:=Nl.keep Bd;replace E:=E.ext Nl.ext;have Bl:=Nl.blk;replace E1:=E1.ext Nl.ext;refine qA _ rfl (zAB (zAA (qA _ rfl (zAB (zAH (zAA (qF bd 0 1 rfl underlying34 rfl zBL rfl (qV (zAI rfl zBP (Bd.cell rfl)) (qV (zAJ underlying22 rfl) (qM _ rfl (zAB (zAS ?_))))))))))));obtain ⟨n3,c9⟩:∃n3,n3=wl.heap.size:=⟨_,rfl⟩;have cj:bl<n3:=by have:=Bl.lt;omega
   have cw:n2≤n3:=by have:=Nl.ext.size;omega
   have cx:n2≤bl:=by have:=Nl.eq;omega
   rw[show List.replicate n (Value.bool false)=(List.replicate n false).map Value.bool by simp] at Bl;have af:n3≤wl.heap.size:=qO
   refine zAp (fun nn_ σ W8=>∃(k:Nat) (M:List Bool) (ad:List Int) (ka:Option Addr) (kc kn:Nat),(∃jj_,σ=zCT jj_ [(3,(.slice (some ⟨bi,0,none⟩) n n)),(8,(.slice (some ⟨bl,0,none⟩) n n)),(52,(.slice aa n ac)),(53,(I6 (n:Int))),(54,(I6 (k:Int))),(9,(.slice ka kn kc))])∧Chg zAh w0 W8∧Chg zAh W1 W8∧Blk W8 bd #[(I6 d.start),(.slice aa n ac),(.slice na n nc)] 34∧Blk W8 bl ((M.map Value.bool).toArray) 4∧(k≤n)∧(LiveP n c d M ad k)∧(zId ae M ad)∧(kn=ad.length)∧(W8.ownsRow n3 TDI 1 (.slice ka kn kc) kn (ad.map (Value.int .i64)))∧(n3≤W8.heap.size)∧(∀i,k≤i→i<n→M[i]?=some false)∧nn_=n - k) (n:=n - 0) ?_ ?_
   ·exact ⟨0,List.replicate n false,[],none,0,0,zAz.out ⟨rfl,rfl,rfl,rfl,rfl,rfl,trivial⟩,E,E1,Bd,Bl,Nat.zero_le _,LiveP.start n c d,zQr n ae,rfl,World.ownsRow_nil _ _ _ _,af,(fun i _ hi=>by simp[hi]),rfl⟩
   ·clear E E1 Bd Bl;rintro _ _ W8 ⟨k,M,ad,ka,kc,kn,⟨j8,rfl⟩,E,E1,Bd,Bl,hk,hL,hC,aq,hw,af,b4,rfl⟩;refine zAA (qV (zBF rfl rfl) (zAB (zAH (qC rfl (fun bk=>?_) (fun bk=>?_)))))
    ·obtain ⟨x,hx⟩:=zAN (l:=d.accept) (i:=k) qO;obtain ⟨ab,ao,rfl,cq⟩:=zBG (n:=n) bb qO;have a8:=zEC hx;refine zAO (zAC (zAH (zAS (zAA (qM _ rfl (qV (zAD (b:=ab) (o:=ao) (len:=n) (cap:=ac) (i:=k) (o':=ao+k) rfl rfl rfl underlying22 zAy qO qO) (qV (zAI rfl zAo (E.cell (fun f=>f) (cq k x hx))) (qA _ rfl (qA _ rfl (zAB (zAA (qM _ rfl (qV (zDK rfl rfl) (zAB (qC rfl (fun ba=>?_) (fun ba=>?_))))))))))))))))
     ·have cb:=b4 k (Nat.le_refl _) qO;have bv:=(hL.mark cb ⟨[],inW.nil c,by show 0≤atD d _;rw[a8];omega⟩).next (fun _=>by rw[List.getElem?_set,if_pos rfl,if_pos (zAE cb)]);have ca:=hL.cnt;have ce:=hL.len;refine zAA (qM _ rfl (qM _ rfl (qV (zAD (b:=bl) (o:=0) (len:=n) (cap:=n) (i:=k) (o':=0+k) rfl rfl rfl underlying139 zTB qO qO) (zBC (b:=bl) (o:=0+k) (c':=((M.set k true).map Value.bool).toArray) (v:=(.bool true)) rfl rfl rfl zTB Bl (by simp;omega) (zLn true) ?_))));intro w11 a0;replace hw:=zAq hw a0.chg fun b hb h=>by subst h;have:=(hw.lt _ hb).1;omega
      replace af:=Nat.le_trans af a0.chg.size;replace Bd:=a0.keep qO Bd;replace E:=a0.step E qQ;replace E1:=a0.step E1 (Or.inl qO);replace Bl:=a0.blk;refine zAB (zAF (qM _ rfl (qM _ rfl (zAc (ps:=[(0,(I6 (k:Int)))]) (c:=#[(I6 (k:Int))]) qD rfl underlying22 zAy zDI qD qD qK ?_))));intro b12 w12 aw;replace Bd:=aw.keep Bd;replace Bl:=aw.keep Bl;replace hw:=zAj hw aw.ext;replace af:=Nat.le_trans af aw.ext.size;replace E:=E.ext aw.ext;have co:=aw.blk;replace E1:=E1.ext aw.ext;refine zBp (base:=n3) (n:=kn) (m:=1) (xs:=(ad.map (Value.int .i64))) (news:=[(I6 (k:Int))]) (size:=1) (bytes:=8) (v:=(.slice ka kn kc)) qD underlying22 zAy zJU zDI rfl qD rfl hw rfl (rfl) (co.cells rfl) qS (by unfold maxLen;omega) qO (af) ?_;intro v7 cd am ah bp;replace Bd:=ah.keep (fun h=>by have:=(hw.lt _ h).1;omega) Bd;replace Bl:=ah.keep (fun h=>by have:=(hw.lt _ h).1;omega) Bl;replace E:=E.step ah (fun x hx h=>absurd (hw.lt x h).1 qO);replace E1:=E1.step ah (fun x hx h=>absurd (hw.lt x h).1 qO);obtain ⟨bt,b2,rfl⟩:=zBO am;refine qA _ rfl (zAB (zAR (zAC (zAF (qV (zAv rfl rfl (zBb qO)) (qM _ rfl (zAB (zAC ?_))))))));exact ⟨n - (k+1),qO,k+1,M.set k true,ad++[((k:Nat):Int)],bt,b2,kn+1,zAz.out ⟨rfl,rfl,rfl,rfl,rfl,rfl,trivial⟩,E,E1,Bd,Bl,qO,bv,hC.mark,(by simp;omega),(by rw[List.map_append];exact am),Nat.le_trans af ah.size,(fun i h1 h2=>by rw[List.getElem?_set,if_neg qO];exact b4 i qO h2),rfl⟩
     ·refine zAO (zAR (zAC (zAF (qV (zAv rfl rfl (zBb qO)) (qM _ rfl (zAB (zAC ?_)))))));exact ⟨n - (k+1),qO,k+1,M,ad,ka,kc,kn,zAz.out ⟨rfl,rfl,rfl,rfl,rfl,rfl,trivial⟩,E,E1,Bd,Bl,qO,hL.next (fun h=>by rw[a8] at h;omega),hC,aq,hw,af,(fun i h1 h2=>b4 i qO h2),rfl⟩
    ·have bz:k=n:=qO
     rw[bz] at hL;refine zAn (zAT (zAT (zAg (zAC (zAH (zAS (zAp (fun nn_ σ an=>∃(M:List Bool) (ad:List Int) (ka:Option Addr) (kc kn:Nat),(∃jj_,σ=zCT jj_ [(3,(.slice (some ⟨bi,0,none⟩) n n)),(8,(.slice (some ⟨bl,0,none⟩) n n)),(9,(.slice ka kn kc))])∧Chg zAh w0 an∧Chg zAh W1 an∧Blk an bd #[(I6 d.start),(.slice aa n ac),(.slice na n nc)] 34∧Blk an bl ((M.map Value.bool).toArray) 4∧(LiveP n c d M ad n)∧(zId ae M ad)∧(kn=ad.length)∧(an.ownsRow n3 TDI 1 (.slice ka kn kc) kn (ad.map (Value.int .i64)))∧(n3≤an.heap.size)∧nn_=2*M.countP (fun b=>!b)+ad.length) (n:=2*M.countP (fun b=>!b)+ad.length) ?_ ?_)))))))
     ·exact ⟨M,ad,ka,kc,kn,zAz.out ⟨rfl,rfl,rfl,trivial⟩,E,E1,Bd,Bl,hL,hC,aq,hw,af,rfl⟩
     ·clear E E1 Bd Bl;rintro _ _ an ⟨M,ad,ka,kc,kn,⟨j13,rfl⟩,E,E1,Bd,Bl,hL,hC,aq,hw,af,rfl⟩;refine zAH (zAA (qM _ rfl (qV (zAJ underlying22 rfl) (qV (zDB rfl rfl) (zAB (qC rfl (fun bm=>?_) (fun bm=>?_)))))))
      ·have ca:=hL.cnt;obtain ⟨wl,x,ay⟩:=zXA (l:=ad) qO;have c0:ad.length=wl.length+1:=by rw[ay];simp
       obtain ⟨u,cl,a1⟩:=hL.wrk x (by rw[ay];simp);have ce:=hL.len;have hun:u<n:=by have:=zAE a1;omega
       obtain ⟨kg,rfl,_,bq⟩:=zBe hw qO;have hle:=zPk hw;obtain ⟨Z,hZ⟩:∃Z,Z=2*M.countP (fun b=>!b)+ad.length:=⟨_,rfl⟩;refine zAO (zAC (zAS (zAA (qM _ rfl (qM _ rfl (qV (zAJ underlying22 rfl) (qV (zEJ rfl rfl (zBb qO)) (qV (zAD (b:=kg) (o:=0) (len:=kn) (cap:=kc) (i:=kn - 1) (o':=0+(kn - 1)) rfl rfl qO underlying22 zAy qO qO) (qV (zAI (v:=(I6 x)) rfl zAo (bq (kn - 1) _ (by rw[aq,c0,Nat.add_sub_cancel,List.getElem?_map,ay];simp))) ?_)))))))));refine qA _ rfl (zAB (zAA (qM _ rfl (qM _ rfl (qV (zAJ underlying22 rfl) (qV (zEJ rfl rfl (zBb qO)) ?_))))));obtain ⟨a2,cc⟩:∃a':Option Addr,(if kc=0 then (some ⟨kg,0,none⟩) else Option.map (fun q:Addr=>q.add (0*1)) (some ⟨kg,0,none⟩))=a':=⟨_,rfl⟩;refine qV (zGD (hi:=kn - 1) underlying22 zAy rfl rfl qO qO cc) (qA _ rfl (zAB (zAA (qM _ rfl (qM _ rfl ?_)))));have da:a2=some ⟨kg,0,none⟩:=by rw[←cc,if_neg qO];simp[Addr.add_lit]
       subst da;have b9:=zUJ hw (m:=kn - 1) qO qO;rw[show (ad.map (Value.int .i64)).take ((kn - 1)*1)=wl.map (Value.int .i64) by rw[ay,List.map_append,Nat.mul_one,List.take_append_of_le_length (by simp;omega),List.take_of_length_le (by simp;omega)]] at b9;have db:LiveP n c d M wl n:=⟨hL.len,fun y hy=>hL.wrk y (by rw[ay];exact List.mem_append_left _ hy),hL.snd,hL.acc,qO⟩;obtain ⟨lu,bf⟩:=zAN (l:=ae) (i:=u) (by have:=hI.len;omega);have ai:(ae.map zKB).length=n:=by rw[List.length_map];exact hI.len
       obtain ⟨v1,ar⟩:=zAN (l:=vs) (i:=u) (by have:=hG.l.len;omega);have bc:(ae.map zKB)[u]?=some (lu.length,lu.map (Value.int .i64)):=by rw[List.getElem?_map,bf];rfl
       have ag:=hG.l.inn u v1 _ ar bc;obtain ⟨va,vc,rfl⟩:=zBO ag;obtain ⟨gg,a9,_,bj⟩:=zBe (hG.l.on ai.symm) qO;simp only[Option.some.injEq,Addr.mk.injEq,and_true] at a9;subst a9;have cy:=(show zId ae M (wl++[((u:Nat):Int)]) by rw[←cl,←ay];exact hC).open lu;have hil:=hI.sht lu (List.mem_of_getElem? bf);refine qV (zAD (b:=bi) (o:=0) (len:=n) (cap:=n) (i:=u) (o':=0+u) rfl rfl qO underlying32 zBL qO qO) (qV (zAI rfl zBP (E1.cell (fun f=>f) (bj u _ ar))) (qV (zAJ underlying22 rfl) (qM _ rfl (zAB (zAS (zAp (fun nn_ σ au=>∃(j:Nat) (M:List Bool) (ad:List Int) (ka:Option Addr) (kc kn:Nat),(∃jj_,σ=zCT jj_ [(3,(.slice (some ⟨bi,0,none⟩) n n)),(8,(.slice (some ⟨bl,0,none⟩) n n)),(86,(.slice va lu.length vc)),(87,(I6 (lu.length:Int))),(88,(I6 (j:Int))),(9,(.slice ka kn kc))])∧Chg zAh w0 au∧Chg zAh W1 au∧Blk au bd #[(I6 d.start),(.slice aa n ac),(.slice na n nc)] 34∧Blk au bl ((M.map Value.bool).toArray) 4∧(j≤lu.length)∧(LiveP n c d M ad n)∧(zIp ae M ad u lu j)∧(M[u]?=some true)∧(kn=ad.length)∧(au.ownsRow n3 TDI 1 (.slice ka kn kc) kn (ad.map (Value.int .i64)))∧(n3≤au.heap.size)∧(2*M.countP (fun b=>!b)+ad.length<Z)∧nn_=lu.length - j) (n:=lu.length - 0) ?_ ?_))))))
       ·exact ⟨0,M,wl,some ⟨kg,0,none⟩,kc,kn - 1,zAz.out ⟨rfl,rfl,rfl,rfl,rfl,rfl,trivial⟩,E,E1,Bd,Bl,Nat.zero_le _,db,cy,a1,qO,b9,af,qO,rfl⟩
       ·clear E E1 Bd Bl;rintro _ _ au ⟨j,M,ad,ka,kc,kn,⟨j15,rfl⟩,E,E1,Bd,Bl,hj,hL,hQ,a1,aq,hw,af,hZ,rfl⟩;refine zAA (qV (zBF rfl rfl) (zAB (zAH (qC rfl (fun bu=>?_) (fun bu=>?_)))))
        ·obtain ⟨x,hx⟩:=zAN (l:=lu) (i:=j) qO;obtain ⟨c1,hxn,y,hy,cm⟩:=hI.snd u lu bf x (List.mem_of_getElem? hx);obtain ⟨i,be⟩:=Int.eq_ofNat_of_zero_le c1;have ce:=hL.len;have ca:=hL.cnt;obtain ⟨q,hq⟩:=zAN (l:=M) (i:=i) qO;have bs:=zEZ (zAj ag E1) rfl;obtain ⟨ub,uo,rfl,cr⟩:=zBG bs qO;refine zAO (zAC (zAH (zAS (zAA (qV (zAD (b:=ub) (o:=uo) (len:=lu.length) (cap:=vc) (i:=j) (o':=uo+j) rfl rfl rfl underlying22 zAy qO qO) (qV (zAI rfl zAo (cr j x hx)) (qA _ rfl (zAB (zAA (qM _ rfl (qM _ rfl (qV (zAD (b:=bl) (o:=0) (len:=n) (cap:=n) (i:=i) (o':=0+i) rfl rfl qO underlying139 zTB qO qO) (qV (zAI (v:=(.bool q)) rfl zKE (Bl.cell (by simp[hq]))) (qV (zCa rfl) (zAB (zBD rfl (fun aj=>?_) (fun aj=>?_)))))))))))))))))
         ·have bx:=aj;replace aj:=by simpa using aj
          have b0:M[i]?=some false:=by rw[hq,aj]
          have bh:zBX c d ((i:Nat):Int):=zUZ (x:=y) (by rw[←be,cm];exact hL.snd u a1) hy;have bv:=hL.mark b0 bh;have c7:=count_set b0;refine zAA (qM _ rfl (qM _ rfl (qV (zAD (b:=bl) (o:=0) (len:=n) (cap:=n) (i:=i) (o':=0+i) rfl rfl qO underlying139 zTB qO qO) (zBC (b:=bl) (o:=0+i) (c':=((M.set i true).map Value.bool).toArray) (v:=(.bool true)) rfl rfl rfl zTB Bl (by simp;omega) (zLn true) ?_))));intro w18 az;replace hw:=zAq hw az.chg fun b hb h=>by subst h;have:=(hw.lt _ hb).1;omega
          replace af:=Nat.le_trans af az.chg.size;replace Bd:=az.keep qO Bd;replace E:=az.step E qQ;replace E1:=az.step E1 (Or.inl qO);replace Bl:=az.blk;refine zAB (zAF (qM _ rfl (qM _ rfl (zAc (ps:=[(0,(I6 x))]) (c:=#[(I6 x)]) qD rfl underlying22 zAy zDI qD qD qK ?_))));intro b19 w19 av;replace Bd:=av.keep Bd;replace Bl:=av.keep Bl;replace hw:=zAj hw av.ext;replace af:=Nat.le_trans af av.ext.size;replace E:=E.ext av.ext;have cp:=av.blk;replace E1:=E1.ext av.ext;refine zBp (base:=n3) (n:=kn) (m:=1) (xs:=(ad.map (Value.int .i64))) (news:=[(I6 x)]) (size:=1) (bytes:=8) (v:=(.slice ka kn kc)) qD underlying22 zAy zJU zDI rfl qD rfl hw rfl (rfl) (cp.cells rfl) qS (by unfold maxLen;omega) qO (af) ?_;intro v7 cd am ah bp;replace Bd:=ah.keep (fun h=>by have:=(hw.lt _ h).1;omega) Bd;replace Bl:=ah.keep (fun h=>by have:=(hw.lt _ h).1;omega) Bl;replace E:=E.step ah (fun x hx h=>absurd (hw.lt x h).1 qO);replace E1:=E1.step ah (fun x hx h=>absurd (hw.lt x h).1 qO);obtain ⟨bt,b2,rfl⟩:=zBO am;refine qA _ rfl (zAB (zAR (zAC (zAF (qV (zAv rfl rfl (zBb qO)) (qM _ rfl (zAB (zAC ?_))))))));exact ⟨lu.length - (j+1),qO,j+1,M.set i true,ad++[((i:Nat):Int)],bt,b2,kn+1,zAz.out ⟨rfl,rfl,rfl,rfl,rfl,rfl,trivial⟩,E,E1,Bd,Bl,qO,bv,hQ.mark (by rw[hx,be]) b0,zFP a1,(by simp;omega),(by rw[List.map_append,←be];exact am),Nat.le_trans af ah.size,(by simp;omega),rfl⟩
         ·have bx:=aj;replace aj:=by simpa using aj
          refine zAO (zAR (zAC (zAF (qV (zAv rfl rfl (zBb qO)) (qM _ rfl (zAB (zAC ?_)))))));exact ⟨lu.length - (j+1),qO,j+1,M,ad,ka,kc,kn,zAz.out ⟨rfl,rfl,rfl,rfl,rfl,rfl,trivial⟩,E,E1,Bd,Bl,qO,hL,hQ.seen hx (by rw[be,Int.toNat_natCast,hq,aj]),a1,aq,hw,af,hZ,rfl⟩
        ·refine zAn (zAT (zAT (zAg (zAR (zAC ?_)))));exact ⟨2*M.countP (fun b=>!b)+ad.length,qO,M,ad,ka,kc,kn,zAz.out ⟨rfl,rfl,rfl,trivial⟩,E,E1,Bd,Bl,hL,hQ.done bf qO,aq,hw,af,rfl⟩
      ·have c4:ad=[]:=List.eq_nil_of_length_eq_zero qO;rw[c4] at hL hC;refine zAn (zAT (zAT (zAg (zAC (zAA (qM _ rfl (qA _ rfl (zAB (zAV (zAY results106 (v:=(.slice (some ⟨bl,0,none⟩) n n)) rfl ?_))))))))));exact ⟨⟨M,bl,zOP ok hI hL hC,rfl,qO,Bl⟩,E⟩
end Go.Proofs
namespace Go.Proofs
open Go Go.Eng Go.Sort
theorem Refd.cnt_mono {n c cnt cnt':Nat} {d:Dfa} {p q:List Int} (hp:Refd n c d p cnt) (hq:Refd n c d q cnt') (hf:∀s t:Nat,s<n→t<n→zBX c d s→zBX c d t→q[s]?=q[t]?→p[s]?=p[t]?):cnt≤cnt':=by
 have aa:∀j:Nat,∃i:Nat,j<cnt'→(i<cnt∧∀u:Nat,u<n→zBX c d u→q[u]?=some ((j:Nat):Int)→p[u]?=some ((i:Nat):Int)):=by
  intro j;by_cases hj:j<cnt'
  ·obtain ⟨u,hu,lu,ag⟩:=hq.onto j hj;obtain ⟨i,hi,af⟩:=hp.liv u hu lu;refine ⟨i,fun _=>⟨af,fun v hv lv ad=>?_⟩⟩;rw[←hf u v hu hv lu lv (by rw[ag,ad])];exact hi
  ·exact ⟨0,fun h=>absurd h hj⟩
 obtain ⟨f,ae⟩:=Classical.axiomOfChoice aa;have ah:=zFF (l:=List.range cnt) (m:=(List.range cnt').map f) List.nodup_range fun i hi=>by
  rw[List.mem_range] at hi;obtain ⟨u,hu,lu,ac⟩:=hp.onto i hi;obtain ⟨j,hj,ab⟩:=hq.liv u hu lu;have h1:=(ae j ab).2 u hu lu hj;rw[ac] at h1;exact List.mem_map.2 ⟨j,List.mem_range.2 ab,by simp at h1;omega⟩
 simpa using ah
def zBU (n:Int):List Int:=[n % 256,n / 256 % 256,n / 65536 % 256,n / 16777216 % 256]
def zDG (l:List Int):ByteArray:=strOfNums (l.flatMap zBU)
def okK (l:List Int):Prop:=∀x∈l,-1≤x∧x<2147483648
theorem zOf (n:Int):∀x∈zBU n,0≤x∧x<256:=by
 intro x hx;simp only[zBU,List.mem_cons,List.not_mem_nil,or_false] at hx;omega
theorem zOg {x y:Int} (hx : -1≤x∧x<2147483648) (hy : -1≤y∧y<2147483648) (h:zBU x=zBU y):x=y:=by
 simp only[zBU,List.cons.injEq,and_true] at h;omega
theorem zLV:∀{l m:List Int},okK l→okK m→l.flatMap zBU=m.flatMap zBU→l=m
  | [],[],_,_,_=>rfl
  | [],y::m,_,_,h=>by simp[zBU] at h
  | x::l,[],_,_,h=>by simp[zBU] at h
  | x::l,y::m,hl,hm,h=>by
    rw[List.flatMap_cons,List.flatMap_cons] at h;obtain ⟨h1,h2⟩:=List.append_inj h rfl;rw[zOg (hl x List.mem_cons_self) (hm y List.mem_cons_self) h1,zLV (fun z hz=>hl z (List.mem_cons_of_mem _ hz)) (fun z hz=>hm z (List.mem_cons_of_mem _ hz)) h2]
theorem zLU {l:List Int}:∀x∈l.flatMap zBU,0≤x∧x<256:=fun x hx=>by
 obtain ⟨y,_,h⟩:=List.mem_flatMap.1 hx;exact zOf y x h
theorem zRl {l m:List Int} (hl:∀x∈l,0≤x∧x<256) (hm:∀x∈m,0≤x∧x<256) (h:strOfNums l=strOfNums m):l=m:=by
  have h1:=congrArg (fun s=>s.data.toList) h;simp only[strOfNums_data] at h1;have h2:∀{l m:List Int},(∀x∈l,0≤x∧x<256)→(∀x∈m,0≤x∧x<256)→l.map (fun i=>UInt8.ofNat i.toNat)=m.map (fun i=>UInt8.ofNat i.toNat)→l=m:=by
    intro l
    induction l with
    | nil=>intro m _ _ h;cases m with
      | nil=>rfl
      | cons y m=>cases h
    | cons x l ih=>
      intro m h3 h4 h;cases m with
      | nil=>cases h
      | cons y m=>
        simp only[List.map_cons,List.cons.injEq] at h;have a:=h3 x List.mem_cons_self;have b:=h4 y List.mem_cons_self;have e:=congrArg UInt8.toNat h.1;simp only[UInt8.toNat_ofNat'] at e;rw[ih (fun z hz=>h3 z (List.mem_cons_of_mem _ hz)) (fun z hz=>h4 z (List.mem_cons_of_mem _ hz)) h.2];congr 1;omega
  exact h2 hl hm h1
theorem zSO {l m:List Int} (hl:okK l) (hm:okK m) (h:zDG l=zDG m):l=m:=zLV hl hm (zRl zLU zLU h)
def zDN:List (List Int)→Nat→List (ByteArray×Int)
  | [],_=>[]
  | m::ks,n=>(zDG m,((n:Nat):Int))::zDN ks (n+1)
theorem zHx:∀(ks:List (List Int)) (n:Nat),(zDN ks n).length=ks.length
  | [],_=>rfl
  | _::ks,n=>by simp[zDN,zHx ks]
theorem zJJ:∀(ks:List (List Int)) (m:List Int) (n:Nat),zDN (ks++[m]) n=zDN ks n++[(zDG m,(((n+ks.length:Nat):Nat):Int))]
  | [],m,n=>rfl
  | x::ks,m,n=>by
    show (zDG x,_)::zDN (ks++[m]) (n+1)=(zDG x,_)::(zDN ks (n+1)++_);rw[zJJ ks m (n+1),List.length_cons,show n+1+ks.length=n+(ks.length+1) by omega]
theorem zLH:∀{ks:List (List Int)} {n:Nat} {q:ByteArray×Int},q∈zDN ks n→∃(j:Nat) (m:List Int),ks[j]?=some m∧q=(zDG m,(((n+j:Nat):Nat):Int))
  | [],_,_,h=>by cases h
  | x::ks,n,q,h=>by
    rcases List.mem_cons.1 h with h|h
    · exact ⟨0,x,rfl,h⟩
    · obtain ⟨j,m,h1,h2⟩:=zLH h;exact ⟨j+1,m,h1,by rw[h2];congr 2;omega⟩
theorem zHy:∀{ks:List (List Int)} {n:Nat} {m:List Int},m∈ks→zDG m∈(zDN ks n).map (·.1)
  | x::ks,n,m,h=>by
    rcases List.mem_cons.1 h with rfl|h
    · exact List.mem_cons_self
    · exact List.mem_cons_of_mem _ (zHy (n:=n+1) h)
theorem zLI {ks:List (List Int)} {m:List Int} {v:Int} (hk:∀k∈ks,okK k) (hm:okK m) (h:zBr (zDN ks 0) (zDG m)=some v):∃j:Nat,v=((j:Nat):Int)∧ks[j]?=some m:=by
 obtain ⟨j,m',h1,h2⟩:=zLH (zDm h);simp only[Prod.mk.injEq,Nat.zero_add] at h2;obtain rfl:=zSO hm (hk m' (List.mem_of_getElem? h1)) h2.1;exact ⟨j,h2.2,h1⟩
theorem zOR {ks:List (List Int)} {m:List Int} (h:zBr (zDN ks 0) (zDG m)=none):m∉ks∧zHQ (zDN ks 0) (zDG m) ((ks.length:Nat):Int)=zDN (ks++[m]) 0:=by
 refine ⟨fun hm=>?_,?_⟩
 ·have:=zEA.2 (zHy (n:=0) hm);rw[h] at this;cases this
 ·rw[zDu _ h,zJJ,Nat.zero_add]
abbrev TU8:Nat:=5
theorem zVU (n:Int):IntKind.u8.wrap n=n % 256:=by
 simp only[IntKind.wrap,IntKind.bits,IntKind.signed,Bool.false_and,ge_iff_le,Int.reducePow,Nat.reduceSub,Bool.false_eq_true,if_false]
theorem zKH (n:Int) {k:Int} (h:0≤k):n.fdiv k=n / k:=Int.fdiv_eq_ediv_of_nonneg n h
theorem zOz (w0:World) (base n:Nat) (v:Value) (xs:List Int) (x:Int) (hv:w0.ownsRow base TU8 1 v n (xs.map (Value.int .u8))) (hb:base≤w0.heap.size) (hn:n≤1000000) (hxn:n=xs.length) (hx : -1≤x∧x<2147483648) :
  Ret prog 108 #[v,.int .i64 x] w0 fun r w=>(∃a c,r=.slice a (n+4) c)∧w.ownsRow base TU8 1 r (n+4) ((xs++zBU x).map (Value.int .u8))∧Chg (fun y=>v.ownBlock=some y) w0 w:=by
 obtain ⟨a,c,rfl⟩:=zBO hv;refine zDc func108 rfl ntmps108 (leT rfl) ?_;have E:Chg (fun y=>(Value.slice a n c).ownBlock=some y) w0 w0:=Chg.refl _ _;refine zAA (qA _ rfl (zAB (zAA (qM _ rfl (qM _ rfl (qV (zDW (c:=x % 256) ⟨_,underlying3⟩ underlying5 rfl (zVU x)) (qM _ rfl (qV (zIg (c:=x / 256) rfl rfl qO (zKH x qD)) (qV (zDW (c:=x / 256 % 256) ⟨_,underlying3⟩ underlying5 rfl (zVU _)) (qM _ rfl (qV (zIg (c:=x / 65536) rfl rfl qO (zKH x qD)) (qV (zDW (c:=x / 65536 % 256) ⟨_,underlying3⟩ underlying5 rfl (zVU _)) (qM _ rfl (qV (zIg (c:=x / 16777216) rfl rfl qO (zKH x qD)) (qV (zDW (c:=x / 16777216 % 256) ⟨_,underlying3⟩ underlying5 rfl (zVU _)) ?_)))))))))))))));refine zAc (ps:=[(0,(.int .u8 (x % 256))),(1,(.int .u8 (x / 256 % 256))),(2,(.int .u8 (x / 65536 % 256))),(3,(.int .u8 (x / 16777216 % 256)))]) (c:=#[(.int .u8 (x % 256)),(.int .u8 (x / 256 % 256)),(.int .u8 (x / 65536 % 256)),(.int .u8 (x / 16777216 % 256))]) qD rfl underlying69 zRR zWh qD qD qK ?_;intro bt wt Nt;replace E:=E.ext Nt.ext;have Bt:=Nt.blk;have ac:=zAj hv Nt.ext;refine zBp (base:=base) (n:=n) (m:=4) (xs:=(xs.map (Value.int .u8))) (news:=[(.int .u8 (x % 256)),(.int .u8 (x / 256 % 256)),(.int .u8 (x / 65536 % 256)),(.int .u8 (x / 16777216 % 256))]) (size:=1) (bytes:=1) (v:=(.slice a n c)) qD underlying69 zRR zXX zWh rfl qD rfl ac rfl (rfl) (Bt.cells rfl) qS (by unfold maxLen;omega) qO ((by have:=Nt.ext.size;omega)) ?_;intro v7 w59 aa ab Dv7;replace E:=E.step ab (fun x hx h=>h);obtain ⟨a2,c2,rfl⟩:=zBO aa;refine qA _ rfl (zAB (zAV (zAY results108 (v:=(.slice a2 (n+4) c2)) rfl ?_)));exact ⟨⟨a2,c2,rfl⟩,by rw[List.map_append];exact aa,E⟩
end Go.Proofs
namespace Go.Proofs
open Go Go.Eng Go.Sort
set_option maxRecDepth 100000
def zOj (base n:Nat) (xs:List Int):Fct:=fun v w=>∃a c,v=.slice a n c∧w.ownsRow base TU8 1 (.slice a n c) n (xs.map (Value.int .u8))
theorem zDo (base n:Nat) (xs:List Int):∀v w w',Ext w w'→zOj base n xs v w→zOj base n xs v w':=by
 rintro v w w' e ⟨a,c,h1,h2⟩;exact ⟨a,c,h1,zAj h2 e⟩
theorem zKg (w0:World) (base:Nat) (x:Int) (hb:base≤w0.heap.size) (hx : -1≤x∧x<2147483648) :
  Ret prog 108 #[.slice none 0 0,.int .i64 x] w0 fun r w=>zOj base 4 (zBU x) r w∧Ext w0 w:=
 (zOz w0 base 0 (.slice none 0 0) [] x (World.ownsRow_nil _ _ _ _) hb qD rfl hx).mono fun r w ⟨⟨a,c,h1⟩,h2,h3⟩=>by
  subst h1;exact ⟨⟨a,c,rfl,by simpa using h2⟩,h3.mono fun y _ h=>by cases h⟩
theorem zJE {P:Program} {σ:Env} {w:World} {ty t:TypeId} {pos:String} {af:Array Edge} {x:Operand} {dst:Option Tmp} {g:Option (Nat×Bool)} {s e base n c:Nat} {a:Option Addr} {l:List Int} (hs:P.underlying s=some (.slice e)) (he:P.underlying e=some (.int .u8)) (ht:P.underlying t=some .string) (hx:ev σ x=.slice a n c)
  (ho:w.ownsRow base TU8 1 (.slice a n c) n (l.map (Value.int .u8))) (hl:l.length=n) (hn:0<n):(execOp (ev σ) ⟨dst,.convert s t x,ty,pos,af,g⟩).run P w=.ok (.value (.string (strOfNums l))) w:=by
 obtain ⟨b,rfl,_,hc⟩:=zBe ho hn;have h:=run_convert_bytes_arg (P:=P) w s e hs he b 0 n c l hl (fun i hi=>by
  have h1:l[i]?=some l[i]:=List.getElem?_eq_getElem qO;have h2:=hc i (.int .u8 (l.getD i 0)) (by simp[List.getD,h1]);exact h2) t ht
 simp only[execOp,hx,Sem.run_bind,h,Result.andThen_ok];rfl
theorem zWG (w0:World) (bw bd n:Nat) (d:Dfa) (dv:List Value) (s:Nat) (x:Int) (hW:Blk w0 bw #[.func (.func 108) #[] #[]] 143) (hD:Blk w0 bd dv.toArray 34) (h:zBk w0 d dv) (hal:d.accept.length=n) (hs:d.accept[s]?=some x) (hx : -1≤x∧x<2147483648) :
  Ret prog 109 #[.int .i64 ((s:Nat):Int),.pointer (some ⟨bw,0,none⟩),.pointer (some ⟨bd,0,none⟩)] w0 fun r w=>r=.string (zDG [x])∧Ext w0 w:=by
 obtain ⟨aa,ac,na,nc,rfl,af,an⟩:=h;have ah:=zAE hs;rw[hal] at af ah;obtain ⟨ab,ao,rfl,ai⟩:=zBG (n:=n) af qO;rw[hal] at hD;obtain ⟨ae,ag⟩:∃ae,ae=w0.heap.size:=⟨_,rfl⟩;refine qR func109 rfl ntmps109 rfl (fun E=>(zAA (qA _ rfl (zAB (zAH ?_)))));obtain ⟨ak,ad⟩:∃Fs:List Fact,Fs=[.eq (.func (.func 108) #[] #[]),.eq (P6 bd 1),.eq (.slice (some ⟨ab,ao,none⟩) n ac),.eq (I6 (s:Int)),.eq (.pointer (some ⟨ab,ao+s,none⟩)),.eq (I6 x),.gen (zOj ae 4 (zBU x)) (zDo _ _ _),.eq (.string (strOfNums (zBU x))),.eq (.string (strOfNums (zBU x)))]:=⟨_,rfl⟩;refine zLt [5,6,7,8,9,10,11,12,4] [[],[],[1],[],[2,3],[4],[0,5],[6],[0,1,2,3,4,5,6,7]] ak ad mixed qK qK ?_ ?_
 ·intro wd X0;refine DagSteps.cons (fun s' w' X U H=>Or.inl ⟨?_,?_⟩) ?_
  ·exact zAL rfl
  ·exact zAt (zAI (U 1 rfl) zKF (((X0.trans X).keep hW).cell rfl)) (Ext.refl _) rfl
  refine DagSteps.cons (fun s' w' X U H=>Or.inl ⟨?_,?_⟩) ?_
  ·exact zAL rfl
  ·exact zAt (zAZ (U 2 rfl) underlying34 rfl zBL rfl) (Ext.refl _) rfl
  refine DagSteps.cons (fun s' w' X U H=>Or.inl ⟨?_,?_⟩) ?_
  ·exact zAL rfl
  ·have e6:s' 6=(.pointer (some ⟨bd,1,none⟩)):=H 1 rfl 6 (.eq (.pointer (some ⟨bd,1,none⟩))) rfl (by rw[ad];rfl);exact zAt (zAI e6 zBP (((X0.trans X).keep hD).cell rfl)) (Ext.refl _) rfl
  refine DagSteps.cons (fun s' w' X U H=>Or.inl ⟨?_,?_⟩) ?_
  ·exact zAL rfl
  ·exact zAt (zAl (U 0 rfl)) (Ext.refl _) rfl
  refine DagSteps.cons (fun s' w' X U H=>Or.inl ⟨?_,?_⟩) ?_
  ·exact zAL rfl
  ·have e7:s' 7=(.slice (some ⟨ab,ao,none⟩) n ac):=H 2 rfl 7 (.eq (.slice (some ⟨ab,ao,none⟩) n ac)) rfl (by rw[ad];rfl);have e8:s' 8=(.int .i64 ((s:Nat):Int)):=H 3 rfl 8 (.eq (.int .i64 ((s:Nat):Int))) rfl (by rw[ad];rfl);exact zAt (zAD (i:=s) e7 e8 rfl underlying22 zAy qO qO) (Ext.refl _) rfl
  refine DagSteps.cons (fun s' w' X U H=>Or.inl ⟨?_,?_⟩) ?_
  ·exact zAL rfl
  ·have e9:s' 9=(.pointer (some ⟨ab,ao+s,none⟩)):=H 4 rfl 9 (.eq (.pointer (some ⟨ab,ao+s,none⟩))) rfl (by rw[ad];rfl);exact zAt (zAI e9 zAo ((Chg.ext E (X0.trans X)).cell (fun f=>f) (ai s x hs))) (Ext.refl _) rfl
  refine DagSteps.cons (fun s' w' X U H=>Or.inl ⟨?_,?_⟩) ?_
  ·exact zAL rfl
  ·have ap:s' 10=(.int .i64 x):=H 5 rfl 10 (.eq (.int .i64 x)) rfl (by rw[ad];rfl);have e5:s' 5=(.func (.func 108) #[] #[]):=H 0 rfl 5 (.eq (.func (.func 108) #[] #[])) rfl (by rw[ad];rfl);exact zCg (zDL e5 func108 kQ kQ (zOu rfl ap) rfl) (zKg _ ae x (by have:=X0.size;have:=X.size;omega) hx)
  refine DagSteps.cons (fun s' w' X U H=>Or.inl ⟨?_,?_⟩) ?_
  ·exact zAL rfl
  ·obtain ⟨a11,c11,aj,am⟩:=H 6 rfl 11 (.gen (zOj ae 4 (zBU x)) (zDo _ _ _)) rfl (by rw[ad];rfl);exact zAt (zJE (l:=zBU x) underlying69 underlying5 underlying9 aj am rfl qD) (Ext.refl _) rfl
  refine DagSteps.cons (fun s' w' X U H=>Or.inl ⟨?_,?_⟩) ?_
  ·exact zAL rfl
  ·have al:s' 12=(.string (strOfNums (zBU x))):=H 7 rfl 12 (.eq (.string (strOfNums (zBU x)))) rfl (by rw[ad];rfl);exact zAt (zEp al) (Ext.refl _) rfl
  exact DagSteps.nil
 ·intro s' w1 X1 U H;obtain ⟨j1,rfl⟩:=zAz.out (σ:=s') (l:=[(4,(.string (strOfNums (zBU x))))]) ⟨(show s' 4=(.string (strOfNums (zBU x))) from H 8 4 (.eq (.string (strOfNums (zBU x)))) rfl (by rw[ad];rfl)),trivial⟩;clear U H;replace hW:=X1.keep hW;replace hD:=X1.keep hD;replace E:=E.ext X1;refine zAC (zAV (zAY results109 (v:=(.string (strOfNums (zBU x)))) rfl ?_));exact ⟨by unfold zDG;simp,E⟩
theorem zKf (w0:World) (base n:Nat) (a:Option Addr) (c:Nat) (xs:List Int) (x:Int) (hv:w0.ownsRow base TU8 1 (.slice a n c) n (xs.map (Value.int .u8))) (hb:base≤w0.heap.size) (hn:n≤1000000) (hxn:n=xs.length) (hx : -1≤x∧x<2147483648) :
  Ret prog 108 #[.slice a n c,.int .i64 x] w0 fun r w=>zOj base (n+4) (xs++zBU x) r w∧Chg (fun y=>(Value.slice a n c).ownBlock=some y) w0 w:=
 (zOz w0 base n (.slice a n c) xs x hv hb hn hxn hx).mono fun r w ⟨⟨a,c,h1⟩,h2,h3⟩=>by
  subst h1;exact ⟨⟨a,c,rfl,h2⟩,h3⟩
theorem zJt (c:Nat) (d:Dfa) (p:List Int) (s:Nat):zDG (zDM c d p s)=strOfNums (zBU (ptD p s)++((List.range c).map fun x=>ptD p (toD d s x)).flatMap zBU):=by
 unfold zDG zDM;rw[List.flatMap_cons]
theorem zJl {n:Nat} {p:List Int} (hp:∀x∈p,-1≤x∧x<(n:Int)) (hn:n≤20000) (s:Int) : -1≤ptD p s∧ptD p s<2147483648:=by
  unfold ptD;split
  · omega
  · rw[List.getD_eq_getElem?_getD];cases h:p[s.toNat]? with
    | none=>simp
    | some x=>have:=hp x (List.mem_of_getElem? h);simp;omega
theorem zWF (w0:World) (bw bo bd n c pb pc:Nat) (d:Dfa) (dv:List Value) (p:List Int) (s:Nat) (ok:OkD n c d) (hW:Blk w0 bw #[.func (.func 108) #[] #[]] 143) (hO:Blk w0 bo #[.slice (some ⟨pb,0,none⟩) n pc] 22) (hD:Blk w0 bd dv.toArray 34) (h:zBk w0 d dv)
  (hP:zBZ w0 (.slice (some ⟨pb,0,none⟩) n pc) p) (hpl:p.length=n) (hpr:∀x∈p,-1≤x∧x<(n:Int)) (hs:s<n) (hn:n≤20000∧c≤16) :
  Ret prog 110 #[.int .i64 ((s:Nat):Int),.pointer (some ⟨bw,0,none⟩),.pointer (some ⟨bo,0,none⟩),.pointer (some ⟨bd,0,none⟩)] w0 fun r w=>r=.string (zDG (zDM c d p s))∧Ext w0 w:=by
 obtain ⟨aa,ac,na,nc,rfl,bu,al⟩:=h;have bp:=ok.nl;rw[bp] at al hD;obtain ⟨nb,no,rfl,bj⟩:=zBs (n:=n) al qO;obtain ⟨row,ah⟩:=zAN (l:=d.next) (i:=s) qO;have hrl:=(ok.row row (List.mem_of_getElem? ah)).1;obtain ⟨ra,rc,ai,az⟩:=bj s row ah;obtain ⟨af,ag⟩:=zAN (l:=p) (i:=s) qO;have aw:=zCN ag;obtain ⟨pb',po',av,ao⟩:=zBG (n:=n) hP qO;simp only[Option.some.injEq,Addr.mk.injEq,and_true] at av;obtain ⟨rfl,rfl⟩:=av;obtain ⟨ab,ax⟩:∃ab,ab=w0.heap.size:=⟨_,rfl⟩;have hpb:pb<w0.heap.size:=World.block_lt_of_cell? w0 _ (ao s af ag);have hbw:=hW.lt;have hbo:=hO.lt;have hbd:=hD.lt;refine qR func110 rfl ntmps110 rfl (fun E=>(zAA (qA _ rfl (zAB (zAH ?_)))));obtain ⟨bm,ad⟩:∃Fs:List Fact,Fs=[.eq (.func (.func 108) #[] #[]),.eq (.slice (some ⟨pb,0,none⟩) n pc),.eq (I6 (s:Int)),.eq (.pointer (some ⟨pb,0+s,none⟩)),.eq (I6 af),.gen (zOj ab 4 (zBU af)) (zDo _ _ _),.gen (zOj ab 4 (zBU af)) (zDo _ _ _)]:=⟨_,rfl⟩;refine zLt [9,10,11,12,13,14,6] [[],[],[],[1,2],[3],[0,4],[0,1,2,3,4,5]] bm ad mixed qK qK ?_ ?_
 ·intro wd X0;refine DagSteps.cons (fun s' w' X U H=>Or.inl ⟨?_,?_⟩) ?_
  ·exact zAL rfl
  ·exact zAt (zAI (U 1 rfl) zKF (((X0.trans X).keep hW).cell rfl)) (Ext.refl _) rfl
  refine DagSteps.cons (fun s' w' X U H=>Or.inl ⟨?_,?_⟩) ?_
  ·exact zAL rfl
  ·exact zAt (zAI (U 2 rfl) zBP (((X0.trans X).keep hO).cell rfl)) (Ext.refl _) rfl
  refine DagSteps.cons (fun s' w' X U H=>Or.inl ⟨?_,?_⟩) ?_
  ·exact zAL rfl
  ·exact zAt (zAl (U 0 rfl)) (Ext.refl _) rfl
  refine DagSteps.cons (fun s' w' X U H=>Or.inl ⟨?_,?_⟩) ?_
  ·exact zAL rfl
  ·have bg:s' 10=(.slice (some ⟨pb,0,none⟩) n pc):=H 1 rfl 10 (.eq (.slice (some ⟨pb,0,none⟩) n pc)) rfl (by rw[ad];rfl);have bi:s' 11=(.int .i64 ((s:Nat):Int)):=H 2 rfl 11 (.eq (.int .i64 ((s:Nat):Int))) rfl (by rw[ad];rfl);exact zAt (zAD (i:=s) bg bi rfl underlying22 zAy qO qO) (Ext.refl _) rfl
  refine DagSteps.cons (fun s' w' X U H=>Or.inl ⟨?_,?_⟩) ?_
  ·exact zAL rfl
  ·have a0:s' 12=(.pointer (some ⟨pb,0+s,none⟩)):=H 3 rfl 12 (.eq (.pointer (some ⟨pb,0+s,none⟩))) rfl (by rw[ad];rfl);exact zAt (zAI a0 zAo ((Chg.ext E (X0.trans X)).cell (fun f=>f) (ao s af ag))) (Ext.refl _) rfl
  refine DagSteps.cons (fun s' w' X U H=>Or.inl ⟨?_,?_⟩) ?_
  ·exact zAL rfl
  ·have bv:s' 13=(.int .i64 af):=H 4 rfl 13 (.eq (.int .i64 af)) rfl (by rw[ad];rfl);have e9:s' 9=(.func (.func 108) #[] #[]):=H 0 rfl 9 (.eq (.func (.func 108) #[] #[])) rfl (by rw[ad];rfl);exact zCg (zDL e9 func108 kQ kQ (zOu rfl bv) rfl) (zKg _ ab af (by have:=X0.size;have:=X.size;omega) (by rw[←aw];exact zJl hpr hn.1 _))
  refine DagSteps.cons (fun s' w' X U H=>Or.inl ⟨?_,?_⟩) ?_
  ·exact zAL rfl
  ·obtain ⟨br,bh,a8,bx⟩:=H 5 rfl 14 (.gen (zOj ab 4 (zBU af)) (zDo _ _ _)) rfl (by rw[ad];rfl);exact zAt (zEp a8) (Ext.refl _) ⟨br,bh,rfl,bx⟩
  exact DagSteps.nil
 ·intro s' w1 X1 U H;obtain ⟨a6,c6,e6,O6⟩:=H 6 6 (.gen (zOj ab 4 (zBU af)) (zDo _ _ _)) rfl (by rw[ad];rfl);obtain ⟨j1,rfl⟩:=zAz.out (σ:=s') (l:=[(0,(.int .i64 ((s:Nat):Int))),(1,(.pointer (some ⟨bw,0,none⟩))),(2,(.pointer (some ⟨bo,0,none⟩))),(3,(.pointer (some ⟨bd,0,none⟩))),(6,(.slice a6 4 c6))]) ⟨U 0 rfl,U 1 rfl,U 2 rfl,U 3 rfl,e6,trivial⟩;clear U H;replace hW:=X1.keep hW;replace hO:=X1.keep hO;replace hD:=X1.keep hD;replace E:=E.ext X1;refine zAC (zAH (zAA (qF bd 0 2 rfl underlying34 rfl zBu rfl (qV (zAI rfl zBi (hD.cell rfl)) (qM _ rfl (qV (zAD (b:=nb) (o:=no) (len:=n) (cap:=nc) (i:=s) (o':=no+s) rfl rfl rfl underlying32 zBL qO qO) (qV (zAI rfl zBP (E.cell (fun f=>f) ai)) ?_)))))));have a4:ab≤(w1).heap.size:=by have:=E.size;omega
  refine qV (zAJ underlying22 rfl) (qM _ rfl (zAB (zAS (zAp (fun nn_ σ W2=>∃(k:Nat) (xs:List Int) (ba:Option Addr) (bc bn:Nat),(∃jj_,σ=zCT jj_ [(1,(P6 bw 0)),(2,(P6 bo 0)),(19,(.slice ra row.length rc)),(20,(I6 (row.length:Int))),(21,(I6 (k:Int))),(6,(.slice ba bn bc))])∧Chg zAh w0 W2∧Blk W2 bw #[(.func (.func 108) #[] #[])] 143∧Blk W2 bo #[(.slice (some ⟨pb,0,none⟩) n pc)] 22∧Blk W2 bd #[(I6 d.start),(.slice aa d.accept.length ac),(.slice (some ⟨nb,no,none⟩) n nc)] 34∧(k≤c)∧(xs=zBU (ptD p s)++((List.range k).map fun x=>ptD p (toD d s x)).flatMap zBU)∧(xs.length=4*(k+1))∧(bn=xs.length)∧(W2.ownsRow ab TU8 1 (.slice ba bn bc) bn (xs.map (Value.int .u8)))∧(ab≤W2.heap.size)∧nn_=c - k) (n:=c - 0) ?_ ?_))))
  ·exact ⟨0,zBU af,a6,c6,4,zAz.out ⟨rfl,rfl,rfl,rfl,rfl,rfl,trivial⟩,E,hW,hO,hD,Nat.zero_le _,(by rw[aw];simp),rfl,rfl,O6,a4,rfl⟩
  ·clear E hW hO hD;rintro _ _ W2 ⟨k,xs,ba,bc,bn,⟨j2,rfl⟩,E,hW,hO,hD,hk,ar,hbl,ap,hw,an,rfl⟩;refine zAA (qV (zBF rfl rfl) (zAB (zAH (qC rfl (fun bk=>?_) (fun bk=>?_)))))
   ·obtain ⟨x,hx⟩:=zAN (l:=row) (i:=k) qO;obtain ⟨rb,ro,rfl,be⟩:=zBG az qO;obtain ⟨bb,hkc,_,hxl,hxh⟩:=zMB ok ah hx;have ak:∀y,y=ptD p x→xs++zBU y=zBU (ptD p s)++((List.range (k+1)).map fun x=>ptD p (toD d s x)).flatMap zBU:=fun y hy=>by rw[List.range_succ,List.map_append,List.flatMap_append,ar,List.append_assoc,hy,←bb];simp
    refine zAO (zAC (zAH (zAS (zAA (qV (zAD (b:=rb) (o:=ro) (len:=row.length) (cap:=rc) (i:=k) (o':=ro+k) rfl rfl rfl underlying22 zAy qO qO) (qV (zAI rfl zAo (E.cell (fun f=>f) (be k x hx))) (qA _ rfl (zAB (zAA (qM _ rfl (qV (zBF rfl rfl) (zAB (qC rfl (fun aj=>?_) (fun aj=>?_))))))))))))))
    ·refine zAF (qV (zAI rfl zKF (hW.cell rfl)) (qM _ rfl (qE rfl (zDL rfl func108 kQ kQ rfl rfl) (zKf _ ab bn ba bc xs (-1) hw an qO ap qO) ?_)));rintro _ w9 ⟨⟨a2,c2,rfl,O9⟩,C9⟩;replace hW:=C9.keep (fun h=>by have:=(hw.lt _ h).1;omega) hW;replace hO:=C9.keep (fun h=>by have:=(hw.lt _ h).1;omega) hO;replace hD:=C9.keep (fun h=>by have:=(hw.lt _ h).1;omega) hD;replace E:=E.step C9 (fun x hx h=>absurd (hw.lt x h).1 qO);refine qA _ rfl (zAB (zAR (zAC (zAF (qV (zAv rfl rfl (zBb qO)) (qM _ rfl (zAB (zAC ?_))))))));exact ⟨c - (k+1),qO,k+1,xs++zBU (-1),a2,c2,bn+4,zAz.out ⟨rfl,rfl,rfl,rfl,rfl,rfl,trivial⟩,E,hW,hO,hD,qO,ak _ (zMN aj).symm,(by simp[zBU];omega),(by simp[zBU];omega),O9,Nat.le_trans an C9.size,rfl⟩
    ·obtain ⟨t,ht⟩:=Int.eq_ofNat_of_zero_le (show 0≤x by omega);obtain ⟨pt,au⟩:=zAN (l:=p) (i:=t) qO;have am:pt=ptD p x:=by rw[ht];exact (zCN au).symm
     obtain ⟨bf,ae⟩:∃Fs:List (FactT ((fun y=>(Value.slice ba bn bc).ownBlock=some y))),Fs=[.eq (.func (.func 108) #[] #[]),.eq (.slice ba bn bc),.eq (.slice (some ⟨pb,0,none⟩) n pc),.eq (I6 x),.eq (.pointer (some ⟨pb,0+t,none⟩)),.eq (I6 pt),.own (zOj ab (bn+4) (xs++zBU pt)) (zDo _ _ _)]:=⟨_,rfl⟩;refine zIV ((fun y=>(Value.slice ba bn bc).ownBlock=some y)) 7 6 [30,31,32,33,34,35,36] [[],[],[],[],[2,3],[4],[0,1,5]] bf ae rfl mixed qK qK qK ?_ ?_
     ·intro wd X0;refine DagStepsT.cons (fun s' w' X U H=>?_) ?_
      ·exact zAX (zAI (U 1 rfl) zKF ((Chg.keep X (fun f=>f) (X0.keep hW)).cell rfl)) (Chg.refl _ _) rfl
      refine DagStepsT.cons (fun s' w' X U H=>?_) ?_
      ·exact zAX (zAl (U 6 rfl)) (Chg.refl _ _) rfl
      refine DagStepsT.cons (fun s' w' X U H=>?_) ?_
      ·exact zAX (zAI (U 2 rfl) zBP ((Chg.keep X (fun h=>by have:=(hw.lt _ h).1;omega) (X0.keep hO)).cell rfl)) (Chg.refl _ _) rfl
      refine DagStepsT.cons (fun s' w' X U H=>?_) ?_
      ·exact zAX (zAl (U 8 rfl)) (Chg.refl _ _) rfl
      refine DagStepsT.cons (fun s' w' X U H=>?_) ?_
      ·have bt:s' 32=(.slice (some ⟨pb,0,none⟩) n pc):=H 2 rfl 32 (.eq (.slice (some ⟨pb,0,none⟩) n pc)) rfl (by rw[ae];rfl);have a9:s' 33=(.int .i64 x):=H 3 rfl 33 (.eq (.int .i64 x)) rfl (by rw[ae];rfl);exact zAX (zAD (i:=t) bt a9 qO underlying22 zAy qO qO) (Chg.refl _ _) rfl
      refine DagStepsT.cons (fun s' w' X U H=>?_) ?_
      ·have a1:s' 34=(.pointer (some ⟨pb,0+t,none⟩)):=H 4 rfl 34 (.eq (.pointer (some ⟨pb,0+t,none⟩))) rfl (by rw[ae];rfl);exact zAX (zAI a1 zAo (Ext.cell X (Ext.cell X0 (E.cell (fun f=>f) (ao t pt au))))) (Chg.refl _ _) rfl
      refine DagStepsT.cons (fun s' w' X U H=>?_) ?_
      ·have b0:s' 31=(.slice ba bn bc):=H 1 rfl 31 (.eq (.slice ba bn bc)) rfl (by rw[ae];rfl);have a7:s' 35=(.int .i64 pt):=H 5 rfl 35 (.eq (.int .i64 pt)) rfl (by rw[ae];rfl);have bz:s' 30=(.func (.func 108) #[] #[]):=H 0 rfl 30 (.eq (.func (.func 108) #[] #[])) rfl (by rw[ae];rfl);exact zCt (zDL bz func108 kQ kQ (zOu b0 a7) rfl) (zKf _ ab bn ba bc xs pt (zAj (zAj hw X0) X) (by have:=X0.size;have:=X.size;omega) qO ap (by rw[am];exact zJl hpr hn.1 _))
      exact DagStepsT.nil
     ·intro s' wd5 w5 X0 X5 U H;obtain ⟨ay,aq,a5,a3⟩:=(show (.own (zOj ab (bn+4) (xs++zBU pt)) (zDo _ _ _):FactT ((fun y=>(Value.slice ba bn bc).ownBlock=some y))).In (s' 36) w5 from H 6 36 (.own (zOj ab (bn+4) (xs++zBU pt)) (zDo _ _ _)) rfl (by rw[ae];rfl));obtain ⟨j5,rfl⟩:=zAz.out (σ:=s') (l:=[(1,(.pointer (some ⟨bw,0,none⟩))),(2,(.pointer (some ⟨bo,0,none⟩))),(19,(.slice (some ⟨rb,ro,none⟩) row.length rc)),(20,(.int .i64 ((row.length:Nat):Int))),(21,(.int .i64 ((k:Nat):Int))),(36,(.slice ay (bn+4) aq))]) ⟨U 1 rfl,U 2 rfl,U 19 rfl,U 20 rfl,U 21 rfl,a5,trivial⟩;clear U H;replace hW:=Chg.keep X5 (fun h=>by have:=(hw.lt _ h).1;omega) (X0.keep hW);replace hO:=Chg.keep X5 (fun h=>by have:=(hw.lt _ h).1;omega) (X0.keep hO);replace hD:=Chg.keep X5 (fun h=>by have:=(hw.lt _ h).1;omega) (X0.keep hD);have bs:=Chg.trans (Ext.chg X0) X5;replace E:=(E.ext X0).step X5 (fun y hy h=>by have:=(hw.lt _ h).1;omega);refine qA _ rfl (zAB (zAR (zAC (zAF (qV (zAv rfl rfl (zBb qO)) (qM _ rfl (zAB (zAC ?_))))))));exact ⟨c - (k+1),qO,k+1,xs++zBU pt,ay,aq,bn+4,zAz.out ⟨rfl,rfl,rfl,rfl,rfl,rfl,trivial⟩,E,hW,hO,hD,qO,ak _ am,(by simp[zBU];omega),(by simp[zBU];omega),a3,Nat.le_trans an bs.size,rfl⟩
   ·have bq:k=c:=qO
    refine zAn (zAT (zAT (zAg (zAC (zAA (qM _ rfl (qV (zJE (l:=xs) underlying69 underlying5 underlying9 rfl hw ap.symm qO) (qA _ rfl (zAB (zAV (zAY results110 (v:=(.string (strOfNums xs))) rfl ?_)))))))))));exact ⟨by rw[zJt,←bq,←ar],E⟩
end Go.Proofs
namespace Go.Proofs
open Go Go.Eng Go.Sort
set_option maxRecDepth 100000
def zDy (M:List Bool) (keyf:Nat→List Int) (n:Nat):List (Option (List Int)):=(List.range n).map fun s=>if M[s]?=some true then some (keyf s) else none
theorem zHw (M:List Bool) (keyf:Nat→List Int) (n:Nat):zDy M keyf (n+1)=zDy M keyf n++[if M[n]?=some true then some (keyf n) else none]:=by
 unfold zDy;rw[List.range_succ,List.map_append];rfl
theorem zRx {ks:List (List Int)} {k:List Int} {j:Nat} (hk:∀k∈ks,okK k) (hd:ks.Nodup) (hj:ks[j]?=some k):zBr (zDN ks 0) (zDG k)=some ((j:Nat):Int):=by
 have hm:=List.mem_of_getElem? hj;have h1:=zEA.2 (zHy (n:=0) hm);obtain ⟨v,hv⟩:=Option.isSome_iff_exists.1 h1;obtain ⟨i,rfl,hi⟩:=zLI hk (hk k hm) hv;have a:=zAE hi;have b:=zAE hj;rw[List.getElem?_eq_getElem a] at hi;rw[List.getElem?_eq_getElem b] at hj;have e:=(Option.some.inj hi).trans (Option.some.inj hj).symm;have:i=j:=by
  rcases Nat.lt_trichotomy i j with h5|h5|h5
  ·exact absurd e (List.pairwise_iff_getElem.1 hd i j a b h5)
  ·exact h5
  ·exact absurd e.symm (List.pairwise_iff_getElem.1 hd j i b a h5)
 rw[hv,this]
theorem zCX {L:List Int} {k:Nat} (x:Int):((L.map (Value.int .i64)).toArray).setIfInBounds (0+k) (.int .i64 x)=((L.set k x).map (Value.int .i64)).toArray:=by
 apply Array.ext';rw[Array.toList_setIfInBounds,Nat.zero_add,←List.map_set]
theorem zBt {L:List Int} {s:Nat} {x:Int} (hs:s<L.length):(L.set s x).take (s+1)=L.take s++[x]:=by
 rw[List.take_add_one,List.getElem?_set,if_pos rfl,if_pos hs,List.take_set_of_le (Nat.le_refl s)];rfl
theorem zRm {M:List Bool} {keyf:Nat→List Int} {s j:Nat} {ks ks1:List (List Int)} {out:List Int} (hN:Num (zDy M keyf s) ks out) (hq:M[s]?=some true) (hk:ks1=ks∨(keyf s∉ks∧ks1=ks++[keyf s]∧j=ks.length)) (hj:ks1[j]?=some (keyf s)):Num (zDy M keyf (s+1)) ks1 (out++[((j:Nat):Int)]):=by
 rw[zHw,if_pos hq];rcases hk with h1|⟨h1,h2,h3⟩
 ·subst h1;exact hN.hit hj
 ·subst h2;subst h3;exact hN.new h1
theorem zRk {ks ks1:List (List Int)} {x:List Int} {j:Nat} (hks:∀k∈ks,okK k) (hx:okK x) (hk:ks1=ks∨(x∉ks∧ks1=ks++[x]∧j=ks.length)):∀k∈ks1,okK k:=by
 intro k h;rcases hk with h1|⟨_,h2,_⟩
 ·subst h1;exact hks k h
 ·subst h2;rcases List.mem_append.1 h with h3|h3
  ·exact hks k h3
  ·rw[List.mem_singleton] at h3;subst h3;exact hx
theorem zTJ (w0:World) (bp blv lb bc n pc:Nat) (pa:Option Addr) (fv:Value) (cnt0:Int) (M:List Bool) (keyf:Nat→List Int)
  (hP:Blk w0 bp #[.slice pa n pc] 22) (hV:Blk w0 blv #[.slice (some ⟨lb,0,none⟩) n n] 139) (hB:Blk w0 lb (M.map Value.bool).toArray 4) (hC:Blk w0 bc #[.int .i64 cnt0] 3)
  (hdis:bp≠blv∧bp≠lb∧bp≠bc∧bc≠blv∧bc≠lb) (hMl:M.length=n) (hn:n≤20000)
  (hkey:∀(w:World) (s:Nat),s<n→M[s]?=some true→Ext w0 w→zCG prog fv #[.int .i64 ((s:Nat):Int)] w fun r w'=>r=.string (zDG (keyf s))∧Ext w w')
  (hok:∀s,s<n→M[s]?=some true→okK (keyf s)) :
  Ret prog 107 #[fv,.pointer (some ⟨bp,0,none⟩),.pointer (some ⟨blv,0,none⟩),.pointer (some ⟨bc,0,none⟩)] w0 fun r w=>r=.tuple #[]∧(∃q ks b,Num (zDy M keyf n) ks q∧Blk w bp #[.slice (some ⟨b,0,none⟩) n n] 22∧Blk w b (q.map (Value.int .i64)).toArray 3∧w0.heap.size≤b∧Blk w bc #[.int .i64 ((ks.length:Nat):Int)] 3)∧Chg (fun y=>y=bp∨y=bc) w0 w:=by
 have l1:=hP.lt;have l2:=hV.lt;have l3:=hB.lt;have l4:=hC.lt;obtain ⟨d1,d2,d3,d4,d5⟩:=hdis;refine zDc func107 rfl ntmps107 (leT rfl) ?_;have E:Chg (fun y=>y=bp∨y=bc) w0 w0:=Chg.refl _ _;have E9:Chg zAh w0 w0:=Chg.refl _ _;refine zAA (zEW zKa zEz qD ?_);intro bm wm Nm;have Fm:=Nm.ge E;have Fm_E9:=Nm.ge E9;have Om_bp:=Nm.lt hP;have Om_blv:=Nm.lt hV;have Om_lb:=Nm.lt hB;have Om_bc:=Nm.lt hC;replace hP:=Nm.keep hP;replace hV:=Nm.keep hV;replace hB:=Nm.keep hB;replace hC:=Nm.keep hC;replace E:=E.ext Nm.ext;replace E9:=E9.ext Nm.ext;intro Mm;refine qA _ rfl (zAB (zAA (qV (zAI rfl zBP (hP.cell rfl)) (qV (zAJ underlying22 rfl) (zEx (n:=n) (z:=(I6 0)) (bytes:=8) qD underlying22 zAy zJU zDI rfl rfl rfl qO qO ?_)))));intro bq wq Nq;have Fq:=Nq.ge E;have Fq_E9:=Nq.ge E9;have Oq_bp:=Nq.lt hP;have Oq_blv:=Nq.lt hV;have Oq_lb:=Nq.lt hB;have Oq_bc:=Nq.lt hC;have Oq_bm:=Nq.ltM Mm;replace hP:=Nq.keep hP;replace hV:=Nq.keep hV;replace hB:=Nq.keep hB;replace hC:=Nq.keep hC;replace Mm:=Nq.keepM Mm;replace E:=E.ext Nq.ext;have Bq:=Nq.blk;replace E9:=E9.ext Nq.ext;refine qA _ rfl (zAB (zAH (zAA (qV (zAI rfl zBP (hP.cell rfl)) (qV (zAJ underlying22 rfl) (qM _ rfl (zAB (zAS ?_))))))));rw[show List.replicate n (Value.int .i64 0)=(List.replicate n (0:Int)).map (Value.int .i64) by simp] at Bq;refine zAp (fun nn_ σ W1=>∃(s:Nat) (ks:List (List Int)) (L:List Int),(∃jj_,σ=zCT jj_ [(0,fv),(1,(P6 bp 0)),(2,(P6 blv 0)),(3,(P6 bc 0)),(5,(.map (some bm))),(6,(.slice (some ⟨bq,0,none⟩) n n)),(16,(I6 (n:Int))),(17,(I6 (s:Int)))])∧Chg (fun y=>y=bp∨y=bc) w0 W1∧Chg zAh w0 W1∧Blk W1 bp #[(.slice pa n pc)] 22∧Blk W1 blv #[(.slice (some ⟨lb,0,none⟩) n n)] 139∧Blk W1 lb ((M.map Value.bool).toArray) 4∧Blk W1 bc #[(I6 cnt0)] 3∧zCC W1 bm zKa zEz (zDN ks 0)∧Blk W1 bq ((L.map (Value.int .i64)).toArray) 3∧(s≤n)∧(L.length=n)∧(Num (zDy M keyf s) ks (L.take s))∧(∀k∈ks,okK k)∧nn_=n - s) (n:=n - 0) ?_ ?_
 ·exact ⟨0,[],List.replicate n 0,zAz.out ⟨rfl,rfl,rfl,rfl,rfl,rfl,rfl,rfl,trivial⟩,E,E9,hP,hV,hB,hC,Mm,Bq,Nat.zero_le _,qP,Num.start,(fun k h=>absurd h List.not_mem_nil),rfl⟩
 ·clear E E9 hP hV hB hC Mm Bq;rintro _ _ W1 ⟨s,ks,L,⟨j1,rfl⟩,E,E9,hP,hV,hB,hC,Mm,Bq,hs,ah,hN,an,rfl⟩;refine zAA (qV (zBF rfl rfl) (zAB (zAH (qC rfl (fun av=>?_) (fun av=>?_)))))
  ·obtain ⟨q,hq⟩:=zAN (l:=M) (i:=s) qO;have aw:=zBt (L:=L) (s:=s) (x:=-1) qO;refine zAO (zAC (zAH (zAS (zAA (qM _ rfl (qA _ rfl (zAB (zAH (zAA (qM _ rfl (qM _ rfl (qV (zAD (b:=bq) (o:=0) (len:=n) (cap:=n) (i:=s) (o':=0+s) rfl rfl rfl underlying22 zAy qO qO) (zBC (b:=bq) (o:=0+s) (c':=((L.set s (-1)).map (Value.int .i64)).toArray) (v:=(I6 (-1))) rfl rfl rfl zAy Bq (by simp;omega) (zCX _) ?_)))))))))))));intro w3 S3;replace hP:=S3.keep qO hP;replace hV:=S3.keep qO hV;replace hB:=S3.keep qO hB;replace hC:=S3.keep qO hC;replace Mm:=S3.keepM qO Mm;replace E:=S3.step E qQ;replace E9:=S3.step E9 (Or.inl qO);replace Bq:=S3.blk;refine zAB (zAA (qV (zAI rfl zUc (hV.cell rfl)) (qM _ rfl (qV (zAD (b:=lb) (o:=0) (len:=n) (cap:=n) (i:=s) (o':=0+s) rfl rfl rfl underlying139 zTB qO qO) (qV (zAI (v:=(.bool q)) rfl zKE (hB.cell (by simp[hq]))) (qV (zCa rfl) (zAB (zBD rfl (fun ab=>?_) (fun ab=>?_)))))))))
   ·have am:=ab;replace ab:=by simpa using ab
    refine zAn (zAT (zAg (zAC (zAF (qV (zAv rfl rfl (zBb qO)) (qM _ rfl (zAB (zAC ?_))))))));exact ⟨n - (s+1),qO,s+1,ks,L.set s (-1),zAz.out ⟨rfl,rfl,rfl,rfl,rfl,rfl,rfl,rfl,trivial⟩,E,E9,hP,hV,hB,hC,Mm,Bq,qO,(by simp[ah]),(by rw[zHw,aw,if_neg (by rw[hq,ab];simp)];exact hN.none),an,rfl⟩
   ·have am:=ab;replace ab:=by simpa using ab
    have ao:M[s]?=some true:=by rw[hq];simpa using ab
    have ag:=hok s qO ao;refine zAO (zAC (zAA (qM _ rfl (qM _ rfl (zDD qD rfl rfl (hkey _ s qO ao E9) ?_)))));rintro _ w9 ⟨rfl,X9⟩;replace hP:=X9.keep hP;replace hV:=X9.keep hV;replace hB:=X9.keep hB;replace hC:=X9.keep hC;replace Mm:=X9.keepM Mm;replace Bq:=X9.keep Bq;replace E:=E.ext X9;replace E9:=E9.ext X9;refine qA _ rfl (zAB (zGU (fun σ W5=>∃(ac:List (List Int)) (j:Nat),(∃jj_,σ=zCT jj_ [(0,fv),(1,(P6 bp 0)),(2,(P6 blv 0)),(3,(P6 bc 0)),(5,(.map (some bm))),(6,(.slice (some ⟨bq,0,none⟩) n n)),(7,(I6 (s:Int))),(8,(.string (zDG (keyf s)))),(16,(I6 (n:Int))),(17,(I6 (s:Int)))])∧Chg (fun y=>y=bp∨y=bc) w0 W5∧Chg zAh w0 W5∧Blk W5 bp #[(.slice pa n pc)] 22∧Blk W5 blv #[(.slice (some ⟨lb,0,none⟩) n n)] 139∧Blk W5 lb ((M.map Value.bool).toArray) 4∧Blk W5 bc #[(I6 cnt0)] 3∧zCC W5 bm zKa zEz (zDN ac 0)∧Blk W5 bq (((L.set s (-1)).map (Value.int .i64)).toArray) 3∧((ac=ks∨(keyf s∉ks∧ac=ks++[keyf s]∧j=ks.length)))∧(ac[j]?=some (keyf s))) ?_ ?_))
    ·skip
     refine zAA (qM _ rfl (qM _ rfl (zBo (v:=(.tuple #[(I6 ((zBr (zDN ks 0) (zDG (keyf s))).getD 0)),(.bool ((zBr (zDN ks 0) (zDG (keyf s))).isSome))])) rfl rfl qD (zEY (k:=(zDG (keyf s))) (z:=0) underlying80 (zHF underlying9) zDI Mm rfl rfl) (qM _ rfl (qV (zAa rfl rfl) (qV (zAa rfl rfl) (qA _ rfl (qA _ rfl (zAB (zAA (qM _ rfl (qV (zCa rfl) (zAB (zBD rfl (fun aa=>?_) (fun aa=>?_)))))))))))))))
     ·have ae:=aa;replace aa:=by simpa using aa
      have a0:zBr (zDN ks 0) (zDG (keyf s))=none:=by simpa using aa
      obtain ⟨ai,aj⟩:=zOR a0;have al:=zHx ks 0;refine zAF (qM _ rfl (qM _ rfl (qM _ rfl (zBo (v:=(I6 (((zDN ks 0).length:Nat):Int))) rfl rfl qD (zNC underlying80 Mm rfl) (zDJ (k:=(zDG (keyf s))) (v:=(((zDN ks 0).length:Nat):Int)) underlying80 (zHF underlying9) Mm rfl rfl rfl ?_)))));intro w7 S7 H7;replace hP:=S7.keep qO hP;replace hV:=S7.keep qO hV;replace hB:=S7.keep qO hB;replace hC:=S7.keep qO hC;replace Bq:=S7.keep qO Bq;replace E:=S7.step E qQ;replace E9:=S7.step E9 (Or.inl qO);replace Mm:=H7;refine zAB (zAC ?_);rw[al,aj] at Mm;exact ⟨ks++[keyf s],ks.length,zAz.out ⟨rfl,rfl,rfl,rfl,rfl,rfl,rfl,rfl,rfl,rfl,trivial⟩,E,E9,hP,hV,hB,hC,Mm,Bq,.inr ⟨ai,rfl,rfl⟩,qP⟩
     ·have ae:=aa;replace aa:=by simpa using aa
      have ax:(zBr (zDN ks 0) (zDG (keyf s))).isSome=true:=by simpa using aa
      obtain ⟨v9,az⟩:=Option.isSome_iff_exists.1 ax;obtain ⟨j9,rfl,au⟩:=zLI an ag az;refine zAO (zAC ?_);exact ⟨ks,j9,zAz.out ⟨rfl,rfl,rfl,rfl,rfl,rfl,rfl,rfl,rfl,rfl,trivial⟩,E,E9,hP,hV,hB,hC,Mm,Bq,.inl rfl,au⟩
    ·clear E E9 hP hV hB hC Mm Bq;rintro _ W5 ⟨ac,j,⟨j5,rfl⟩,E,E9,hP,hV,hB,hC,Mm,Bq,ar,ap⟩;have aq:=zRm hN ao ar ap;have af:=zRk an ag ar;have a1:=zRx af aq.nd ap;have ak:=zBt (L:=L.set s (-1)) (s:=s) (x:=((j:Nat):Int)) (by simp;omega);refine zAF (qM _ rfl (qM _ rfl (qM _ rfl (qM _ rfl (zBo (v:=(I6 ((zBr (zDN ac 0) (zDG (keyf s))).getD 0))) rfl rfl qD (zRa (k:=(zDG (keyf s))) (z:=0) underlying80 (zHF underlying9) zDI Mm rfl rfl) (qV (zAD (b:=bq) (o:=0) (len:=n) (cap:=n) (i:=s) (o':=0+s) rfl rfl rfl underlying22 zAy qO qO) (zBC (b:=bq) (o:=0+s) (c':=(((L.set s (-1)).set s (j:Int)).map (Value.int .i64)).toArray) (v:=(I6 ((zBr (zDN ac 0) (zDG (keyf s))).getD 0))) rfl rfl rfl zAy Bq (by simp;omega) (by rw[a1];exact zCX _) ?_)))))));intro w8 S8;replace hP:=S8.keep qO hP;replace hV:=S8.keep qO hV;replace hB:=S8.keep qO hB;replace hC:=S8.keep qO hC;replace Mm:=S8.keepM qO Mm;replace E:=S8.step E qQ;replace E9:=S8.step E9 (Or.inl qO);replace Bq:=S8.blk;refine zAB (zAR (zAC (zAF (qV (zAv rfl rfl (zBb qO)) (qM _ rfl (zAB (zAC ?_)))))));exact ⟨n - (s+1),qO,s+1,ac,(L.set s (-1)).set s ((j:Nat):Int),zAz.out ⟨rfl,rfl,rfl,rfl,rfl,rfl,rfl,rfl,trivial⟩,E,E9,hP,hV,hB,hC,Mm,Bq,qO,(by simp[ah]),(by rw[ak,List.take_set_of_le (Nat.le_refl s)];exact aq),af,rfl⟩
  ·have ay:s=n:=qO
   have a2:Num (zDy M keyf n) ks L:=by rw[ay,←ah,List.take_length] at hN;rw[←ah];exact hN
   have al:=zHx ks 0;refine zAn (zAT (zAT (zAg (zAC (zAF (qM _ rfl (qM _ rfl (zBo (v:=(I6 (((zDN ks 0).length:Nat):Int))) rfl rfl qD (zNC underlying80 Mm rfl) (zBC (b:=bp) (o:=0) (c':=#[(.slice (some ⟨bq,0,none⟩) n n)]) (v:=(.slice (some ⟨bq,0,none⟩) n n)) rfl rfl rfl zBL hP qP rfl ?_)))))))));intro w9 S9;replace hV:=S9.keep qO hV;replace hB:=S9.keep qO hB;replace hC:=S9.keep qO hC;replace Mm:=S9.keepM qO Mm;replace Bq:=S9.keep qO Bq;replace E:=S9.step E qQ;replace hP:=S9.blk;refine zBC (b:=bc) (o:=0) (c':=#[(I6 (((zDN ks 0).length:Nat):Int))]) (v:=(I6 (((zDN ks 0).length:Nat):Int))) rfl rfl rfl zAy hC qP rfl ?_;intro w10 ad;replace hP:=ad.keep qO hP;replace hV:=ad.keep qO hV;replace hB:=ad.keep qO hB;replace Mm:=ad.keepM qO Mm;replace Bq:=ad.keep qO Bq;replace E:=ad.step E qQ;replace hC:=ad.blk;refine zAB (zFW results107 ?_);rw[al] at hC;exact ⟨rfl,⟨L,ks,bq,a2,hP,Bq,qO,hC⟩,E⟩
end Go.Proofs
namespace Go.Proofs
open Go Go.Eng Go.Sort
set_option maxRecDepth 100000
theorem zFS {M:List Bool} {keyf:Nat→List Int} {n s:Nat} (hs:s<n):(zDy M keyf n)[s]?=some (if M[s]?=some true then some (keyf s) else none):=by
 unfold zDy;rw[List.getElem?_map,List.getElem?_range hs];rfl
theorem zNA {n c:Nat} {d:Dfa} {M:List Bool} {keyf:Nat→List Int} {ks:List (List Int)} {q:List Int} (hM:LiveOf n c d M) (hN:Num (zDy M keyf n) ks q)
  (ha:∀s t:Nat,s<n→t<n→zBX c d s→zBX c d t→keyf s=keyf t→atD d s=atD d t) (he:∀s t:Nat,s<n→t<n→zBX c d s→zBX c d t→zLy c d s t→keyf s=keyf t):Refd n c d q ks.length:=
 Refd.of_num hN (by unfold zDy;simp) (fun s hs h=>by rw[zFS hs,if_neg fun h1=>h ((hM.iff s hs).1 h1)]) (fun s hs h=>by rw[zFS hs,if_pos ((hM.iff s hs).2 h)]) ha he
theorem zPs {n c:Nat} {d:Dfa} {M:List Bool} {keyf:Nat→List Int} {ks:List (List Int)} {q:List Int} (hM:LiveOf n c d M) (hN:Num (zDy M keyf n) ks q):∀s t:Nat,s<n→t<n→zBX c d s→zBX c d t→(q[s]?=q[t]?↔keyf s=keyf t):=fun s t hs ht l1 l2=>
 hN.eq_iff (by rw[zFS hs,if_pos ((hM.iff s hs).2 l1)]) (by rw[zFS ht,if_pos ((hM.iff t ht).2 l2)])
theorem Refd.rng {n c cnt:Nat} {d:Dfa} {p:List Int} (h:Refd n c d p cnt):∀x∈p,-1≤x∧x<(n:Int):=by
 intro x hx;obtain ⟨s,hs⟩:=List.getElem?_of_mem hx;have aa:s<n:=by rw[←h.len];exact zAE hs
 have hc:=h.cnt_le;by_cases hl:zBX c d s
 ·obtain ⟨j,h1,h2⟩:=h.liv s aa hl;rw[hs] at h1;have:=Option.some.inj h1;omega
 ·have h1:=h.dead s aa hl;rw[hs] at h1;have:=Option.some.inj h1;omega
theorem Refd.next {n c cnt:Nat} {d:Dfa} {p q:List Int} {M:List Bool} {ks:List (List Int)} (ok:OkD n c d) (hM:LiveOf n c d M) (hp:Refd n c d p cnt) (hN:Num (zDy M (zDM c d p) n) ks q):Refd n c d q ks.length:=by
 refine zNA hM hN (fun s t hs ht l1 l2 h=>?_) fun s t hs ht l1 l2 h=>?_
 ·have h1:=(zEa.1 h).1;obtain ⟨a,h2,_⟩:=hp.liv s hs l1;obtain ⟨b,h3,_⟩:=hp.liv t ht l2;rw[zCN h2,zCN h3] at h1;exact hp.acc s t hs ht l1 l2 (by rw[h2,h3,h1])
 ·refine zEa.2 ⟨hp.ptEqv qO qO h,fun x hx=>hp.ptEqv ok.to ok.to (h.to hx)⟩
theorem Refd.finer {n c cnt:Nat} {d:Dfa} {p q:List Int} {M:List Bool} {ks:List (List Int)} (hM:LiveOf n c d M) (hp:Refd n c d p cnt) (hN:Num (zDy M (zDM c d p) n) ks q):∀s t:Nat,s<n→t<n→zBX c d s→zBX c d t→q[s]?=q[t]?→p[s]?=p[t]?:=fun s t hs ht l1 l2 h=>by
 have h1:=(zEa.1 ((zPs hM hN s t hs ht l1 l2).1 h)).1;obtain ⟨a,h2,_⟩:=hp.liv s hs l1;obtain ⟨b,h3,_⟩:=hp.liv t ht l2;rw[zCN h2,zCN h3] at h1;rw[h2,h3,h1]
theorem zRj {n c cnt:Nat} {d:Dfa} {p:List Int} (h:Refd n c d p cnt) (hn:n≤20000) (s:Nat):okK (zDM c d p s):=by
 intro x hx;unfold zDM at hx;rcases List.mem_cons.1 hx with h1|h1
 ·rw[h1];exact zJl h.rng hn _
 ·obtain ⟨y,_,h2⟩:=List.mem_map.1 h1;rw[←h2];exact zJl h.rng hn _
def zVJ (n0:Nat):Fct:=fun v w=>∃b,v=.pointer (some ⟨b,0,none⟩)∧n0≤b∧Blk w b #[.slice none 0 0] 22
theorem zJp (n0:Nat):∀v w w',Chg zAh w w'→zVJ n0 v w→zVJ n0 v w':=by
 rintro v w w' e ⟨b,h1,h2,h3⟩;exact ⟨b,h1,h2,Ext.keep e h3⟩
theorem zRE {N n0:Nat} {σ:Env} {w:World} {dst:Option Tmp} {ty:TypeId} {pos:String} {af:Array Edge} {g:Option (Nat×Bool)} (h0:n0≤w.heap.size):zCj zAh prog N ⟨dst,.alloc 22,ty,pos,af,g⟩ (zVJ n0) σ w:=by
 refine zAX (v:=.pointer (some ⟨w.heap.size,0,none⟩)) (w':={w with heap:=w.heap.push (.cells #[.slice none 0 0] 22 (0,0))}) ?_ (New.mk' w _ _).ext ⟨_,rfl,h0,(New.mk' w _ _).blk⟩;simp[execOp,Instr.alloc,(zEg).run,newVar,newRow,Value.cells]
theorem zEv {w:World} {b n:Nat} {p:List Int} {T:Nat} (h:Blk w b (p.map (Value.int .i64)).toArray T) (hn:p.length=n) (hl:n≤9223372036854775807:=by omega):zBZ w (.slice (some ⟨b,0,none⟩) n n) p:=by
 subst hn;rw[←zJM] at h;exact zFl p h hl (Nat.le_refl _)
theorem zIU {n c:Nat} {d:Dfa} (ok:OkD n c d) {s:Nat} (hs:s<n):d.accept[s]?=some (atD d ((s:Nat):Int)):=by
 have h1:d.accept[s]?=some (d.accept[s]'(by rw[ok.al];exact hs)):=List.getElem?_eq_getElem _;rw[h1,zEC h1]
theorem zUI (w0:World) (n c:Nat) (d:Dfa) (dv:List Value) (ok:OkD n c d) (h:zBk w0 d dv) (hn:n≤20000∧c≤16) (hac:∀x∈d.accept,x<2147483648) :
  Ret prog 73 #[.agg dv.toArray] w0 fun r w=>(∃q b,PartsOf n c d q∧r=.slice (some ⟨b,0,none⟩) n n∧w0.heap.size≤b∧Blk w b (q.map (Value.int .i64)).toArray 3)∧Ext w0 w:=by
 obtain ⟨dv0,ai⟩:∃x,x=dv:=⟨_,rfl⟩;have ae:=h;rw[←ai] at ae;obtain ⟨aa,ac,na,nc,rfl,bh,bb⟩:=h;have a8:=ok.nl;have a0:=ok.al;rw[a0,a8] at ai⊢;refine qR func73 rfl ntmps73 rfl (fun E=>(zAA (zBQ (v:=(.agg #[(I6 d.start),(.slice aa n ac),(.slice na n nc)])) (c:=#[(I6 d.start),(.slice aa n ac),(.slice na n nc)]) qD rfl rfl ?_)));intro bd wd Nd;have Fd:=Nd.ge E;replace E:=E.ext Nd.ext;have Bd:=Nd.blk;refine qA _ rfl (zAB (zAA (qV (zAK (vs:=[(I6 d.start),(.slice aa n ac),(.slice na n nc)]) rfl zAx zAe rfl (Bd.cells rfl)) (qE rfl (zAQ func106 kQ kQ rfl) (zWD _ n c d _ ok (by rw[ai] at ae;exact ae.ext E) hn) ?_))));rintro _ w9 ⟨⟨M,lb,hM,rfl,hlb,ab⟩,X9⟩;replace Bd:=X9.keep Bd;replace E:=E.ext X9;have az:=ab.lt;have ax:∀w,Ext w0 w→zBk w d [.int .i64 d.start,.slice aa n ac,.slice na n nc]:=fun w e=>by rw[ai] at ae;exact ae.ext e
 refine zAd (v:=(.slice (some ⟨lb,0,none⟩) n n)) (c:=#[(.slice (some ⟨lb,0,none⟩) n n)]) (n:=1) qD zVS rfl zVh rfl rfl rfl qS ?_;intro bv wv Nv;have Fv:=Nv.ge E;have Ov_bd:=Nv.lt Bd;have Ov_lb:=Nv.lt ab;replace Bd:=Nv.keep Bd;replace ab:=Nv.keep ab;replace E:=E.ext Nv.ext;have Bv:=Nv.blk;refine zAB (zAA (qF bd 0 2 rfl underlying34 rfl zBu rfl (qV (zAI rfl zBi (Bd.cell rfl)) (qV (zAJ underlying32 rfl) (zEx (n:=n) (z:=(I6 0)) (bytes:=8) qD underlying22 zAy zJU zDI rfl rfl rfl qO qO ?_)))));intro bz wz Nz;have Fz:=Nz.ge E;have Oz_bd:=Nz.lt Bd;have Oz_lb:=Nz.lt ab;have Oz_bv:=Nz.lt Bv;replace Bd:=Nz.keep Bd;replace ab:=Nz.keep ab;replace Bv:=Nz.keep Bv;replace E:=E.ext Nz.ext;have Bz:=Nz.blk;refine zAd (v:=(.slice (some ⟨bz,0,none⟩) n n)) (c:=#[(.slice (some ⟨bz,0,none⟩) n n)]) (n:=1) qD zEg rfl zBL rfl rfl rfl qS ?_;intro bp wp Np;have Fp:=Np.ge E;have Op_bd:=Np.lt Bd;have Op_lb:=Np.lt ab;have Op_bv:=Np.lt Bv;have Op_bz:=Np.lt Bz;replace Bd:=Np.keep Bd;replace ab:=Np.keep ab;replace Bv:=Np.keep Bv;replace Bz:=Np.keep Bz;replace E:=E.ext Np.ext;have Bp:=Np.blk;refine zAB (zAA (zAd (v:=(I6 0)) (c:=#[(I6 0)]) (n:=1) qD zDI rfl zAy rfl rfl rfl qS ?_));intro bc wc Nc;have Fc:=Nc.ge E;have Oc_bd:=Nc.lt Bd;have Oc_lb:=Nc.lt ab;have Oc_bv:=Nc.lt Bv;have Oc_bz:=Nc.lt Bz;have Oc_bp:=Nc.lt Bp;replace Bd:=Nc.keep Bd;replace ab:=Nc.keep ab;replace Bv:=Nc.keep Bv;replace Bz:=Nc.keep Bz;replace Bp:=Nc.keep Bp;replace E:=E.ext Nc.ext;have Bc:=Nc.blk;refine zAB (zAA (qV (zBV rfl rfl) (qA _ rfl (zAB (zAA (zAd (v:=(.func (.func 108) #[] #[])) (c:=#[(.func (.func 108) #[] #[])]) (n:=1) qD zVR rfl zVg rfl rfl rfl qS ?_))))));intro bw ww Nw;have Fw:=Nw.ge E;have Ow_bd:=Nw.lt Bd;have Ow_lb:=Nw.lt ab;have Ow_bv:=Nw.lt Bv;have Ow_bz:=Nw.lt Bz;have Ow_bp:=Nw.lt Bp;have Ow_bc:=Nw.lt Bc;replace Bd:=Nw.keep Bd;replace ab:=Nw.keep ab;replace Bv:=Nw.keep Bv;replace Bz:=Nw.keep Bz;replace Bp:=Nw.keep Bp;replace Bc:=Nw.keep Bc;replace E:=E.ext Nw.ext;have Bw:=Nw.blk;refine zAB (zAA (qM _ rfl (qV (zBV rfl rfl) ?_)));have a6:=Bw.lt;refine qE rfl (zDL rfl func107 kQ kQ rfl rfl) (zTJ _ bp bv lb bc n n _ _ 0 M (fun s=>[atD d (s:Int)]) Bp Bv ab Bc qO hM.len hn.1 (fun w s hs hq hE=>zCG.mk (first:=#[]) (cap:=#[.pointer (some ⟨bw,0,none⟩),.pointer (some ⟨bd,0,none⟩)]) func109 kQ kQ rfl (zWG w bw bd n d _ s _ (hE.keep Bw) (hE.keep Bd) (ax _ (Chg.ext E hE)) a0 (zIU ok hs) ⟨ok.at',hac _ (List.mem_of_getElem? (zIU ok hs))⟩)) (fun s hs _ x hx=>by rw[List.mem_singleton] at hx;rw[hx];exact ⟨ok.at',hac _ (List.mem_of_getElem? (zIU ok hs))⟩)) ?_;rintro _ w19 ⟨rfl,⟨q0,ap,b1,a5,ag,be,hb0,ah⟩,am⟩;replace Bd:=am.keep qO Bd;replace ab:=am.keep qO ab;replace Bv:=am.keep qO Bv;replace Bz:=am.keep qO Bz;replace Bw:=am.keep qO Bw;replace E:=E.step am (by intro x hx hm;omega);have a9:Refd n c d q0 ap.length:=zNA hM a5 (fun s t _ _ _ _ h=>by simpa using h) (fun s t _ _ _ _ h=>by have:=h [] (inW.nil c);simpa[beh] using this);have aq:bw<b1:=qO
 refine zAB (zAS (zAp (fun nn_ σ W1=>∃(p:List Int) (ad pb:Nat),(∃jj_,σ=zCT jj_ [(1,(P6 bd 0)),(4,(P6 bp 0)),(5,(P6 bc 0)),(6,(.func (.func 107) #[] #[(P6 bp 0),(P6 bv 0),(P6 bc 0)])),(7,(P6 bw 0))])∧Chg zAh w0 W1∧Blk W1 bd #[(I6 d.start),(.slice aa n ac),(.slice na n nc)] 34∧Blk W1 lb ((M.map Value.bool).toArray) 4∧Blk W1 bv #[(.slice (some ⟨lb,0,none⟩) n n)] 139∧Blk W1 bz ((List.replicate n (I6 0)).toArray) 3∧Blk W1 bw #[(.func (.func 108) #[] #[])] 143∧Blk W1 bp (#[Value.slice (some ⟨pb,0,none⟩) n n]) 22∧Blk W1 bc (#[Value.int .i64 (ad:Int)]) 3∧(Refd n c d p ad)∧(Blk W1 pb (p.map (Value.int .i64)).toArray 3)∧(bw<pb)∧nn_=n - ad) (n:=n - ap.length) ?_ ?_))
 ·exact ⟨q0,ap.length,b1,zAz.out ⟨rfl,rfl,rfl,rfl,rfl,trivial⟩,E,Bd,ab,Bv,Bz,Bw,ag,ah,a9,be,aq,rfl⟩
 ·clear E Bd ab Bv Bz Bw ag ah;rintro _ _ W1 ⟨p,ad,pb,⟨j1,rfl⟩,E,Bd,ab,Bv,Bz,Bw,ag,ah,hR,aj,hpb,rfl⟩;have bg:=aj.lt;obtain ⟨n9,hn9⟩:∃n9,n9=(W1).heap.size:=⟨_,rfl⟩;refine zAS (zAH ?_);obtain ⟨bf,af⟩:∃Fs:List (FactT (zAh)),Fs=[.eq (I6 (ad:Int)),.eq (.slice (some ⟨pb,0,none⟩) n n),.gen (zVJ n9) (zJp _),.eq (I6 (ad:Int))]:=⟨_,rfl⟩;refine zIV (zAh) 4 2 [20,21,9,8] [[],[],[],[0,2]] bf af rfl mixed qK qK qK ?_ ?_
  ·intro wd X0;refine DagStepsT.cons (fun s' w' X U H=>?_) ?_
   ·exact zAX (zAI (U 5 rfl) zAo ((Chg.keep X (fun f=>f) (X0.keep ah)).cell rfl)) (Chg.refl _ _) rfl
   refine DagStepsT.cons (fun s' w' X U H=>?_) ?_
   ·exact zAX (zAI (U 4 rfl) zBP ((Chg.keep X (fun f=>f) (X0.keep ag)).cell rfl)) (Chg.refl _ _) rfl
   refine DagStepsT.cons (fun s' w' X U H=>?_) ?_
   ·exact zRE (by have:=X0.size;have:=X.size;omega)
   refine DagStepsT.cons (fun s' w' X U H=>?_) ?_
   ·have a7:s' 20=(.int .i64 ((ad:Nat):Int)):=H 0 rfl 20 (.eq (.int .i64 ((ad:Nat):Int))) rfl (by rw[af];rfl);exact zAX (zEp a7) (Chg.refl _ _) rfl
   exact DagStepsT.nil
  ·intro s' wd2 w2 X0 X2 U H;have bi:s' 21=(.slice (some ⟨pb,0,none⟩) n n):=H 1 21 (.eq (.slice (some ⟨pb,0,none⟩) n n)) rfl (by rw[af];rfl);obtain ⟨b9,e9,g9,B9⟩:=(show (.gen (zVJ n9) (zJp _):FactT (zAh)).In (s' 9) w2 from H 2 9 (.gen (zVJ n9) (zJp _)) rfl (by rw[af];rfl));have e8:s' 8=(.int .i64 ((ad:Nat):Int)):=H 3 8 (.eq (.int .i64 ((ad:Nat):Int))) rfl (by rw[af];rfl);obtain ⟨j2,rfl⟩:=zAz.out (σ:=s') (l:=[(1,(.pointer (some ⟨bd,0,none⟩))),(4,(.pointer (some ⟨bp,0,none⟩))),(5,(.pointer (some ⟨bc,0,none⟩))),(6,(.func (.func 107) #[] #[(.pointer (some ⟨bp,0,none⟩)),(.pointer (some ⟨bv,0,none⟩)),(.pointer (some ⟨bc,0,none⟩))])),(7,(.pointer (some ⟨bw,0,none⟩))),(21,(.slice (some ⟨pb,0,none⟩) n n)),(9,(.pointer (some ⟨b9,0,none⟩))),(8,(.int .i64 ((ad:Nat):Int)))]) ⟨U 1 rfl,U 4 rfl,U 5 rfl,U 6 rfl,U 7 rfl,bi,e9,e8,trivial⟩;clear U H;replace Bd:=Chg.keep X2 (fun f=>f) (X0.keep Bd);replace ab:=Chg.keep X2 (fun f=>f) (X0.keep ab);replace Bv:=Chg.keep X2 (fun f=>f) (X0.keep Bv);replace Bz:=Chg.keep X2 (fun f=>f) (X0.keep Bz);replace Bw:=Chg.keep X2 (fun f=>f) (X0.keep Bw);replace ag:=Chg.keep X2 (fun f=>f) (X0.keep ag);replace ah:=Chg.keep X2 (fun f=>f) (X0.keep ah);replace aj:=Chg.keep X2 (fun f=>f) (X0.keep aj);replace E:=(E.ext X0).step X2 (fun _ _ f=>f.elim);refine zBC (b:=b9) (o:=0) (c':=#[(.slice (some ⟨pb,0,none⟩) n n)]) (v:=(.slice (some ⟨pb,0,none⟩) n n)) rfl rfl rfl zBL B9 qP rfl ?_;intro w3 S3;replace Bd:=S3.keep qO Bd;replace ab:=S3.keep qO ab;replace Bv:=S3.keep qO Bv;replace Bz:=S3.keep qO Bz;replace Bw:=S3.keep qO Bw;replace ag:=S3.keep qO ag;replace ah:=S3.keep qO ah;replace aj:=S3.keep qO aj;replace E:=S3.step E qQ;replace B9:=S3.blk;refine zAB (zAC (zAA (qM _ rfl (qV (zBV rfl rfl) ?_))));have av:=Bw.lt;refine qE rfl (zDL rfl func107 kQ kQ rfl rfl) (zTJ _ bp bv lb bc n n _ _ (ad:Int) M (zDM c d p) ag Bv ab ah qO hM.len hn.1 (fun w s hs hq hE=>zCG.mk (first:=#[]) (cap:=#[.pointer (some ⟨bw,0,none⟩),.pointer (some ⟨b9,0,none⟩),.pointer (some ⟨bd,0,none⟩)]) func110 kQ kQ rfl (zWF w bw b9 bd n c pb n d _ p s ok (hE.keep Bw) (hE.keep B9) (hE.keep Bd) (ax _ (Chg.ext E hE)) (by have:=zEv (hE.keep aj) hR.len;exact this) hR.len hR.rng hs hn)) (fun s hs _=>zRj hR hn.1 s)) ?_;rintro _ w29 ⟨rfl,⟨q1,au,b2,ar,a1,aw,hb1,a2⟩,ak⟩;replace Bd:=ak.keep qO Bd;replace ab:=ak.keep qO ab;replace Bv:=ak.keep qO Bv;replace Bz:=ak.keep qO Bz;replace Bw:=ak.keep qO Bw;replace aj:=ak.keep qO aj;replace B9:=ak.keep qO B9;replace E:=E.step ak (by intro x hx hm;omega);have an:=hR.next ok hM ar;have ba:=hR.finer hM ar;have ay:=Refd.cnt_mono hR an ba;have a4:=an.cnt_le;refine zAB (zAA (qV (zAI rfl zAo (a2.cell rfl)) (qM _ rfl (qV (zAs rfl rfl) (zAB (qC rfl (fun ao=>?_) (fun ao=>?_)))))))
   ·have a3:au.length=ad:=qO
    refine zAA (qV (zAI rfl zBP (a1.cell rfl)) (qA _ rfl (zAB (zAV (zAi (zAU (zAi (zAY results73 (v:=(.slice (some ⟨b2,0,none⟩) n n)) rfl ?_))))))));rw[a3] at an;exact ⟨⟨q1,b2,Refd.final ok hR an (zPs hM ar),rfl,qO,aw⟩,E⟩
   ·refine zAO (zAR (zAC ?_));exact ⟨n - au.length,qO,q1,au.length,b2,zAz.out ⟨rfl,rfl,rfl,rfl,rfl,trivial⟩,E,Bd,ab,Bv,Bz,Bw,a1,a2,an,aw,qO,rfl⟩
end Go.Proofs
namespace Go.Proofs
open Go Go.Eng Go.Sort
def zSx (d:Dfa) (p:List Int) (st:List Int) (s:Int) (x:Nat) (y:Int):Prop:=(y = -1∧ptD p (toD d s x)<0)∨∃(j:Nat) (t:Int),y=((j:Nat):Int)∧st[j]?=some t∧ptD p t=ptD p (toD d s x)∧0≤ptD p t
theorem zSx.mono {d:Dfa} {p st:List Int} {s y:Int} {x:Nat} (h:zSx d p st s x y) (u:List Int):zSx d p (st++u) s x y:=by
 rcases h with h|⟨j,t,h1,h2,h3⟩
 ·exact .inl h
 ·exact .inr ⟨j,t,h1,by rw[List.getElem?_append_left (zAE h2)];exact h2,h3⟩
structure CanP (n c:Nat) (d:Dfa) (p:List Int) (rows:List (List Int)) (row st:List Int):Prop where
 s0:st[0]?=some d.start
 sl:∀s∈st,0≤s∧s<n∧0≤ptD p s
 inj:∀(i j:Nat) s t,st[i]?=some s→st[j]?=some t→ptD p s=ptD p t→i=j
 len:∀r∈rows,r.length=c
 ent:∀(i x:Nat) r y s,rows[i]?=some r→r[x]?=some y→st[i]?=some s→zSx d p st s x y
 cur:∀(x:Nat) y s,row[x]?=some y→st[rows.length]?=some s→zSx d p st s x y
 ord:∀(k:Nat) y,(rows.flatten++row)[k]?=some y→y≤mxL ((rows.flatten++row).take k)+1
 mx:mxL (rows.flatten++row)+1=st.length
 rch:∀i:Nat,i<rows.length→((i:Nat):Int)≤mxL (rows.take i).flatten
theorem CanP.start {n c:Nat} {d:Dfa} {p:List Int} (hs:0≤d.start∧d.start<n) (hp:0≤ptD p d.start):CanP n c d p [] [] [d.start]:=by
 refine ⟨rfl,fun s h=>by rw[List.mem_singleton] at h;subst h;exact ⟨hs.1,hs.2,hp⟩,fun i j s t h1 h2 _=>?_,fun r h=>absurd h List.not_mem_nil,fun i x r y s h=>by simp at h,fun x y s h=>by simp at h,fun k y h=>by simp at h,by simp[mxL],fun i h=>by simp at h⟩;have a:=zAE h1;have b:=zAE h2;simp at a b;omega
theorem zNM {F:List Int} {y:Int} (h:∀(k:Nat) z,F[k]?=some z→z≤mxL (F.take k)+1) (hy:y≤mxL F+1):∀(k:Nat) z,(F++[y])[k]?=some z→z≤mxL ((F++[y]).take k)+1:=by
 intro k z hz;rcases zBz hz with h1|⟨h1,h2⟩
 ·rw[List.take_append_of_le_length (by have:=zAE h1;omega)];exact h k z h1
 ·rw[h1,h2,List.take_append_of_le_length (Nat.le_refl _),List.take_length];exact hy
theorem CanP.add {n c:Nat} {d:Dfa} {p:List Int} {rows:List (List Int)} {row st:List Int} {s y:Int} (h:CanP n c d p rows row st) (hs:st[rows.length]?=some s) (hE:zSx d p st s row.length y):CanP n c d p rows (row++[y]) st:=by
 have hy:y≤mxL (rows.flatten++row):=by
  have hm:=h.mx;have hl:=List.length_pos_of_mem (List.mem_of_getElem? h.s0);rcases hE with ⟨h1,_⟩|⟨j,t,h1,h2,_⟩
  ·omega
  ·have:=zAE h2;omega
 refine ⟨h.s0,h.sl,h.inj,h.len,h.ent,fun x z q hx hq=>?_,?_,?_,h.rch⟩
 ·rcases zBz hx with h1|⟨h1,h2⟩
  ·exact h.cur x z q h1 hq
  ·rw[hs] at hq;cases hq;rw[h1,h2];exact hE
 ·rw[←List.append_assoc];exact zNM h.ord qO
 ·rw[←List.append_assoc,zHT];have:=h.mx;omega
theorem CanP.new {n c:Nat} {d:Dfa} {p:List Int} {rows:List (List Int)} {row st:List Int} {s:Int} (h:CanP n c d p rows row st) (hs:st[rows.length]?=some s) (ht:0≤toD d s row.length∧toD d s row.length<n) (hp:0≤ptD p (toD d s row.length)) (hnew:∀t∈st,ptD p t≠ptD p (toD d s row.length)) :
  CanP n c d p rows (row++[((st.length:Nat):Int)]) (st++[toD d s row.length]):=by
 have aa:=zAE hs;have hE:zSx d p (st++[toD d s row.length]) s row.length ((st.length:Nat):Int):=.inr ⟨st.length,_,rfl,by rw[List.getElem?_append_right (Nat.le_refl _),Nat.sub_self];rfl,rfl,hp⟩;refine ⟨by rw[List.getElem?_append_left (zAE h.s0)];exact h.s0,fun q hq=>?_,fun i j q r hi hj he=>?_,h.len,fun i x r y q hr hy hq=>?_,fun x z q hx hq=>?_,?_,?_,h.rch⟩
 ·rcases List.mem_append.1 hq with h1|h1
  ·exact h.sl q h1
  ·rw[List.mem_singleton] at h1;subst h1;exact ⟨ht.1,ht.2,hp⟩
 ·rcases zBz hi with h1|⟨h1,h2⟩<;>rcases zBz hj with h3|⟨h3,h4⟩
  ·exact h.inj i j q r h1 h3 he
  ·exact absurd (by rw[he,h4]) (hnew q (List.mem_of_getElem? h1))
  ·exact absurd (by rw[←he,h2]) (hnew r (List.mem_of_getElem? h3))
  ·omega
 ·rcases zBz hq with h1|⟨h1,_⟩
  ·exact (h.ent i x r y q hr hy h1).mono _
  ·have:=zAE hr;omega
 ·have ab:q=s:=by
   rw[List.getElem?_append_left aa,hs] at hq;exact (Option.some.inj hq).symm
  subst ab;rcases zBz hx with h1|⟨h1,h2⟩
  ·exact (h.cur x z q h1 hs).mono _
  ·rw[h1,h2];exact hE
 ·rw[←List.append_assoc];exact zNM h.ord (by have:=h.mx;omega)
 ·rw[←List.append_assoc,zHT];have:=h.mx;simp;omega
theorem CanP.row {n c:Nat} {d:Dfa} {p:List Int} {rows:List (List Int)} {row st:List Int} (h:CanP n c d p rows row st) (hl:row.length=c) (hr:((rows.length:Nat):Int)≤mxL rows.flatten):CanP n c d p (rows++[row]) [] st:=by
 have hf:(rows++[row]).flatten++[]=rows.flatten++row:=qP
 refine ⟨h.s0,h.sl,h.inj,fun r hm=>?_,fun i x r y s h1 h2 h3=>?_,fun x y s h1=>by simp at h1,by rw[hf];exact h.ord,by rw[hf];exact h.mx,fun i hi=>?_⟩
 ·rcases List.mem_append.1 hm with h1|h1
  ·exact h.len r h1
  ·rw[List.mem_singleton] at h1;rw[h1];exact hl
 ·rcases zBz h1 with h4|⟨h4,h5⟩
  ·exact h.ent i x r y s h4 h2 h3
  ·subst h5;rw[h4] at h3;exact h.cur x y s h2 h3
 ·simp at hi;rcases Nat.lt_or_ge i rows.length with h1|h1
  ·rw[List.take_append_of_le_length qO];exact h.rch i h1
  ·have:i=rows.length:=qO
   rw[this,List.take_append_of_le_length (Nat.le_refl _),List.take_length];exact hr
theorem zJQ {c:Nat}:∀{L:List (List Int)} {i:Nat},(∀r∈L,r.length=c)→i≤L.length→L.flatten.take (i*c)=(L.take i).flatten
  | [],i,_,_=>qP
  | q::L,0,_,_=>qP
  | q::L,i+1,h,hi=>by
    have hq:=h q List.mem_cons_self;rw[List.flatten_cons,List.take_succ_cons,List.flatten_cons,show (i+1)*c=q.length+i*c by rw[hq,Nat.add_mul];omega,List.take_append,Nat.add_sub_cancel_left,zJQ (fun r hr=>h r (List.mem_cons_of_mem _ hr)) (by simpa using hi),List.take_of_length_le qO]
theorem CanP.done {n c:Nat} {d:Dfa} {p:List Int} {rows:List (List Int)} {st:List Int} (h:CanP n c d p rows [] st) (ok:OkD n c d) (hP:PartsOf n c d p) (hl:rows.length=st.length):zDf c (beh d d.start) ⟨0,st.map (atD d),rows⟩:=by
 have af:=h.mx;rw[List.append_nil] at af;have hm0:=List.length_pos_of_mem (List.mem_of_getElem? h.s0);have ad:∀i:Nat,i<rows.length→∃s,st[i]?=some s:=fun i hi=>zAN qO;have aa:∀r∈rows,r.length=c∧∀y∈r,-1≤y∧y<st.length:=fun r hr=>by
  refine ⟨h.len r hr,fun y hy=>?_⟩;obtain ⟨i,hi⟩:=List.getElem?_of_mem hr;obtain ⟨x,hx⟩:=List.getElem?_of_mem hy;obtain ⟨s,hs⟩:=ad i (zAE hi);rcases h.ent i x r y s hi hx hs with ⟨h1,_⟩|⟨j,t,h1,h2,_⟩
  ·omega
  ·have:=zAE h2;omega
 have ae:OkD st.length c ⟨0,st.map (atD d),rows⟩:=⟨hl,qP,⟨Int.le_refl _,by show (0:Int)<_;omega⟩,fun x hx=>by
  obtain ⟨s,_,h1⟩:=List.mem_map.1 hx;rw[←h1];exact ok.at',aa⟩
 have hb:Bfs st.length c ⟨0,st.map (atD d),rows⟩:=by
  refine ⟨ae,rfl,fun k y hk=>?_,fun i hi=>?_,?_⟩
  ·have:=h.ord k y (by rw[List.append_nil];exact hk)
   rwa [List.append_nil] at this
  ·show _≤mxL (rows.flatten.take (i*c));rw[zJQ h.len qO];exact h.rch i qO
  ·show mxL rows.flatten=_;omega
 refine zLl ok hb rfl h.s0 (fun i j s t hi hj he=>?_) (fun i s hs=>?_) fun i x s hs hx=>?_
 ·have a:=h.sl s (List.mem_of_getElem? hi);have b:=h.sl t (List.mem_of_getElem? hj);exact h.inj i j s t hi hj ((hP.iff s t ⟨qO,a.2.1⟩ ⟨qO,b.2.1⟩).2 he)
 ·exact zEC (by rw[List.getElem?_map,hs];rfl)
 ·obtain ⟨r,hr⟩:=zAN (l:=rows) (i:=i) (by have:=zAE hs;omega);have hrl:=h.len r (List.mem_of_getElem? hr);obtain ⟨y,hy⟩:=zAN (l:=r) (i:=x) qO;have ab:toD ⟨0,st.map (atD d),rows⟩ ((i:Nat):Int) x=y:=zEl hr hy;have ac:=ok.to (s:=s) (x:=x);rcases h.ent i x r y s hr hy hs with ⟨h1,h2⟩|⟨j,t,h1,h2,h3,h4⟩
  ·left;refine ⟨by rw[ab];exact h1,fun hl=>?_⟩;have:=(hP.live _ ac).1.2 hl;omega
  ·right;have b:=h.sl t (List.mem_of_getElem? h2);exact ⟨j,t,by rw[ab];exact h1,h2,(hP.iff t _ ⟨qO,b.2.1⟩ ac).1 h3,(hP.live t ⟨qO,b.2.1⟩).1.1 h4⟩
theorem zOe {n c:Nat} {d:Dfa} (ok:OkD n c d) (hd:¬zBX c d d.start):zDf c (beh d d.start) ⟨0,[-1],[List.replicate c (-1)]⟩:=by
  have ab:∀(s:Int) (x:Nat),toD ⟨0,[-1],[List.replicate c (-1)]⟩ s x = -1:=fun s x=>by
    unfold toD;split
    · rfl
    · rw[List.getD_eq_getElem?_getD,List.getD_eq_getElem?_getD];cases h:([List.replicate c (-1:Int)])[s.toNat]? with
      | none=>simp
      | some r=>
        have:=List.mem_of_getElem? h;rw[List.mem_singleton] at this;subst this;simp only[Option.getD_some,List.getElem?_replicate];split<;>rfl
  have ad:mxL ([List.replicate c (-1:Int)]).flatten=0:=by
    simp only[List.flatten_cons,List.flatten_nil,List.append_nil]
    induction c with
    | zero=>rfl
    | succ c ih=>
      have e:∀k,mxL (List.replicate k (-1:Int))=0:=fun k=>by
        induction k with
        | zero=>rfl
        | succ k ih2=>rw[List.replicate_succ',zHT,ih2];decide
      exact e _
  have ac:OkD 1 c ⟨0,[-1],[List.replicate c (-1)]⟩:=⟨rfl,rfl,⟨Int.le_refl _,by show (0:Int)<1;decide⟩,fun x hx=>by rw[List.mem_singleton] at hx;rw[hx];exact Int.le_refl _,fun r hr=>by
    rw[List.mem_singleton] at hr;subst hr;exact ⟨qP,fun x hx=>by rw[(List.mem_replicate.1 hx).2];decide⟩⟩
  have aa:∀(w:List Nat),beh ⟨0,[-1],[List.replicate c (-1)]⟩ 0 w = -1:=fun w=>by
    cases w with
    | nil=>rfl
    | cons x w=>simp only[beh];rw[ab];exact zDi qD
  refine ⟨1,⟨ac,rfl,fun k x hk=>?_,fun i hi=>?_,by rw[ad];rfl⟩,fun w hw=>by rw[aa,ok.dead hd hw],fun s t h1 h2 h3 h4 _=>qO,fun s x _ h=>by rw[ab] at h;exact absurd h qD⟩
  · have h1:=List.mem_of_getElem? hk;simp at h1;have:=zTL ((([List.replicate c (-1:Int)]).flatten).take k);have h2:x = -1:=h1.2;show x≤mxL ((([List.replicate c (-1:Int)]).flatten).take k)+1;omega
  · have:i=0:=qO
    rw[this];exact zTL _
def zCk:List Int→Nat→List (Int×Int)
  | [],_=>[]
  | m::ks,n=>(m,((n:Nat):Int))::zCk ks (n+1)
theorem zJL:∀(ks:List Int) (m:Int) (n:Nat),zCk (ks++[m]) n=zCk ks n++[(m,(((n+ks.length:Nat):Nat):Int))]
  | [],m,n=>rfl
  | x::ks,m,n=>by
    show (x,_)::zCk (ks++[m]) (n+1)=(x,_)::(zCk ks (n+1)++_);rw[zJL ks m (n+1),List.length_cons,show n+1+ks.length=n+(ks.length+1) by omega]
theorem zLL:∀{ks:List Int} {n:Nat} {q:Int×Int},q∈zCk ks n→∃(j:Nat) (m:Int),ks[j]?=some m∧q=(m,(((n+j:Nat):Nat):Int))
  | [],_,_,h=>by cases h
  | x::ks,n,q,h=>by
    rcases List.mem_cons.1 h with h|h
    · exact ⟨0,x,rfl,h⟩
    · obtain ⟨j,m,h1,h2⟩:=zLL h;exact ⟨j+1,m,h1,by rw[h2];congr 2;omega⟩
theorem zLM:∀{ks:List Int} {n:Nat} {m:Int},m∈ks→m∈(zCk ks n).map (·.1)
  | x::ks,n,m,h=>by
    rcases List.mem_cons.1 h with rfl|h
    · exact List.mem_cons_self
    · exact List.mem_cons_of_mem _ (zLM (n:=n+1) h)
theorem zQE {ks:List Int} {m v:Int} (h:zBr (zCk ks 0) m=some v):∃j:Nat,v=((j:Nat):Int)∧ks[j]?=some m:=by
 obtain ⟨j,m',h1,h2⟩:=zLL (zDm h);simp only[Prod.mk.injEq,Nat.zero_add] at h2;exact ⟨j,h2.2,by rw[h1,h2.1]⟩
theorem zOS {ks:List Int} {m:Int} (h:zBr (zCk ks 0) m=none):m∉ks∧zHQ (zCk ks 0) m ((ks.length:Nat):Int)=zCk (ks++[m]) 0:=by
 refine ⟨fun hm=>?_,?_⟩
 ·have:=zEA.2 (zLM (n:=0) hm);rw[h] at this;cases this
 ·rw[zDu _ h,zJL,Nat.zero_add]
end Go.Proofs
namespace Go.Proofs
open Go Go.Eng Go.Sort
set_option maxRecDepth 100000
theorem zJC {P:Program} {σ:Env} {w:World} {dst:Option Tmp} {ty:TypeId} {pos:String} {af:Array Edge} {g0:Option (Nat×Bool)} {t e:TypeId} {x y:Operand} {g o dl dc sb so sl sc:Nat} {cur c':Array Value} {T:TypeId} {cs:List Value} (hu:P.underlying t=some (.slice e)) (hs:Siz P e 1) (hx:ev σ x=.slice (some ⟨g,o,none⟩) dl dc) (hy:ev σ y=.slice (some ⟨sb,so,none⟩) sl sc)
  (hB:Blk w g cur T) (hcs:zBE w sb so cs) (hn:cs.length=Nat.min sl dl) (hfit:o+cs.length≤cur.size) (h1:∀v∈cs,v.oneCell'=true) (hc:(cur.toList.take o++cs++cur.toList.drop (o+cs.length)).toArray=c') :
  (execOp (ev σ) ⟨dst,.call ⟨.builtin .copy,#[x,y],#[t,t]⟩,ty,pos,af,g0⟩).run P w=.ok (.value (.int .i64 ((cs.length:Nat):Int))) (w.setRow g c'):=by
 subst hc;have hr:=run_copy_row (P:=P) w t t ty e g o dl dc ⟨sb,so,none⟩ sl sc cur T cs hu hs hB hn (fun j v hj=>by rw[Addr.add_lit];exact hcs j v hj) hfit h1;simp[execOp,resolve,invoke,builtin,hx,hy,hr,goInt]
theorem zVj {P:Program} {N:Nat} {Q:zFN} {σ:Env} {w:World} {K:Env→World→Prop} {ops:Array Oper} {rest:List Oper} {d:Nat} {ty:TypeId} {pos:String} {af:Array Edge} {t e:TypeId} {x y:Operand} {g o dl dc sb so sl sc:Nat} {cur c':Array Value} {T:TypeId} {cs:List Value} (hN:d<N) (hu:P.underlying t=some (.slice e)) (hs:Siz P e 1) (hx:ev σ x=.slice (some ⟨g,o,none⟩) dl dc) (hy:ev σ y=.slice (some ⟨sb,so,none⟩) sl sc)
  (hB:Blk w g cur T) (hcs:zBE w sb so cs) (hn:cs.length=Nat.min sl dl) (hfit:o+cs.length≤cur.size) (h1:∀v∈cs,v.oneCell'=true) (hc:(cur.toList.take o++cs++cur.toList.drop (o+cs.length)).toArray=c')
  (k:∀w',Put w w' g c' T→WpL P N ops K Q rest (upd σ d (.int .i64 ((cs.length:Nat):Int))) w'):WpL P N ops K Q (⟨some d,.call ⟨.builtin .copy,#[x,y],#[t,t]⟩,ty,pos,af,none⟩::rest) σ w:=
 zBo rfl rfl hN (zJC hu hs hx hy hB hcs hn hfit h1 hc) (k _ (Put.of_setRow hB _))
theorem zOq {P:Program} {N:Nat} {σ:Env} {w:World} {M:Nat→Prop} {R:Fct} {dst:Option Tmp} {ty:TypeId} {pos:String} {af:Array Edge} {g0:Option (Nat×Bool)} {t e:TypeId} {x y:Operand} {g o dl dc sb so sl sc:Nat} {cur c':Array Value} {T:TypeId} {cs:List Value} (hu:P.underlying t=some (.slice e)) (hs:Siz P e 1) (hx:ev σ x=.slice (some ⟨g,o,none⟩) dl dc) (hy:ev σ y=.slice (some ⟨sb,so,none⟩) sl sc)
  (hB:Blk w g cur T) (hcs:zBE w sb so cs) (hn:cs.length=Nat.min sl dl) (hfit:o+cs.length≤cur.size) (h1:∀v∈cs,v.oneCell'=true) (hc:(cur.toList.take o++cs++cur.toList.drop (o+cs.length)).toArray=c') (hM:M g)
  (hR:∀w',Blk w' g c' T→R (.int .i64 ((cs.length:Nat):Int)) w'):zCj M P N ⟨dst,.call ⟨.builtin .copy,#[x,y],#[t,t]⟩,ty,pos,af,g0⟩ R σ w:=by
 have hp:=Put.of_setRow hB c';exact zAX (zJC hu hs hx hy hB hcs hn hfit h1 hc) (hp.chg.mono fun z _ h=>by subst h;exact hM) (hR _ hp.blk)
theorem zPq (m:Nat) (h:m<18446744073709551616):(BitVec.ofInt 64 (m:Int)).toNat=m:=by
 rw[BitVec.toNat_ofInt];omega
theorem zUz {P:Program} {w:World} (m:Nat) (hm:m<4294967296):(Op.intBits .and .u64 (m:Int) 4294967295).run P w=.ok (.int .u64 (m:Int)) w:=by
 have h1:m &&& 4294967295=m:=by
  have:=Nat.and_two_pow_sub_one_eq_mod m 32;rw[show (2:Nat) ^ 32 - 1=4294967295 by decide] at this;rw[this];omega
 show Result.ok (Value.int .u64 (IntKind.u64.wrap ((BitVec.ofInt 64 (m:Int) &&& BitVec.ofInt 64 (((4294967295:Nat):Nat):Int):BitVec 64).toNat:Int))) w=_;rw[BitVec.toNat_and,zPq m qO,zPq _ qD,h1,zVV qO]
theorem zPR {n:Int} (h:0≤n∧n<4294967296):n.fdiv (2 ^ min (Int.toNat 32) IntKind.u64.bits)=0:=by
 show n.fdiv 4294967296=0;rw[Int.fdiv_eq_ediv_of_nonneg n qD];omega
theorem zUV (w0:World) (m n:Nat) (hm:m≤60000) (hn:n≤60000):Ret prog 157 #[.int .u64 (m:Int),.int .u64 (n:Int)] w0 fun r w=>r=.tuple #[.int .u64 0,.int .u64 ((m*n:Nat):Int)]∧Ext w0 w:=by
 have hmn:m*n≤60000*60000:=Nat.mul_le_mul hm hn;have hc:((m:Int)*(n:Int))=((m*n:Nat):Int):=qP
 refine qR func157 rfl ntmps157 rfl (fun E=>(zAA (qA _ rfl (qA _ rfl (zAB (zAA (qM _ rfl (qV (zJF (v:=.int .u64 (m:Int)) rfl rfl qP (zUz m qO)) (qA _ rfl (zAB (zAA (qM _ rfl (qV (zIg (c:=0) rfl rfl qO (zPR qO)) (qA _ rfl (zAB (zAA (qM _ rfl (qV (zJF (v:=.int .u64 (n:Int)) rfl rfl qP (zUz n qO)) ?_))))))))))))))))));refine qA _ rfl (zAB (zAA (qM _ rfl (qV (zIg (c:=0) rfl rfl qO (zPR qO)) (qA _ rfl (zAB (zAA (qM _ rfl (qM _ rfl (qV (zPf (c:=((m*n:Nat):Int)) rfl rfl (by rw[hc];exact zVV qO)) (qA _ rfl (zAB (zAA (qM _ rfl (qM _ rfl (qV (zPf (c:=0) rfl rfl (by rw[Int.zero_mul];rfl)) (qM _ rfl ?_)))))))))))))))));refine qV (zIg (c:=0) rfl rfl qO (zPR qO)) (qV (zAv (c:=0) rfl rfl (by rfl)) (qA _ rfl (zAB (zAA (qM _ rfl (qV (zJF (v:=.int .u64 0) rfl rfl qP (zUz 0 qD)) (qA _ rfl (zAB (zAA (qM _ rfl (qV (zIg (c:=0) rfl rfl qO (zPR qO)) (qA _ rfl (zAB (zAA (qM _ rfl (qM _ rfl (qM _ rfl ?_)))))))))))))))));refine qV (zPf (c:=0) rfl rfl (by rw[Int.mul_zero];rfl)) (qV (zAv (c:=0) rfl rfl (by rfl)) (qA _ rfl (zAB (zAA (qM _ rfl (qM _ rfl (qV (zPf (c:=0) rfl rfl (by rfl)) (qM _ rfl (qV (zAv (c:=0) rfl rfl (by rfl)) (qM _ rfl (qV (zIg (c:=0) rfl rfl qO (zPR qO)) (qV (zAv (c:=0) rfl rfl (by rfl)) (qA _ rfl (zAB (zAA (qM _ rfl ?_))))))))))))))));refine qM _ rfl (qV (zPf (c:=((m*n:Nat):Int)) rfl rfl (by rw[hc];exact zVV qO)) (qA _ rfl (zAB (zAV (zCO results157 (v:=(.int .u64 0)) (v':=(.int .u64 ((m*n:Nat):Int))) rfl rfl ?_)))));exact ⟨rfl,E⟩
theorem zXH (w0:World) (m n:Nat) (hm:m≤60000) (hn:n≤60000):Ret prog 111 #[.int .u64 (m:Int),.int .u64 (n:Int)] w0 fun r w=>r=.tuple #[.int .u64 0,.int .u64 ((m*n:Nat):Int)]∧Ext w0 w:=by
 refine qR func111 rfl ntmps111 rfl (fun E=>(zAA (qA _ rfl (qA _ rfl (zAB (zAH (zAP rfl (zAO (zAC (zAA (qM _ rfl (qM _ rfl (qE rfl (zAQ func157 kQ kQ rfl) (zUV _ m n hm hn) ?_)))))))))))));rintro _ w9 ⟨rfl,X9⟩;replace E:=E.ext X9;refine qM _ rfl (qV (zAa rfl rfl) (qV (zAa rfl rfl) (qA _ rfl (qA _ rfl (zAB (zAA (qM _ rfl (qM _ rfl (qA _ rfl (qA _ rfl (zAB (zAV (zCO results111 (v:=(.int .u64 0)) (v':=(.int .u64 ((m*n:Nat):Int))) rfl rfl ?_)))))))))))));exact ⟨rfl,E⟩
def zHM (y:Int) (m n:Nat):List Value:=(List.replicate m y++List.replicate (n - m) 0).map (Value.int .i64)
theorem zKp (y:Int) {m n k:Nat} (h:k≤m):(zHM y m n).take k=List.replicate k (Value.int .i64 y):=by
 simp only[zHM,List.map_append,List.map_replicate];rw[List.take_append_of_le_length (by simp;omega),List.take_replicate,Nat.min_eq_left h]
theorem zKq (y:Int) {m n k:Nat} (h:m+k≤n):((zHM y m n).toArray.toList.take m++List.replicate k (Value.int .i64 y)++(zHM y m n).toArray.toList.drop (m+k)).toArray=(zHM y (m+k) n).toArray:=by
 have e1:=zKp y (m:=m) (n:=n) (k:=m) (Nat.le_refl _);have e2:(zHM y m n).drop (m+k)=List.replicate (n - (m+k)) (Value.int .i64 0):=by
  simp only[zHM,List.map_append,List.map_replicate];rw[List.drop_append,List.drop_of_length_le qP,List.length_replicate,List.drop_replicate,List.nil_append];congr 1;omega
 show ((zHM y m n).take m++List.replicate k (Value.int .i64 y)++(zHM y m n).drop (m+k)).toArray=_;rw[e1,e2];simp only[zHM,List.map_append,List.map_replicate,List.replicate_append_replicate]
theorem zGB (w0:World) (b sc n:Nat) (y:Int) (T:TypeId) (hB:Blk w0 b #[.int .i64 y] T) (h1:1≤n) (hn:n≤60000) :
  Ret prog 74 #[.slice (some ⟨b,0,none⟩) 1 sc,.int .i64 ((n:Nat):Int)] w0 fun r w=>(∃g,r=.slice (some ⟨g,0,none⟩) n n∧w0.heap.size≤g∧Blk w g ((List.replicate n y).map (Value.int .i64)).toArray 3)∧Ext w0 w:=by
 have hbl:=hB.lt;refine qR func74 rfl ntmps74 rfl (fun E=>(zAA (qA _ rfl (zAB (zAH (zAA (qM _ rfl (qV (zBF rfl rfl) (zAB ?_)))))))));have am:(decide ((((n:Nat):Int):Int)<0))=false:=decide_eq_false qO;refine zAP (cbk am) (zAO (zAC (zAA (qM _ rfl (qV (zAJ underlying22 rfl) (qV (zDW (c:=((1:Nat):Int)) ⟨_,underlying3⟩ underlying119 rfl (rfl)) (qM _ rfl (qV (zDW (c:=(n:Int)) ⟨_,underlying3⟩ underlying119 rfl (zVV qO)) (qE rfl (zAQ func111 kQ kQ rfl) (zXH _ 1 n qD hn) ?_)))))))));rintro _ w9 ⟨rfl,X9⟩;replace hB:=X9.keep hB;replace E:=E.ext X9;refine qM _ rfl (qV (zAa rfl rfl) (qV (zAa rfl rfl) (qA _ rfl (qA _ rfl (zAB (zAH (zAA (qM _ rfl (qV (zDB rfl rfl) (qM _ rfl (zAG rfl rfl qD rfl (qM _ rfl (zAG rfl rfl qD rfl ?_)))))))))))));obtain ⟨e2,ab⟩:∃e,(decide ((9223372036854775807:Int)<((1*n:Nat):Int)))=e:=⟨_,rfl⟩;refine qV ((zDB rfl rfl).trans (by rw[ab];try rfl)) (qV (zAr rfl rfl) (zAB ?_));subst ab;have ao:((decide ((9223372036854775807:Int)<((1*n:Nat):Int))))=false:=decide_eq_false qO;refine zAP (cbk ao) (zAO (zAC (zAA (qM _ rfl (qV (zDW (c:=(n:Int)) ⟨_,underlying119⟩ underlying3 rfl ((zBb qO).trans qO)) (zEx (n:=n) (z:=(I6 0)) (bytes:=8) qD underlying22 zAy zJU zDI rfl rfl rfl qO qO ?_))))));intro bz wz Nz;have Fz:=Nz.ge E;have Oz_b:=Nz.lt hB;replace hB:=Nz.keep hB;replace E:=E.ext Nz.ext;have Bz:=Nz.blk;refine qA _ rfl (zAB (zAA (qM _ rfl (qM _ rfl ?_))));rw[show List.replicate n (Value.int .i64 0)=zHM y 0 n by simp[zHM]] at Bz;refine zVj (g:=bz) (o:=0) (cs:=[Value.int .i64 y]) (c':=(zHM y 1 n).toArray) qD underlying22 zAy rfl rfl Bz (hB.cells rfl) (by show 1=Nat.min 1 n;simp only[Nat.min_def];split<;>omega) (by simp[zHM];omega) qS (zKq y (m:=0) (k:=1) qO) ?_;intro w4 S4;replace hB:=S4.keep qO hB;replace E:=S4.step E qQ;replace Bz:=S4.blk;refine qA _ rfl (zAB (zAH (zAS (zAp (fun nn_ σ W5=>∃(m:Nat),(∃jj_,σ=zCT jj_ [(7,(.slice (some ⟨bz,0,none⟩) n n)),(8,(I6 (m:Int)))])∧Chg zAh w0 W5∧Blk W5 b #[(I6 y)] T∧Blk W5 bz ((zHM y m n).toArray) 3∧(1≤m∧m≤n)∧nn_=n - m) (n:=n - 1) ?_ ?_))))
 ·exact ⟨1,zAz.out ⟨rfl,rfl,trivial⟩,E,hB,Bz,⟨Nat.le_refl _,h1⟩,rfl⟩
 ·clear E hB Bz;rintro _ _ W5 ⟨m,⟨j5,rfl⟩,E,hB,Bz,hm,rfl⟩;refine zAH (zAA (qM _ rfl (qM _ rfl (qV (zAJ underlying22 rfl) (qV (zBF rfl rfl) (zAB (qC rfl (fun aq=>?_) (fun aq=>?_))))))))
  ·obtain ⟨k,hk⟩:∃k,k=Nat.min m (n - m):=⟨_,rfl⟩;have ad:1≤k∧k≤m∧m+k≤n:=by rw[hk];simp only[Nat.min_def];split<;>omega
   refine zAO (zAC (zAS ?_));obtain ⟨ar,aa⟩:∃Fs:List (FactT ((fun q=>q=bz))),Fs=[.eq (I6 (m:Int)),.eq (.slice (some ⟨bz,0,none⟩) n n),.eq (I6 (m:Int)),.eq (.slice (some ⟨bz,m,none⟩) (n - m) (n - m)),.eq (.slice (some ⟨bz,0,none⟩) n n),.eq (I6 (m:Int)),.eq (.slice (some ⟨bz,0,none⟩) m n),.own (fun v w=>v=.int .i64 (k:Int)∧Blk w bz (zHM y (m+k) n).toArray 3) (fun _ _ _ e h=>⟨h.1,Ext.keep e h.2⟩),.eq (I6 ((m:Int)+(k:Int)))]:=⟨_,rfl⟩;refine zIV ((fun q=>q=bz)) 9 7 [38,39,40,41,42,43,44,45,46] [[],[],[],[1,2],[],[],[4,5],[3,6],[0,7]] ar aa rfl mixed qK qK qK ?_ ?_
   ·intro wd X0;refine DagStepsT.cons (fun s' w' X U H=>?_) ?_
    ·exact zAX (zAl (U 8 rfl)) (Chg.refl _ _) rfl
    refine DagStepsT.cons (fun s' w' X U H=>?_) ?_
    ·exact zAX (zAl (U 7 rfl)) (Chg.refl _ _) rfl
    refine DagStepsT.cons (fun s' w' X U H=>?_) ?_
    ·exact zAX (zAl (U 8 rfl)) (Chg.refl _ _) rfl
    refine DagStepsT.cons (fun s' w' X U H=>?_) ?_
    ·have af:s' 39=(.slice (some ⟨bz,0,none⟩) n n):=H 1 rfl 39 (.eq (.slice (some ⟨bz,0,none⟩) n n)) rfl (by rw[aa];rfl);have ah:s' 40=(.int .i64 ((m:Nat):Int)):=H 2 rfl 40 (.eq (.int .i64 ((m:Nat):Int))) rfl (by rw[aa];rfl);exact zAX (zFC (lo:=m) underlying22 zAy af ah rfl qO (by rw[if_neg qO];simp only[Option.map_some,Addr.add_lit,Nat.mul_one,Nat.zero_add]) rfl rfl) (Chg.refl _ _) rfl
    refine DagStepsT.cons (fun s' w' X U H=>?_) ?_
    ·exact zAX (zAl (U 7 rfl)) (Chg.refl _ _) rfl
    refine DagStepsT.cons (fun s' w' X U H=>?_) ?_
    ·exact zAX (zAl (U 8 rfl)) (Chg.refl _ _) rfl
    refine DagStepsT.cons (fun s' w' X U H=>?_) ?_
    ·have ag:s' 42=(.slice (some ⟨bz,0,none⟩) n n):=H 4 rfl 42 (.eq (.slice (some ⟨bz,0,none⟩) n n)) rfl (by rw[aa];rfl);have ak:s' 43=(.int .i64 ((m:Nat):Int)):=H 5 rfl 43 (.eq (.int .i64 ((m:Nat):Int))) rfl (by rw[aa];rfl);exact zAX (zGD (hi:=m) underlying22 zAy ag ak rfl qO (by rw[if_neg qO];simp only[Option.map_some,Addr.add_lit,Nat.zero_mul,Nat.add_zero])) (Chg.refl _ _) rfl
    refine DagStepsT.cons (fun s' w' X U H=>?_) ?_
    ·have ap:s' 41=(.slice (some ⟨bz,m,none⟩) (n - m) (n - m)):=H 3 rfl 41 (.eq (.slice (some ⟨bz,m,none⟩) (n - m) (n - m))) rfl (by rw[aa];rfl);have au:s' 44=(.slice (some ⟨bz,0,none⟩) m n):=H 6 rfl 44 (.eq (.slice (some ⟨bz,0,none⟩) m n)) rfl (by rw[aa];rfl);exact zOq (cs:=List.replicate k (Value.int .i64 y)) (c':=(zHM y (m+k) n).toArray) underlying22 zAy ap au (Ext.keep X (X0.keep Bz)) (Blk.cells (Ext.keep X (X0.keep Bz)) (by show ((zHM y m n).drop 0).take _=_;rw[List.drop_zero,List.length_replicate,zKp y ad.2.1])) (by rw[List.length_replicate];exact hk) (by rw[List.length_replicate];simp[zHM];omega) (by intro v hv;rw[(List.mem_replicate.1 hv).2];rfl) (by rw[List.length_replicate];exact zKq y ad.2.2) rfl (fun w9 aj=>⟨by show Value.int .i64 (((List.replicate k (Value.int .i64 y)).length:Nat):Int)=_;rw[List.length_replicate],aj⟩)
    refine DagStepsT.cons (fun s' w' X U H=>?_) ?_
    ·have an:s' 38=(.int .i64 ((m:Nat):Int)):=H 0 rfl 38 (.eq (.int .i64 ((m:Nat):Int))) rfl (by rw[aa];rfl);obtain ⟨ae,ac⟩:=(show (.own (fun v w=>v=.int .i64 ((k:Nat):Int)∧Blk w bz (zHM y (m+k) n).toArray 3) (fun _ _ _ e h=>⟨h.1,Ext.keep e h.2⟩):FactT ((fun q=>q=bz))).In (s' 45) w' from H 7 rfl 45 (.own (fun v w=>v=.int .i64 ((k:Nat):Int)∧Blk w bz (zHM y (m+k) n).toArray 3) (fun _ _ _ e h=>⟨h.1,Ext.keep e h.2⟩)) rfl (by rw[aa];rfl));exact zAX (zAv an ae (zBb qO)) (Chg.refl _ _) rfl
    exact DagStepsT.nil
   ·intro s' wd7 w7 X0 X7 U H;obtain ⟨ae,ac⟩:=(show (.own (fun v w=>v=.int .i64 ((k:Nat):Int)∧Blk w bz (zHM y (m+k) n).toArray 3) (fun _ _ _ e h=>⟨h.1,Ext.keep e h.2⟩):FactT ((fun q=>q=bz))).In (s' 45) w7 from H 7 45 (.own (fun v w=>v=.int .i64 ((k:Nat):Int)∧Blk w bz (zHM y (m+k) n).toArray 3) (fun _ _ _ e h=>⟨h.1,Ext.keep e h.2⟩)) rfl (by rw[aa];rfl));have al:s' 46=(.int .i64 (((m:Nat):Int)+((k:Nat):Int))):=H 8 46 (.eq (.int .i64 (((m:Nat):Int)+((k:Nat):Int)))) rfl (by rw[aa];rfl);obtain ⟨j7,rfl⟩:=zAz.out (σ:=s') (l:=[(7,(.slice (some ⟨bz,0,none⟩) n n)),(46,(.int .i64 (((m:Nat):Int)+((k:Nat):Int))))]) ⟨U 7 rfl,al,trivial⟩;clear U H;replace hB:=Chg.keep X7 (fun h=>by have h':b=bz:=h;omega) (X0.keep hB);replace E:=(E.ext X0).step X7 (fun q hq h=>by have h':q=bz:=h;omega);refine qA _ rfl (zAB (zAR (zAC ?_)));exact ⟨n - (m+k),qO,m+k,zAz.out ⟨rfl,rfl,trivial⟩,E,hB,ac,qO,rfl⟩
  ·have ai:m=n:=qO
   refine zAn (zAT (zAT (zAg (zAC (zAA (qM _ rfl (qA _ rfl (zAB (zAV (zAY results74 (v:=(.slice (some ⟨bz,0,none⟩) n n)) rfl ?_))))))))));rw[ai,show zHM y n n=(List.replicate n y).map (Value.int .i64) by simp[zHM]] at Bz;exact ⟨⟨bz,rfl,qO,Bz⟩,E⟩
end Go.Proofs
namespace Go.Eng
open Go
def two (c1 c2:Nat) (M1 M2:Nat→Prop) (p:Nat):Nat→Prop:=bif Nat.beq p c1 then M1 else bif Nat.beq p c2 then M2 else zAh
def zSF (wss:List (List Nat)) (i j:Nat):Bool:=Nat.beq j i || (wss.getD j []).contains i
def zEK (wss:List (List Nat)) (Ms:Nat→Nat→Prop) (i:Nat):Nat→Prop:=fun y=>∃j,zSF wss i j=false∧Ms j y
theorem zEw {c1 c2:Nat} {M1 M2:Nat→Prop} {p y:Nat} (h:two c1 c2 M1 M2 p y):(p=c1∧M1 y)∨(p=c2∧M2 y):=by
  unfold two at h;cases h1:Nat.beq p c1 with
  | true=>rw[h1] at h;exact .inl ⟨Nat.eq_of_beq_eq_true h1,h⟩
  | false=>
    rw[h1] at h;cases h2:Nat.beq p c2 with
    | true=>rw[h2] at h;exact .inr ⟨Nat.eq_of_beq_eq_true h2,h⟩
    | false=>rw[h2] at h;exact h.elim
section
variable {wss : List (List Nat)} {c1 c2 i y : Nat} {M1 M2 : Nat → Prop}
theorem zEK.or (h:zEK wss (two c1 c2 M1 M2) i y):M1 y∨M2 y:=by
 obtain ⟨j,_,h2⟩:=h;rcases zEw h2 with h|h
 ·exact .inl h.2
 ·exact .inr h.2
theorem zEK.fst (hg:zSF wss i c2=true) (h:zEK wss (two c1 c2 M1 M2) i y):M1 y:=by
 obtain ⟨j,h1,h2⟩:=h;rcases zEw h2 with h|h
 ·exact h.2
 ·rw[h.1,hg] at h1;cases h1
theorem zEK.none (hg:zSF wss i c1=true) (hg2:zSF wss i c2=true) (h:zEK wss (two c1 c2 M1 M2) i y):False:=by
 obtain ⟨j,h1,h2⟩:=h;rcases zEw h2 with h|h
 ·rw[h.1,hg] at h1;cases h1
 ·rw[h.1,hg2] at h1;cases h1
theorem zJc {p:Nat} {w w':World} (h:Chg (two c1 c2 M1 M2 p) w w'):(p=c1∧Chg M1 w w')∨(p=c2∧Chg M2 w w')∨Ext w w':=by
  unfold two at h;cases h1:Nat.beq p c1 with
  | true=>rw[h1] at h;exact .inl ⟨Nat.eq_of_beq_eq_true h1,h⟩
  | false=>
    rw[h1] at h;cases h2:Nat.beq p c2 with
    | true=>rw[h2] at h;exact .inr (.inl ⟨Nat.eq_of_beq_eq_true h2,h⟩)
    | false=>rw[h2] at h;exact .inr (.inr h)
end
abbrev zEF:=Env→Fct
def zNu (ds:List Nat) (Fs:List zEF) (j:Nat) (σ:Env) (w:World):Prop:=∀d F,ds[j]?=some d→Fs[j]?=some F→F σ (σ d) w
def zNw (P:Program) (N:Nat) (ds:List Nat) (Fs:List zEF) (σ:Env) (w:World) (Ms:Nat→Nat→Prop) (all:List (List Nat)) (i:Nat) (o:Oper) (ws:List Nat) (F:zEF):Prop:=
 ∀σ' w',Chg (zEK all Ms i) w w'→(∀t,ds.contains t=false→σ' t=σ t)→(∀j,ws.contains j=true→zNu ds Fs j σ' w')→zCj (Ms i) P N o (fun v w=>F σ' (Go.Eng.valOf o v) w) σ' w'
def zBI (Ms:Nat→Nat→Prop) (i:Nat) (ws:List Nat) (F:zEF):Prop:=∀p,p≠i→ws.contains p=false→∀σ v w w',Chg (Ms p) w w'→F σ v w→F σ v w'
def zIY (ds:List Nat) (ws:List Nat) (F:zEF):Prop:=∀σ1 σ2:Env,(∀j d,ws.contains j=true→ds[j]?=some d→σ2 d=σ1 d)→∀v w,F σ1 v w→F σ2 v w
theorem zBI.eq {Ms:Nat→Nat→Prop} {i:Nat} {ws:List Nat} {u:Value}:zBI Ms i ws (fun _ v _=>v=u):=fun _ _ _ _ _ _ _ _ h=>h
theorem zIY.const {ds ws:List Nat} {G:Fct}:zIY ds ws (fun _=>G):=fun _ _ _ _ _ h=>h
inductive DagStepsX (P:Program) (N:Nat) (ds:List Nat) (Fs:List zEF) (σ:Env) (w:World) (Ms:Nat→Nat→Prop) (all:List (List Nat)):Nat→List Oper→List (List Nat)→List zEF→Prop where
  | nil {i:Nat}:DagStepsX P N ds Fs σ w Ms all i [] [] []
  | cons {i:Nat} {o:Oper} {l:List Oper} {ws:List Nat} {wss:List (List Nat)} {F:zEF} {Gs:List zEF} (s:zBI Ms i ws F) (lc:zIY ds ws F) (h:zNw P N ds Fs σ w Ms all i o ws F) (t:DagStepsX P N ds Fs σ w Ms all (i+1) l wss Gs):DagStepsX P N ds Fs σ w Ms all i (o::l) (ws::wss) (F::Gs)
theorem DagStepsX.get {P:Program} {N:Nat} {ds:List Nat} {Fs:List zEF} {σ:Env} {w:World} {Ms:Nat→Nat→Prop} {all:List (List Nat)}:∀{i:Nat} {l:List Oper} {wss:List (List Nat)} {Gs:List zEF},DagStepsX P N ds Fs σ w Ms all i l wss Gs→∀{j:Nat} {o:Oper},l[j]?=some o→∃ws F,wss[j]?=some ws∧Gs[j]?=some F∧zBI Ms (i+j) ws F∧zIY ds ws F∧zNw P N ds Fs σ w Ms all (i+j) o ws F
  | _,_,_,_,.nil,j,o,h=>by simp at h
  | i,_,_,_,.cons s lc h t,0,o,ho=>by
    simp at ho;subst ho;exact ⟨_,_,rfl,rfl,s,lc,h⟩
  | i,_,_,_,.cons s lc h t,j+1,o,ho=>by
    simp at ho;obtain ⟨ws,F,h1,h2,h3,h5,h4⟩:=DagStepsX.get t ho;exact ⟨ws,F,by simpa using h1,by simpa using h2,by rw[show i+(j+1)=i+1+j from qO];exact h3,h5,by rw[show i+(j+1)=i+1+j from qO];exact h4⟩
def zWR (wss cl:List (List Nat)) (i:Nat):Bool:=(cl.getD i []).all fun c=>(wss.getD i []).contains c || (wss.getD i []).any fun e=>(cl.getD e []).contains c
def zSa (wss cl:List (List Nat)):Bool:=(List.range wss.length).all (zWR wss cl)
theorem zGP {wss cl:List (List Nat)} (h:zSa wss cl=true) {i c:Nat} {ws:List Nat} (hw:wss[i]?=some ws) (hc:(cl.getD i []).contains c=true):c∈ws∨∃e∈ws,(cl.getD e []).contains c=true:=by
 have h1:=List.all_eq_true.1 h i (List.mem_range.2 (zAE hw));have h2:=List.all_eq_true.1 h1 c (by simpa using hc);rw[List.getD_eq_getElem?_getD,hw,Option.getD_some,Bool.or_eq_true] at h2;rcases h2 with h2|h2
 ·exact .inl (by simpa using h2)
 ·obtain ⟨e,he,h3⟩:=List.any_eq_true.1 h2;exact .inr ⟨e,he,h3⟩
theorem zGt {P:Program} {N:Nat} {Q:zFN} {σ:Env} {w:World} {id:Nat} {l:List Oper} (Ms:Nat→Nat→Prop) (n:Nat) (ds:List Nat) (wss cl:List (List Nat)) (Fs:List zEF) {Gs:List zEF} (hG:Fs=Gs) (hC:zSa wss cl=true) (hm:P.follows .mixedOrders=true) (hB:zGo N 0 (l.take n) ds wss=true) (hn:zGH ds=true)
    (hT:(decide (n<l.length) && Region.sinkB .any l.toArray n && Region.chainB .any l.toArray n && Region.seqB .any l.toArray (l.length - n) n (zEP n l.length))=true)
    (steps:∀w1,Ext w w1→DagStepsX P N ds Fs σ w1 Ms cl 0 (l.take n) cl Gs)
    (k:∀σ' w1 w',Ext w w1→Chg (fun y=>∃j,Ms j y) w1 w'→(∀t,ds.contains t=false→σ' t=σ t)→(∀j,zNu ds Fs j σ' w')→WpL P N l.toArray (Q .normal) Q (l.drop n) σ' w'):Wp P N (.region id l.toArray true) Q σ w:=by
  intro dz a ha he;have eQ:zFr dz N (thn (Q .normal) Q)=zFr dz N Q:=by funext e a w;cases e<;>rfl
  refine wp_region_any hm ?_;obtain ⟨w1,bk⟩:∃w1:World,w1={w with drawn:=w.drawn+1}:=⟨_,rfl⟩;have bm:Ext w w1:=by rw[bk];exact zFX w
  rw[←bk];have ba:=steps w1 bm;rw[←hG] at ba;simp only[Bool.and_eq_true,decide_eq_true_eq] at hT;obtain ⟨⟨⟨b2,hs⟩,hc⟩,bc⟩:=hT;have bs:ds.length=n:=by rw[zIL hB];simp;omega
  have bu:∀(m:Nat) (aa:Array Bool) (a:Act) (w':World),(aa.toList.take n).count false=m→HeadInv .any l.toArray n aa→Ok dz N a→Chg (fun y=>∃j,aa.getD j false=true∧Ms j y) w1 w'→(∀t,ds.contains t=false→env a t=σ t)→(∀j,aa.getD j false=true→zNu ds Fs j (env a) w')→
      wpAny P .any l.toArray (zFr dz N Q) (m+(l.length - n)) aa a w':=by
    intro m
    induction m with
    | zero=>
      intro aa a w' bt ai ha hx hu hh;have be:aa.size=l.length:=by simpa using ai.size
      have hl:aa=zEP n l.length:=by
        apply Array.ext';rw[zEP];have:=zNb (l:=aa.toList) (n:=n) (by simp;omega) bt (by
          intro t h1 h2;have a7:t<aa.size:=by simpa using h2
          have:=ai.tail t h1 (by simpa[be] using a7);simp only[Array.getD_eq_getD_getElem?,Array.getElem?_eq_getElem a7,Option.getD_some] at this;simp[a7,this])
        rw[this];simp[be]
      rw[Nat.zero_add];have h1:=k (env a) w1 w' bm (hx.mono fun y _ h=>by obtain ⟨j,_,h⟩:=h;exact ⟨j,h⟩) hu (fun j d F hd hF=>by
        have hj:j<n:=by have:=zAE hd;omega
        exact hh j (by
          rw[hl,zEP];simp[Array.getD_eq_getD_getElem?,List.getElem?_append_left,hj]) d F hd hF) dz a ha rfl
      rw[eQ] at h1;have:=wpAny_of_seq (P:=P) (md:=.any) (ops:=l.toArray) (Q':=zFr dz N Q) (l.drop n) n aa a w' (fun j=>by simp[List.getElem?_drop]) (by rw[List.length_drop,hl];exact bc) h1
      rwa [List.length_drop] at this
    | succ m ih=>
      intro aa a w' hcm ai ha hx hu hh;have be:aa.size=l.length:=by simpa using ai.size
      obtain ⟨i0,ao,a9⟩:∃i,i<n∧aa.getD i true=false:=by
        have:0<(aa.toList.take n).count false:=qO
        rw[List.count_pos_iff] at this;obtain ⟨i,hi,he⟩:=List.getElem_of_mem this;have au:i<n:=by simp at hi;omega
        refine ⟨i,au,?_⟩;have ar:i<aa.size:=by simp at hi;omega
        simp only[Array.getD_eq_getD_getElem?,Array.getElem?_eq_getElem ar,Option.getD_some];simpa using he
      rw[show m+1+(l.length - n)=(m+(l.length - n))+1 by omega];refine ⟨fun hr=>?_,fun i hi=>?_⟩
      · exfalso;have a3:∀i,i<n→aa.getD i true=true:=by
          intro i
          induction i using Nat.strongRecOn with
          | _ i ihi=>
            intro hi;cases hv:aa.getD i true with
            | true=>rfl
            | false=>
              exfalso;obtain ⟨o,ho⟩:=zAN (l:=l) (i:=i) qO;have ay:(l.take n)[i]?=some o:=by rw[List.getElem?_take_of_lt hi];exact ho
              obtain ⟨d,ws,_,_,h3⟩:=zDa hB ay;have:i∈Region.ready .any l.toArray aa:=by
                refine mem_ready.2 ⟨hv,o,by simpa using ho,fun e he hb=>?_⟩;simp only[zFJ,Bool.and_eq_true,Array.all_eq_true_iff_forall_mem,Bool.or_eq_true,Bool.not_eq_true',Nat.zero_add] at h3;have:=(h3.1.1.2 e he).resolve_left (by simp[hb]);have b0:e.on<i:=by simpa[Nat.blt_eq] using this
                have h4:=ihi e.on b0 qO;have hj:e.on<aa.size:=qO
                simpa only[Array.getD_eq_getD_getElem?,Array.getElem?_eq_getElem hj,Option.getD_some] using h4
              rw[hr] at this;cases this
        rw[a3 i0 ao] at a9;cases a9
      · have au:i<n:=by
          rcases Nat.lt_or_ge i n with h|h
          · exact h
          · exact absurd hi (tail_waits hs hc (by simpa using b2) ai _ i0 rfl ao a9 i h)
        obtain ⟨h1,o,h2,h3⟩:=mem_ready.1 hi;have ar:i<aa.size:=qO
        have ho:l[i]?=some o:=by simpa using h2
        have ay:(l.take n)[i]?=some o:=by rw[List.getElem?_take_of_lt au];exact ho
        obtain ⟨d,ws,hd,bv,h4⟩:=zDa hB ay;obtain ⟨bg,F,bf,hF,ap,a2,ag⟩:=ba.get ay;simp only[Nat.zero_add] at ag ap;simp only[zFJ,Bool.and_eq_true,List.all_eq_true,Array.any_eq_true',Array.all_eq_true_iff_forall_mem,Bool.or_eq_true,Bool.not_eq_true',Nat.zero_add] at h4;obtain ⟨⟨⟨ab,_⟩,av⟩,a4⟩:=h4;have a4:o.guard=none:=by simpa using a4
        have bh:∀j,aa.getD j false=true→∀c,(cl.getD j []).contains c=true→aa.getD c false=true:=by
          intro j
          induction j using Nat.strongRecOn with
          | _ j ihj=>
            intro ae c hc;have bo:j<n:=by
              rcases Nat.lt_or_ge j n with h|h
              · exact h
              · rcases Nat.lt_or_ge j l.length with h'|h'
                · have:=getD_both (ai.tail j h (by simpa using h'));rw[this] at ae;cases ae
                · simp[Array.getElem?_eq_none (show aa.size≤j by omega)] at ae
            obtain ⟨oc,bn⟩:=zAN (l:=l) (i:=j) qO;have a8:(l.take n)[j]?=some oc:=by rw[List.getElem?_take_of_lt bo];exact bn
            obtain ⟨dc,b5,_,bb,h5⟩:=zDa hB a8;simp only[zFJ,Bool.and_eq_true,List.all_eq_true,Array.any_eq_true',Array.all_eq_true_iff_forall_mem,Bool.or_eq_true,Bool.not_eq_true',Nat.zero_add] at h5;have ac:∀e'∈b5,aa.getD e' false=true∧e'<j:=by
              intro e' ah;obtain ⟨e,he,ax,a5⟩:=h5.1.2 e' ah;have b7:e.on=e':=Nat.eq_of_beq_eq_true a5;have h6:=ai.closed j oc (by simpa using bn) ae e he ax;have h7:=(h5.1.1.2 e he).resolve_left (by simp[ax]);rw[b7] at h6 h7;exact ⟨h6,by simpa[Nat.blt_eq] using h7⟩
            rcases zGP hC bb hc with h6|⟨e',ah,h6⟩
            · exact (ac c h6).1
            · exact ihj e' (ac e' ah).2 (ac e' ah).1 c h6
        have aj:∀j,aa.getD j false=true→zSF cl i j=false:=by
          intro j ae;cases hg:zSF cl i j with
          | false=>rfl
          | true=>
            exfalso;simp only[zSF,Bool.or_eq_true] at hg;rcases hg with hg|hg
            · have:j=i:=Nat.eq_of_beq_eq_true hg;rw[this,getD_both h1] at ae;cases ae
            · have:=bh j ae i hg;rw[getD_both h1] at this;cases this
        have aq:∀j,bg.contains j=true→aa.getD j false=true:=by
          intro j hj;have am:(cl.getD i []).contains j=true:=by rw[List.getD_eq_getElem?_getD,bf,Option.getD_some];exact hj
          have ac:∀e'∈ws,aa.getD e' false=true:=by
            intro e' ah;obtain ⟨e,he,ax,a5⟩:=av e' ah;have:e.on=e':=Nat.eq_of_beq_eq_true a5;exact this▸h3 e he ax
          rcases zGP hC bv am with h6|⟨e',ah,h6⟩
          · exact ac j h6
          · exact bh e' (ac e' ah) j h6
        have hH:∀j,bg.contains j=true→zNu ds Fs j (env a) w':=fun j hj=>hh j (aq j hj);have al:∀w2,Chg (Ms i) w' w2→Chg (fun y=>∃j,(aa.setIfInBounds i true).getD j false=true∧Ms j y) w1 w2:=by
          intro w2 az;have hg:(aa.setIfInBounds i true).getD i false=true:=by simp[Array.getD_eq_getD_getElem?,ar]
          refine Chg.step (hx.mono fun y _ h=>?_) az (fun y _ h=>⟨i,hg,h⟩);obtain ⟨j,h5,h6⟩:=h;by_cases hij:j=i
          · exact ⟨i,hg,hij▸h6⟩
          · exact ⟨j,by rw[getD_set_ne _ (Ne.symm hij)];exact h5,h6⟩
        have a6:∀v w2,Chg (Ms i) w' w2→F (env a) (Go.Eng.valOf o v) w2→wpAny P .any l.toArray (zFr dz N Q) (m+(l.length - n)) (aa.setIfInBounds i true) (a.put o.dst v) w2:=by
          intro v w2 az hv;have ad:(∀t,t≠d→env (a.put o.dst v) t=env a t)∧env (a.put o.dst v) d=Go.Eng.valOf o v:=by
            cases hod:o.dst with
            | none=>
              rw[hod] at ab;have b1:N≤d:=Nat.le_of_ble_eq_true ab;refine ⟨fun t _=>rfl,?_⟩;simp only[Go.Eng.valOf,hod];show a.tmps.getD d undef=undef;have:a.tmps.size≤d:=by rw[ha.size];exact b1
              simp[Array.getElem?_eq_none this]
            | some d'=>
              rw[hod] at ab;simp only[Bool.and_eq_true] at ab;have b3:d'=d:=Nat.eq_of_beq_eq_true ab.1;have bz:d<N:=by simpa[Nat.blt_eq] using ab.2
              subst b3;rw[zDQ ha bz v];refine ⟨fun t ht=>?_,?_⟩
              · have:Nat.beq t d'=false:=by cases hb:Nat.beq t d';rfl;exact absurd (Nat.eq_of_beq_eq_true hb) ht
                simp[upd,this]
              · simp[upd,Go.Eng.valOf,hod]
          refine ih _ _ _ ?_ (ai.set hi au) (ha.put _ _) (al w2 az) ?_ ?_
          · have hl:aa.toList[i]?=some false:=by
              simp only[Array.getD_eq_getD_getElem?,Array.getElem?_eq_getElem ar,Option.getD_some] at h1;simp[ar,h1]
            have:=zFg (l:=aa.toList) au (by simp;omega) hl;rw[Array.toList_setIfInBounds];omega
          · intro t ht;rw[ad.1 t (fun h=>by
              subst h;have:=List.mem_of_getElem? hd;simp[this] at ht),hu t ht]
          · intro j hj d' F' af a0;by_cases hij:j=i
            · subst hij;rw[hd] at af;cases af;rw[hF] at a0;cases a0;rw[ad.2];refine a2 (env a) _ (fun j' d' am af=>ad.1 d' fun he=>?_) _ _ hv;have:=zCJ hn (he▸af) hd;subst this;have:=aq j' am;rw[getD_both h1] at this;cases this
            · have b4:d'≠d:=by
                intro h;subst h;exact hij (zCJ hn af hd)
              rw[ad.1 d' b4];rw[getD_set_ne _ (Ne.symm hij)] at hj;have h6:=hh j hj d' F' af a0;have b6:j<n:=by have:=zAE af;omega
              obtain ⟨oj,bq⟩:=zAN (l:=l) (i:=j) qO;have an:(l.take n)[j]?=some oj:=by rw[List.getElem?_take_of_lt b6];exact bq
              obtain ⟨dj,wsj,_,br,h5⟩:=zDa hB an;obtain ⟨ak,Fj,aw,bi,bj,ae,_⟩:=ba.get an;rw[a0] at bi;cases bi;simp only[Nat.zero_add] at bj;have a1:ak.contains i=false:=by
                cases a1:ak.contains i with
                | false=>rfl
                | true=>
                  exfalso;have:=aj j hj;have bp:cl.getD j []=ak:=by simp[aw]
                  simp only[zSF,bp,a1,Bool.or_true] at this;cases this
              refine ae (env a) _ (fun j' d' am af=>ad.1 d' fun he=>?_) _ _ (bj i (Ne.symm hij) a1 _ _ _ _ az h6);have:=zCJ hn (he▸af) hd;subst this;rw[a1] at am;cases am
        have bx:Chg (zEK cl Ms i) w1 w':=hx.mono fun y _ h=>by
          obtain ⟨j,h5,h6⟩:=h;exact ⟨j,aj j h5,h6⟩
        have bw:=ag (env a) w' bx hu hH;have hw:Region.wanted o (yielded l.toArray a.tmps)=true:=by simp[Region.wanted,a4]
        unfold wpOp;simp only[h2,hw,if_true];exact Or.inl (bw _ a ha rfl _ _ a6)
  have bd:HeadInv .any l.toArray n (Array.replicate l.toArray.size false):=
    ⟨qP,fun j oj _ hl=>(by rw[getD_replicate_false] at hl;cases hl),fun t _ ht=>getD_in (by simpa using ht) (getD_replicate_false _ _)⟩
  have h1:=bu n (Array.replicate l.toArray.size false) a w1 (by simp;omega) bd ha (Chg.refl _ _) (fun t _=>by rw[he]) (fun j hj=>by rw[getD_replicate_false] at hj;cases hj);have e3:n+(l.length - n)=l.toArray.size:=by simp;omega
  rw[e3] at h1;exact h1
end Go.Eng
namespace Go.Proofs
open Go Go.Eng Go.Sort
set_option maxRecDepth 100000
def zGv (E N:Value) (vs:List Value) (b:Nat):Prop:=E.ownBlock=some b∨N.ownBlock=some b∨∃(i:Nat) (v:Value),vs[i]?=some v∧v.ownBlock=some b
structure OutSt (w:World) (base:Nat) (E N:Value) (vs:List Value) (acc:List Int) (rows:List (List Int)):Prop where
 e:w.ownsRow base TDI 1 E acc.length (acc.map (Value.int .i64))
 n:LSt zDg TDI 1 w base N vs (rows.map zKB)
 en:∀b,E.ownBlock=some b→N.ownBlock≠some b
 ei:∀(i:Nat) v b,vs[i]?=some v→v.ownBlock=some b→E.ownBlock≠some b
theorem OutSt.typ {w:World} {base b T:Nat} {E N:Value} {vs:List Value} {acc:List Int} {rows:List (List Int)} {c:Array Value} (h:OutSt w base E N vs acc rows) (hB:Blk w b c T) (h1:T≠TDI) (h2:T≠zDg):¬zGv E N vs b:=by
 have aa:∀{e n:Nat} {v:Value} {xs:List Value},w.ownsRow base e 1 v n xs→v.ownBlock=some b→T=e:=by
  intro e n v xs ho hv;rcases ho.2 with ⟨rfl,_⟩|⟨g,cap,ad,rfl,_,hg,_⟩
  ·cases hv
  ·have ac:g=b:=Option.some.inj hv;subst ac;unfold Blk at hB;have ab:w.heap[g]?=some (.cells ad e (0,0)):=hg;rw[ab] at hB;simp at hB;exact hB.2.symm
 rintro (h3|h3|⟨i,v,h3,h4⟩)
 ·exact h1 (aa h.e h3)
 ·exact h2 (aa h.n.o h3)
 ·obtain ⟨p,hp⟩:=zAN (l:=rows.map zKB) (i:=i) (by have:=zAE h3;have:=h.n.len;omega);exact h1 (aa (h.n.inn i v p h3 hp) h4)
theorem OutSt.start (w:World) (base:Nat):OutSt w base (.slice none 0 0) (.slice none 0 0) [] [] []:=
 ⟨World.ownsRow_nil _ _ _ _,LSt.start _ _ _ _ _,(fun b h=>by cases h),fun i v b h=>by simp at h⟩
theorem OutSt.lt {w:World} {base:Nat} {E N:Value} {vs:List Value} {acc:List Int} {rows:List (List Int)} (h:OutSt w base E N vs acc rows) {b:Nat} (hb:zGv E N vs b):base≤b∧b<w.heap.size:=by
 rcases hb with h1|h1|⟨i,v,h1,h2⟩
 ·exact h.e.lt b h1
 ·exact h.n.o.lt b h1
 ·obtain ⟨p,hp⟩:=zAN (l:=rows.map zKB) (i:=i) (by have:=zAE h1;have:=h.n.len;omega);exact (h.n.inn i v p h1 hp).lt b h2
theorem OutSt.chg {M:Nat→Prop} {w w':World} {base:Nat} {E N:Value} {vs:List Value} {acc:List Int} {rows:List (List Int)} (h:OutSt w base E N vs acc rows) (c:Chg M w w') (hM:∀b,zGv E N vs b→¬M b):OutSt w' base E N vs acc rows:=
 ⟨zAq h.e c fun b hb=>hM b (.inl hb),⟨zAq h.n.o c fun b hb=>hM b (.inr (.inl hb)),h.n.len,fun i v p hv hp=>zAq (h.n.inn i v p hv hp) c fun b hb=>hM b (.inr (.inr ⟨i,v,hv,hb⟩)),h.n.apo⟩,h.en,h.ei⟩
theorem OutSt.ext {w w':World} {base:Nat} {E N:Value} {vs:List Value} {acc:List Int} {rows:List (List Int)} (h:OutSt w base E N vs acc rows) (c:Ext w w'):OutSt w' base E N vs acc rows:=h.chg c fun _ _ f=>f
theorem OutSt.push {w w':World} {base bu m:Nat} {E E' N N' u:Value} {vs:List Value} {acc row:List Int} {rows:List (List Int)} {y:Int} (h:OutSt w base E N vs acc rows) (hu:w.ownsRow bu TDI 1 u m (row.map (Value.int .i64))) (hm:m=row.length) (hb:base≤bu) (hbu:∀b,zGv E N vs b→b<bu)
  (C:Chg (fun b=>N.ownBlock=some b∨E.ownBlock=some b) w w') (ON:w'.ownsRow base zDg 1 N' (rows.length+1) (vs++[u])) (WN:∀k,N'.ownBlock=some k→N.ownBlock=some k∨w.heap.size≤k)
  (OE:w'.ownsRow base TDI 1 E' (acc.length+1) ((acc++[y]).map (Value.int .i64))) (WE:∀k,E'.ownBlock=some k→E.ownBlock=some k∨w.heap.size≤k) (ap:∀b,N'.ownBlock=some b→E'.ownBlock≠some b):OutSt w' base E' N' (vs++[u]) (acc++[y]) (rows++[row]):=by
 have ae:=fun b (aa:u.ownBlock=some b)=>hu.lt b aa;have ac:∀(i:Nat) v,(vs++[u])[i]?=some v→vs[i]?=some v∨(i=vs.length∧v=u):=fun i v hv=>by
  rcases Nat.lt_or_ge i vs.length with h1|h1
  ·left;rwa [List.getElem?_append_left h1] at hv
  ·right;rw[List.getElem?_append_right h1] at hv;have h2:=zAE hv;simp at h2;rw[show i - vs.length=0 by omega] at hv;simp at hv;exact ⟨qO,hv.symm⟩
 have ad:∀(i:Nat) v b,(vs++[u])[i]?=some v→v.ownBlock=some b→N.ownBlock≠some b∧E.ownBlock≠some b∧b<w.heap.size:=fun i v b hv aa=>by
  rcases ac i v hv with h1|⟨_,rfl⟩
  ·exact ⟨fun e=>h.n.apo i v b h1 aa e,h.ei i v b h1 aa,(h.lt (.inr (.inr ⟨i,v,h1,aa⟩))).2⟩
  ·have:=ae b aa;exact ⟨fun e=>by have:=hbu b (.inr (.inl e));omega,fun e=>by have:=hbu b (.inl e);omega,this.2⟩
 have ab:∀(i:Nat) v b,(vs++[u])[i]?=some v→v.ownBlock=some b→N'.ownBlock≠some b∧E'.ownBlock≠some b:=fun i v b hv aa=>by
  obtain ⟨h1,h2,h3⟩:=ad i v b hv aa;exact ⟨fun e=>by rcases WN b e with h4|h4;exact h1 h4;omega,fun e=>by rcases WE b e with h4|h4;exact h2 h4;omega⟩
 refine ⟨by rw[List.length_append];exact OE,⟨by simpa using ON,by simp[h.n.len],fun i v p hv hp=>?_,fun i v b hv aa=>(ab i v b hv aa).1⟩,fun b aa e=>ap b e aa,fun i v b hv aa=>(ab i v b hv aa).2⟩;rw[List.map_append] at hp;rcases ac i v hv with h1|⟨h1,rfl⟩
 ·rw[List.getElem?_append_left (by have:=zAE h1;have:=h.n.len;omega)] at hp;exact zAq (h.n.inn i v p h1 hp) C fun b aa hC=>by
   obtain ⟨h2,h3,_⟩:=ad i v b hv aa;rcases hC with h4|h4
   ·exact h2 h4
   ·exact h3 h4
 ·have hl:=h.n.len;rw[h1,hl,List.getElem?_append_right (Nat.le_refl _),Nat.sub_self] at hp;simp[zKB] at hp;subst hp;rw[hm] at hu;exact zEq (zAq hu C fun b aa hC=>by
   obtain ⟨h2,h3,_⟩:=ad i v b hv aa;rcases hC with h4|h4
   ·exact h2 h4
   ·exact h3 h4) hb
theorem zCV {c1 c2 i e hs:Nat} {M1 M2:Nat→Prop} {cc:Array Value} {ws:List Nat} (h1:∀y,M1 y→y<hs) (h2:∀y,M2 y→y<hs):zBI (two c1 c2 M1 M2) i ws (fun _=>zDx e cc hs):=by
 rintro p _ _ σ v w w' x ⟨b,h3,h4,h5⟩;exact ⟨b,h3,x.keep (fun h=>by rcases zEw h with h|h;have:=h1 b h.2;omega;have:=h2 b h.2;omega) h4,h5⟩
theorem zGT {c1 c2 base e size n hs:Nat} {M1 M2:Nat→Prop} {xs:List Value} {old:Value} {ws:List Nat} (h:∀k,(old.ownBlock=some k∨hs≤k)→¬M2 k):zBI (two c1 c2 M1 M2) c1 ws (fun _=>zDH base e size n xs old hs):=by
 rintro p hp _ σ v w w' x ⟨h1,h2,h3⟩;rcases zJc x with h4|h4|h4
 ·exact absurd h4.1 hp
 ·exact ⟨h1,zAq h2 h4.2 (fun k hk=>h k (h3 k hk)),h3⟩
 ·exact ⟨h1,zAj h2 h4,h3⟩
theorem zGS {c1 c2 base e size n hs t:Nat} {M1 M2:Nat→Prop} {xs:List Value} {old:Value} {ws:List Nat} (hw:ws.contains c1=true):zBI (two c1 c2 M1 M2) c2 ws (fun s v w=>zDH base e size n xs old hs v w∧∀b,(s t).ownBlock=some b→v.ownBlock≠some b):=by
 rintro p hp aa σ v w w' x ⟨⟨h1,h2,h3⟩,h4⟩;rcases zJc x with h5|h5|h5
 ·rw[h5.1,hw] at aa;cases aa
 ·exact absurd h5.1 hp
 ·exact ⟨⟨h1,zAj h2 h5,h3⟩,h4⟩
theorem zMo {M:Nat→Prop} {P:Program} {N:Nat} {o:Oper} {R R':Fct} {σ:Env} {w:World} (h:zCj M P N o R σ w) (hr:∀v w,R v w→R' v w):zCj M P N o R' σ w:=fun dz a ha he Q K hK=>h dz a ha he Q K fun v w2 hx2 h2=>hK v w2 hx2 (hr v w2 h2)
theorem zGr {M:Nat→Prop} {P:Program} {N:Nat} {o:Oper} {σ:Env} {w:World} {b1 e1 s1 n1 b2 e2 s2 n2 hs:Nat} {xs ys:List Value} {old old' u:Value} (h:zDH b1 e1 s1 n1 ys old' hs u w) (hd:zCj M P N o (zDH b2 e2 s2 n2 xs old w.heap.size) σ w) (h4:hs≤w.heap.size) (hap:∀k,(old'.ownBlock=some k∨hs≤k)→old.ownBlock≠some k) (ho:∀v,Go.Eng.valOf o v=v:=by intro v;rfl) :
  zCj M P N o (fun v w=>zDH b2 e2 s2 n2 xs old hs (Go.Eng.valOf o v) w∧∀b,u.ownBlock=some b→(Go.Eng.valOf o v).ownBlock≠some b) σ w:=by
 refine zMo hd ?_;rintro v w2 ⟨h1,h2,h3⟩;rw[ho v];refine ⟨⟨h1,h2,fun k hk=>(h3 k hk).imp id (fun h=>Nat.le_trans h4 h)⟩,fun k hk hv=>?_⟩;obtain ⟨_,h5,h6⟩:=h;rcases h3 k hv with h7|h7
 ·exact hap k (h6 k hk) h7
 ·have:=(h5.lt k hk).2;omega
theorem zFD {w:World} {b base n:Nat} {row:List Int} (h:Blk w b (row.map (Value.int .i64)).toArray TDI) (hb:base≤b) (hn:row.length=n) (hl:n≤9223372036854775807:=by omega):w.ownsRow base TDI 1 (.slice (some ⟨b,0,none⟩) n n) n (row.map (Value.int .i64)):=
 ⟨by simp[hn],.inr ⟨b,n,_,rfl,hb,h,Nat.le_refl _,hl,by simp[hn],by simp only[Nat.mul_one];exact List.take_of_length_le (by simp[hn])⟩⟩
theorem OutSt.intss {w:World} {base:Nat} {E N:Value} {vs:List Value} {acc:List Int} {rows:List (List Int)} (h:OutSt w base E N vs acc rows):zDk w N rows:=by
 have hl:vs.length=rows.length:=by simpa using h.n.len
 refine ⟨vs,?_,hl,fun i u l hu hl=>?_⟩
 ·have ho:=h.n.o;rw[show vs=(vs.map fun x=>[x]).flatten by simp[List.flatten_eq_flatMap,List.flatMap_map]] at ho;exact zDS ho (by intro r hr;simp only[List.mem_map] at hr;obtain ⟨x,_,rfl⟩:=hr;rfl) (by simp[hl]) qD
 ·exact zEZ (h.n.inn i u (zKB l) hu (by rw[List.getElem?_map,hl];rfl)) rfl
end Go.Proofs
namespace Go.Proofs
open Go Go.Eng Go.Sort
set_option maxRecDepth 100000
theorem zDz {w:World} {b:Nat} {l:List Int} {T:Nat} (h:Blk w b (l.map (Value.int .i64)).toArray T) {i:Nat} {x:Int} (hx:l[i]?=some x):w.cell? ⟨b,0+i,none⟩=some (.int .i64 x):=h.cell (by simp[hx])
theorem zNE {p:List Int} {t:Nat} {n:Nat} (hl:p.length=n) (ht:t<n):p[t]?=some (ptD p ((t:Nat):Int)):=by
 have h1:p[t]?=some (p[t]'(by omega)):=List.getElem?_eq_getElem _;rw[h1,zCN h1]
theorem zSR {w:World} {be bh bg c:Nat} {T T':Nat} (he:Blk w be #[.int .i64 (-1)] T) (hh:Blk w bh #[.slice (some ⟨bg,0,none⟩) c c] T') (hg:Blk w bg ((List.replicate c (-1:Int)).map (Value.int .i64)).toArray TDI) (hc:c≤60000):zBk w ⟨0,[-1],[List.replicate c (-1)]⟩ [.int .i64 0,.slice (some ⟨be,0,none⟩) 1 1,.slice (some ⟨bh,0,none⟩) 1 1]:=by
  refine ⟨_,1,_,1,rfl,zFl [-1] he qP qP,[.slice (some ⟨bg,0,none⟩) c c],⟨some ⟨bh,0,none⟩,1,rfl,show (1:Nat)≤9223372036854775807 by decide,Nat.le_refl 1,.inr ⟨bh,0,rfl,?_⟩⟩,rfl,?_⟩
  · intro i r hr j u hu;rcases i with _|i<;>simp at hr;subst hr;cases j with
    | zero=>simp at hu;subst hu;exact hh.cell rfl
    | succ j=>simp at hu
  · intro i u l hu hl;rcases i with _|i<;>simp at hu hl;subst hu;subst hl;exact zEv hg qP
theorem zHS {E E' N N':Value} {vs:List Value} {b bq n4 c:Nat} (h:¬zGv E N vs b∧b≠bq) (hb:b<n4) (DN:∀k,N'.ownBlock=some k→N.ownBlock=some k∨n4≤k) (DE:∀k,E'.ownBlock=some k→E.ownBlock=some k∨n4≤k) (ho:zGv E' N' (vs++[.slice (some ⟨bq,0,none⟩) c c]) b):False:=by
 rcases ho with h1|h1|⟨i,v,h1,h2⟩
 ·rcases DE b h1 with h3|h3
  ·exact h.1 (.inl h3)
  ·omega
 ·rcases DN b h1 with h3|h3
  ·exact h.1 (.inr (.inl h3))
  ·omega
 ·rcases zBz h1 with h3|⟨_,h3⟩
  ·exact h.1 (.inr (.inr ⟨i,v,h3,h2⟩))
  ·subst h3;cases h2;exact h.2 rfl
theorem zDq {α:Type} {l:List α} {k:Nat} {x:α} (h:l[k]?=some x):l.take (k+1)=l.take k++[x]:=by rw[List.take_add_one,h];rfl
theorem CanP.st_le {n c:Nat} {d:Dfa} {p:List Int} {rows:List (List Int)} {row st:List Int} (h:CanP n c d p rows row st):st.length≤n:=by
 have hd:(st.map Int.toNat).Nodup:=by
  rw[List.nodup_iff_pairwise_ne,List.pairwise_iff_getElem];intro i j hi hj hij he;simp only[List.length_map] at hi hj;simp only[List.getElem_map] at he;have a:=List.getElem?_eq_getElem hi;have b:=List.getElem?_eq_getElem hj;have h1:=h.sl _ (List.mem_of_getElem? a);have h2:=h.sl _ (List.mem_of_getElem? b);have e:st[i]=st[j]:=qO
  have:=h.inj i j _ _ a b (by rw[e]);omega
 have:=zFF (m:=List.range n) hd fun x hx=>by
  obtain ⟨s,hs,rfl⟩:=List.mem_map.1 hx;have:=h.sl s hs;exact List.mem_range.2 qO
 simpa using this
def zCi (m:Nat) (w:World) (d:Dfa) (vs:List Value):Prop:=∀(M:Nat→Prop) w',Chg M w w'→(∀b,M b→b<m∨∃cs,Blk w b cs 34)→zBk w' d vs
theorem zCi.at' {m:Nat} {w:World} {d:Dfa} {vs:List Value} (h:zCi m w d vs):zBk w d vs:=h zAh w (Chg.refl _ _) fun _ f=>f.elim
theorem zCi.chgT {M:Nat→Prop} {m:Nat} {w w':World} {d:Dfa} {vs:List Value} (h:zCi m w d vs) (c:Chg M w w') (hM:∀b,M b→b<m∨∃cs,Blk w b cs 34):zCi m w' d vs:=fun M2 w2 c2 h2=>
 h (fun b=>M b∨(M2 b∧b<w.heap.size∧¬M b)) w2 (Chg.step (c.mono fun b _ hb=>.inl hb) c2 fun b hl hm=>by by_cases hn:M b;exact .inl hn;exact .inr ⟨hm,hl,hn⟩) fun b hb=>by
  rcases hb with hb|⟨hm,hl,hn⟩
  ·exact hM b hb
  ·rcases h2 b hm with h3|⟨cs,h3⟩
   ·exact .inl h3
   ·exact .inr ⟨cs,(c.blk b hl hn).symm.trans h3⟩
theorem zCi.chg {M:Nat→Prop} {m:Nat} {w w':World} {d:Dfa} {vs:List Value} (h:zCi m w d vs) (c:Chg M w w') (hM:∀b,M b→b<m):zCi m w' d vs:=h.chgT c fun b hb=>.inl (hM b hb)
theorem zCi.low {m m':Nat} {w:World} {d:Dfa} {vs:List Value} (h:zCi m w d vs) (hm:m'≤m):zCi m' w d vs:=fun M w' c hM=>h M w' c fun b hb=>(hM b hb).imp (fun h=>qO) id
theorem zMT {M:Nat→Prop} {m b:Nat} {w:World} {cs:Array Value} {T:TypeId} (hM:∀b,M b→b<m∨∃cs,Blk w b cs 34) (hb:m≤b) (hB:Blk w b cs T) (hT:T≠34):¬M b:=fun h=>by
 rcases hM b h with h1|⟨c2,h1⟩
 ·omega
 ·unfold Blk at hB h1;rw[h1] at hB;simp at hB;exact hT hB.2.symm
theorem zUu (w0:World) (n c:Nat) (d:Dfa) (dv:List Value) (ok:OkD n c d) (h:zBk w0 d dv) (hn:n≤20000∧1≤c∧c≤16) (hac:∀x∈d.accept,x<2147483648) :
  Ret prog 37 #[.agg dv.toArray] w0 fun r w=>(∃C cv,zDf c (beh d d.start) C∧C.next.length≤n∧(∀x∈C.accept,x<2147483648)∧r=.agg cv.toArray∧zCi w0.heap.size w C cv)∧Ext w0 w:=by
 obtain ⟨dv0,bx⟩:∃x,x=dv:=⟨_,rfl⟩;have b2:=h;rw[←bx] at b2;obtain ⟨aa,ac,na,nc,rfl,cl,cq⟩:=h;have eo:=ok.nl;have es:=ok.al;have c3:=ok.st;rw[es,eo] at bx⊢;rw[es] at cl;rw[eo] at cq;have f9:∀w,Ext w0 w→zBk w d [.int .i64 d.start,.slice aa n ac,.slice na n nc]:=fun w e=>by rw[bx] at b2;exact b2.ext e
 obtain ⟨nb,no,rfl,fx⟩:=zBs (n:=n) cq qO;obtain ⟨ab,ao,rfl,ep⟩:=zBG (n:=n) cl qO;obtain ⟨s0,er⟩:=Int.eq_ofNat_of_zero_le c3.1;have fp:ab<w0.heap.size:=World.block_lt_of_cell? w0 _ (ep s0 _ (zIU ok (show s0<n by omega)));have bk:∀(s:Nat),s<n→∃row ra rc,d.next[s]?=some row∧row.length=c∧w0.cell? ⟨nb,no+s,none⟩=some (.slice ra c rc)∧zBZ w0 (.slice ra c rc) row:=fun s hs=>by
  obtain ⟨row,a6⟩:=zAN (l:=d.next) (i:=s) qO;have c7:=(ok.row row (List.mem_of_getElem? a6)).1;obtain ⟨ra,rc,h1,h2⟩:=fx s row a6;rw[c7] at h1 h2;exact ⟨row,ra,rc,a6,c7,h1,h2⟩
 obtain ⟨e5,ek,eh,eu,f3,b0,fh⟩:=bk 0 qO;refine qR func37 rfl ntmps37 rfl (fun E=>(zAA (zBQ (v:=(.agg #[(I6 d.start),(.slice (some ⟨ab,ao,none⟩) n ac),(.slice (some ⟨nb,no,none⟩) n nc)])) (c:=#[(I6 d.start),(.slice (some ⟨ab,ao,none⟩) n ac),(.slice (some ⟨nb,no,none⟩) n nc)]) qD rfl rfl ?_)));intro bd wd Nd;have Fd:=Nd.ge E;replace E:=E.ext Nd.ext;have Bd:=Nd.blk;refine zBH (c:=#[(I6 0),(.slice none 0 0),(.slice none 0 0)]) qD zBf rfl ?_;intro bo wo No;have Fo:=No.ge E;have Oo_bd:=No.lt Bd;replace Bd:=No.keep Bd;replace E:=E.ext No.ext;have Bo:=No.blk;refine zAB (zAA (qV (zAK (vs:=[(I6 d.start),(.slice (some ⟨ab,ao,none⟩) n ac),(.slice (some ⟨nb,no,none⟩) n nc)]) rfl zAx zAe rfl (Bd.cells rfl)) ?_));have f8:=Bo.lt;have gc:=Bd.lt;refine qE rfl (zAQ (vs:=[(.agg #[(I6 d.start),(.slice (some ⟨ab,ao,none⟩) n ac),(.slice (some ⟨nb,no,none⟩) n nc)])]) func73 kQ kQ rfl) (zUI _ n c d _ ok (f9 _ E) qO hac) ?_;rintro _ w9 ⟨⟨p,b1,cz,rfl,hb1,ae⟩,X9⟩;replace Bd:=X9.keep Bd;replace Bo:=X9.keep Bo;replace E:=E.ext X9;refine qA (.slice (some ⟨b1,0,none⟩) n n) rfl (zAB (zAA (qF bd 0 2 rfl underlying34 rfl zBu rfl (qV (zAI (v:=(.slice (some ⟨nb,no,none⟩) n nc)) rfl zBi (Bd.cell rfl)) (qV (zAD (b:=nb) (o:=no) (len:=n) (cap:=nc) (i:=0) (o':=no+0) rfl rfl rfl underlying32 zBL qO qO) (qV (zAI (v:=(.slice ek c eh)) rfl zBP (E.cell (fun f=>f) (by rw[Nat.add_zero] at *;exact b0))) ?_))))));have ew:=ae.lt;have ej:=zNE cz.len (show s0<n by omega);refine qV (zAJ (ad:=ek) (n:=c) (cap:=eh) underlying22 rfl) (qA (I6 (c:Int)) rfl (zAB (zAH (zAA (qM (.slice (some ⟨b1,0,none⟩) n n) rfl (qF bd 0 0 rfl underlying34 rfl zAy rfl (qV (zAI (v:=(I6 d.start)) rfl zAo (Bd.cell rfl)) (qV (zAD (b:=b1) (o:=0) (len:=n) (cap:=n) (i:=s0) (o':=0+s0) rfl rfl qO underlying22 zAy qO qO) (qV (zAI (v:=(I6 (ptD p d.start))) rfl zAo (by rw[er];exact zDz ae ej)) (qV (zBF (k:=.i64) (a:=ptD p d.start) (b:=0) rfl rfl) (zAB (qC rfl (fun cr=>?_) (fun cr=>?_)))))))))))))
 ·have dy:¬zBX c d d.start:=fun hl=>by have:=(cz.live d.start ⟨qO,c3.2⟩).1.2 hl;omega
  refine zAA (zAc (ps:=[(0,(I6 (-1)))]) (c:=#[(I6 (-1))]) qD rfl underlying22 zAy zDI qD qD qK ?_);intro be we Ne;have Fe:=Ne.ge E;have Oe_bd:=Ne.lt Bd;have Oe_bo:=Ne.lt Bo;have Oe_b1:=Ne.lt ae;replace Bd:=Ne.keep Bd;replace Bo:=Ne.keep Bo;replace ae:=Ne.keep ae;replace E:=E.ext Ne.ext;have Be:=Ne.blk;refine zAc (ps:=[(0,(I6 (-1)))]) (c:=#[(I6 (-1))]) qD rfl underlying22 zAy zDI qD qD qK ?_;intro bf wf Nf;have Ff:=Nf.ge E;have Of_bd:=Nf.lt Bd;have Of_bo:=Nf.lt Bo;have Of_b1:=Nf.lt ae;have Of_be:=Nf.lt Be;replace Bd:=Nf.keep Bd;replace Bo:=Nf.keep Bo;replace ae:=Nf.keep ae;replace Be:=Nf.keep Be;replace E:=E.ext Nf.ext;have Bf:=Nf.blk;refine qM (I6 (c:Int)) rfl ?_;have fb:=Bf.lt;refine qE rfl (zAQ (vs:=[(.slice (some ⟨bf,0,none⟩) 1 1),(I6 (c:Int))]) func74 kQ kQ rfl) (zGB _ bf 1 c (-1) _ Bf hn.2.1 qO) ?_;rintro _ ex ⟨⟨g,rfl,hg,hG⟩,cb⟩;replace Bd:=cb.keep Bd;replace Bo:=cb.keep Bo;replace ae:=cb.keep ae;replace Be:=cb.keep Be;replace Bf:=cb.keep Bf;replace E:=E.ext cb;refine zAc (ps:=[(0,(.slice (some ⟨g,0,none⟩) c c))]) (c:=#[(.slice (some ⟨g,0,none⟩) c c)]) qD rfl underlying32 zBL zEg qD qD qK ?_;intro bh wh Nh;have Fh:=Nh.ge E;have Oh_bd:=Nh.lt Bd;have Oh_bo:=Nh.lt Bo;have Oh_b1:=Nh.lt ae;have Oh_be:=Nh.lt Be;have Oh_bf:=Nh.lt Bf;have Oh_g:=Nh.lt hG;replace Bd:=Nh.keep Bd;replace Bo:=Nh.keep Bo;replace ae:=Nh.keep ae;replace Be:=Nh.keep Be;replace Bf:=Nh.keep Bf;replace hG:=Nh.keep hG;replace E:=E.ext Nh.ext;have Bh:=Nh.blk;refine qV (zBA (ps:=[(1,(.slice (some ⟨be,0,none⟩) 1 1)),(2,(.slice (some ⟨bh,0,none⟩) 1 1))]) (v:=(.agg #[(I6 0),(.slice (some ⟨be,0,none⟩) 1 1),(.slice (some ⟨bh,0,none⟩) 1 1)])) rfl qK) (zAb (b:=bo) (o:=0) (c':=#[(I6 0),(.slice (some ⟨be,0,none⟩) 1 1),(.slice (some ⟨bh,0,none⟩) 1 1)]) rfl rfl qS zAe rfl Bo qL rfl ?_);intro w2 S2;replace Bd:=S2.keep qO Bd;replace ae:=S2.keep qO ae;replace Be:=S2.keep qO Be;replace Bf:=S2.keep qO Bf;replace hG:=S2.keep qO hG;replace Bh:=S2.keep qO Bh;replace E:=S2.step E qQ;replace Bo:=S2.blk;refine zAB (zAV (zAU (zBm results37 (vs:=[(.int .i64 0),(.slice (some ⟨be,0,none⟩) 1 1),(.slice (some ⟨bh,0,none⟩) 1 1)]) (b:=bo) rfl zAx zAe rfl (Bo.cells rfl) ?_)));exact ⟨⟨⟨0,[-1],[List.replicate c (-1)]⟩,_,zOe ok dy,by show 1≤n;omega,fun x hx=>by rw[List.mem_singleton] at hx;rw[hx];decide,rfl,fun M w' ch hM=>zSR (ch.keep (zMT hM qO Be qD) Be) (ch.keep (zMT hM qO Bh qD) Bh) (ch.keep (zMT hM qO hG qD) hG) qO⟩,E⟩
 ·have bv:0≤ptD p d.start:=qO
  refine zAO (zAC (zAA (zBH (c:=#[(I6 0),(.slice none 0 0),(.slice none 0 0)]) qD zBf rfl ?_)));intro br wr Nr;have Fr:=Nr.ge E;have Or_bd:=Nr.lt Bd;have Or_bo:=Nr.lt Bo;have Or_b1:=Nr.lt ae;replace Bd:=Nr.keep Bd;replace Bo:=Nr.keep Bo;replace ae:=Nr.keep ae;replace E:=E.ext Nr.ext;have Br:=Nr.blk;refine zAB (zAA (zEW zEz zEz qD ?_));intro bm wm Nm;have Fm:=Nm.ge E;have Om_bd:=Nm.lt Bd;have Om_bo:=Nm.lt Bo;have Om_b1:=Nm.lt ae;have Om_br:=Nm.lt Br;replace Bd:=Nm.keep Bd;replace Bo:=Nm.keep Bo;replace ae:=Nm.keep ae;replace Br:=Nm.keep Br;replace E:=E.ext Nm.ext;intro Mm;refine qM (.slice (some ⟨b1,0,none⟩) n n) rfl (qF bd 0 0 rfl underlying34 rfl zAy rfl (qV (zAI (v:=(I6 d.start)) rfl zAo (Bd.cell rfl)) (qV (zAD (b:=b1) (o:=0) (len:=n) (cap:=n) (i:=s0) (o':=0+s0) rfl rfl qO underlying22 zAy qO qO) (qV (zAI (v:=(I6 (ptD p d.start))) rfl zAo (by rw[er];exact zDz ae ej)) (zHO (k:=(ptD p d.start)) (v:=0) underlying113 (zQG underlying3) Mm rfl rfl rfl ?_)))));intro w3 S3 H3;replace Bd:=S3.keep qO Bd;replace Bo:=S3.keep qO Bo;replace ae:=S3.keep qO ae;replace Br:=S3.keep qO Br;replace E:=S3.step E qQ;replace Mm:=H3;refine qM (.map (some bm)) rfl (qA (.map (some bm)) rfl (zAB (zAA (qF bd 0 0 rfl underlying34 rfl zAy rfl (qV (zAI (v:=(I6 d.start)) rfl zAo (Bd.cell rfl)) (zAc (ps:=[(0,(I6 d.start))]) (c:=#[(I6 d.start)]) qD rfl underlying22 zAy zDI qD qD qK ?_))))));intro bs ws Ns;have Fs:=Ns.ge E;have Os_bd:=Ns.lt Bd;have Os_bo:=Ns.lt Bo;have Os_b1:=Ns.lt ae;have Os_br:=Ns.lt Br;have Os_bm:=Ns.ltM Mm;replace Bd:=Ns.keep Bd;replace Bo:=Ns.keep Bo;replace ae:=Ns.keep ae;replace Br:=Ns.keep Br;replace Mm:=Ns.keepM Mm;replace E:=E.ext Ns.ext;have Bs:=Ns.blk;refine qA (.slice (some ⟨bs,0,none⟩) 1 1) rfl (zAB (zAH (zAA (qA (I6 0) rfl (zAB (zAS ?_))))));obtain ⟨n1,fn⟩:∃n1,n1=bs:=⟨_,rfl⟩;have fy:bs<ws.heap.size:=Bs.lt;have f0:=zJn (base:=n1) Bs qO;have fc:=CanP.start (c:=c) c3 bv;refine zAp (fun nn_ σ W4=>∃(i:Nat) (ag:List (List Int)) (st ap:List Int) (vs:List Value) (sa ea am:Option Addr) (ah sn ec aj:Nat),(∃jj_,σ=zCT jj_ [(1,(P6 bd 0)),(2,(P6 bo 0)),(3,(.slice (some ⟨b1,0,none⟩) n n)),(4,(I6 (c:Int))),(5,(P6 br 0)),(6,(.map (some bm))),(8,(I6 (i:Int))),(7,(.slice sa sn ah))])∧Chg zAh w0 W4∧Blk W4 bd #[(I6 d.start),(.slice (some ⟨ab,ao,none⟩) n ac),(.slice (some ⟨nb,no,none⟩) n nc)] 34∧Blk W4 bo #[(I6 0),(.slice none 0 0),(.slice none 0 0)] 34∧Blk W4 b1 ((p.map (Value.int .i64)).toArray) 3∧Blk W4 br (#[Value.int .i64 0,.slice ea i ec,.slice am i aj]) 34∧zCC W4 bm zEz zEz (zCk (st.map (ptD p)) 0)∧(CanP n c d p ag [] st)∧(ag.length=i)∧(sn=st.length)∧(i≤sn)∧(ap=(st.take i).map (atD d))∧(W4.ownsRow n1 TDI 1 (.slice sa sn ah) sn (st.map (Value.int .i64)))∧(OutSt W4 n1 (.slice ea i ec) (.slice am i aj) vs ap ag)∧(∀b,(Value.slice sa sn ah).ownBlock=some b→¬zGv (.slice ea i ec) (.slice am i aj) vs b)∧(n1≤W4.heap.size)∧nn_=n - i) (n:=n - 0) ?_ ?_
  ·exact ⟨0,[],[d.start],[],[],some ⟨bs,0,none⟩,none,none,1,1,0,0,zAz.out ⟨rfl,rfl,rfl,rfl,rfl,rfl,rfl,rfl,trivial⟩,E,Bd,Bo,ae,Br,Mm,fc,rfl,rfl,qO,rfl,f0,OutSt.start _ _,(fun b _ h=>by rcases h with h|h|⟨i,v,h,_⟩;cases h;cases h;simp at h),qO,rfl⟩
  ·clear E Bd Bo ae Br Mm;rintro _ _ W4 ⟨i,ag,st,ap,vs,sa,ea,am,ah,sn,ec,aj,⟨j4,rfl⟩,E,Bd,Bo,ae,Br,Mm,hC,cx,bn,f1,bp,hS,hO,az,ar,rfl⟩;refine zAH (zAA (qM (I6 (i:Int)) rfl (qM (.slice sa sn ah) rfl (qV (zAJ (ad:=sa) (n:=sn) (cap:=ah) underlying22 rfl) (qV (zBF (k:=.i64) (a:=(i:Int)) (b:=(sn:Int)) rfl rfl) (zAB (qC rfl (fun fs=>?_) (fun fs=>?_))))))))
   ·obtain ⟨s,av⟩:=zAN (l:=st) (i:=i) qO;obtain ⟨ds,fv,f4⟩:=hC.sl s (List.mem_of_getElem? av);obtain ⟨sN,d7⟩:=Int.eq_ofNat_of_zero_le ds;obtain ⟨row,ra,rc,a6,c7,cc,fr⟩:=bk sN qO;have hle:=hC.st_le;have dp:((ag.length:Nat):Int)≤mxL ag.flatten:=by have:=hC.mx;rw[List.append_nil] at this;omega
    obtain ⟨sb,rfl,e7,cd⟩:=zBe hS qO;obtain ⟨z0,hz0⟩:∃z0,z0=(W4).heap.size:=⟨_,rfl⟩;have hnz:n1≤z0:=qO
    have ct:∀b,zGv (.slice ea i ec) (.slice am i aj) vs b→b<z0:=fun b hb=>by have:=(hO.lt hb).2;omega
    have ga:∀b,(Value.slice (some ⟨sb,0,none⟩) sn ah).ownBlock=some b→b<z0:=fun b hb=>by have:=(hS.lt b hb).2;omega
    refine zAO (zAC (zAH (zAS (zAA (qM (I6 (c:Int)) rfl (zEx (n:=c) (z:=(I6 0)) (bytes:=8) qD underlying22 zAy zJU zDI rfl rfl rfl qO qO ?_))))));intro bq wq Nq;have Fq:=Nq.ge E;have Oq_bd:=Nq.lt Bd;have Oq_bo:=Nq.lt Bo;have Oq_b1:=Nq.lt ae;have Oq_br:=Nq.lt Br;have Oq_bm:=Nq.ltM Mm;replace Bd:=Nq.keep Bd;replace Bo:=Nq.keep Bo;replace ae:=Nq.keep ae;replace Br:=Nq.keep Br;replace Mm:=Nq.keepM Mm;replace hS:=zAj hS Nq.ext;replace hO:=hO.ext Nq.ext;replace ar:=Nat.le_trans ar Nq.ext.size;replace cd:=cd.ext Nq.ext;replace E:=E.ext Nq.ext;have Bq:=Nq.blk;refine qA (.slice (some ⟨bq,0,none⟩) c c) rfl (zAB (zAH (zAH ?_)));obtain ⟨e2,ak⟩:∃Fs:List Fact,Fs=[.eq (P6 bd 2),.eq (.slice (some ⟨nb,no,none⟩) n nc),.eq (.slice (some ⟨sb,0,none⟩) sn ah),.eq (I6 (i:Int)),.eq (.pointer (some ⟨sb,0+i,none⟩)),.eq (I6 s),.eq (.pointer (some ⟨nb,no+sN,none⟩)),.eq (.slice ra c rc),.eq (I6 (c:Int)),.eq (I6 0)]:=⟨_,rfl⟩;refine zLt [51,52,53,54,55,56,57,58,59,60] [[],[0],[],[],[2,3],[4],[1,5],[6],[7],[]] e2 ak mixed qK qK ?_ ?_
    ·intro wd X0;refine DagSteps.cons (fun s' w' X U H=>Or.inl ⟨?_,?_⟩) ?_
     ·exact zAL rfl
     ·exact zAt (zAZ (b:=bd) (o:=0) (o':=2) (U 1 rfl) underlying34 rfl zBu rfl) (Ext.refl _) rfl
     refine DagSteps.cons (fun s' w' X U H=>Or.inl ⟨?_,?_⟩) ?_
     ·exact zAL rfl
     ·have fq:s' 51=(.pointer (some ⟨bd,2,none⟩)):=H 0 rfl 51 (.eq (.pointer (some ⟨bd,2,none⟩))) rfl (by rw[ak];rfl);exact zAt (zAI (v:=(.slice (some ⟨nb,no,none⟩) n nc)) fq zBi (((X0.trans X).keep Bd).cell rfl)) (Ext.refl _) rfl
     refine DagSteps.cons (fun s' w' X U H=>Or.inl ⟨?_,?_⟩) ?_
     ·exact zAL rfl
     ·exact zAt (zAl (v:=(.slice (some ⟨sb,0,none⟩) sn ah)) (U 7 rfl)) (Ext.refl _) rfl
     refine DagSteps.cons (fun s' w' X U H=>Or.inl ⟨?_,?_⟩) ?_
     ·exact zAL rfl
     ·exact zAt (zAl (v:=(I6 (i:Int))) (U 8 rfl)) (Ext.refl _) rfl
     refine DagSteps.cons (fun s' w' X U H=>Or.inl ⟨?_,?_⟩) ?_
     ·exact zAL rfl
     ·have e1:s' 53=(.slice (some ⟨sb,0,none⟩) sn ah):=H 2 rfl 53 (.eq (.slice (some ⟨sb,0,none⟩) sn ah)) rfl (by rw[ak];rfl);have ey:s' 54=(.int .i64 ((i:Nat):Int)):=H 3 rfl 54 (.eq (.int .i64 ((i:Nat):Int))) rfl (by rw[ak];rfl);exact zAt (zAD (b:=sb) (o:=0) (len:=sn) (cap:=ah) (i:=i) (o':=0+i) e1 ey rfl underlying22 zAy qO qO) (Ext.refl _) rfl
     refine DagSteps.cons (fun s' w' X U H=>Or.inl ⟨?_,?_⟩) ?_
     ·exact zAL rfl
     ·have fd:s' 55=(.pointer (some ⟨sb,0+i,none⟩)):=H 4 rfl 55 (.eq (.pointer (some ⟨sb,0+i,none⟩))) rfl (by rw[ak];rfl);exact zAt (zAI (v:=(I6 s)) fd zAo ((X0.trans X).cell (cd i _ (by rw[List.getElem?_map,av];rfl)))) (Ext.refl _) rfl
     refine DagSteps.cons (fun s' w' X U H=>Or.inl ⟨?_,?_⟩) ?_
     ·exact zAL rfl
     ·have fz:s' 52=(.slice (some ⟨nb,no,none⟩) n nc):=H 1 rfl 52 (.eq (.slice (some ⟨nb,no,none⟩) n nc)) rfl (by rw[ak];rfl);have ft:s' 56=(.int .i64 s):=H 5 rfl 56 (.eq (.int .i64 s)) rfl (by rw[ak];rfl);exact zAt (zAD (b:=nb) (o:=no) (len:=n) (cap:=nc) (i:=sN) (o':=no+sN) fz ft qO underlying32 zBL qO qO) (Ext.refl _) rfl
     refine DagSteps.cons (fun s' w' X U H=>Or.inl ⟨?_,?_⟩) ?_
     ·exact zAL rfl
     ·have f5:s' 57=(.pointer (some ⟨nb,no+sN,none⟩)):=H 6 rfl 57 (.eq (.pointer (some ⟨nb,no+sN,none⟩))) rfl (by rw[ak];rfl);exact zAt (zAI (v:=(.slice ra c rc)) f5 zBP ((Chg.ext E (X0.trans X)).cell (fun f=>f) cc)) (Ext.refl _) rfl
     refine DagSteps.cons (fun s' w' X U H=>Or.inl ⟨?_,?_⟩) ?_
     ·exact zAL rfl
     ·have e4:s' 58=(.slice ra c rc):=H 7 rfl 58 (.eq (.slice ra c rc)) rfl (by rw[ak];rfl);exact zAt (zAJ (ad:=ra) (n:=c) (cap:=rc) underlying22 e4) (Ext.refl _) rfl
     refine DagSteps.cons (fun s' w' X U H=>Or.inl ⟨?_,?_⟩) ?_
     ·exact zAL rfl
     ·exact zAt (zAl (v:=(I6 0)) rfl) (Ext.refl _) rfl
     exact DagSteps.nil
    ·intro s' w6 X6 U H;obtain ⟨j6,rfl⟩:=zAz.out (σ:=s') (l:=[(1,(.pointer (some ⟨bd,0,none⟩))),(2,(.pointer (some ⟨bo,0,none⟩))),(3,(.slice (some ⟨b1,0,none⟩) n n)),(4,(.int .i64 ((c:Nat):Int))),(5,(.pointer (some ⟨br,0,none⟩))),(6,(.map (some bm))),(7,(.slice (some ⟨sb,0,none⟩) sn ah)),(8,(.int .i64 ((i:Nat):Int))),(9,(.slice (some ⟨bq,0,none⟩) c c)),(58,(.slice ra c rc)),(59,(.int .i64 ((c:Nat):Int))),(60,(.int .i64 0))]) ⟨U 1 rfl,U 2 rfl,U 3 rfl,U 4 rfl,U 5 rfl,U 6 rfl,U 7 rfl,U 8 rfl,U 9 rfl,(show s' 58=(.slice ra c rc) from H 7 58 (.eq (.slice ra c rc)) rfl (by rw[ak];rfl)),(show s' 59=(.int .i64 ((c:Nat):Int)) from H 8 59 (.eq (.int .i64 ((c:Nat):Int))) rfl (by rw[ak];rfl)),(show s' 60=(.int .i64 0) from H 9 60 (.eq (.int .i64 0)) rfl (by rw[ak];rfl)),trivial⟩;clear U H;replace Bd:=X6.keep Bd;replace Bo:=X6.keep Bo;replace ae:=X6.keep ae;replace Br:=X6.keep Br;replace Mm:=X6.keepM Mm;replace Bq:=X6.keep Bq;replace hS:=zAj hS X6;replace hO:=hO.ext X6;replace ar:=Nat.le_trans ar X6.size;replace cd:=cd.ext X6;replace E:=E.ext X6;have hqz:z0≤bq:=by have:=Nq.eq;omega
     rw[show List.replicate c (Value.int .i64 0)=(List.replicate c (0:Int)).map (Value.int .i64) by simp] at Bq;refine zAC (zAS (zAp (fun nn_ σ W7=>∃(x:Nat) (R:List Int) (st:List Int) (sa:Option Addr) (ah sn:Nat),(∃jj_,σ=zCT jj_ [(1,(P6 bd 0)),(2,(P6 bo 0)),(3,(.slice (some ⟨b1,0,none⟩) n n)),(4,(I6 (c:Int))),(5,(P6 br 0)),(6,(.map (some bm))),(8,(I6 (i:Int))),(9,(.slice (some ⟨bq,0,none⟩) c c)),(58,(.slice ra c rc)),(59,(I6 (c:Int))),(60,(I6 (x:Int))),(7,(.slice sa sn ah))])∧Chg zAh w0 W7∧Blk W7 bd #[(I6 d.start),(.slice (some ⟨ab,ao,none⟩) n ac),(.slice (some ⟨nb,no,none⟩) n nc)] 34∧Blk W7 bo #[(I6 0),(.slice none 0 0),(.slice none 0 0)] 34∧Blk W7 b1 ((p.map (Value.int .i64)).toArray) 3∧Blk W7 br (#[Value.int .i64 0,.slice ea i ec,.slice am i aj]) 34∧zCC W7 bm zEz zEz (zCk (st.map (ptD p)) 0)∧Blk W7 bq ((R.map (Value.int .i64)).toArray) 3∧(x≤c)∧(R.length=c)∧(CanP n c d p ag (R.take x) st)∧(st[i]?=some s)∧(sn=st.length)∧((st.take i).map (atD d)=ap)∧(W7.ownsRow n1 TDI 1 (.slice sa sn ah) sn (st.map (Value.int .i64)))∧(OutSt W7 n1 (.slice ea i ec) (.slice am i aj) vs ap ag)∧(∀b,(Value.slice sa sn ah).ownBlock=some b→¬zGv (.slice ea i ec) (.slice am i aj) vs b∧b≠bq)∧(n1≤W7.heap.size)∧nn_=c - x) (n:=c - 0) ?_ ?_))
     ·exact ⟨0,List.replicate c 0,st,some ⟨sb,0,none⟩,ah,sn,zAz.out ⟨rfl,rfl,rfl,rfl,rfl,rfl,rfl,rfl,rfl,rfl,rfl,rfl,trivial⟩,E,Bd,Bo,ae,Br,Mm,Bq,Nat.zero_le _,qP,(by simpa using hC),av,bn,bp.symm,hS,hO,(fun b hb=>⟨az b hb,fun e=>by have:=ga b hb;omega⟩),ar,rfl⟩
     ·clear E Bd Bo ae Br Mm Bq;rintro _ _ W7 ⟨x,R,st,sa,ah,sn,⟨j7,rfl⟩,E,Bd,Bo,ae,Br,Mm,Bq,hx,bz,hC,av,bn,ca,hS,hO,az,ar,rfl⟩;refine zAA (qV (zBF (k:=.i64) (a:=(x:Int)) (b:=(c:Int)) rfl rfl) (zAB (zAH (qC rfl (fun dh=>?_) (fun dh=>?_)))))
      ·obtain ⟨t,ht⟩:=zAN (l:=row) (i:=x) qO;obtain ⟨rb,ro,rfl,e8⟩:=zBG (n:=c) fr qO;obtain ⟨cg,_,_,hxl,hxh⟩:=zMB ok a6 ht;rw[←d7] at cg;have bj:(R.take x).length=x:=by simp;omega
       have cy:st[ag.length]?=some s:=by rw[cx];exact av
       have d6:=zBt (L:=R) (s:=x) (x:=-1) qO;refine zAO (zAC (zAH (zAS (zAA (qM (I6 (x:Int)) rfl (qV (zAD (b:=rb) (o:=ro) (len:=c) (cap:=rc) (i:=x) (o':=ro+x) rfl rfl rfl underlying22 zAy qO qO) (qV (zAI (v:=(I6 t)) rfl zAo (E.cell (fun f=>f) (e8 x t ht))) (qA (I6 (x:Int)) rfl (qA (I6 t) rfl (zAB (zAH (zAA (qM (.slice (some ⟨bq,0,none⟩) c c) rfl (qM (I6 (x:Int)) rfl (qV (zAD (b:=bq) (o:=0) (len:=c) (cap:=c) (i:=x) (o':=0+x) rfl rfl rfl underlying22 zAy qO qO) (zBC (b:=bq) (o:=0+x) (c':=((R.set x (-1)).map (Value.int .i64)).toArray) (v:=(I6 (-1))) rfl rfl rfl zAy Bq (by simp;omega) (zCX _) ?_))))))))))))))));intro w9 S9;replace hS:=zAq hS S9.chg fun b hb h=>(az b hb).2 h;replace hO:=hO.chg S9.chg fun b hb h=>by have:=ct b hb;have h':b=bq:=h;omega
       replace ar:=Nat.le_trans ar S9.chg.size;replace Bd:=S9.keep qO Bd;replace Bo:=S9.keep qO Bo;replace ae:=S9.keep qO ae;replace Br:=S9.keep qO Br;replace Mm:=S9.keepM qO Mm;replace E:=S9.step E qQ;replace Bq:=S9.blk;refine zAB (zAA (qM (I6 t) rfl (qV (zBF (k:=.i64) (a:=t) (b:=0) rfl rfl) (qM (.bool (decide ((t:Int)<0))) rfl ?_))));rcases Bool.eq_false_or_eq_true (decide ((t:Int)<0)) with ai|ai
       ·have an:=ai;replace an:=of_decide_eq_true an;have dc:zSx d p st s (R.take x).length (-1):=.inl ⟨rfl,by rw[bj,cg,zMN an];decide⟩;refine zAM (oj:=_) rfl rfl qD (v:=.bool true) (cbk ai) (Or.inl rfl) (zAM (oj:=_) rfl rfl qD (v:=.bool true) (cbk ai) (Or.inl rfl) (zAM (oj:=_) rfl rfl qD (v:=.bool true) (cbk ai) (Or.inl rfl) (zAM (oj:=_) rfl rfl qD (v:=.bool true) (cbk ai) (Or.inl rfl) (zAM (oj:=_) rfl rfl qD (v:=.bool true) (cbk ai) (Or.inl rfl) (qV (zAr (b:=decide ((t:Int)<0)) (v:=(.bool true)) rfl (by rw[ai];rfl)) (zAB (zAk rfl (zAn (zAT (zAg (zAC (zAF (qV (zAv (k:=.i64) (a:=(x:Int)) (b:=1) (c:=(x:Int)+1) rfl rfl (zBb qO)) (qM (I6 ((x:Int)+1)) rfl (zAB (zAC ?_))))))))))))))));exact ⟨c - (x+1),qO,x+1,R.set x (-1),st,sa,ah,sn,zAz.out ⟨rfl,rfl,rfl,rfl,rfl,rfl,rfl,rfl,rfl,rfl,rfl,rfl,trivial⟩,E,Bd,Bo,ae,Br,Mm,Bq,qO,(by simp[bz]),(by rw[d6];exact hC.add cy dc),av,bn,ca,hS,hO,az,ar,rfl⟩
       ·have an:=ai;replace an:=of_decide_eq_false an;obtain ⟨tN,di⟩:=Int.eq_ofNat_of_zero_le (show 0≤t by omega);have dt:=zNE cz.len (show tN<n by omega);refine zAG (oj:=_) rfl rfl qD (cbk ai) (qM (.slice (some ⟨b1,0,none⟩) n n) rfl (zAG (oj:=_) rfl rfl qD (cbk ai) (qM (I6 t) rfl (zAG (oj:=_) rfl rfl qD (cbk ai) (qV (zAD (b:=b1) (o:=0) (len:=n) (cap:=n) (i:=tN) (o':=0+tN) rfl rfl qO underlying22 zAy qO qO) (zAG (oj:=_) rfl rfl qD (cbk ai) (qV (zAI (v:=(I6 (ptD p t))) rfl zAo (by rw[di];exact zDz ae dt)) (zAG (oj:=_) rfl rfl qD (cbk ai) (qV (zBF (k:=.i64) (a:=ptD p t) (b:=0) rfl rfl) (qV (zAr (b:=decide ((t:Int)<0)) (v:=(.bool (decide ((ptD p t:Int)<0)))) rfl (by rw[ai];rfl)) (zAB (qC rfl (fun e6=>?_) (fun e6=>?_)))))))))))))
        ·have dc:zSx d p st s (R.take x).length (-1):=.inl ⟨rfl,by rw[bj,cg];omega⟩;refine zAn (zAT (zAg (zAC (zAF (qV (zAv (k:=.i64) (a:=(x:Int)) (b:=1) (c:=(x:Int)+1) rfl rfl (zBb qO)) (qM (I6 ((x:Int)+1)) rfl (zAB (zAC ?_))))))));exact ⟨c - (x+1),qO,x+1,R.set x (-1),st,sa,ah,sn,zAz.out ⟨rfl,rfl,rfl,rfl,rfl,rfl,rfl,rfl,rfl,rfl,rfl,rfl,trivial⟩,E,Bd,Bo,ae,Br,Mm,Bq,qO,(by simp[bz]),(by rw[d6];exact hC.add cy dc),av,bn,ca,hS,hO,az,ar,rfl⟩
        ·refine zAO (zAC (zAA (qM (.map (some bm)) rfl (qM (.slice (some ⟨b1,0,none⟩) n n) rfl (qM (I6 t) rfl (qV (zAD (b:=b1) (o:=0) (len:=n) (cap:=n) (i:=tN) (o':=0+tN) rfl rfl qO underlying22 zAy qO qO) (qV (zAI (v:=(I6 (ptD p t))) rfl zAo (by rw[di];exact zDz ae dt)) (zBo (v:=(.tuple #[(I6 ((zBr (zCk (st.map (ptD p)) 0) (ptD p t)).getD 0)),(.bool ((zBr (zCk (st.map (ptD p)) 0) (ptD p t)).isSome))])) rfl rfl qD (zEY (k:=(ptD p t)) (z:=0) underlying113 (zQG underlying3) zDI Mm rfl rfl) (qM (.tuple #[(I6 ((zBr (zCk (st.map (ptD p)) 0) (ptD p t)).getD 0)),(.bool ((zBr (zCk (st.map (ptD p)) 0) (ptD p t)).isSome))]) rfl (qV (zAa (vs:=#[(I6 ((zBr (zCk (st.map (ptD p)) 0) (ptD p t)).getD 0)),(.bool ((zBr (zCk (st.map (ptD p)) 0) (ptD p t)).isSome))]) (v:=(I6 ((zBr (zCk (st.map (ptD p)) 0) (ptD p t)).getD 0))) rfl rfl) (qV (zAa (vs:=#[(I6 ((zBr (zCk (st.map (ptD p)) 0) (ptD p t)).getD 0)),(.bool ((zBr (zCk (st.map (ptD p)) 0) (ptD p t)).isSome))]) (v:=(.bool ((zBr (zCk (st.map (ptD p)) 0) (ptD p t)).isSome))) rfl rfl) (qA (I6 ((zBr (zCk (st.map (ptD p)) 0) (ptD p t)).getD 0)) rfl (qA (.bool ((zBr (zCk (st.map (ptD p)) 0) (ptD p t)).isSome)) rfl (zAB (zGU (fun σ a4=>∃(bt:List Int) (j:Nat) (cf:Option Addr) (cp b5:Nat),(∃jj_,σ=zCT jj_ [(1,(P6 bd 0)),(2,(P6 bo 0)),(3,(.slice (some ⟨b1,0,none⟩) n n)),(4,(I6 (c:Int))),(5,(P6 br 0)),(6,(.map (some bm))),(8,(I6 (i:Int))),(9,(.slice (some ⟨bq,0,none⟩) c c)),(10,(I6 (x:Int))),(58,(.slice (some ⟨rb,ro,none⟩) c rc)),(59,(I6 (c:Int))),(60,(I6 (x:Int))),(7,(.slice cf b5 cp)),(12,(I6 (j:Int)))])∧Chg zAh w0 a4∧Blk a4 bd #[(I6 d.start),(.slice (some ⟨ab,ao,none⟩) n ac),(.slice (some ⟨nb,no,none⟩) n nc)] 34∧Blk a4 bo #[(I6 0),(.slice none 0 0),(.slice none 0 0)] 34∧Blk a4 b1 ((p.map (Value.int .i64)).toArray) 3∧Blk a4 br (#[Value.int .i64 0,.slice ea i ec,.slice am i aj]) 34∧zCC a4 bm zEz zEz (zCk (bt.map (ptD p)) 0)∧Blk a4 bq (((R.set x (-1)).map (Value.int .i64)).toArray) 3∧(CanP n c d p ag (R.take x++[(j:Int)]) bt)∧(bt[i]?=some s)∧(b5=bt.length)∧((bt.take i).map (atD d)=ap)∧(a4.ownsRow n1 TDI 1 (.slice cf b5 cp) b5 (bt.map (Value.int .i64)))∧(OutSt a4 n1 (.slice ea i ec) (.slice am i aj) vs ap ag)∧(∀b,(Value.slice cf b5 cp).ownBlock=some b→¬zGv (.slice ea i ec) (.slice am i aj) vs b∧b≠bq)∧(n1≤a4.heap.size)) ?_ ?_)))))))))))))))
         ·skip
          refine zAA (qM (.bool ((zBr (zCk (st.map (ptD p)) 0) (ptD p t)).isSome)) rfl (qV (zCa (b:=(zBr (zCk (st.map (ptD p)) 0) (ptD p t)).isSome) rfl) (zAB (zBD (b:=!((zBr (zCk (st.map (ptD p)) 0) (ptD p t)).isSome)) rfl (fun aq=>?_) (fun aq=>?_)))))
          ·have cn:=aq;replace aq:=by simpa using aq
           have fj:zBr (zCk (st.map (ptD p)) 0) (ptD p t)=none:=by simpa using aq
           obtain ⟨c9,dz⟩:=zOS fj;have bb:toD d s (R.take x).length=t:=by rw[bj,cg]
           have f6:=hC.st_le;refine zAA (qM (.slice sa sn ah) rfl (qV (zAJ (ad:=sa) (n:=sn) (cap:=ah) underlying22 rfl) (qA (I6 (sn:Int)) rfl (zAB (zAA (qM (.map (some bm)) rfl (qM (.slice (some ⟨b1,0,none⟩) n n) rfl (qM (I6 t) rfl (qV (zAD (b:=b1) (o:=0) (len:=n) (cap:=n) (i:=tN) (o':=0+tN) rfl rfl qO underlying22 zAy qO qO) (qV (zAI (v:=(I6 (ptD p t))) rfl zAo (by rw[di];exact zDz ae dt)) (qM (I6 (sn:Int)) rfl (zDJ (k:=(ptD p t)) (v:=(sn:Int)) underlying113 (zQG underlying3) Mm rfl rfl rfl ?_))))))))))));intro w14 bi fe;replace hS:=zAq hS bi.chg fun b hb h=>by have:=(hS.lt b hb).1;have h':b=bm:=h;omega
           replace hO:=hO.chg bi.chg fun b hb h=>by have:=(hO.lt hb).1;have h':b=bm:=h;omega
           replace ar:=Nat.le_trans ar bi.chg.size;replace Bd:=bi.keep qO Bd;replace Bo:=bi.keep qO Bo;replace ae:=bi.keep qO ae;replace Br:=bi.keep qO Br;replace Bq:=bi.keep qO Bq;replace E:=bi.step E qQ;replace Mm:=fe;refine zAB (zAF (qM (.slice sa sn ah) rfl (qM (I6 t) rfl (zAc (ps:=[(0,(I6 t))]) (c:=#[(I6 t)]) qD rfl underlying22 zAy zDI qD qD qK ?_))));intro b15 w15 au;have F15:=au.ge E;have O15_bd:=au.lt Bd;have O15_bo:=au.lt Bo;have O15_b1:=au.lt ae;have O15_br:=au.lt Br;have O15_bm:=au.ltM Mm;have O15_bq:=au.lt Bq;replace Bd:=au.keep Bd;replace Bo:=au.keep Bo;replace ae:=au.keep ae;replace Br:=au.keep Br;replace Mm:=au.keepM Mm;replace Bq:=au.keep Bq;replace hS:=zAj hS au.ext;replace hO:=hO.ext au.ext;replace ar:=Nat.le_trans ar au.ext.size;replace E:=E.ext au.ext;have ff:=au.blk;have da:=Bq.lt;refine zBp (base:=n1) (n:=sn) (m:=1) (xs:=(st.map (Value.int .i64))) (news:=[(I6 t)]) (size:=1) (bytes:=8) (v:=(.slice sa sn ah)) qD underlying22 zAy zJU zDI rfl qD rfl hS rfl (rfl) (ff.cells rfl) qS (by unfold maxLen;omega) qO (ar) ?_;intro v7 w59 ef bg fu;replace Bd:=bg.keep (fun h=>by have:=(hS.lt _ h).1;omega) Bd;replace Bo:=bg.keep (fun h=>by have:=(hS.lt _ h).1;omega) Bo;replace ae:=bg.keep (fun h=>by have:=(hS.lt _ h).1;omega) ae;replace Br:=bg.keep (fun h=>by have:=(hS.lt _ h).1;omega) Br;replace Mm:=bg.keepM (fun h=>by have:=(hS.lt _ h).1;omega) Mm;replace Bq:=bg.keep (fun h=>(az _ h).2 rfl) Bq;replace E:=E.step bg (fun x hx h=>absurd (hS.lt x h).1 qO);obtain ⟨em,eb,rfl⟩:=zBO ef;rw[bn,show ((st.length:Nat):Int)=(((st.map (ptD p)).length:Nat):Int) by rw[List.length_map],dz,show st.map (ptD p)++[ptD p t]=(st++[t]).map (ptD p) by simp] at Mm;refine qA (.slice em (sn+1) eb) rfl (zAB (zAC ?_));exact ⟨st++[t],sn,em,eb,sn+1,zAz.out ⟨rfl,rfl,rfl,rfl,rfl,rfl,rfl,rfl,rfl,rfl,rfl,rfl,rfl,rfl,trivial⟩,E,Bd,Bo,ae,Br,Mm,Bq,(by rw[bn];have h9:=hC.new cy (by rw[bb];omega) (by rw[bb];omega) (fun u hu he=>c9 (by rw[←bb,←he];exact List.mem_map.2 ⟨u,hu,rfl⟩));rw[bb] at h9;exact h9),(by rw[List.getElem?_append_left (zAE av)];exact av),(by simp;omega),(by rw[List.take_append_of_le_length (by have:=zAE av;omega)];exact ca),(by rw[List.map_append];exact ef),hO.chg bg (fun b hb h=>(az b h).1 hb),(fun b hb=>by rcases fu b hb with h9|h9;exact az b h9;exact ⟨fun ho=>by have:=(hO.lt ho).2;omega,fun e=>qO⟩),Nat.le_trans ar bg.size⟩
          ·have cn:=aq;replace aq:=by simpa using aq
           have e0:(zBr (zCk (st.map (ptD p)) 0) (ptD p t)).isSome=true:=by simpa using aq
           obtain ⟨v9,d8⟩:=Option.isSome_iff_exists.1 e0;obtain ⟨j9,rfl,et⟩:=zQE d8;rw[List.getElem?_map] at et;obtain ⟨u,hu,d9⟩:=Option.map_eq_some_iff.1 et;rw[show (zBr (zCk (st.map (ptD p)) 0) (ptD p t)).getD 0=((j9:Nat):Int) from by rw[d8];rfl];refine zAO (zAC ?_);exact ⟨st,j9,sa,ah,sn,zAz.out ⟨rfl,rfl,rfl,rfl,rfl,rfl,rfl,rfl,rfl,rfl,rfl,rfl,rfl,rfl,trivial⟩,E,Bd,Bo,ae,Br,Mm,Bq,hC.add cy (.inr ⟨j9,u,rfl,hu,by rw[bj,cg,d9],by rw[d9];omega⟩),av,bn,ca,hS,hO,az,ar⟩
         ·clear E Bd Bo ae Br Mm Bq;rintro _ a4 ⟨bt,j,cf,cp,b5,⟨j12,rfl⟩,E,Bd,Bo,ae,Br,Mm,Bq,fa,db,d4,c4,c2,d1,cu,b4⟩;have dk:=zBt (L:=R.set x (-1)) (s:=x) (x:=((j:Nat):Int)) (by simp;omega);refine zAF (qM (.slice (some ⟨bq,0,none⟩) c c) rfl (qM (I6 (x:Int)) rfl (qM (I6 (j:Int)) rfl (qV (zAD (b:=bq) (o:=0) (len:=c) (cap:=c) (i:=x) (o':=0+x) rfl rfl rfl underlying22 zAy qO qO) (zBC (b:=bq) (o:=0+x) (c':=(((R.set x (-1)).set x (j:Int)).map (Value.int .i64)).toArray) (v:=(I6 (j:Int))) rfl rfl rfl zAy Bq (by simp;omega) (zCX _) ?_)))));intro w16 a9;replace c2:=zAq c2 a9.chg fun b hb h=>(cu b hb).2 h;replace d1:=d1.chg a9.chg fun b hb h=>by have:=ct b hb;have h':b=bq:=h;omega
          replace b4:=Nat.le_trans b4 a9.chg.size;replace Bd:=a9.keep qO Bd;replace Bo:=a9.keep qO Bo;replace ae:=a9.keep qO ae;replace Br:=a9.keep qO Br;replace Mm:=a9.keepM qO Mm;replace E:=a9.step E qQ;replace Bq:=a9.blk;refine zAB (zAR (zAC (zAF (qV (zAv (k:=.i64) (a:=(x:Int)) (b:=1) (c:=(x:Int)+1) rfl rfl (zBb qO)) (qM (I6 ((x:Int)+1)) rfl (zAB (zAC ?_)))))));exact ⟨c - (x+1),qO,x+1,(R.set x (-1)).set x ((j:Nat):Int),bt,cf,cp,b5,zAz.out ⟨rfl,rfl,rfl,rfl,rfl,rfl,rfl,rfl,rfl,rfl,rfl,rfl,trivial⟩,E,Bd,Bo,ae,Br,Mm,Bq,qO,(by simp[bz]),(by rw[dk,List.take_set_of_le (Nat.le_refl x)];exact fa),db,d4,c4,c2,d1,cu,b4,rfl⟩
      ·have fw:x=c:=qO
       rw[fw,show R.take c=R by rw[←bz,List.take_length]] at hC;obtain ⟨n4,ee⟩:∃n4,n4=(W7).heap.size:=⟨_,rfl⟩;obtain ⟨b9,rfl,_,dr⟩:=zBe hS (by have:=zAE av;omega);have cj:ap.length=i:=by rw[←ca,List.length_map,List.length_take];have:=zAE av;omega
       have ay:(W7).ownsRow n1 TDI 1 (.slice ea i ec) i (ap.map (Value.int .i64)):=by have h9:=hO.e;rwa [cj] at h9
       have a1:(W7).ownsRow n1 zDg 1 (.slice am i aj) i vs:=hO.n.on (by rw[List.length_map];omega);have gb:=hC.st_le;have e3:=zAE av;have ei:=zIU ok (show sN<n by omega);obtain ⟨yv,ed⟩:∃y,y=atD d s:=⟨_,rfl⟩;rw[←d7,←ed] at ei;have da:=Bq.lt;have ez:=zFD (base:=bq) Bq (Nat.le_refl _) bz;refine zAn (zAT (zAT (zAg (zAC ?_))));obtain ⟨c5,af⟩:∃Fs:List zEF,Fs=[(fun _ v _=>v=(P6 br 2)),(fun _ v _=>v=(.slice am i aj)),(fun _ v _=>v=(.slice (some ⟨bq,0,none⟩) c c)),(fun _=>zDx zDg #[.slice (some ⟨bq,0,none⟩) c c] n4),(fun _=>zDH n1 zDg 1 (i+1) (vs++[Value.slice (some ⟨bq,0,none⟩) c c]) (.slice am i aj) n4),(fun _ v _=>v=(P6 br 1)),(fun _ v _=>v=(.slice ea i ec)),(fun _ v _=>v=(P6 bd 1)),(fun _ v _=>v=(.slice (some ⟨ab,ao,none⟩) n ac)),(fun _ v _=>v=(.slice (some ⟨b9,0,none⟩) sn ah)),(fun _ v _=>v=(I6 (i:Int))),(fun _ v _=>v=(.pointer (some ⟨b9,0+i,none⟩))),(fun _ v _=>v=(I6 s)),(fun _ v _=>v=(.pointer (some ⟨ab,ao+sN,none⟩))),(fun _ v _=>v=(I6 yv)),(fun _=>zDx TDI #[.int .i64 yv] n4),(fun s v w=>zDH n1 TDI 1 (i+1) (ap.map (Value.int .i64)++[Value.int .i64 yv]) (.slice ea i ec) n4 v w∧∀b,(s 109).ownBlock=some b→v.ownBlock≠some b),(fun _ v _=>v=(P6 br 2))]:=⟨_,rfl⟩;refine zGt (two 4 16 (fun b=>(Value.slice am i aj).ownBlock=some b) (fun b=>(Value.slice ea i ec).ownBlock=some b)) 18 [105,106,107,108,109,110,111,112,113,114,115,116,117,118,119,120,121,122] [[],[0],[],[2],[1,3],[],[5],[],[7],[],[],[9,10],[11],[8,12],[13],[14],[4,6,15],[0,1,2,3,4,5,6]] [[],[0],[],[2],[1,0,3,2],[],[5],[],[7],[],[],[9,10],[11,9,10],[8,7,12,11,9,10],[13,8,7,12,11,9,10],[14,13,8,7,12,11,9,10],[4,1,0,3,2,6,5,15,14,13,8,7,12,11,9,10],[0,1,2,3,4,5,6]] c5 af qK mixed qK qK qK ?_ ?_
       ·intro wd X0;refine DagStepsX.cons (zBI.eq) (fun _ _ _ _ _ h=>h) (fun s' w' X U H=>?_) ?_
        ·exact zAX (zAZ (b:=br) (o:=0) (o':=2) (U 5 rfl) underlying34 rfl zBu rfl) (Chg.refl _ _) rfl
        refine DagStepsX.cons (zBI.eq) (fun _ _ _ _ _ h=>h) (fun s' w' X U H=>?_) ?_
        ·have dd:=H 0 rfl 105 _ rfl (by rw[af];rfl);exact zAX (zAI (v:=(.slice am i aj)) dd zBi ((Chg.keep X (fun h=>(fun h=>h.elim (fun h=>by have:=(a1.lt _ h).1;omega) (fun h=>by have:=(ay.lt _ h).1;omega)) (zEK.or h)) (X0.keep Br)).cell rfl)) (Chg.refl _ _) rfl
        refine DagStepsX.cons (zBI.eq) (fun _ _ _ _ _ h=>h) (fun s' w' X U H=>?_) ?_
        ·exact zAX (zAl (v:=(.slice (some ⟨bq,0,none⟩) c c)) (U 9 rfl)) (Chg.refl _ _) rfl
        refine DagStepsX.cons (zCV (fun y h=>by have:=(a1.lt y h).2;omega) (fun y h=>by have:=(ay.lt y h).2;omega)) (zIY.const) (fun s' w' X U H=>?_) ?_
        ·have de:=H 2 rfl 107 _ rfl (by rw[af];rfl);exact zCD (hs:=n4) underlying32 zBL zEg de qD qD qK (by have:=X0.size;have:=X.size;omega)
        refine DagStepsX.cons (zGT (fun k hk hm=>hk.elim (fun h=>hO.en k hm h) (fun h=>by have:=(ay.lt k hm).2;omega))) (zIY.const) (fun s' w' X U H=>?_) ?_
        ·have d2:=H 1 rfl 106 _ rfl (by rw[af];rfl);obtain ⟨f7,c1,d5,fg⟩:=(show ((fun _=>zDx zDg #[.slice (some ⟨bq,0,none⟩) c c] n4):zEF) s' (s' 108) w' from H 3 rfl 108 ((fun _=>zDx zDg #[.slice (some ⟨bq,0,none⟩) c c] n4)) rfl (by rw[af];rfl));exact zBj (hs:=n4) underlying32 zBL zMk zEg rfl qD d2 (zAj (zAj a1 X0) (X.mono (fun y _ h=>zEK.none rfl rfl h))) c1 rfl (d5.cells rfl) qS (by unfold maxLen;omega) qO (by have:=X0.size;have:=X.size;omega) (fun y h=>h) (by have:=X0.size;have:=X.size;omega)
        refine DagStepsX.cons (zBI.eq) (fun _ _ _ _ _ h=>h) (fun s' w' X U H=>?_) ?_
        ·exact zAX (zAZ (b:=br) (o:=0) (o':=1) (U 5 rfl) underlying34 rfl zBL rfl) (Chg.refl _ _) rfl
        refine DagStepsX.cons (zBI.eq) (fun _ _ _ _ _ h=>h) (fun s' w' X U H=>?_) ?_
        ·have d3:=H 5 rfl 110 _ rfl (by rw[af];rfl);exact zAX (zAI (v:=(.slice ea i ec)) d3 zBP ((Chg.keep X (fun h=>(fun h=>h.elim (fun h=>by have:=(a1.lt _ h).1;omega) (fun h=>by have:=(ay.lt _ h).1;omega)) (zEK.or h)) (X0.keep Br)).cell rfl)) (Chg.refl _ _) rfl
        refine DagStepsX.cons (zBI.eq) (fun _ _ _ _ _ h=>h) (fun s' w' X U H=>?_) ?_
        ·exact zAX (zAZ (b:=bd) (o:=0) (o':=1) (U 1 rfl) underlying34 rfl zBL rfl) (Chg.refl _ _) rfl
        refine DagStepsX.cons (zBI.eq) (fun _ _ _ _ _ h=>h) (fun s' w' X U H=>?_) ?_
        ·have dm:=H 7 rfl 112 _ rfl (by rw[af];rfl);exact zAX (zAI (v:=(.slice (some ⟨ab,ao,none⟩) n ac)) dm zBP ((Chg.keep X (fun h=>(fun h=>h.elim (fun h=>by have:=(a1.lt _ h).1;omega) (fun h=>by have:=(ay.lt _ h).1;omega)) (zEK.or h)) (X0.keep Bd)).cell rfl)) (Chg.refl _ _) rfl
        refine DagStepsX.cons (zBI.eq) (fun _ _ _ _ _ h=>h) (fun s' w' X U H=>?_) ?_
        ·exact zAX (zAl (v:=(.slice (some ⟨b9,0,none⟩) sn ah)) (U 7 rfl)) (Chg.refl _ _) rfl
        refine DagStepsX.cons (zBI.eq) (fun _ _ _ _ _ h=>h) (fun s' w' X U H=>?_) ?_
        ·exact zAX (zAl (v:=(I6 (i:Int))) (U 8 rfl)) (Chg.refl _ _) rfl
        refine DagStepsX.cons (zBI.eq) (fun _ _ _ _ _ h=>h) (fun s' w' X U H=>?_) ?_
        ·have dq:=H 9 rfl 114 _ rfl (by rw[af];rfl);have dl:=H 10 rfl 115 _ rfl (by rw[af];rfl);exact zAX (zAD (b:=b9) (o:=0) (len:=sn) (cap:=ah) (i:=i) (o':=0+i) dq dl rfl underlying22 zAy qO qO) (Chg.refl _ _) rfl
        refine DagStepsX.cons (zBI.eq) (fun _ _ _ _ _ h=>h) (fun s' w' X U H=>?_) ?_
        ·have dj:=H 11 rfl 116 _ rfl (by rw[af];rfl);exact zAX (zAI (v:=(I6 s)) dj zAo (Chg.cell X (fun h=>(zEK.or h).elim (fun h=>(az _ rfl).1 (.inr (.inl h))) (fun h=>(az _ rfl).1 (.inl h))) (X0.cell (dr i _ (by rw[List.getElem?_map,av];rfl))))) (Chg.refl _ _) rfl
        refine DagStepsX.cons (zBI.eq) (fun _ _ _ _ _ h=>h) (fun s' w' X U H=>?_) ?_
        ·have df:=H 8 rfl 113 _ rfl (by rw[af];rfl);have du:=H 12 rfl 117 _ rfl (by rw[af];rfl);exact zAX (zAD (b:=ab) (o:=ao) (len:=n) (cap:=ac) (i:=sN) (o':=ao+sN) df du qO underlying22 zAy qO qO) (Chg.refl _ _) rfl
        refine DagStepsX.cons (zBI.eq) (fun _ _ _ _ _ h=>h) (fun s' w' X U H=>?_) ?_
        ·have dg:=H 13 rfl 118 _ rfl (by rw[af];rfl);exact zAX (zAI (v:=(I6 yv)) dg zAo (Chg.cell X (fun h=>(zEK.or h).elim (fun h=>by have:=(a1.lt ab h).1;omega) (fun h=>by have:=(ay.lt ab h).1;omega)) (X0.cell (E.cell (fun f=>f) (ep sN _ ei))))) (Chg.refl _ _) rfl
        refine DagStepsX.cons (zCV (fun y h=>by have:=(a1.lt y h).2;omega) (fun y h=>by have:=(ay.lt y h).2;omega)) (zIY.const) (fun s' w' X U H=>?_) ?_
        ·have d0:=H 14 rfl 119 _ rfl (by rw[af];rfl);exact zCD (hs:=n4) underlying22 zAy zDI d0 qD qD qK (by have:=X0.size;have:=X.size;omega)
        refine DagStepsX.cons (zGS rfl) (fun s1 s2 h v w h2=>⟨h2.1,by have:=h 4 109 rfl rfl;rw[this];exact h2.2⟩) (fun s' w' X U H=>?_) ?_
        ·have c0:=H 6 rfl 111 _ rfl (by rw[af];rfl);obtain ⟨fi,c8,dx,fm⟩:=(show ((fun _=>zDx TDI #[.int .i64 yv] n4):zEF) s' (s' 120) w' from H 15 rfl 120 ((fun _=>zDx TDI #[.int .i64 yv] n4)) rfl (by rw[af];rfl));exact zGr (H 4 rfl 109 _ rfl (by rw[af];rfl)) (zBj (hs:=w'.heap.size) underlying22 zAy zJU zDI rfl qD c0 (zAq (zAj ay X0) (X.mono (fun y _ h=>zEK.fst rfl h)) (fun k hk hm=>hO.en k hk hm)) c8 rfl (dx.cells rfl) qS (by unfold maxLen;omega) qO (by have:=X0.size;have:=X.size;omega) (fun y h=>h) (Nat.le_refl _)) (by have:=X0.size;have:=X.size;omega) (fun k h1 h2=>h1.elim (fun h=>hO.en k h2 h) (fun h=>by have:=(ay.lt k h2).2;omega))
        refine DagStepsX.cons (zBI.eq) (fun _ _ _ _ _ h=>h) (fun s' w' X U H=>?_) ?_
        ·exact zAX (zAZ (b:=br) (o:=0) (o':=2) (U 5 rfl) underlying34 rfl zBu rfl) (Chg.refl _ _) rfl
        exact DagStepsX.nil
       ·intro s' fk eg X0 ba U H;replace ba:=ba.mono (M':=fun y=>(fun b=>(Value.slice am i aj).ownBlock=some b) y∨(fun b=>(Value.slice ea i ec).ownBlock=some b) y) (fun y _ h=>by obtain ⟨j,h⟩:=h;rcases zEw h with h|h;exact .inl h.2;exact .inr h.2);obtain ⟨⟨ax,aw,co⟩,ci,bw⟩:=(show ((fun _=>zDH n1 zDg 1 (i+1) (vs++[Value.slice (some ⟨bq,0,none⟩) c c]) (.slice am i aj) n4):zEF) s' (s' 109) eg from H 4 109 ((fun _=>zDH n1 zDg 1 (i+1) (vs++[Value.slice (some ⟨bq,0,none⟩) c c]) (.slice am i aj) n4)) rfl (by rw[af];rfl));obtain ⟨⟨⟨a2,a0,cw⟩,ce,b8⟩,b7⟩:=(show ((fun s v w=>zDH n1 TDI 1 (i+1) (ap.map (Value.int .i64)++[Value.int .i64 yv]) (.slice ea i ec) n4 v w∧∀b,(s 109).ownBlock=some b→v.ownBlock≠some b):zEF) s' (s' 121) eg from H 16 121 ((fun s v w=>zDH n1 TDI 1 (i+1) (ap.map (Value.int .i64)++[Value.int .i64 yv]) (.slice ea i ec) n4 v w∧∀b,(s 109).ownBlock=some b→v.ownBlock≠some b)) rfl (by rw[af];rfl));have dn:s' 122=(.pointer (some ⟨br,2,none⟩)):=H 17 122 ((fun _ v _=>v=(.pointer (some ⟨br,2,none⟩)))) rfl (by rw[af];rfl);obtain ⟨j17,rfl⟩:=zAz.out (σ:=s') (l:=[(1,(.pointer (some ⟨bd,0,none⟩))),(2,(.pointer (some ⟨bo,0,none⟩))),(3,(.slice (some ⟨b1,0,none⟩) n n)),(4,(.int .i64 ((c:Nat):Int))),(5,(.pointer (some ⟨br,0,none⟩))),(6,(.map (some bm))),(7,(.slice (some ⟨b9,0,none⟩) sn ah)),(8,(.int .i64 ((i:Nat):Int))),(109,(.slice ax (i+1) aw)),(121,(.slice a2 (i+1) a0)),(122,(.pointer (some ⟨br,2,none⟩)))]) ⟨U 1 rfl,U 2 rfl,U 3 rfl,U 4 rfl,U 5 rfl,U 6 rfl,U 7 rfl,U 8 rfl,co,cw,dn,trivial⟩;clear U H;replace Bd:=Chg.keep ba (fun h=>h.elim (fun h=>by have:=(a1.lt _ h).1;omega) (fun h=>by have:=(ay.lt _ h).1;omega)) (X0.keep Bd);replace Bo:=Chg.keep ba (fun h=>h.elim (fun h=>by have:=(a1.lt _ h).1;omega) (fun h=>by have:=(ay.lt _ h).1;omega)) (X0.keep Bo);replace ae:=Chg.keep ba (fun h=>h.elim (fun h=>by have:=(a1.lt _ h).1;omega) (fun h=>by have:=(ay.lt _ h).1;omega)) (X0.keep ae);replace Br:=Chg.keep ba (fun h=>h.elim (fun h=>by have:=(a1.lt _ h).1;omega) (fun h=>by have:=(ay.lt _ h).1;omega)) (X0.keep Br);replace Mm:=Chg.keepM ba (fun h=>h.elim (fun h=>by have:=(a1.lt _ h).1;omega) (fun h=>by have:=(ay.lt _ h).1;omega)) (X0.keepM Mm);replace Bq:=Chg.keep ba (fun h=>h.elim (fun h=>by have:=ct _ (.inr (.inl h));omega) (fun h=>by have:=ct _ (.inl h);omega)) (X0.keep Bq);have dw:=Chg.trans (Ext.chg X0) ba;replace E:=(E.ext X0).step ba (fun y hy h=>h.elim (fun h=>by have:=(a1.lt y h).1;omega) (fun h=>by have:=(ay.lt y h).1;omega));rw[co] at ci bw b7;rw[cw] at ce b8 b7;have b3:=hO.push (y:=yv) (N':=.slice ax (i+1) aw) (E':=.slice a2 (i+1) a0) ez bz.symm qO (fun b hb=>by have:=ct b hb;omega) dw (by rw[cx];exact ci) (fun k hk=>by rw[←ee];exact bw k hk) (by rw[cj,List.map_append];exact ce) (fun k hk=>by rw[←ee];exact b8 k hk) b7;have bu:=zAq hS dw (fun b hb h=>h.elim (fun h=>(az b hb).1 (.inr (.inl h))) (fun h=>(az b hb).1 (.inl h)));have a3:=Nat.le_trans ar dw.size;have c6:∀b,(Value.slice (some ⟨b9,0,none⟩) sn ah).ownBlock=some b→¬zGv (.slice a2 (i+1) a0) (.slice ax (i+1) aw) (vs++[.slice (some ⟨bq,0,none⟩) c c]) b:=fun b hb ho=>zHS (az b hb) (by have:=(hS.lt b hb).2;omega) bw b8 ho;refine zBC (b:=br) (o:=2) (c':=#[(I6 0),(.slice ea i ec),(.slice ax (i+1) aw)]) (v:=(.slice ax (i+1) aw)) rfl rfl rfl zBu Br qP rfl ?_;intro w18 a8;replace b3:=b3.chg a8.chg fun b hb h=>by have:=(b3.lt hb).1;have h':b=br:=h;omega
        replace bu:=zAq bu a8.chg fun b hb h=>by have:=(bu.lt b hb).1;have h':b=br:=h;omega
        replace a3:=Nat.le_trans a3 a8.chg.size;replace Bd:=a8.keep qO Bd;replace Bo:=a8.keep qO Bo;replace ae:=a8.keep qO ae;replace Mm:=a8.keepM qO Mm;replace Bq:=a8.keep qO Bq;replace E:=a8.step E qQ;replace Br:=a8.blk;refine qF br 0 1 rfl underlying34 rfl zBL rfl (zBC (b:=br) (o:=1) (c':=#[(I6 0),(.slice a2 (i+1) a0),(.slice ax (i+1) aw)]) (v:=(.slice a2 (i+1) a0)) rfl rfl rfl zBL Br qP rfl ?_);intro ex a7;replace b3:=b3.chg a7.chg fun b hb h=>by have:=(b3.lt hb).1;have h':b=br:=h;omega
        replace bu:=zAq bu a7.chg fun b hb h=>by have:=(bu.lt b hb).1;have h':b=br:=h;omega
        replace a3:=Nat.le_trans a3 a7.chg.size;replace Bd:=a7.keep qO Bd;replace Bo:=a7.keep qO Bo;replace ae:=a7.keep qO ae;replace Mm:=a7.keepM qO Mm;replace Bq:=a7.keep qO Bq;replace E:=a7.step E qQ;replace Br:=a7.blk;refine zAB (zAR (zAC (zAF (qM (I6 (i:Int)) rfl (qV (zAv (k:=.i64) (a:=(i:Int)) (b:=1) (c:=(i:Int)+1) rfl rfl (zBb qO)) (qA (I6 ((i:Int)+1)) rfl (zAB (zAC ?_))))))));exact ⟨n - (i+1),qO,i+1,ag++[R],st,ap++[yv],vs++[.slice (some ⟨bq,0,none⟩) c c],some ⟨b9,0,none⟩,a2,ax,ah,sn,a0,aw,zAz.out ⟨rfl,rfl,rfl,rfl,rfl,rfl,rfl,rfl,trivial⟩,E,Bd,Bo,ae,Br,Mm,hC.row bz dp,(by simp[cx]),bn,qO,(by rw[zDq av,List.map_append,ca,ed];rfl),bu,b3,c6,a3,rfl⟩
   ·have f2:i=st.length:=qO
    have hlc:=hC.st_le;refine zAn (zAT (zAT (zAg (zAC (zAA (qV (zAK (vs:=[(I6 0),(.slice ea i ec),(.slice am i aj)]) rfl zAx zAe rfl (Br.cells rfl)) (zAb (b:=bo) (o:=0) (c':=#[(I6 0),(.slice ea i ec),(.slice am i aj)]) rfl rfl qS zAe rfl Bo qL rfl ?_)))))));intro w20 b6;replace hO:=hO.chg b6.chg fun b hb h=>by have:=(hO.lt hb).1;have h':b=bo:=h;omega
    replace Bd:=b6.keep qO Bd;replace ae:=b6.keep qO ae;replace Br:=b6.keep qO Br;replace Mm:=b6.keepM qO Mm;replace E:=b6.step E qQ;replace Bo:=b6.blk;refine zAB (zAV (zBm results37 (vs:=[(.int .i64 0),(.slice ea i ec),(.slice am i aj)]) (b:=bo) rfl zAx zAe rfl (Bo.cells rfl) ?_));have ck:=hC.done ok cz qO;have a5:ap=st.map (atD d):=by rw[bp,f2,List.take_length]
    have cm:ag.length=i:=cx;have bc:ap.length=i:=by rw[a5,List.length_map];omega
    rw[←a5] at ck;refine ⟨⟨⟨0,ap,ag⟩,_,ck,by show ag.length≤n;omega,fun x hx=>?_,rfl,fun M w' ch hM=>⟨ea,ec,am,aj,by show [_,_,_]=[Value.int .i64 0,.slice ea ap.length ec,.slice am ag.length aj];rw[bc,cm],?_,?_⟩⟩,E⟩
    ·rw[a5] at hx;obtain ⟨u,hu,fo⟩:=List.mem_map.1 hx;have h9:=hC.sl u hu;obtain ⟨uN,e9⟩:=Int.eq_ofNat_of_zero_le h9.1;rw[←fo,e9];exact hac _ (List.mem_of_getElem? (zIU ok (show uN<n by omega)))
    ·show zBZ _ (.slice ea ap.length ec) ap;rw[bc];have h9:=(hO.chg ch fun b hb h=>by rcases hM b h with h1|⟨cs,h1⟩;have:=(hO.lt hb).1;omega;exact OutSt.typ hO h1 qD qD hb).e;rw[bc] at h9;exact zEZ h9 bc.symm
    ·show zDk _ (.slice am ag.length aj) ag;rw[cm];exact (hO.chg ch fun b hb h=>by rcases hM b h with h1|⟨cs,h1⟩;have:=(hO.lt hb).1;omega;exact OutSt.typ hO h1 qD qD hb).intss
end Go.Proofs
namespace Go.Proofs
open Go Go.Eng Go.Sort
set_option maxRecDepth 100000
theorem zHp {n c:Nat} {d:Dfa} (h:OkD n c d) (hn:1≤n∧n≤200) (hc:1≤c∧c≤16):zCh d=0:=by
  obtain ⟨h1,h2,h3,h4,h5⟩:=h;have ae:d.next≠[]:=fun he=>by rw[he] at h1;simp at h1;omega
  have af:zMh d=c:=by
    unfold zMh;cases hq:d.next with
    | nil=>exact absurd hq ae
    | cons y l=>exact (h5 y (by rw[hq];simp)).1
  unfold zCh;rw[if_neg qO,if_neg qO,if_neg qO,if_neg,if_neg]
  · rw[Bool.or_eq_true];rintro (hb|hb)
    · unfold zRB at hb;have ad:d.accept≠[]:=fun he=>by rw[he] at h2;simp at h2;omega
      have:=(zPy ad (z:=-1)).2 (fun x hx=>h4 x hx);simp only[Bool.or_eq_true,decide_eq_true_eq] at hb;omega
    · obtain ⟨ab,hr,hb⟩:=List.any_eq_true.1 hb;obtain ⟨hl,hx⟩:=h5 ab hr;have aa:ab≠[]:=fun he=>by rw[he] at hl;simp at hl;omega
      have h6:=(zPy aa (z:=-1)).2 (fun x ac=>(hx x ac).1);have h7:=(zUX aa (z:=((n:Nat):Int))).2 (fun x ac=>(hx x ac).2);simp only[zDb,Bool.or_eq_true,decide_eq_true_eq] at hb;omega
  · intro hb;obtain ⟨ab,hr,hb⟩:=List.any_eq_true.1 hb;obtain ⟨hl,_⟩:=h5 ab hr;simp only[zGj,Bool.or_eq_true,decide_eq_true_eq] at hb;omega
theorem zQl (w0:World) (d:Dfa) (dv:List Value) (s:Int) (h:zBk w0 d dv) (hs:s<d.accept.length) :
  Ret prog 133 #[.agg dv.toArray,.int .i64 s] w0 fun r w=>r=.int .i64 (atD d s)∧Ext w0 w:=by
 obtain ⟨aa,ac,na,nc,rfl,ae,ah⟩:=h;refine qR func133 rfl ntmps133 rfl (fun E=>(zAA (zBQ (v:=(.agg #[(I6 d.start),(.slice aa d.accept.length ac),(.slice na d.next.length nc)])) (c:=#[(I6 d.start),(.slice aa d.accept.length ac),(.slice na d.next.length nc)]) qD rfl rfl ?_)));intro bq wq Nq;replace E:=E.ext Nq.ext;have Bq:=Nq.blk;refine qA _ rfl (zAB (zAH (zAA (qM _ rfl (qV (zBF rfl rfl) (zAB (qC rfl (fun ad=>?_) (fun ad=>?_))))))))
 ·refine zAA (qA _ rfl (zAB (zAV (zAU (zAY results133 (v:=(.int .i64 (-1))) rfl ?_)))));exact ⟨zBJ (by unfold atD;rw[if_pos ad]),E⟩
 ·obtain ⟨sN,ag⟩:=Int.eq_ofNat_of_zero_le (show 0≤s by omega);obtain ⟨ab,ao,rfl,af⟩:=zBG ae qO;obtain ⟨y,hy⟩:=zAN (l:=d.accept) (i:=sN) qO;refine zAO (zAC (zAA (qF bq 0 1 rfl underlying34 rfl zBL rfl (qV (zAI rfl zBP (Bq.cell rfl)) (qM _ rfl (qV (zAD (b:=ab) (o:=ao) (len:=d.accept.length) (cap:=ac) (i:=sN) (o':=ao+sN) rfl rfl qO underlying22 zAy qO qO) (qV (zAI rfl zAo (E.cell (fun f=>f) (af sN _ hy))) (qA _ rfl (zAB (zAV (zAY results133 (v:=(.int .i64 y)) rfl ?_)))))))))));exact ⟨zBJ (by rw[ag,zEC hy]),E⟩
theorem zQi (w0:World) (n c:Nat) (d:Dfa) (dv:List Value) (s x:Int) (ok:OkD n c d) (h:zBk w0 d dv) (hs:s<n) (hx:0≤x∧x<c) :
  Ret prog 131 #[.agg dv.toArray,.int .i64 s,.int .i64 x] w0 fun r w=>r=.int .i64 (toD d s x.toNat)∧Ext w0 w:=by
 obtain ⟨aa,ac,na,nc,rfl,ag,af⟩:=h;have hnl:=ok.nl;obtain ⟨xN,rfl⟩:=Int.eq_ofNat_of_zero_le hx.1;rw[Int.toNat_natCast];refine qR func131 rfl ntmps131 rfl (fun E=>(zAA (zBQ (v:=(.agg #[(I6 d.start),(.slice aa d.accept.length ac),(.slice na d.next.length nc)])) (c:=#[(I6 d.start),(.slice aa d.accept.length ac),(.slice na d.next.length nc)]) qD rfl rfl ?_)));intro bq wq Nq;replace E:=E.ext Nq.ext;have Bq:=Nq.blk;refine qA _ rfl (zAB (zAH (zAA (qM _ rfl (qV (zBF rfl rfl) (zAB (qC rfl (fun ae=>?_) (fun ae=>?_))))))))
 ·refine zAA (qA _ rfl (zAB (zAV (zAU (zAY results131 (v:=(.int .i64 (-1))) rfl ?_)))));exact ⟨zBJ (by rw[zES ae]),E⟩
 ·obtain ⟨sN,ah⟩:=Int.eq_ofNat_of_zero_le (show 0≤s by omega);obtain ⟨nb,no,rfl,ai⟩:=zBs af qO;obtain ⟨row,ab⟩:=zAN (l:=d.next) (i:=sN) qO;have hrl:=(ok.row row (List.mem_of_getElem? ab)).1;obtain ⟨ra,rc,ad,ak⟩:=ai sN row ab;obtain ⟨rb,ro,rfl,aj⟩:=zBG ak qO;obtain ⟨y,hy⟩:=zAN (l:=row) (i:=xN) qO;refine zAO (zAC (zAA (qF bq 0 2 rfl underlying34 rfl zBu rfl (qV (zAI rfl zBi (Bq.cell rfl)) (qM _ rfl (qV (zAD (b:=nb) (o:=no) (len:=d.next.length) (cap:=nc) (i:=sN) (o':=no+sN) rfl rfl qO underlying32 zBL qO qO) (qV (zAI rfl zBP (E.cell (fun f=>f) ad)) (qM _ rfl (qV (zAD (b:=rb) (o:=ro) (len:=row.length) (cap:=rc) (i:=xN) (o':=ro+xN) rfl rfl rfl underlying22 zAy qO qO) (qV (zAI rfl zAo (E.cell (fun f=>f) (aj xN _ hy))) (qA _ rfl (zAB (zAV (zAY results131 (v:=(.int .i64 y)) rfl ?_))))))))))))));exact ⟨zBJ (by rw[ah,zEl ab hy]),E⟩
theorem zGM (b:Bool) (w0:World):Ret prog 88 #[.bool b] w0 fun r w=>r=.int .i64 (if b=true then 0 else -1)∧Ext w0 w:=by
 refine qR func88 rfl ntmps88 rfl (fun E=>(zAA (qA _ rfl (zAB (zAH (zAA (qM _ rfl (zAB (zBD rfl (fun hb=>?_) (fun hb=>?_))))))))))
 ·have aa:=hb;refine zAA (qA _ rfl (zAB (zAV (zAU (zAY results88 (v:=(.int .i64 0)) rfl ?_)))));exact ⟨zBJ (by rw[if_pos hb]),E⟩
 ·have aa:=hb;refine zAO (zAC (zAA (qA _ rfl (zAB (zAV (zAY results88 (v:=(.int .i64 (-1))) rfl ?_))))));exact ⟨zBJ (by rw[hb];rfl),E⟩
end Go.Proofs
namespace Go.Proofs
open Go Go.Eng Go.Sort
set_option maxRecDepth 100000
--BEGIN
def nt (n:Nat) (t:Int):Int:=if t<0 then (n:Int) else t
def ntR (n:Nat) (l:List Int) (x:Nat):List Int:=(l.take x).map (nt n)++l.drop x
def fl (a:Int):Int:=if a<0 then 0 else -1
def zKZ (n c:Nat) (d:Dfa):Dfa:=⟨d.start,d.accept.map fl++[0],d.next.map (fun r=>r.map (nt n))++[List.replicate c (n:Int)]⟩
theorem zPt (n:Nat) (l:List Int) (x:Nat):(ntR n l x).length=l.length:=by simp[ntR];omega
theorem zRn (n:Nat) (l:List Int):ntR n l 0=l:=by simp[ntR]
theorem zUT (n:Nat) (l:List Int):ntR n l l.length=l.map (nt n):=by simp[ntR]
theorem zUS {n:Nat} {l:List Int} {x:Nat} {t:Int} (h:l[x]?=some t):(ntR n l x)[x]?=some t:=by
 have hx:=zAE h;rw[ntR,List.getElem?_append_right (by simp;omega)];simp only[List.length_map,List.length_take,List.getElem?_drop];rw[show x+(x - min x l.length)=x by omega,h]
theorem zKy {n:Nat} {l:List Int} {x:Nat} {t:Int} (h:l[x]?=some t):ntR n l x=(l.take x).map (nt n)++t::l.drop (x+1):=by
 have hx:=zAE h;have:l[x]=t:=by rw[List.getElem?_eq_getElem hx] at h;simpa using h
 rw[ntR,List.drop_eq_getElem_cons hx,this]
theorem zNP {n:Nat} {l:List Int} {x:Nat} {t:Int} (h:l[x]?=some t):ntR n l (x+1)=(l.take x).map (nt n)++nt n t::l.drop (x+1):=by
 rw[ntR,List.take_add_one,h];simp
theorem zRo {n:Nat} {l:List Int} {x:Nat} {t:Int} (h:l[x]?=some t) (ht:¬t<0):ntR n l x=ntR n l (x+1):=by
 rw[zKy h,zNP h,nt,if_neg ht]
theorem zUR {n:Nat} {l:List Int} {x:Nat} {t:Int} (h:l[x]?=some t) (ht:t<0):(ntR n l x).set x (n:Int)=ntR n l (x+1):=by
 have hx:=zAE h;rw[zKy h,zNP h,nt,if_pos ht,List.set_append_right _ _ (by simp;omega)];simp only[List.length_map,List.length_take];rw[show x - min x l.length=0 by omega];rfl
theorem zWA {n:Nat} {t:Int} (h : -1≤t∧t<n):0≤nt n t∧nt n t<(n+1:Nat):=by
 unfold nt;split<;>omega
theorem zXC {n c:Nat} {d:Dfa} (h:OkD n c d):OkD (n+1) c (zKZ n c d) where
 nl:=by simp[zKZ,h.nl]
 al:=by simp[zKZ,h.al]
 st:=by have:=h.st;show 0≤d.start∧d.start<((n+1:Nat):Int);omega
 acc:=fun x hx=>by
  simp only[zKZ,List.mem_append,List.mem_map,List.mem_singleton] at hx;rcases hx with ⟨a,_,rfl⟩|rfl
  ·unfold fl;split<;>omega
  ·decide
 row:=fun r hr=>by
  simp only[zKZ,List.mem_append,List.mem_map,List.mem_singleton] at hr;rcases hr with ⟨q,hq,rfl⟩|rfl
  ·have h1:=h.row q hq;refine ⟨by simpa using h1.1,fun x hx=>?_⟩;obtain ⟨t,ht,rfl⟩:=List.mem_map.1 hx;have:=zWA (h1.2 t ht);omega
  ·refine ⟨qP,fun x hx=>?_⟩;rw[List.eq_of_mem_replicate hx];omega
theorem zTr {n c:Nat} {d:Dfa} (h:OkD n c d) {s:Int} {x:Nat} (hs : -1≤s∧s<n) (hx:x<c):toD (zKZ n c d) (nt n s) x=nt n (toD d s x):=by
 have ab:=h.nl;rcases Int.lt_or_le s 0 with h1|h1
 ·rw[zES h1,show nt n s=((n:Nat):Int) by unfold nt;rw[if_pos h1]];rw[zEl (r:=List.replicate c (n:Int)) (t:=(n:Int)) (by simp[zKZ,ab]) (by simp[hx])];rfl
 ·obtain ⟨sN,rfl⟩:=Int.eq_ofNat_of_zero_le h1;rw[show nt n ((sN:Nat):Int)=((sN:Nat):Int) by unfold nt;rw[if_neg qO]];obtain ⟨row,aa⟩:=zAN (l:=d.next) (i:=sN) qO;have hrl:=(h.row row (List.mem_of_getElem? aa)).1;obtain ⟨t,ht⟩:=zAN (l:=row) (i:=x) qO;rw[zEl aa ht,zEl (r:=row.map (nt n)) (t:=nt n t)]
  ·simp only[zKZ];rw[List.getElem?_append_left (by simp;omega),List.getElem?_map,aa];rfl
  ·rw[List.getElem?_map,ht];rfl
theorem zUy {n c:Nat} {d:Dfa} (h:OkD n c d) {s:Int} (hs : -1≤s∧s<n):atD (zKZ n c d) (nt n s)=fl (atD d s):=by
 have aa:=h.al;rcases Int.lt_or_le s 0 with h1|h1
 ·rw[show nt n s=((n:Nat):Int) by unfold nt;rw[if_pos h1],show atD d s = -1 by unfold atD;rw[if_pos h1]];rw[zEC (t:=0) (by simp[zKZ,aa])];rfl
 ·obtain ⟨sN,rfl⟩:=Int.eq_ofNat_of_zero_le h1;rw[show nt n ((sN:Nat):Int)=((sN:Nat):Int) by unfold nt;rw[if_neg qO]];obtain ⟨a,ha⟩:=zAN (l:=d.accept) (i:=sN) qO;rw[zEC ha,zEC (t:=fl a)];simp only[zKZ];rw[List.getElem?_append_left (by simp;omega),List.getElem?_map,ha];rfl
theorem zQy {n c:Nat} {d:Dfa} (h:OkD n c d):∀{w:List Nat} {s:Int},inW c w→-1≤s∧s<n→beh (zKZ n c d) (nt n s) w=fl (beh d s w)
  | [],s,_,hs=>zUy h hs
  | x::w,s,hw,hs=>by
    simp only[beh];rw[zTr h hs hw.head];exact zQy h hw.tail h.to
theorem zSl {n c:Nat} {d:Dfa} (h:OkD n c d) {w:List Nat} (hw:inW c w):beh (zKZ n c d) (zKZ n c d).start w=fl (beh d d.start w):=by
 have hst:=h.st;have:=zQy h (s:=d.start) hw qO
 rwa [show nt n d.start=d.start by unfold nt;rw[if_neg qO]] at this
theorem zRp {n c:Nat} {d:Dfa}:∀x∈(zKZ n c d).accept,x<2147483648:=fun x hx=>by
 simp only[zKZ,List.mem_append,List.mem_map,List.mem_singleton] at hx;rcases hx with ⟨a,_,rfl⟩|rfl
 ·unfold fl;split<;>omega
 ·decide
theorem zDf.congr {c:Nat} {f g:List Nat→Int} {C:Dfa} (h:zDf c f C) (e:∀w,inW c w→f w=g w):zDf c g C:=by
 obtain ⟨m,h1,h2,h3,h4⟩:=h;exact ⟨m,h1,fun w hw=>(h2 w hw).trans (e w hw),h3,h4⟩
--END
def cloF (l:List Int) (hs:Nat) (r:Value) (w:World):Prop:=∃b rest k,r=.slice (some ⟨b,0,none⟩) l.length k∧hs≤b∧Blk w b (l.map (Value.int .i64)++rest).toArray TDI∧l.length+rest.length=k∧k≤9223372036854775807
theorem zSb (w0:World) (v:Value) (l:List Int) (h:zBZ w0 v l) (hl:l.length≤2000000) (h1:0<l.length) :
  Ret prog 87 #[v] w0 fun r w=>cloF l w0.heap.size r w∧Ext w0 w:=by
 obtain ⟨a,c,rfl⟩:=zCI.form h;simp only[List.length_map] at h⊢;obtain ⟨base,ad⟩:∃base,base=w0.heap.size:=⟨_,rfl⟩;obtain ⟨b,o,rfl,af⟩:=zBG h h1;refine qR func87 rfl ntmps87 rfl (fun E=>(zAA (qA _ rfl (zAB (zAH (zAA (qM _ rfl (zBo (v:=(.bool ((some (⟨b,o,none⟩:Addr)).isNone))) rfl rfl qD (zND underlying22 rfl rfl) (zAB ?_)))))))));have ag:((some (⟨b,o,none⟩:Addr)).isNone)=false:=rfl;refine zAP (cbk ag) (zAO (zAC (zAA (zJf qD underlying22 zAy ?_))));intro bq wq Nq;have Fq:=Nq.ge E;replace E:=E.ext Nq.ext;have Bq:=Nq.blk;refine qM _ rfl ?_;have aa:=zHl (base:=base) (size:=1) Bq qO;have ae:base≤wq.heap.size:=by have:=Nq.ext.size;omega
 refine zBp (base:=base) (n:=0) (m:=l.length) (xs:=[]) (news:=l.map (Value.int .i64)) (size:=1) (bytes:=8) (v:=(.slice (some ⟨bq,0,none⟩) 0 0)) qD underlying22 zAy zJU zDI rfl qD rfl aa rfl qP (fun i u hu=>by rw[List.getElem?_map,Option.map_eq_some_iff] at hu;obtain ⟨x,hx,rfl⟩:=hu;exact Nq.ext.cell (af i x hx)) qS (by unfold maxLen;omega) qO (ae) ?_;intro v9 w29 ac ah Dv9;replace E:=E.step ah (fun x hx h=>absurd (aa.lt x h).1 qO);obtain ⟨la,lc,rfl⟩:=zBO ac;refine qA _ rfl (zAB (zAV (zAY results87 (v:=(.slice la (0+l.length) lc)) rfl ?_)));simp only[Nat.zero_add,List.nil_append] at ac;simp only[Nat.zero_add];rcases ac.2 with ⟨_,h2⟩|⟨g,cap,ab,h1,h2,h3,h4,h5,h6,h7⟩
 ·omega
 ·simp only[Value.slice.injEq] at h1;obtain ⟨rfl,_,rfl⟩:=h1;have e9:(l.map (Value.int .i64)++ab.toList.drop (l.length*1)).toArray=ab:=by rw[←h7,List.take_append_drop]
  refine ⟨⟨g,ab.toList.drop (l.length*1),lc,rfl,qO,by rw[e9];exact h3,?_,h5⟩,E⟩;have e8:=congrArg Array.size e9;simp only[List.size_toArray,List.length_append,List.length_map] at e8;omega
theorem zUK {w:World} {b base k:Nat} {l:List Int} {rest:List Value} (h:Blk w b (l.map (Value.int .i64)++rest).toArray TDI) (hb:base≤b) (hk:l.length+rest.length=k) (hm:k≤9223372036854775807):w.ownsRow base TDI 1 (.slice (some ⟨b,0,none⟩) l.length k) l.length (l.map (Value.int .i64)):=
 ⟨qP,.inr ⟨b,k,_,rfl,hb,h,qO,hm,by simp;omega,by simp[]⟩⟩
end Go.Proofs
namespace Go.Proofs
open Go Go.Eng Go.Sort
set_option maxRecDepth 100000
theorem zRW (w0:World) (b sc n hs:Nat) (y:Int) (T:TypeId) (hB:Blk w0 b #[.int .i64 y] T) (h1:1≤n) (hn:n≤60000) (hhs:hs≤w0.heap.size) :
  Ret prog 74 #[.slice (some ⟨b,0,none⟩) 1 sc,.int .i64 ((n:Nat):Int)] w0 fun r w=>zDH hs TDI 1 n ((List.replicate n y).map (Value.int .i64)) (.slice none 0 0) hs r w∧Ext w0 w:=by
 refine (zGB w0 b sc n y T hB h1 hn).mono ?_;rintro r w ⟨⟨g,rfl,hg,hG⟩,e⟩;have ho:w.ownsRow hs TDI 1 (.slice (some ⟨g,0,none⟩) n n) n ((List.replicate n y).map (Value.int .i64)):=zFD hG qO qP;exact ⟨⟨⟨_,_,rfl⟩,ho,fun k hk=>.inr (ho.lt k hk).1⟩,e⟩
theorem zQk (y:Int) (w0:World):Ret prog 88 #[.bool (decide (y<0))] w0 fun r w=>r=.int .i64 (fl y)∧Ext w0 w:=by
 refine (zGM (decide (y<0)) w0).mono ?_;rintro r w ⟨rfl,e⟩;exact ⟨by unfold fl;simp only[decide_eq_true_eq],e⟩
theorem zSq {c1 c2 i base e size n hs:Nat} {M1 M2:Nat→Prop} {xs:List Value} {ws:List Nat} (h1:∀y,M1 y→y<hs) (h2:∀y,M2 y→y<hs):zBI (two c1 c2 M1 M2) i ws (fun _=>zDH base e size n xs (.slice none 0 0) hs):=by
 rintro p _ _ σ v w w' x ⟨h3,h4,h5⟩;refine ⟨h3,zAq h4 x fun k hk h=>?_,h5⟩;have h6:hs≤k:=(h5 k hk).elim (fun h=>by cases h) id;rcases zEw h with h|h
 ·have:=h1 k h.2;omega
 ·have:=h2 k h.2;omega
theorem zRw {c1 c2 i e hs t:Nat} {M1 M2:Nat→Prop} {ws:List Nat} (h1:∀y,M1 y→y<hs) (h2:∀y,M2 y→y<hs):zBI (two c1 c2 M1 M2) i ws (fun s=>zDx e #[s t] hs):=by
 rintro p _ _ σ v w w' x ⟨b,h3,h4,h5⟩;exact ⟨b,h3,x.keep (fun h=>by rcases zEw h with h|h;have:=h1 b h.2;omega;have:=h2 b h.2;omega) h4,h5⟩
theorem zSo {c1 c2 base e size n hs t:Nat} {M1 M2:Nat→Prop} {xs:List Value} {old:Value} {ws:List Nat} (h:∀k,(old.ownBlock=some k∨hs≤k)→¬M2 k):zBI (two c1 c2 M1 M2) c1 ws (fun s v w=>zDH base e size n (xs++[s t]) old hs v w∧∀b,(s t).ownBlock=some b→v.ownBlock≠some b):=by
 rintro p hp _ σ v w w' x ⟨⟨h1,h2,h3⟩,h6⟩;rcases zJc x with h4|h4|h4
 ·exact absurd h4.1 hp
 ·exact ⟨⟨h1,zAq h2 h4.2 (fun k hk=>h k (h3 k hk)),h3⟩,h6⟩
 ·exact ⟨⟨h1,zAj h2 h4,h3⟩,h6⟩
theorem zSp {c1 c2 base e size n hs:Nat} {M1 M2:Nat→Prop} {xs:List Value} {old:Value} {ws:List Nat} (hw:ws.contains c1=true):zBI (two c1 c2 M1 M2) c2 ws (fun _=>zDH base e size n xs old hs):=by
 rintro p hp aa σ v w w' x ⟨h1,h2,h3⟩;rcases zJc x with h5|h5|h5
 ·rw[h5.1,hw] at aa;cases aa
 ·exact absurd h5.1 hp
 ·exact ⟨h1,zAj h2 h5,h3⟩
theorem LSt.intss {w:World} {base:Nat} {N:Value} {vs:List Value} {rows:List (List Int)} (h:LSt zDg TDI 1 w base N vs (rows.map zKB)):zDk w N rows:=by
 have hl:vs.length=rows.length:=by simpa using h.len
 refine ⟨vs,?_,hl,fun i u l hu hl=>?_⟩
 ·have ho:=h.o;rw[show vs=(vs.map fun x=>[x]).flatten by simp[List.flatten_eq_flatMap,List.flatMap_map]] at ho;exact zDS ho (by intro r hr;simp only[List.mem_map] at hr;obtain ⟨x,_,rfl⟩:=hr;rfl) (by simp[hl]) qD
 ·exact zEZ (h.inn i u (zKB l) hu (by rw[List.getElem?_map,hl];rfl)) rfl
theorem OutSt.last {w w':World} {base n4:Nat} {E N N' u:Value} {vs:List Value} {acc row:List Int} {rows:List (List Int)} (h:OutSt w base E N vs acc rows) (h4:n4=w.heap.size) (hb:base≤n4) (C:Chg (fun b=>N.ownBlock=some b∨E.ownBlock=some b) w w')
  (ON:w'.ownsRow base zDg 1 N' (rows.length+1) (vs++[u])) (hu:w'.ownsRow n4 TDI 1 u row.length (row.map (Value.int .i64))) (WN:∀k,N'.ownBlock=some k→N.ownBlock=some k∨n4≤k) (ap:∀b,u.ownBlock=some b→N'.ownBlock≠some b) :
  LSt zDg TDI 1 w' base N' (vs++[u]) ((rows++[row]).map zKB):=by
 have hl:vs.length=rows.length:=by simpa using h.n.len
 have ab:∀(i:Nat) v,(vs++[u])[i]?=some v→vs[i]?=some v∨(i=vs.length∧v=u):=fun i v hv=>by
  rcases Nat.lt_or_ge i vs.length with h1|h1
  ·left;rwa [List.getElem?_append_left h1] at hv
  ·right;rw[List.getElem?_append_right h1] at hv;have h2:=zAE hv;simp at h2;rw[show i - vs.length=0 by omega] at hv;simp at hv;exact ⟨qO,hv.symm⟩
 refine ⟨by simpa using ON,by simp[hl],fun i v p hv hp=>?_,fun i v b hv aa e=>?_⟩
 ·rw[List.map_append] at hp;rcases ab i v hv with h1|⟨h1,rfl⟩
  ·rw[List.getElem?_append_left (by have:=zAE h1;simp;omega)] at hp;exact zAq (h.n.inn i v p h1 hp) C fun b aa hC=>hC.elim (fun h4=>h.n.apo i v b h1 aa h4) (fun h4=>h.ei i v b h1 aa h4)
  ·rw[h1,hl,List.getElem?_append_right qP,List.length_map,Nat.sub_self] at hp;simp[zKB] at hp;subst hp;exact zEq hu hb
 ·rcases ab i v hv with h1|⟨_,rfl⟩
  ·rcases WN b e with h2|h2
   ·exact h.n.apo i v b h1 aa h2
   ·have:=(h.lt (.inr (.inr ⟨i,v,h1,aa⟩))).2;omega
  ·exact ap b aa e
theorem zOb {w:World} {base:Nat} {d:Dfa} {E N:Value} {vs:List Value} (hE:∃a c,E=.slice a d.accept.length c) (hN:∃a c,N=.slice a d.next.length c) (oE:w.ownsRow base TDI 1 E d.accept.length (d.accept.map (Value.int .i64))) (oN:LSt zDg TDI 1 w base N vs (d.next.map zKB)):zBk w d [.int .i64 d.start,E,N]:=by
 obtain ⟨ea,ec,rfl⟩:=hE;obtain ⟨na,nc,rfl⟩:=hN;exact ⟨ea,ec,na,nc,rfl,zEZ oE rfl,oN.intss⟩
def zWq (c:Nat) (f:List Nat→Int) (n m:Nat) (r:Value) (w:World):Prop:=∃C ca cc ma mc,zDf c f C∧C.next.length≤n∧(∀x∈C.accept,x<2147483648)∧r=.agg #[.int .i64 C.start,.slice ca C.accept.length cc,.slice ma C.next.length mc]∧zCi m w C [.int .i64 C.start,.slice ca C.accept.length cc,.slice ma C.next.length mc]
theorem zGR (w0:World) (n c:Nat) (d:Dfa) (dv:List Value) (ok:OkD n c d) (h:zBk w0 d dv) (hn:n≤20000∧1≤c∧c≤16) (hac:∀x∈d.accept,x<2147483648) :
  Ret prog 37 #[.agg dv.toArray] w0 fun r w=>zWq c (beh d d.start) n w0.heap.size r w∧Ext w0 w:=by
 refine (zUu w0 n c d dv ok h hn hac).mono ?_;rintro r w ⟨⟨C,cv,hC,hl,ha,rfl,hN⟩,e⟩;have h1:=hN.at';obtain ⟨ca,cc,ma,mc,rfl,_,_⟩:=h1;exact ⟨⟨C,ca,cc,ma,mc,hC,hl,ha,rfl,hN⟩,e⟩
theorem zQj (w0:World) (n c:Nat) (d:Dfa) (dv:List Value) (ok:OkD n c d) (h:zBk w0 d dv) (hn:1≤n∧n≤19999∧1≤c∧c≤16) :
  Ret prog 54 #[.agg dv.toArray] w0 fun r w=>zWq c (fun w=>fl (beh d d.start w)) (n+1) w0.heap.size r w∧Ext w0 w:=by
 obtain ⟨aa,ac,na,nc,rfl,bh,bg⟩:=h;have cb:=ok.nl;have cn:=ok.al;have hst:=ok.st;rw[cn,cb];rw[cn] at bh;rw[cb] at bg;obtain ⟨nb,no,rfl,d5⟩:=zBs (n:=n) bg qO;obtain ⟨ab,ao,rfl,cf⟩:=zBG (n:=n) bh qO;have au:∀(s:Nat),s<n→∃row ra rc,d.next[s]?=some row∧row.length=c∧w0.cell? ⟨nb,no+s,none⟩=some (.slice ra row.length rc)∧zBZ w0 (.slice ra row.length rc) row:=fun s hs=>by
  obtain ⟨row,aw⟩:=zAN (l:=d.next) (i:=s) qO;have b4:=(ok.row row (List.mem_of_getElem? aw)).1;obtain ⟨ra,rc,h1,h2⟩:=d5 s row aw;exact ⟨row,ra,rc,aw,b4,h1,h2⟩
 have hab:ab<w0.heap.size:=by
  obtain ⟨x,hx⟩:=zAN (l:=d.accept) (i:=0) qO;exact World.block_lt_of_cell? w0 _ (cf 0 x hx)
 have hnb:nb<w0.heap.size:=by
  obtain ⟨row,ra,rc,_,_,h1,_⟩:=au 0 qO;exact World.block_lt_of_cell? w0 _ h1
 refine qR func54 rfl ntmps54 rfl (fun E=>(zAA (zBQ (v:=(.agg #[(I6 d.start),(.slice (some ⟨ab,ao,none⟩) n ac),(.slice (some ⟨nb,no,none⟩) n nc)])) (c:=#[(I6 d.start),(.slice (some ⟨ab,ao,none⟩) n ac),(.slice (some ⟨nb,no,none⟩) n nc)]) qD rfl rfl ?_)));intro bd wd Nd;have Fd:=Nd.ge E;replace E:=E.ext Nd.ext;have Bd:=Nd.blk;refine zBH (c:=#[(I6 0),(.slice none 0 0),(.slice none 0 0)]) qD zBf rfl ?_;intro bo wo No;have Fo:=No.ge E;have Oo_bd:=No.lt Bd;replace Bd:=No.keep Bd;replace E:=E.ext No.ext;have Bo:=No.blk;refine zAB (zAA (qF bd 0 2 rfl underlying34 rfl zBu rfl (qV (zAI (v:=(.slice (some ⟨nb,no,none⟩) n nc)) rfl zBi (Bd.cell rfl)) (qV (zAJ (ad:=some ⟨nb,no,none⟩) (n:=n) (cap:=nc) underlying32 rfl) (qA (I6 (n:Int)) rfl (zAB (zAA (qF bd 0 0 rfl underlying34 rfl zAy rfl (qV (zAI (v:=(I6 d.start)) rfl zAo (Bd.cell rfl)) (qV (zBA (ps:=[(0,(I6 d.start))]) (v:=(.agg #[(I6 d.start),(.slice none 0 0),(.slice none 0 0)])) rfl qK) (zAd (v:=(.agg #[(I6 d.start),(.slice none 0 0),(.slice none 0 0)])) (c:=#[(I6 d.start),(.slice none 0 0),(.slice none 0 0)]) (n:=3) qD zBf rfl zAe rfl rfl rfl qS ?_)))))))))));intro bx wx Nx;have Fx:=Nx.ge E;have Ox_bd:=Nx.lt Bd;have Ox_bo:=Nx.lt Bo;replace Bd:=Nx.keep Bd;replace Bo:=Nx.keep Bo;replace E:=E.ext Nx.ext;have Bx:=Nx.blk;refine zAB (zAH (zAA (qF bd 0 2 rfl underlying34 rfl zBu rfl (qV (zAI (v:=(.slice (some ⟨nb,no,none⟩) n nc)) rfl zBi (Bd.cell rfl)) (qV (zAJ (ad:=some ⟨nb,no,none⟩) (n:=n) (cap:=nc) underlying32 rfl) (qM (I6 0) rfl (zAB (zAS ?_))))))));have ef:=Bd.lt;have dr:=Bo.lt;obtain ⟨n1,cr⟩:∃n1,n1=wx.heap.size:=⟨_,rfl⟩;have ee:bx<n1:=by have:=Bx.lt;omega
 refine zAp (fun nn_ σ W1=>∃(i:Nat) (an:List (List Int)) (am:List Int) (vs:List Value) (ea ak:Option Addr) (ec aj:Nat),(∃jj_,σ=zCT jj_ [(1,(P6 bd 0)),(2,(P6 bo 0)),(3,(I6 (n:Int))),(4,(P6 bx 0)),(17,(.slice (some ⟨nb,no,none⟩) n nc)),(18,(I6 (n:Int))),(19,(I6 (i:Int)))])∧Chg zAh w0 W1∧Blk W1 bd #[(I6 d.start),(.slice (some ⟨ab,ao,none⟩) n ac),(.slice (some ⟨nb,no,none⟩) n nc)] 34∧Blk W1 bo #[(I6 0),(.slice none 0 0),(.slice none 0 0)] 34∧Blk W1 bx (#[Value.int .i64 d.start,.slice ea i ec,.slice ak i aj]) 34∧(i≤n)∧(an=(d.next.take i).map (fun r=>r.map (nt n)))∧(am=(d.accept.take i).map fl)∧(OutSt W1 n1 (.slice ea i ec) (.slice ak i aj) vs am an)∧(n1≤W1.heap.size)∧nn_=n - i) (n:=n - 0) ?_ ?_
 ·exact ⟨0,[],[],[],none,none,0,0,zAz.out ⟨rfl,rfl,rfl,rfl,rfl,rfl,rfl,trivial⟩,E,Bd,Bo,Bx,Nat.zero_le _,rfl,rfl,OutSt.start _ _,qO,rfl⟩
 ·clear E Bd Bo Bx;rintro _ _ W1 ⟨i,an,am,vs,ea,ak,ec,aj,⟨j1,rfl⟩,E,Bd,Bo,Bx,hi,aq,ap,hO,ax,rfl⟩;refine zAA (qV (zBF (k:=.i64) (a:=(i:Int)) (b:=(n:Int)) rfl rfl) (zAB (zAH (qC rfl (fun db=>?_) (fun db=>?_)))))
  ·obtain ⟨row,ra,rc,aw,b4,bb,cz⟩:=au i qO;obtain ⟨z0,hz0⟩:∃z0,z0=(W1).heap.size:=⟨_,rfl⟩;have br:∀b,zGv (.slice ea i ec) (.slice ak i aj) vs b→b<z0:=fun b hb=>by have:=(hO.lt hb).2;omega
   have hnz:n1≤z0:=qO
   refine zAO (zAC (zAH (zAS (zAA (qM (I6 (i:Int)) rfl (qV (zAD (b:=nb) (o:=no) (len:=n) (cap:=nc) (i:=i) (o':=no+i) rfl rfl rfl underlying32 zBL qO qO) (qV (zAI (v:=(.slice ra row.length rc)) rfl zBP (E.cell (fun f=>f) bb)) (qA (I6 (i:Int)) rfl (qA (.slice ra row.length rc) rfl (zAB (zAA (qM (.slice ra row.length rc) rfl (qE rfl (zAQ (vs:=[(.slice ra row.length rc)]) func87 kQ kQ rfl) (zSb _ _ row (cz.ext E) qO qO) ?_)))))))))))));rintro _ w9 ⟨⟨bq,be,k9,rfl,hq,hQ,c2,cu⟩,X9⟩;replace Bd:=X9.keep Bd;replace Bo:=X9.keep Bo;replace Bx:=X9.keep Bx;replace hO:=hO.ext X9;replace ax:=Nat.le_trans ax X9.size;replace E:=E.ext X9;have hqz:z0≤bq:=qO
   rw[show row.map (Value.int .i64)=(ntR n row 0).map (Value.int .i64) by rw[zRn]] at hQ;refine qA (.slice (some ⟨bq,0,none⟩) row.length k9) rfl (zAB (zAH (zAA (qM (.slice (some ⟨bq,0,none⟩) row.length k9) rfl (qV (zAJ (ad:=some ⟨bq,0,none⟩) (n:=row.length) (cap:=k9) underlying22 rfl) (qM (I6 0) rfl (zAB (zAS (zAp (fun nn_ σ W3=>∃(x:Nat),(∃jj_,σ=zCT jj_ [(1,(P6 bd 0)),(2,(P6 bo 0)),(3,(I6 (n:Int))),(4,(P6 bx 0)),(5,(I6 (i:Int))),(7,(.slice (some ⟨bq,0,none⟩) row.length k9)),(17,(.slice (some ⟨nb,no,none⟩) n nc)),(18,(I6 (n:Int))),(19,(I6 (i:Int))),(26,(.slice (some ⟨bq,0,none⟩) row.length k9)),(27,(I6 (row.length:Int))),(28,(I6 (x:Int)))])∧Chg zAh w0 W3∧Blk W3 bd #[(I6 d.start),(.slice (some ⟨ab,ao,none⟩) n ac),(.slice (some ⟨nb,no,none⟩) n nc)] 34∧Blk W3 bo #[(I6 0),(.slice none 0 0),(.slice none 0 0)] 34∧Blk W3 bx (#[Value.int .i64 d.start,.slice ea i ec,.slice ak i aj]) 34∧Blk W3 bq (((ntR n row x).map (Value.int .i64)++be).toArray) 3∧(x≤c)∧(OutSt W3 n1 (.slice ea i ec) (.slice ak i aj) vs am an)∧(n1≤W3.heap.size)∧nn_=c - x) (n:=c - 0) ?_ ?_)))))))))
   ·exact ⟨0,zAz.out ⟨rfl,rfl,rfl,rfl,rfl,rfl,rfl,rfl,rfl,rfl,rfl,rfl,trivial⟩,E,Bd,Bo,Bx,hQ,Nat.zero_le _,hO,ax,rfl⟩
   ·clear E Bd Bo Bx hQ;rintro _ _ W3 ⟨x,⟨j3,rfl⟩,E,Bd,Bo,Bx,hQ,hx,hO,ax,rfl⟩;refine zAA (qV (zBF (k:=.i64) (a:=(x:Int)) (b:=(row.length:Int)) rfl rfl) (zAB (zAH (qC rfl (fun bz=>?_) (fun bz=>?_)))))
    ·obtain ⟨t,ht⟩:=zAN (l:=row) (i:=x) qO;refine zAO (zAC (zAH (zAS (zAA (qM (I6 (x:Int)) rfl (qV (zAD (b:=bq) (o:=0) (len:=row.length) (cap:=k9) (i:=x) (o':=0+x) rfl rfl rfl underlying22 zAy qO qO) (qV (zAI (v:=(I6 t)) rfl zAo (by rw[Nat.zero_add];exact zSA hQ (zUS ht))) (qA (I6 (x:Int)) rfl (qA (I6 t) rfl (zAB (zAA (qM (I6 t) rfl (qV (zBF (k:=.i64) (a:=t) (b:=0) rfl rfl) (zAB (qC rfl (fun a4=>?_) (fun a4=>?_))))))))))))))))
     ·refine zAF (qM (.slice (some ⟨bq,0,none⟩) row.length k9) rfl (qM (I6 (x:Int)) rfl (qM (I6 (n:Int)) rfl (qV (zAD (b:=bq) (o:=0) (len:=row.length) (cap:=k9) (i:=x) (o':=0+x) rfl rfl rfl underlying22 zAy qO qO) (zBC (b:=bq) (o:=0+x) (c':=((ntR n row (x+1)).map (Value.int .i64)++be).toArray) (v:=(I6 (n:Int))) rfl rfl rfl zAy hQ (by simp[zPt];omega) (by rw[Nat.zero_add,zRz (by rw[zPt];omega),zUR ht a4]) ?_)))));intro w6 S6;replace hO:=hO.chg S6.chg fun b hb h=>by have:=br b hb;have h':b=bq:=h;omega
      replace ax:=Nat.le_trans ax S6.chg.size;replace Bd:=S6.keep qO Bd;replace Bo:=S6.keep qO Bo;replace Bx:=S6.keep qO Bx;replace E:=S6.step E qQ;replace hQ:=S6.blk;refine zAB (zAR (zAC (zAF (qV (zAv (k:=.i64) (a:=(x:Int)) (b:=1) (c:=(x:Int)+1) rfl rfl (zBb qO)) (qM (I6 ((x:Int)+1)) rfl (zAB (zAC ?_)))))));exact ⟨c - (x+1),qO,x+1,zAz.out ⟨rfl,rfl,rfl,rfl,rfl,rfl,rfl,rfl,rfl,rfl,rfl,rfl,trivial⟩,E,Bd,Bo,Bx,hQ,qO,hO,ax,rfl⟩
     ·rw[zRo ht a4] at hQ;refine zAO (zAR (zAC (zAF (qV (zAv (k:=.i64) (a:=(x:Int)) (b:=1) (c:=(x:Int)+1) rfl rfl (zBb qO)) (qM (I6 ((x:Int)+1)) rfl (zAB (zAC ?_)))))));exact ⟨c - (x+1),qO,x+1,zAz.out ⟨rfl,rfl,rfl,rfl,rfl,rfl,rfl,rfl,rfl,rfl,rfl,rfl,trivial⟩,E,Bd,Bo,Bx,hQ,qO,hO,ax,rfl⟩
    ·have dq:x=row.length:=qO
     rw[dq,zUT] at hQ;have b5:=zUK (base:=bq) hQ (Nat.le_refl _) (by rw[List.length_map];exact c2) cu;rw[List.length_map] at b5;obtain ⟨n4,bk⟩:∃n4,n4=(W3).heap.size:=⟨_,rfl⟩;have bm:an.length=i:=by rw[aq,List.length_map,List.length_take];omega
     have ar:am.length=i:=by rw[ap,List.length_map,List.length_take];omega
     have ah:(W3).ownsRow n1 TDI 1 (.slice ea i ec) i (am.map (Value.int .i64)):=by have h9:=hO.e;rwa [ar] at h9
     have ai:(W3).ownsRow n1 zDg 1 (.slice ak i aj) i vs:=hO.n.on (by rw[List.length_map];omega);have b2:=zIU ok (show i<n by omega);obtain ⟨yv,dl⟩:∃y,y=atD d ((i:Nat):Int):=⟨_,rfl⟩;rw[←dl] at b2;refine zAn (zAT (zAT (zAg (zAC ?_))));obtain ⟨d9,ag⟩:∃Fs:List zEF,Fs=[(fun _ v _=>v=(P6 bx 2)),(fun _ v _=>v=(.slice ak i aj)),(fun _ v _=>v=(.slice (some ⟨bq,0,none⟩) row.length k9)),(fun _=>zDx zDg #[.slice (some ⟨bq,0,none⟩) row.length k9] n4),(fun _=>zDH n1 zDg 1 (i+1) (vs++[Value.slice (some ⟨bq,0,none⟩) row.length k9]) (.slice ak i aj) n4),(fun _ v _=>v=(P6 bx 1)),(fun _ v _=>v=(.slice ea i ec)),(fun _ v _=>v=(P6 bd 1)),(fun _ v _=>v=(.slice (some ⟨ab,ao,none⟩) n ac)),(fun _ v _=>v=(I6 (i:Int))),(fun _ v _=>v=(.pointer (some ⟨ab,ao+i,none⟩))),(fun _ v _=>v=(I6 yv)),(fun _ v _=>v=(.bool (decide (yv<0)))),(fun _ v _=>v=(I6 (fl yv))),(fun _=>zDx TDI #[.int .i64 (fl yv)] n4),(fun s v w=>zDH n1 TDI 1 (i+1) (am.map (Value.int .i64)++[Value.int .i64 (fl yv)]) (.slice ea i ec) n4 v w∧∀b,(s 44).ownBlock=some b→v.ownBlock≠some b),(fun _ v _=>v=(P6 bx 2))]:=⟨_,rfl⟩;refine zGt (two 4 15 (fun b=>(Value.slice ak i aj).ownBlock=some b) (fun b=>(Value.slice ea i ec).ownBlock=some b)) 17 [40,41,42,43,44,45,46,47,48,49,50,51,52,53,54,55,56] [[],[0],[],[2],[1,3],[],[5],[],[7],[],[8,9],[10],[11],[4,12],[13],[6,13,14],[0,1,2,3,4,5,6]] [[],[0],[],[2],[1,0,3,2],[],[5],[],[7],[],[8,7,9],[10,8,7,9],[11,10,8,7,9],[4,1,0,3,2,12,11,10,8,7,9],[13,4,1,0,3,2,12,11,10,8,7,9],[6,5,13,4,1,0,3,2,12,11,10,8,7,9,14],[0,1,2,3,4,5,6]] d9 ag qK mixed qK qK qK ?_ ?_
     ·intro wd X0;refine DagStepsX.cons (zBI.eq) (fun _ _ _ _ _ h=>h) (fun s' w' X U H=>?_) ?_
      ·exact zAX (zAZ (b:=bx) (o:=0) (o':=2) (U 4 rfl) underlying34 rfl zBu rfl) (Chg.refl _ _) rfl
      refine DagStepsX.cons (zBI.eq) (fun _ _ _ _ _ h=>h) (fun s' w' X U H=>?_) ?_
      ·have c0:=H 0 rfl 40 _ rfl (by rw[ag];rfl);exact zAX (zAI (v:=(.slice ak i aj)) c0 zBi ((Chg.keep X (fun h=>(fun h=>h.elim (fun h=>by have:=(ai.lt _ h).1;omega) (fun h=>by have:=(ah.lt _ h).1;omega)) (zEK.or h)) (X0.keep Bx)).cell rfl)) (Chg.refl _ _) rfl
      refine DagStepsX.cons (zBI.eq) (fun _ _ _ _ _ h=>h) (fun s' w' X U H=>?_) ?_
      ·exact zAX (zAl (v:=(.slice (some ⟨bq,0,none⟩) row.length k9)) (U 7 rfl)) (Chg.refl _ _) rfl
      refine DagStepsX.cons (zCV (fun y h=>by have:=(ai.lt y h).2;omega) (fun y h=>by have:=(ah.lt y h).2;omega)) (zIY.const) (fun s' w' X U H=>?_) ?_
      ·have cv:=H 2 rfl 42 _ rfl (by rw[ag];rfl);exact zCD (hs:=n4) underlying32 zBL zEg cv qD qD qK (by have:=X0.size;have:=X.size;omega)
      refine DagStepsX.cons (zGT (fun k hk hm=>hk.elim (fun h=>hO.en k hm h) (fun h=>by have:=(ah.lt k hm).2;omega))) (zIY.const) (fun s' w' X U H=>?_) ?_
      ·have d2:=H 1 rfl 41 _ rfl (by rw[ag];rfl);obtain ⟨b43,dx,dm,g43⟩:=(show ((fun _=>zDx zDg #[.slice (some ⟨bq,0,none⟩) row.length k9] n4):zEF) s' (s' 43) w' from H 3 rfl 43 ((fun _=>zDx zDg #[.slice (some ⟨bq,0,none⟩) row.length k9] n4)) rfl (by rw[ag];rfl));exact zBj (hs:=n4) underlying32 zBL zMk zEg rfl qD d2 (zAj (zAj ai X0) (X.mono (fun y _ h=>zEK.none rfl rfl h))) dx rfl (dm.cells rfl) qS (by unfold maxLen;omega) qO (by have:=X0.size;have:=X.size;omega) (fun y h=>h) (by have:=X0.size;have:=X.size;omega)
      refine DagStepsX.cons (zBI.eq) (fun _ _ _ _ _ h=>h) (fun s' w' X U H=>?_) ?_
      ·exact zAX (zAZ (b:=bx) (o:=0) (o':=1) (U 4 rfl) underlying34 rfl zBL rfl) (Chg.refl _ _) rfl
      refine DagStepsX.cons (zBI.eq) (fun _ _ _ _ _ h=>h) (fun s' w' X U H=>?_) ?_
      ·have dk:=H 5 rfl 45 _ rfl (by rw[ag];rfl);exact zAX (zAI (v:=(.slice ea i ec)) dk zBP ((Chg.keep X (fun h=>(fun h=>h.elim (fun h=>by have:=(ai.lt _ h).1;omega) (fun h=>by have:=(ah.lt _ h).1;omega)) (zEK.or h)) (X0.keep Bx)).cell rfl)) (Chg.refl _ _) rfl
      refine DagStepsX.cons (zBI.eq) (fun _ _ _ _ _ h=>h) (fun s' w' X U H=>?_) ?_
      ·exact zAX (zAZ (b:=bd) (o:=0) (o':=1) (U 1 rfl) underlying34 rfl zBL rfl) (Chg.refl _ _) rfl
      refine DagStepsX.cons (zBI.eq) (fun _ _ _ _ _ h=>h) (fun s' w' X U H=>?_) ?_
      ·have cy:=H 7 rfl 47 _ rfl (by rw[ag];rfl);exact zAX (zAI (v:=(.slice (some ⟨ab,ao,none⟩) n ac)) cy zBP ((Chg.keep X (fun h=>(fun h=>h.elim (fun h=>by have:=(ai.lt _ h).1;omega) (fun h=>by have:=(ah.lt _ h).1;omega)) (zEK.or h)) (X0.keep Bd)).cell rfl)) (Chg.refl _ _) rfl
      refine DagStepsX.cons (zBI.eq) (fun _ _ _ _ _ h=>h) (fun s' w' X U H=>?_) ?_
      ·exact zAX (zAl (v:=(I6 (i:Int))) (U 5 rfl)) (Chg.refl _ _) rfl
      refine DagStepsX.cons (zBI.eq) (fun _ _ _ _ _ h=>h) (fun s' w' X U H=>?_) ?_
      ·have cw:=H 8 rfl 48 _ rfl (by rw[ag];rfl);have c9:=H 9 rfl 49 _ rfl (by rw[ag];rfl);exact zAX (zAD (b:=ab) (o:=ao) (len:=n) (cap:=ac) (i:=i) (o':=ao+i) cw c9 rfl underlying22 zAy qO qO) (Chg.refl _ _) rfl
      refine DagStepsX.cons (zBI.eq) (fun _ _ _ _ _ h=>h) (fun s' w' X U H=>?_) ?_
      ·have c8:=H 10 rfl 50 _ rfl (by rw[ag];rfl);exact zAX (zAI (v:=(I6 yv)) c8 zAo (Chg.cell X (fun h=>(zEK.or h).elim (fun h=>by have:=(ai.lt ab h).1;omega) (fun h=>by have:=(ah.lt ab h).1;omega)) (X0.cell (E.cell (fun f=>f) (cf i _ b2))))) (Chg.refl _ _) rfl
      refine DagStepsX.cons (zBI.eq) (fun _ _ _ _ _ h=>h) (fun s' w' X U H=>?_) ?_
      ·have cx:=H 11 rfl 51 _ rfl (by rw[ag];rfl);exact zAX (zBF cx rfl) (Chg.refl _ _) rfl
      refine DagStepsX.cons (zBI.eq) (fun _ _ _ _ _ h=>h) (fun s' w' X U H=>?_) ?_
      ·have c6:=H 12 rfl 52 _ rfl (by rw[ag];rfl);exact zCt (zAQ (vs:=[(.bool (decide (yv<0)))]) func88 kQ kQ (zOv c6)) (zQk yv _)
      refine DagStepsX.cons (zCV (fun y h=>by have:=(ai.lt y h).2;omega) (fun y h=>by have:=(ah.lt y h).2;omega)) (zIY.const) (fun s' w' X U H=>?_) ?_
      ·have de:=H 13 rfl 53 _ rfl (by rw[ag];rfl);exact zCD (hs:=n4) underlying22 zAy zDI de qD qD qK (by have:=X0.size;have:=X.size;omega)
      refine DagStepsX.cons (zGS rfl) (fun s1 s2 h v w h2=>⟨h2.1,by have:=h 4 44 rfl rfl;rw[this];exact h2.2⟩) (fun s' w' X U H=>?_) ?_
      ·have dy:=H 6 rfl 46 _ rfl (by rw[ag];rfl);obtain ⟨b54,c3,d7,g54⟩:=(show ((fun _=>zDx TDI #[.int .i64 (fl yv)] n4):zEF) s' (s' 54) w' from H 14 rfl 54 ((fun _=>zDx TDI #[.int .i64 (fl yv)] n4)) rfl (by rw[ag];rfl));exact zGr (H 4 rfl 44 _ rfl (by rw[ag];rfl)) (zBj (hs:=w'.heap.size) underlying22 zAy zJU zDI rfl qD dy (zAq (zAj ah X0) (X.mono (fun y _ h=>zEK.fst rfl h)) (fun k hk hm=>hO.en k hk hm)) c3 rfl (d7.cells rfl) qS (by unfold maxLen;omega) qO (by have:=X0.size;have:=X.size;omega) (fun y h=>h) (Nat.le_refl _)) (by have:=X0.size;have:=X.size;omega) (fun k h1 h2=>h1.elim (fun h=>hO.en k h2 h) (fun h=>by have:=(ah.lt k h2).2;omega))
      refine DagStepsX.cons (zBI.eq) (fun _ _ _ _ _ h=>h) (fun s' w' X U H=>?_) ?_
      ·exact zAX (zAZ (b:=bx) (o:=0) (o':=2) (U 4 rfl) underlying34 rfl zBu rfl) (Chg.refl _ _) rfl
      exact DagStepsX.nil
     ·intro s' wd7 w7 X0 X7 U H;replace X7:=X7.mono (M':=fun y=>(fun b=>(Value.slice ak i aj).ownBlock=some b) y∨(fun b=>(Value.slice ea i ec).ownBlock=some b) y) (fun y _ h=>by obtain ⟨j,h⟩:=h;rcases zEw h with h|h;exact .inl h.2;exact .inr h.2);obtain ⟨⟨a7,ba,co⟩,cg,ck⟩:=(show ((fun _=>zDH n1 zDg 1 (i+1) (vs++[Value.slice (some ⟨bq,0,none⟩) row.length k9]) (.slice ak i aj) n4):zEF) s' (s' 44) w7 from H 4 44 ((fun _=>zDH n1 zDg 1 (i+1) (vs++[Value.slice (some ⟨bq,0,none⟩) row.length k9]) (.slice ak i aj) n4)) rfl (by rw[ag];rfl));obtain ⟨⟨⟨bc,bf,cd⟩,ch,b7⟩,bv⟩:=(show ((fun s v w=>zDH n1 TDI 1 (i+1) (am.map (Value.int .i64)++[Value.int .i64 (fl yv)]) (.slice ea i ec) n4 v w∧∀b,(s 44).ownBlock=some b→v.ownBlock≠some b):zEF) s' (s' 55) w7 from H 15 55 ((fun s v w=>zDH n1 TDI 1 (i+1) (am.map (Value.int .i64)++[Value.int .i64 (fl yv)]) (.slice ea i ec) n4 v w∧∀b,(s 44).ownBlock=some b→v.ownBlock≠some b)) rfl (by rw[ag];rfl));have dc:s' 56=(.pointer (some ⟨bx,2,none⟩)):=H 16 56 ((fun _ v _=>v=(.pointer (some ⟨bx,2,none⟩)))) rfl (by rw[ag];rfl);obtain ⟨j7,rfl⟩:=zAz.out (σ:=s') (l:=[(1,(.pointer (some ⟨bd,0,none⟩))),(2,(.pointer (some ⟨bo,0,none⟩))),(3,(.int .i64 ((n:Nat):Int))),(4,(.pointer (some ⟨bx,0,none⟩))),(17,(.slice (some ⟨nb,no,none⟩) n nc)),(18,(.int .i64 ((n:Nat):Int))),(19,(.int .i64 ((i:Nat):Int))),(44,(.slice a7 (i+1) ba)),(55,(.slice bc (i+1) bf)),(56,(.pointer (some ⟨bx,2,none⟩)))]) ⟨U 1 rfl,U 2 rfl,U 3 rfl,U 4 rfl,U 17 rfl,U 18 rfl,U 19 rfl,co,cd,dc,trivial⟩;clear U H;replace Bd:=Chg.keep X7 (fun h=>h.elim (fun h=>by have:=(ai.lt _ h).1;omega) (fun h=>by have:=(ah.lt _ h).1;omega)) (X0.keep Bd);replace Bo:=Chg.keep X7 (fun h=>h.elim (fun h=>by have:=(ai.lt _ h).1;omega) (fun h=>by have:=(ah.lt _ h).1;omega)) (X0.keep Bo);replace Bx:=Chg.keep X7 (fun h=>h.elim (fun h=>by have:=(ai.lt _ h).1;omega) (fun h=>by have:=(ah.lt _ h).1;omega)) (X0.keep Bx);replace hQ:=Chg.keep X7 (fun h=>h.elim (fun h=>by have:=br _ (.inr (.inl h));omega) (fun h=>by have:=br _ (.inl h);omega)) (X0.keep hQ);have bp:=Chg.trans (Ext.chg X0) X7;replace E:=(E.ext X0).step X7 (fun y hy h=>h.elim (fun h=>by have:=(ai.lt y h).1;omega) (fun h=>by have:=(ah.lt y h).1;omega));rw[co] at cg ck bv;rw[cd] at ch b7 bv;have a2:=hO.push (y:=fl yv) (row:=row.map (nt n)) (N':=.slice a7 (i+1) ba) (E':=.slice bc (i+1) bf) b5 (by rw[List.length_map]) qO (fun b hb=>by have:=br b hb;omega) bp (by rw[bm];exact cg) (fun k hk=>by rw[←bk];exact ck k hk) (by rw[ar,List.map_append];exact ch) (fun k hk=>by rw[←bk];exact b7 k hk) bv;have av:=Nat.le_trans ax bp.size;refine zBC (b:=bx) (o:=2) (c':=#[(I6 d.start),(.slice ea i ec),(.slice a7 (i+1) ba)]) (v:=(.slice a7 (i+1) ba)) rfl rfl rfl zBu Bx qP rfl ?_;intro w8 S8;replace a2:=a2.chg S8.chg fun b hb h=>by have:=(a2.lt hb).1;have h':b=bx:=h;omega
      replace av:=Nat.le_trans av S8.chg.size;replace Bd:=S8.keep qO Bd;replace Bo:=S8.keep qO Bo;replace hQ:=S8.keep qO hQ;replace E:=S8.step E qQ;replace Bx:=S8.blk;refine qF bx 0 1 rfl underlying34 rfl zBL rfl (zBC (b:=bx) (o:=1) (c':=#[(I6 d.start),(.slice bc (i+1) bf),(.slice a7 (i+1) ba)]) (v:=(.slice bc (i+1) bf)) rfl rfl rfl zBL Bx qP rfl ?_);intro w9 S9;replace a2:=a2.chg S9.chg fun b hb h=>by have:=(a2.lt hb).1;have h':b=bx:=h;omega
      replace av:=Nat.le_trans av S9.chg.size;replace Bd:=S9.keep qO Bd;replace Bo:=S9.keep qO Bo;replace hQ:=S9.keep qO hQ;replace E:=S9.step E qQ;replace Bx:=S9.blk;refine zAB (zAR (zAC (zAF (qV (zAv (k:=.i64) (a:=(i:Int)) (b:=1) (c:=(i:Int)+1) rfl rfl (zBb qO)) (qM (I6 ((i:Int)+1)) rfl (zAB (zAC ?_)))))));exact ⟨n - (i+1),qO,i+1,an++[row.map (nt n)],am++[fl yv],vs++[.slice (some ⟨bq,0,none⟩) row.length k9],bc,a7,bf,ba,zAz.out ⟨rfl,rfl,rfl,rfl,rfl,rfl,rfl,trivial⟩,E,Bd,Bo,Bx,qO,(by rw[zDq aw,List.map_append,aq];rfl),(by rw[zDq b2,List.map_append,ap];rfl),a2,av,rfl⟩
  ·have b6:i=n:=qO
   obtain ⟨af,bu,b1,cl,bw,a5,d0⟩:=au 0 qO;obtain ⟨n4,bk⟩:∃n4,n4=(W1).heap.size:=⟨_,rfl⟩;have bm:an.length=n:=by rw[aq,List.length_map,List.length_take];omega
   have ar:am.length=n:=by rw[ap,List.length_map,List.length_take];omega
   rw[b6] at hO Bx;have ah:(W1).ownsRow n1 TDI 1 (.slice ea n ec) n (am.map (Value.int .i64)):=by have h9:=hO.e;rwa [ar] at h9
   have ai:(W1).ownsRow n1 zDg 1 (.slice ak n aj) n vs:=hO.n.on (by rw[List.length_map];omega);refine zAn (zAT (zAT (zAg (zAC (zAH ?_)))));obtain ⟨bt,ae⟩:∃Fs:List zEF,Fs=[(fun _ v _=>v=(P6 bx 2)),(fun _ v _=>v=(.slice ak n aj)),(fun _ v _=>v=(I6 (n:Int))),(fun _=>zDx TDI #[.int .i64 (n:Int)] n4),(fun _ v _=>v=(P6 bd 2)),(fun _ v _=>v=(.slice (some ⟨nb,no,none⟩) n nc)),(fun _ v _=>v=(.pointer (some ⟨nb,no+0,none⟩))),(fun _ v _=>v=(.slice bu af.length b1)),(fun _ v _=>v=(I6 (af.length:Int))),(fun _=>zDH n4 TDI 1 af.length ((List.replicate af.length (n:Int)).map (Value.int .i64)) (.slice none 0 0) n4),(fun s v w=>zDx zDg #[s 68] n4 v w),(fun s v w=>zDH n1 zDg 1 (n+1) (vs++[s 68]) (.slice ak n aj) n4 v w∧∀b,(s 68).ownBlock=some b→v.ownBlock≠some b),(fun _ v _=>v=(P6 bx 1)),(fun _ v _=>v=(.slice ea n ec)),(fun _=>zDx TDI #[.int .i64 0] n4),(fun _=>zDH n1 TDI 1 (n+1) (am.map (Value.int .i64)++[Value.int .i64 0]) (.slice ea n ec) n4),(fun _ v _=>v=(P6 bx 2))]:=⟨_,rfl⟩;refine zGt (two 11 15 (fun b=>(Value.slice ak n aj).ownBlock=some b) (fun b=>(Value.slice ea n ec).ownBlock=some b)) 17 [59,60,61,62,63,64,65,66,67,68,69,70,71,72,73,74,75] [[],[0],[],[2],[],[4],[5],[6],[7],[3,8],[9],[1,9,10],[],[12],[],[11,13,14],[0,1,2,3,4,5,6,7,8,9,10,11,12,13]] [[],[0],[],[2],[],[4],[5,4],[6,5,4],[7,6,5,4],[3,2,8,7,6,5,4],[9,3,2,8,7,6,5,4],[1,0,9,3,2,8,7,6,5,4,10],[],[12],[],[11,1,0,9,3,2,8,7,6,5,4,10,13,12,14],[0,1,2,3,4,5,6,7,8,9,10,11,12,13]] bt ae qK mixed qK qK qK ?_ ?_
   ·intro wd X0;refine DagStepsX.cons (zBI.eq) (fun _ _ _ _ _ h=>h) (fun s' w' X U H=>?_) ?_
    ·exact zAX (zAZ (b:=bx) (o:=0) (o':=2) (U 4 rfl) underlying34 rfl zBu rfl) (Chg.refl _ _) rfl
    refine DagStepsX.cons (zBI.eq) (fun _ _ _ _ _ h=>h) (fun s' w' X U H=>?_) ?_
    ·have du:=H 0 rfl 59 _ rfl (by rw[ae];rfl);exact zAX (zAI (v:=(.slice ak n aj)) du zBi ((Chg.keep X (fun h=>(fun h=>h.elim (fun h=>by have:=(ai.lt _ h).1;omega) (fun h=>by have:=(ah.lt _ h).1;omega)) (zEK.or h)) (X0.keep Bx)).cell rfl)) (Chg.refl _ _) rfl
    refine DagStepsX.cons (zBI.eq) (fun _ _ _ _ _ h=>h) (fun s' w' X U H=>?_) ?_
    ·exact zAX (zAl (v:=(I6 (n:Int))) (U 3 rfl)) (Chg.refl _ _) rfl
    refine DagStepsX.cons (zCV (fun y h=>by have:=(ai.lt y h).2;omega) (fun y h=>by have:=(ah.lt y h).2;omega)) (zIY.const) (fun s' w' X U H=>?_) ?_
    ·have ds:=H 2 rfl 61 _ rfl (by rw[ae];rfl);exact zCD (hs:=n4) underlying22 zAy zDI ds qD qD qK (by have:=X0.size;have:=X.size;omega)
    refine DagStepsX.cons (zBI.eq) (fun _ _ _ _ _ h=>h) (fun s' w' X U H=>?_) ?_
    ·exact zAX (zAZ (b:=bd) (o:=0) (o':=2) (U 1 rfl) underlying34 rfl zBu rfl) (Chg.refl _ _) rfl
    refine DagStepsX.cons (zBI.eq) (fun _ _ _ _ _ h=>h) (fun s' w' X U H=>?_) ?_
    ·have d8:=H 4 rfl 63 _ rfl (by rw[ae];rfl);exact zAX (zAI (v:=(.slice (some ⟨nb,no,none⟩) n nc)) d8 zBi ((Chg.keep X (fun h=>(fun h=>h.elim (fun h=>by have:=(ai.lt _ h).1;omega) (fun h=>by have:=(ah.lt _ h).1;omega)) (zEK.or h)) (X0.keep Bd)).cell rfl)) (Chg.refl _ _) rfl
    refine DagStepsX.cons (zBI.eq) (fun _ _ _ _ _ h=>h) (fun s' w' X U H=>?_) ?_
    ·have cs:=H 5 rfl 64 _ rfl (by rw[ae];rfl);exact zAX (zAD (b:=nb) (o:=no) (len:=n) (cap:=nc) (i:=0) (o':=no+0) cs rfl rfl underlying32 zBL qO qO) (Chg.refl _ _) rfl
    refine DagStepsX.cons (zBI.eq) (fun _ _ _ _ _ h=>h) (fun s' w' X U H=>?_) ?_
    ·have d6:=H 6 rfl 65 _ rfl (by rw[ae];rfl);exact zAX (zAI (v:=(.slice bu af.length b1)) d6 zBP (Chg.cell X (fun h=>(zEK.or h).elim (fun h=>by have:=(ai.lt nb h).1;omega) (fun h=>by have:=(ah.lt nb h).1;omega)) (X0.cell (E.cell (fun f=>f) a5)))) (Chg.refl _ _) rfl
    refine DagStepsX.cons (zBI.eq) (fun _ _ _ _ _ h=>h) (fun s' w' X U H=>?_) ?_
    ·have dw:=H 7 rfl 66 _ rfl (by rw[ae];rfl);exact zAX (zAJ (ad:=bu) (n:=af.length) (cap:=b1) underlying22 dw) (Chg.refl _ _) rfl
    refine DagStepsX.cons (zSq (fun y h=>by have:=(ai.lt y h).2;omega) (fun y h=>by have:=(ah.lt y h).2;omega)) (zIY.const) (fun s' w' X U H=>?_) ?_
    ·obtain ⟨b8,c1,dt,g62⟩:=(show ((fun _=>zDx TDI #[.int .i64 (n:Int)] n4):zEF) s' (s' 62) w' from H 3 rfl 62 ((fun _=>zDx TDI #[.int .i64 (n:Int)] n4)) rfl (by rw[ae];rfl));have dz:=H 8 rfl 67 _ rfl (by rw[ae];rfl);exact zCt (zAQ (vs:=[(.slice (some ⟨b8,0,none⟩) 1 1),(I6 (af.length:Int))]) func74 kQ kQ (zOu c1 dz)) (zRW _ b8 1 af.length n4 (n:Int) _ dt qO qO (by have:=X0.size;have:=X.size;omega))
    refine DagStepsX.cons (zRw (fun y h=>by have:=(ai.lt y h).2;omega) (fun y h=>by have:=(ah.lt y h).2;omega)) (fun s1 s2 h v w h2=>by have:=h 9 68 rfl rfl;rw[this];exact h2) (fun s' w' X U H=>?_) ?_
    ·obtain ⟨⟨c4,c5,b0⟩,ci,d1⟩:=(show ((fun _=>zDH n4 TDI 1 af.length ((List.replicate af.length (n:Int)).map (Value.int .i64)) (.slice none 0 0) n4):zEF) s' (s' 68) w' from H 9 rfl 68 ((fun _=>zDH n4 TDI 1 af.length ((List.replicate af.length (n:Int)).map (Value.int .i64)) (.slice none 0 0) n4)) rfl (by rw[ae];rfl));exact zCD (hs:=n4) underlying32 zBL zEg b0 qD qD (by rw[b0];kernel_rfl) (by have:=X0.size;have:=X.size;omega)
    refine DagStepsX.cons (zSo (fun k hk hm=>hk.elim (fun h=>hO.en k hm h) (fun h=>by have:=(ah.lt k hm).2;omega))) (fun s1 s2 h v w h2=>by have:=h 9 68 rfl rfl;rw[this];exact h2) (fun s' w' X U H=>?_) ?_
    ·have dj:=H 1 rfl 60 _ rfl (by rw[ae];rfl);obtain ⟨b69,df,dp,g69⟩:=(show ((fun s v w=>zDx zDg #[s 68] n4 v w):zEF) s' (s' 69) w' from H 10 rfl 69 ((fun s v w=>zDx zDg #[s 68] n4 v w)) rfl (by rw[ae];rfl));exact zGr (H 9 rfl 68 _ rfl (by rw[ae];rfl)) (zBj (hs:=w'.heap.size) underlying32 zBL zMk zEg rfl qD dj (zAj (zAj ai X0) (X.mono (fun y _ h=>zEK.none rfl rfl h))) df rfl (dp.cells rfl) (by have h9:zDH n4 TDI 1 af.length ((List.replicate af.length (n:Int)).map (Value.int .i64)) (.slice none 0 0) n4 (s' 68) w':=H 9 rfl 68 _ rfl (by rw[ae];rfl);obtain ⟨⟨_,_,e9⟩,_⟩:=h9;intro u hu;rw[List.mem_singleton] at hu;rw[hu,e9];rfl) (by unfold maxLen;omega) qO (by have:=X0.size;have:=X.size;omega) (fun y h=>h) (Nat.le_refl _)) (by have:=X0.size;have:=X.size;omega) (fun k h1 h2=>h1.elim (fun h=>by cases h) (fun h=>by have:=(ai.lt k h2).2;omega))
    refine DagStepsX.cons (zBI.eq) (fun _ _ _ _ _ h=>h) (fun s' w' X U H=>?_) ?_
    ·exact zAX (zAZ (b:=bx) (o:=0) (o':=1) (U 4 rfl) underlying34 rfl zBL rfl) (Chg.refl _ _) rfl
    refine DagStepsX.cons (zBI.eq) (fun _ _ _ _ _ h=>h) (fun s' w' X U H=>?_) ?_
    ·have dn:=H 12 rfl 71 _ rfl (by rw[ae];rfl);exact zAX (zAI (v:=(.slice ea n ec)) dn zBP ((Chg.keep X (fun h=>(fun h=>h.elim (fun h=>by have:=(ai.lt _ h).1;omega) (fun h=>by have:=(ah.lt _ h).1;omega)) (zEK.or h)) (X0.keep Bx)).cell rfl)) (Chg.refl _ _) rfl
    refine DagStepsX.cons (zCV (fun y h=>by have:=(ai.lt y h).2;omega) (fun y h=>by have:=(ah.lt y h).2;omega)) (zIY.const) (fun s' w' X U H=>?_) ?_
    ·exact zCD (hs:=n4) underlying22 zAy zDI rfl qD qD qK (by have:=X0.size;have:=X.size;omega)
    refine DagStepsX.cons (zSp rfl) (zIY.const) (fun s' w' X U H=>?_) ?_
    ·have d3:=H 13 rfl 72 _ rfl (by rw[ae];rfl);obtain ⟨b73,ed,dg,g73⟩:=(show ((fun _=>zDx TDI #[.int .i64 0] n4):zEF) s' (s' 73) w' from H 14 rfl 73 ((fun _=>zDx TDI #[.int .i64 0] n4)) rfl (by rw[ae];rfl));exact zBj (hs:=n4) underlying22 zAy zJU zDI rfl qD d3 (zAq (zAj ah X0) (X.mono (fun y _ h=>zEK.fst rfl h)) (fun k hk hm=>hO.en k hk hm)) ed rfl (dg.cells rfl) qS (by unfold maxLen;omega) qO (by have:=X0.size;have:=X.size;omega) (fun y h=>h) (by have:=X0.size;have:=X.size;omega)
    refine DagStepsX.cons (zBI.eq) (fun _ _ _ _ _ h=>h) (fun s' w' X U H=>?_) ?_
    ·exact zAX (zAZ (b:=bx) (o:=0) (o':=2) (U 4 rfl) underlying34 rfl zBu rfl) (Chg.refl _ _) rfl
    exact DagStepsX.nil
   ·intro s' eb bj X0 a6 U H;replace a6:=a6.mono (M':=fun y=>(fun b=>(Value.slice ak n aj).ownBlock=some b) y∨(fun b=>(Value.slice ea n ec).ownBlock=some b) y) (fun y _ h=>by obtain ⟨j,h⟩:=h;rcases zEw h with h|h;exact .inl h.2;exact .inr h.2);obtain ⟨⟨c4,c5,b0⟩,ci,d1⟩:=(show ((fun _=>zDH n4 TDI 1 af.length ((List.replicate af.length (n:Int)).map (Value.int .i64)) (.slice none 0 0) n4):zEF) s' (s' 68) bj from H 9 68 ((fun _=>zDH n4 TDI 1 af.length ((List.replicate af.length (n:Int)).map (Value.int .i64)) (.slice none 0 0) n4)) rfl (by rw[ae];rfl));obtain ⟨⟨⟨a1,a0,cm⟩,ce,b9⟩,cj⟩:=(show ((fun s v w=>zDH n1 zDg 1 (n+1) (vs++[s 68]) (.slice ak n aj) n4 v w∧∀b,(s 68).ownBlock=some b→v.ownBlock≠some b):zEF) s' (s' 70) bj from H 11 70 ((fun s v w=>zDH n1 zDg 1 (n+1) (vs++[s 68]) (.slice ak n aj) n4 v w∧∀b,(s 68).ownBlock=some b→v.ownBlock≠some b)) rfl (by rw[ae];rfl));obtain ⟨⟨ay,az,cp⟩,cq,d4⟩:=(show ((fun _=>zDH n1 TDI 1 (n+1) (am.map (Value.int .i64)++[Value.int .i64 0]) (.slice ea n ec) n4):zEF) s' (s' 74) bj from H 15 74 ((fun _=>zDH n1 TDI 1 (n+1) (am.map (Value.int .i64)++[Value.int .i64 0]) (.slice ea n ec) n4)) rfl (by rw[ae];rfl));have di:s' 75=(.pointer (some ⟨bx,2,none⟩)):=H 16 75 ((fun _ v _=>v=(.pointer (some ⟨bx,2,none⟩)))) rfl (by rw[ae];rfl);obtain ⟨j10,rfl⟩:=zAz.out (σ:=s') (l:=[(2,(.pointer (some ⟨bo,0,none⟩))),(4,(.pointer (some ⟨bx,0,none⟩))),(70,(.slice a1 (n+1) a0)),(74,(.slice ay (n+1) az)),(75,(.pointer (some ⟨bx,2,none⟩)))]) ⟨U 2 rfl,U 4 rfl,cm,cp,di,trivial⟩;clear U H;replace Bd:=Chg.keep a6 (fun h=>h.elim (fun h=>by have:=(ai.lt _ h).1;omega) (fun h=>by have:=(ah.lt _ h).1;omega)) (X0.keep Bd);replace Bo:=Chg.keep a6 (fun h=>h.elim (fun h=>by have:=(ai.lt _ h).1;omega) (fun h=>by have:=(ah.lt _ h).1;omega)) (X0.keep Bo);replace Bx:=Chg.keep a6 (fun h=>h.elim (fun h=>by have:=(ai.lt _ h).1;omega) (fun h=>by have:=(ah.lt _ h).1;omega)) (X0.keep Bx);have bp:=Chg.trans (Ext.chg X0) a6;replace E:=(E.ext X0).step a6 (fun y hy h=>h.elim (fun h=>by have:=(ai.lt y h).1;omega) (fun h=>by have:=(ah.lt y h).1;omega));rw[cm] at ce b9 cj;rw[cp] at cq d4;have hL:=hO.last (row:=List.replicate af.length (n:Int)) bk qO bp (by rw[bm];exact ce) (by rw[List.length_replicate];exact ci) b9 cj;have a3:(bj).ownsRow n1 TDI 1 (.slice ay (n+1) az) (n+1) ((am++[0]).map (Value.int .i64)):=by rw[List.map_append];exact cq
    have dh:(⟨d.start,am++[0],an++[List.replicate af.length (n:Int)]⟩:Dfa)=zKZ n c d:=by rw[aq,ap,b6,bw,List.take_of_length_le qO,List.take_of_length_le qO];rfl
    refine zBC (b:=bx) (o:=2) (c':=#[(I6 d.start),(.slice ea n ec),(.slice a1 (n+1) a0)]) (v:=(.slice a1 (n+1) a0)) rfl rfl rfl zBu Bx qP rfl ?_;intro w11 a9;replace hL:=hL.chg a9.chg fun b hb _ h=>by have h':b=bx:=h;omega
    replace a3:=zAq a3 a9.chg fun b hb h=>by have:=(a3.lt b hb).1;have h':b=bx:=h;omega
    replace Bd:=a9.keep qO Bd;replace Bo:=a9.keep qO Bo;replace E:=a9.step E qQ;replace Bx:=a9.blk;refine qF bx 0 1 rfl underlying34 rfl zBL rfl (zBC (b:=bx) (o:=1) (c':=#[(I6 d.start),(.slice ay (n+1) az),(.slice a1 (n+1) a0)]) (v:=(.slice ay (n+1) az)) rfl rfl rfl zBL Bx qP rfl ?_);intro da a8;replace hL:=hL.chg a8.chg fun b hb _ h=>by have h':b=bx:=h;omega
    replace a3:=zAq a3 a8.chg fun b hb h=>by have:=(a3.lt b hb).1;have h':b=bx:=h;omega
    replace Bd:=a8.keep qO Bd;replace Bo:=a8.keep qO Bo;replace E:=a8.step E qQ;replace Bx:=a8.blk;refine zAB (zAC (zAA (qV (zAK (vs:=[(I6 d.start),(.slice ay (n+1) az),(.slice a1 (n+1) a0)]) rfl zAx zAe rfl (Bx.cells rfl)) ?_)));obtain ⟨n9,dd⟩:∃n9,n9=(da).heap.size:=⟨_,rfl⟩;have b3:w0.heap.size≤n9∧bo<n9:=⟨by have:=E.size;omega,by have:=Bo.lt;omega⟩;refine qE rfl (zAQ (vs:=[(.agg #[(I6 d.start),(.slice ay (n+1) az),(.slice a1 (n+1) a0)])]) func37 kQ kQ rfl) (zGR _ (n+1) c (zKZ n c d) [.int .i64 d.start,.slice ay (n+1) az,.slice a1 (n+1) a0] (zXC ok) (by rw[←dh];exact zOb ⟨ay,az,by simp[ar]⟩ ⟨a1,a0,by simp[bm]⟩ (by simpa[ar] using a3) hL) qO zRp) ?_;rintro _ w99 ⟨⟨C,ca,cc,ma,mc,hC,c7,ct,rfl,bs⟩,bn⟩;replace Bd:=bn.keep Bd;replace Bo:=bn.keep Bo;replace Bx:=bn.keep Bx;replace E:=E.ext bn;rw[←dd] at bs;refine zAb (b:=bo) (o:=0) (c':=#[(I6 C.start),(.slice ca C.accept.length cc),(.slice ma C.next.length mc)]) rfl rfl qS zAe rfl Bo qL rfl ?_;intro w13 bi;replace bs:=bs.chg bi.chg fun b h=>by have h':b=bo:=h;omega
    replace Bd:=bi.keep qO Bd;replace Bx:=bi.keep qO Bx;replace E:=bi.step E qQ;replace Bo:=bi.blk;refine zAB (zAV (zBm results54 (vs:=[(.int .i64 C.start),(.slice ca C.accept.length cc),(.slice ma C.next.length mc)]) (b:=bo) rfl zAx zAe rfl (Bo.cells rfl) ?_));exact ⟨⟨C,ca,cc,ma,mc,hC.congr (fun w hw=>zSl ok hw),c7,ct,rfl,bs.low b3.1⟩,E⟩
end Go.Proofs
namespace Go.Proofs
open Go Go.Eng
--BEGIN
def zXg (c:Nat):Nat→(List Nat→Int)→Int
  | 0,f=>if 0≤f [] then 1 else 0
  | k+1,f=>((List.range c).map fun x=>zXg c k fun w=>f (x::w)).sum
end Go.Proofs
namespace Go.Proofs
open Go Go.Eng Go.Sort
set_option maxRecDepth 100000
def wt (c:Nat) (d:Dfa) (j:Nat) (i:Nat):Int:=zXg c j (beh d ((i:Nat):Int))
end Go.Proofs
namespace Go.Proofs
open Go Go.Eng Go.Sort
--BEGIN
section
variable {α : Type}
def zHP (stp:α→Nat→Option α):α→List Nat→Option α
  | a,[]=>some a
  | a,x::w=>(stp a x).bind fun b=>zHP stp b w
theorem zGA (stp:α→Nat→Option α) (x:Nat):∀(w:List Nat) (a:α),zHP stp a (w++[x])=(zHP stp a w).bind fun b=>stp b x
  | [],a=>by simp only[List.nil_append,zHP,Option.bind_some];cases stp a x<;>rfl
  | y::w,a=>by
    simp only[List.cons_append,zHP];cases h:stp a y with
    | none=>rfl
    | some b=>simp only[Option.bind_some];exact zGA stp x w b
theorem inW.snoc {c x:Nat} {w:List Nat} (h:inW c w) (hx:x<c):inW c (w++[x]):=fun y hy=>by
 rcases List.mem_append.1 hy with h1|h1
 ·exact h y h1
 ·rw[List.mem_singleton] at h1;rw[h1];exact hx
variable {c : Nat} {stp : α → Nat → Option α} {a0 : α} {work : List α} {ws : List (List Nat)} {ps : List (Nat × Nat)} {i x : Nat}
end
end Go.Proofs
namespace Go.Eng
open Go
def zIA (p:Int×Int):Value:=.agg #[.int .i64 p.1,.int .i64 p.2]
end Go.Eng
namespace Go.Proofs
open Go Go.Eng Go.Sort
set_option maxRecDepth 100000
end Go.Proofs
namespace Go.Proofs
open Go Go.Eng
set_option maxRecDepth 100000
theorem zOk (x n:Int) (hn:0<n):(if x.tmod n<0 then x.tmod n+n else x.tmod n)=x % n:=by
 have h:=Int.tmod_eq_emod (a:=x) (b:=n);have h1:=Int.emod_nonneg x (Int.ne_of_gt hn);have h2:=Int.emod_lt_of_pos x hn;have h3:n.natAbs=n:=qO
 split at h<;>split<;>omega
theorem zUx (x n:Int) (hn:0<n) (hm:n≤2000) (w0:World) :
  Ret prog 101 #[.int .i64 x,.int .i64 n] w0 fun v w=>v=.int .i64 (x % n)∧w=w0:=by
 have hb:=zOk x n hn;have h1:=Int.emod_nonneg x (Int.ne_of_gt hn);have h2:=Int.emod_lt_of_pos x hn;refine qR func101 rfl ntmps101 rfl (fun E=>(zAA (qA (I6 0) rfl (zAB (zAA (qM (I6 x) rfl (qM (I6 n) rfl (qV (zUD (k:=.i64) (a:=x) (b:=n) (c:=x.tmod n) rfl rfl qO rfl) (qA (I6 (x.tmod n)) rfl (zAB (zAH (zAA (qM (I6 (x.tmod n)) rfl (qV (zBF (k:=.i64) (a:=x.tmod n) (b:=0) rfl rfl) (zAB (qC rfl (fun h=>?_) (fun h=>?_)))))))))))))))))
 ·rw[if_pos h] at hb;refine zAF (qM (I6 (x.tmod n)) rfl (qM (I6 n) rfl (qV (zAv (k:=.i64) (a:=x.tmod n) (b:=n) (c:=(x.tmod n)+n) rfl rfl (zBb qO)) (qA (I6 ((x.tmod n)+n)) rfl (zAB (zAC (zAA (qM (I6 ((x.tmod n)+n)) rfl (qA (I6 ((x.tmod n)+n)) rfl (zAB (zAV (zAY results101 (v:=(.int .i64 ((x.tmod n)+n))) rfl ?_))))))))))));exact ⟨by rw[hb],rfl⟩
 ·rw[if_neg h] at hb;refine zAO (zAC (zAA (qM (I6 (x.tmod n)) rfl (qA (I6 (x.tmod n)) rfl (zAB (zAV (zAY results101 (v:=(.int .i64 (x.tmod n))) rfl ?_)))))));exact ⟨by rw[hb],rfl⟩
end Go.Proofs
namespace Go.Proofs
open Go Go.Eng
set_option maxRecDepth 100000
abbrev TS:Nat:=62
def zGu (wb w:World) (bs:Nat) (l:List Int):Prop:=∃a c,Blk w bs #[.slice a l.length c] TS∧zBZ wb (.slice a l.length c) l
theorem zGu.ext {wb w w':World} {bs:Nat} {l:List Int} (h:zGu wb w bs l) (e:Ext w w'):zGu wb w' bs l:=let ⟨a,c,h1,h2⟩:=h;⟨a,c,e.keep h1,h2⟩
theorem zGu.lt {wb w:World} {bs:Nat} {l:List Int} (h:zGu wb w bs l):bs<w.heap.size:=let ⟨_,_,h1,_⟩:=h;h1.lt
theorem zHB (wb w0:World) (bs:Nat) (l:List Int) (n:Int) (hn:0<n) (hm:n≤2000) (hE:Ext wb w0) (hb:wb.heap.size≤bs) (hS:zGu wb w0 bs l) :
  Ret prog 61 #[.pointer (some ⟨bs,0,none⟩),.int .i64 n] w0 fun v w=>∃x l',v=.int .i64 x∧0≤x∧x<n∧zGu wb w bs l'∧Chg (fun x=>x=bs) w0 w:=by
 obtain ⟨a,c,hB,hl⟩:=hS;have ah:=zCI.cap hl;have af:l.length≤9223372036854775807:=by simpa using zCI.le hl
 refine zDc func61 rfl ntmps61 (leT rfl) ?_;have E:Chg (fun x=>x=bs) w0 w0:=Chg.refl _ _;refine zAA (qA (I6 0) rfl (zAB (zAH (zAA (qM (P6 bs 0) rfl (qV (zBh (a:=⟨bs,0,none⟩) rfl) (qF bs 0 0 rfl underlying62 rfl zBL rfl (qV (zAI (v:=(.slice a l.length c)) rfl zBP (hB.cell rfl)) (qV (zAJ (ad:=a) (n:=l.length) (cap:=c) underlying22 rfl) (qV (zAs (k:=.i64) (a:=(l.length:Int)) (b:=0) rfl rfl) (zAB (qC rfl (fun h0=>?_) (fun h0=>?_)))))))))))))
 ·refine zAA (qA (I6 0) rfl (zAB (zAV (zAU (zAY results61 (v:=(.int .i64 0)) rfl ?_)))));exact ⟨0,l,rfl,Int.le_refl _,hn,⟨a,c,hB,hl⟩,E⟩
 ·obtain ⟨x,hx⟩:=zAN (l:=l) (i:=0) qO;obtain ⟨b,o,rfl,ae⟩:=zBG hl qO;refine zAO (zAC (zAA (qM (P6 bs 0) rfl (qV (zBh (a:=⟨bs,0,none⟩) rfl) (qF bs 0 0 rfl underlying62 rfl zBL rfl (qV (zAI (v:=(.slice (some ⟨b,o,none⟩) l.length c)) rfl zBP (hB.cell rfl)) (qV (zAD (b:=b) (o:=o) (len:=l.length) (cap:=c) (i:=0) (o':=o+0) rfl rfl rfl underlying22 zAy qO qO) (qV (zAI (v:=(I6 x)) rfl zAo ((hE.cell (ae 0 x hx)))) (qA (I6 x) rfl (zAB (zAA (qM (P6 bs 0) rfl (qM (P6 bs 0) rfl (qV (zBh (a:=⟨bs,0,none⟩) rfl) (qF bs 0 0 rfl underlying62 rfl zBL rfl (qV (zAI (v:=(.slice (some ⟨b,o,none⟩) l.length c)) rfl zBP (hB.cell rfl)) ?_))))))))))))))));obtain ⟨sl,ab⟩:∃a':Option Addr,(if c=1 then (some ⟨b,o,none⟩) else Option.map (fun q:Addr=>q.add (1*1)) (some ⟨b,o,none⟩))=a':=⟨_,rfl⟩;refine qV (zFC (a:=(some ⟨b,o,none⟩)) (len:=l.length) (cap:=c) (lo:=1) (l:=1) (n':=(l.length - 1)) (c':=(c - 1)) underlying22 zAy rfl rfl qO qO ab qO qO) (qV (zBh (a:=⟨bs,0,none⟩) rfl) (qF bs 0 0 rfl underlying62 rfl zBL rfl (zBC (b:=bs) (o:=0) (c':=#[(.slice sl (l.length - 1) (c - 1))]) (v:=(.slice sl (l.length - 1) (c - 1))) rfl rfl rfl zBL hB qP rfl ?_)));intro w2 S2;replace E:=S2.step E qQ;replace hB:=S2.blk;refine zAB (zAA (qM (I6 x) rfl (qM (I6 n) rfl (qE rfl (zAQ (vs:=[(I6 x),(I6 n)]) func101 kQ kQ rfl) (zUx x n hn hm _) ?_))));rintro _ _ ⟨rfl,rfl⟩;have aa:=zCI.cut (lo:=1) (hi:=l.length) hl qO (Nat.le_refl _) ab rfl rfl;have ag:((l.map zMa).drop 1).take (l.length - 1)=(l.drop 1).map zMa:=by rw[List.take_of_length_le qP,List.map_drop]
  rw[ag] at aa;have ac:(l.drop 1).length=l.length - 1:=qP
  refine qA (I6 (x % n)) rfl (zAB (zAV (zAY results61 (v:=(.int .i64 (x % n))) rfl ?_)));exact ⟨x % n,l.drop 1,rfl,Int.emod_nonneg x qO,Int.emod_lt_of_pos x hn,⟨sl,c - 1,by rw[ac];exact hB,by rw[ac];exact aa⟩,E⟩
end Go.Proofs
namespace Go.Eng
open Go
def zFf (S:Nat→Prop) (w:World) (k:Nat) (v:Value) (rows:List (List Value)):Prop:=
 ∃a cap,v=.slice a rows.length cap∧rows.length≤9223372036854775807∧rows.length≤cap∧(rows=[]∨∃b o,S b∧a=some ⟨b,o,none⟩∧∀i r,rows[i]?=some r→zBE w b (o+i*k) r)
theorem zFf.at {S:Nat→Prop} {w:World} {k:Nat} {v:Value} {rows:List (List Value)} (h:zFf S w k v rows):zCI w k v rows:=by
 obtain ⟨a,aa,h1,h2,h3,h4⟩:=h;refine ⟨a,aa,h1,h2,h3,?_⟩;rcases h4 with h|⟨b,o,_,h5,h6⟩
 ·exact .inl h
 ·exact .inr ⟨b,o,h5,h6⟩
theorem zFf.chg {S M:Nat→Prop} {w w':World} {k:Nat} {v:Value} {rows:List (List Value)} (h:zFf S w k v rows) (c:Chg M w w') (hm:∀b,S b→¬M b):zFf S w' k v rows:=by
 obtain ⟨a,aa,h1,h2,h3,h4⟩:=h;refine ⟨a,aa,h1,h2,h3,?_⟩;rcases h4 with h|⟨b,o,hb,h5,h6⟩
 ·exact .inl h
 ·exact .inr ⟨b,o,hb,h5,fun i r hr=>(h6 i r hr).chg c (hm b hb)⟩
theorem zFf.mono {S S':Nat→Prop} {w:World} {k:Nat} {v:Value} {rows:List (List Value)} (h:zFf S w k v rows) (hs:∀b,S b→S' b):zFf S' w k v rows:=by
 obtain ⟨a,aa,h1,h2,h3,h4⟩:=h;refine ⟨a,aa,h1,h2,h3,?_⟩;rcases h4 with h|⟨b,o,hb,h5⟩
 ·exact .inl h
 ·exact .inr ⟨b,o,hs b hb,h5⟩
theorem zFf.nil (S:Nat→Prop) (w:World) (k:Nat) (a:Option Addr) (cap:Nat):zFf S w k (.slice a 0 cap) []:=⟨a,cap,rfl,qP,qP,.inl rfl⟩
theorem zFf.mk {S:Nat→Prop} {w:World} {k:Nat} {b o n c:Nat} {rows:List (List Value)} (h:zCI w k (.slice (some ⟨b,o,none⟩) n c) rows) (hs:S b):zFf S w k (.slice (some ⟨b,o,none⟩) n c) rows:=by
 obtain ⟨a,aa,h1,h2,h3,h4⟩:=h;refine ⟨a,aa,h1,h2,h3,?_⟩;rcases h4 with h|⟨b',o',h5,h6⟩
 ·exact .inl h
 ·simp only[Value.slice.injEq] at h1;have:b'=b:=by rw[←h1.1] at h5;simp at h5;exact h5.1.symm
  exact .inr ⟨b',o',this▸hs,h5,h6⟩
mutual
def zBw (S:Nat→Prop) (w:World):Re→List Value→Prop
  | .mk k set args mn mx ng,vs=>∃sa sc aa ac,vs=[.int .i64 k,.slice sa set.length sc,.slice aa args.length ac,.int .i64 mn,.int .i64 mx,.bool ng]∧zFf S w 2 (.slice sa set.length sc) (set.map zBl)∧(args.length≤ac∧ac≤9223372036854775807)∧
      (args=[]∨∃b o,S b∧aa=some ⟨b,o,none⟩∧zCQ S w b o args)
def zCQ (S:Nat→Prop) (w:World) (b:Nat):Nat→List Re→Prop
  | _,[]=>True
  | o,t::ts=>(∃vs,zBE w b o vs∧zBw S w t vs)∧zCQ S w b (o+6) ts
end
mutual
theorem zBw.at {S:Nat→Prop} {w:World}:∀(t:Re) {vs:List Value},zBw S w t vs→zBB w t vs
  | .mk k set args mn mx ng,vs,h=>by
    simp only[zBw] at h;simp only[zBB];obtain ⟨sa,sc,aa,ac,hv,hs,hl,ha⟩:=h;refine ⟨sa,sc,aa,ac,hv,hs.at,hl,?_⟩;rcases ha with h|⟨b,o,_,h1,h2⟩
    · exact .inl h
    · exact .inr ⟨b,o,h1,zCQ.at args h2⟩
theorem zCQ.at {S:Nat→Prop} {w:World} {b:Nat}:∀(ts:List Re) {o:Nat},zCQ S w b o ts→zCx w b o ts
  | [],_,_=>by simp only[zCx]
  | t::ts,o,h=>by
    simp only[zCQ] at h;simp only[zCx];obtain ⟨⟨vs,h1,h2⟩,h3⟩:=h;exact ⟨⟨vs,h1,zBw.at t h2⟩,zCQ.at ts h3⟩
end
mutual
theorem zBw.chg {S M:Nat→Prop} {w w':World} (c:Chg M w w') (hm:∀b,S b→¬M b):∀(t:Re) {vs:List Value},zBw S w t vs→zBw S w' t vs
  | .mk k set args mn mx ng,vs,h=>by
    simp only[zBw] at h⊢;obtain ⟨sa,sc,aa,ac,hv,hs,hl,ha⟩:=h;refine ⟨sa,sc,aa,ac,hv,hs.chg c hm,hl,?_⟩;rcases ha with h|⟨b,o,hb,h1,h2⟩
    · exact .inl h
    · exact .inr ⟨b,o,hb,h1,zCQ.chg c hm args hb h2⟩
theorem zCQ.chg {S M:Nat→Prop} {w w':World} (c:Chg M w w') (hm:∀b,S b→¬M b) {b:Nat}:∀(ts:List Re) {o:Nat},S b→zCQ S w b o ts→zCQ S w' b o ts
  | [],_,_,_=>by simp only[zCQ]
  | t::ts,o,hb,h=>by
    simp only[zCQ] at h⊢;obtain ⟨⟨vs,h1,h2⟩,h3⟩:=h;exact ⟨⟨vs,h1.chg c (hm b hb),zBw.chg c hm t h2⟩,zCQ.chg c hm ts hb h3⟩
end
mutual
theorem zBw.mono {S S':Nat→Prop} {w:World} (hs:∀b,S b→S' b):∀(t:Re) {vs:List Value},zBw S w t vs→zBw S' w t vs
  | .mk k set args mn mx ng,vs,h=>by
    simp only[zBw] at h⊢;obtain ⟨sa,sc,aa,ac,hv,h0,hl,ha⟩:=h;refine ⟨sa,sc,aa,ac,hv,h0.mono hs,hl,?_⟩;rcases ha with h|⟨b,o,hb,h1,h2⟩
    · exact .inl h
    · exact .inr ⟨b,o,hs b hb,h1,zCQ.mono hs args h2⟩
theorem zCQ.mono {S S':Nat→Prop} {w:World} (hs:∀b,S b→S' b) {b:Nat}:∀(ts:List Re) {o:Nat},zCQ S w b o ts→zCQ S' w b o ts
  | [],_,_=>by simp only[zCQ]
  | t::ts,o,h=>by
    simp only[zCQ] at h⊢;obtain ⟨⟨vs,h1,h2⟩,h3⟩:=h;exact ⟨⟨vs,h1,zBw.mono hs t h2⟩,zCQ.mono hs ts h3⟩
end
theorem zBw.ext {S:Nat→Prop} {w w':World} (e:Ext w w') (t:Re) {vs:List Value} (h:zBw S w t vs):zBw S w' t vs:=zBw.chg e (fun _ _ f=>f) t h
theorem zBw.form {S:Nat→Prop} {w:World} {t:Re} {vs:List Value} (h:zBw S w t vs):∃sa sc aa ac,vs=[.int .i64 t.kind,.slice sa t.set.length sc,.slice aa t.args.length ac,.int .i64 t.mn,.int .i64 t.mx,.bool t.neg]∧zFf S w 2 (.slice sa t.set.length sc) (t.set.map zBl)∧(t.args.length≤ac∧ac≤9223372036854775807)∧
  (t.args=[]∨∃b o,S b∧aa=some ⟨b,o,none⟩∧zCQ S w b o t.args):=by
 cases t;simp only[zBw] at h;exact h
theorem zBw.of {S:Nat→Prop} {w:World} {k:Int} {set:List (Int×Int)} {args:List Re} {mn mx:Int} {ng:Bool} {sa aa:Option Addr} {sc ac:Nat} (hs:zFf S w 2 (.slice sa set.length sc) (set.map zBl)) (hl:(args.length≤ac∧ac≤9223372036854775807)) (ha:args=[]∨∃b o,S b∧aa=some ⟨b,o,none⟩∧zCQ S w b o args) :
  zBw S w (.mk k set args mn mx ng) [.int .i64 k,.slice sa set.length sc,.slice aa args.length ac,.int .i64 mn,.int .i64 mx,.bool ng]:=by
 simp only[zBw];exact ⟨sa,sc,aa,ac,rfl,hs,hl,ha⟩
theorem zCQ.one {S:Nat→Prop} {w:World} {b o:Nat} {t:Re} {vs:List Value} (hc:zBE w b o vs) (h:zBw S w t vs):zCQ S w b o [t]:=by
 simp only[zCQ];exact ⟨⟨vs,hc,h⟩,trivial⟩
theorem zCQ.two {S:Nat→Prop} {w:World} {b o:Nat} {t u:Re} {vs us:List Value} (hc:zBE w b o vs) (h:zBw S w t vs) (hc':zBE w b (o+6) us) (h':zBw S w u us):zCQ S w b o [t,u]:=by
 simp only[zCQ];exact ⟨⟨vs,hc,h⟩,⟨us,hc',h'⟩,trivial⟩
theorem zBw.of_at {w:World}:∀(t:Re) {vs:List Value},zBB w t vs→zBw (fun b=>b<w.heap.size) w t vs:=by
  intro t;have ae:∀n,(∀t:Re,t.size≤n→∀vs,zBB w t vs→zBw (fun b=>b<w.heap.size) w t vs):=by
    intro n
    induction n with
    | zero=>intro t ht;have:=t.size_pos;omega
    | succ n ih=>
      intro t hn vs h;obtain ⟨sa,sc,aa,ac,rfl,hs,hl,ha⟩:=h.form;have hsz:=t.size_eq;cases t with
      | mk k set args mn mx ng=>
      simp only[Re.kind,Re.set,Re.args,Re.mn,Re.mx,Re.neg] at *;refine zBw.of ?_ hl ?_
      · obtain ⟨a,ad,h1,h2,h3,h4⟩:=hs;refine ⟨a,ad,h1,h2,h3,?_⟩;rcases h4 with h|⟨b,o,h5,h6⟩
        · exact .inl h
        · cases set with
          | nil=>exact .inl rfl
          | cons s r=>
            have:=h6 0 (zBl s) rfl 0 _ rfl;exact .inr ⟨b,o,World.block_lt_of_cell? w _ this,h5,h6⟩
      · rcases ha with h|⟨b,o,h1,h2⟩
        · exact .inl h
        · have ab:∀(ts:List Re) (o:Nat),Re.sizes ts≤n→zCx w b o ts→zCQ (fun b=>b<w.heap.size) w b o ts:=by
            intro ts
            induction ts with
            | nil=>intro _ _ _;simp only[zCQ]
            | cons t ts ih2=>
              intro o hz h;simp only[Re.sizes] at hz;simp only[zCx] at h;simp only[zCQ];obtain ⟨⟨vs,h3,h4⟩,h5⟩:=h;exact ⟨⟨vs,h3,ih t qO vs h4⟩,ih2 _ qO h5⟩
          cases args with
          | nil=>exact .inl rfl
          | cons t ts=>
            have h3:=h2;simp only[zCx] at h3;obtain ⟨⟨vs,h4,h5⟩,_⟩:=h3;obtain ⟨_,_,_,_,rfl,_⟩:=h5.form;have:=h4 0 _ rfl;exact .inr ⟨b,o,World.block_lt_of_cell? w _ this,h1,ab _ o qO h2⟩
  exact fun {vs} h=>ae t.size t (Nat.le_refl _) vs h
end Go.Eng
namespace Go.Proofs
open Go Go.Eng Go.Sort
set_option maxRecDepth 100000
theorem zTR (w0:World) (v1 v2:Value) (l1 l2:List Int) (h1:zBZ w0 v1 l1) (h2:zBZ w0 v2 l2) :
  Ret prog 25 #[v1,v2] w0 fun v w=>v=.bool (decide (l1=l2))∧Ext w0 w:=by
 obtain ⟨a1,c1,rfl⟩:=zCI.form h1;obtain ⟨a2,c2,rfl⟩:=zCI.form h2;have hb1:l1.length≤9223372036854775807:=by simpa using zCI.le h1
 simp only[List.length_map] at h1 h2⊢;refine qR func25 rfl ntmps25 rfl (fun E=>(zAA (qA (.bool false) rfl (zAB (zAH (zAA (qM (.slice a1 l1.length c1) rfl (qV (zAJ (ad:=a1) (n:=l1.length) (cap:=c1) underlying22 rfl) (qM (.slice a2 l2.length c2) rfl (qV (zAJ (ad:=a2) (n:=l2.length) (cap:=c2) underlying22 rfl) (qV (zDA (k:=.i64) (a:=(l1.length:Int)) (b:=(l2.length:Int)) rfl rfl) (zAB (qC rfl (fun hl=>?_) (fun hl=>?_))))))))))))))
 ·refine zAA (qA (.bool false) rfl (zAB (zAV (zAU (zAY results25 (v:=(.bool false)) rfl ?_)))));exact ⟨zBy (by symm;rw[decide_eq_false_iff_not];intro h;rw[h] at hl;exact hl rfl),E⟩
 ·refine zAO (zAC (zAH (zAA (qM (.slice a1 l1.length c1) rfl (qV (zAJ (ad:=a1) (n:=l1.length) (cap:=c1) underlying22 rfl) (qM (I6 0) rfl (zAB (zAS (zAp (fun nn_ σ W2=>∃(k:Nat),(∃jj_,σ=zCT jj_ [(0,(.slice a1 l1.length c1)),(1,(.slice a2 l2.length c2)),(12,(I6 (l1.length:Int))),(13,(I6 (k:Int)))])∧Chg zAh w0 W2∧(k≤l1.length)∧(∀(i:Nat),i<k→l1[i]?=l2[i]?)∧nn_=l1.length - k) (n:=l1.length - 0) ?_ ?_)))))))))
  ·exact ⟨0,zAz.out ⟨rfl,rfl,rfl,rfl,trivial⟩,E,Nat.zero_le _,(fun i h=>absurd h (Nat.not_lt_zero _)),rfl⟩
  ·clear E;rintro _ _ W2 ⟨k,⟨j2,rfl⟩,E,hk,ab,rfl⟩;refine zAA (qV (zBF (k:=.i64) (a:=(k:Int)) (b:=(l1.length:Int)) rfl rfl) (zAB (zAH (qC rfl (fun af=>?_) (fun af=>?_)))))
   ·obtain ⟨p,hp⟩:=zAN (l:=l1) (i:=k) qO;obtain ⟨q,hq⟩:=zAN (l:=l2) (i:=k) qO;obtain ⟨b1,o1,rfl,ag⟩:=zBG h1 qO;obtain ⟨b2,o2,rfl,ae⟩:=zBG h2 qO;refine zAO (zAC (zAH (zAS (zAA (qM (I6 (k:Int)) rfl (qA (I6 (k:Int)) rfl (zAB (zCs 8 mixed qK ?_))))))));intro w4 X4 _;replace E:=E.ext X4;refine qT (zAl (v:=(.slice (some ⟨b1,o1,none⟩) l1.length c1)) rfl) (qT (zAl (v:=(I6 (k:Int))) rfl) (qT (zAD (b:=b1) (o:=o1) (len:=l1.length) (cap:=c1) (i:=k) (o':=o1+k) rfl rfl rfl underlying22 zAy qO qO) (qT (zAI (v:=(I6 p)) rfl zAo (E.cell (fun f=>f) (ag k p hp))) (qT (zAl (v:=(.slice (some ⟨b2,o2,none⟩) l2.length c2)) rfl) (qT (zAl (v:=(I6 (k:Int))) rfl) (qT (zAD (b:=b2) (o:=o2) (len:=l2.length) (cap:=c2) (i:=k) (o':=o2+k) rfl rfl rfl underlying22 zAy qO qO) (qT (zAI (v:=(I6 q)) rfl zAo (E.cell (fun f=>f) (ae k q hq))) (zCq (qV (zDA (k:=.i64) (a:=p) (b:=q) rfl rfl) (zAB (qC rfl (fun ac=>?_) (fun ac=>?_))))))))))))
    ·refine zAA (qA (.bool false) rfl (zAB (zAV (zAi (zAU (zAU (zAi (zAU (zAY results25 (v:=(.bool false)) rfl ?_)))))))));exact ⟨zBy (by symm;rw[decide_eq_false_iff_not];intro h;subst h;rw[hp] at hq;cases hq;exact ac rfl),E⟩
    ·have aa:p=q:=qO
     refine zAO (zAR (zAC (zAF (qV (zAv (k:=.i64) (a:=(k:Int)) (b:=1) (c:=(k:Int)+1) rfl rfl (zBb qO)) (qM (I6 ((k:Int)+1)) rfl (zAB (zAC ?_)))))));exact ⟨l1.length - (k+1),qO,k+1,zAz.out ⟨rfl,rfl,rfl,rfl,trivial⟩,E,qO,(fun i hi=>by rcases Nat.lt_or_ge i k with h|h;exact ab i h;obtain rfl:i=k:=qO;rw[hp,hq,aa]),rfl⟩
   ·have hkk:k=l1.length:=qO
    refine zAn (zAT (zAT (zAg (zAC (zAA (qA (.bool true) rfl (zAB (zAV (zAY results25 (v:=(.bool true)) rfl ?_)))))))));exact ⟨zBy (by symm;rw[decide_eq_true_eq];exact zQT qO (fun i hi=>ab i qO)),E⟩
end Go.Proofs
namespace Go.Eng
open Go
theorem zFq {M:Nat→Prop} {P:Program} {N:Nat} {σ:Env} {w:World} {dst:Option Tmp} {z:Operand} {args:List Operand} {tys:Array TypeId} {ty:TypeId} {pos:String} {af:Array Edge} {g:Option (Nat×Bool)} {fv:Value} {vs:List Value} {R:Fct}
  (hz:ev σ z=fv) (ha:args.map (ev σ)=vs) (hc:zCG P fv vs.toArray w fun v w'=>R v w'∧Chg M w w'):zCj M P N ⟨dst,.call ⟨.value z,args.toArray,tys⟩,ty,pos,af,g⟩ R σ w:=by
 obtain ⟨f,fn,aa,cap,rfl,hf,hn,hb,hr⟩:=hc;exact zCt (zDL hz hf hn hb ha rfl) hr
theorem zQF {P:Program} {kt:TypeId} {κ:Type} [DecidableEq κ] {ek:κ→Value} (hwide:(match P.underlying kt with|some (.array _ _)|some (.struct _)=>true|_=>false)=true)
    (hchk:∀(b:Bool) (w:World) (k:κ),(Instr.checkKey b 10000 kt (ek k)).run P w=.ok () w) (heq:∀(w:World) (a b:κ),(Op.equal kt (ek a) (ek b)).run P w=.ok (decide (a=b)) w) (hsame:∀k,Instr.sameBits 10000 (ek k) (ek k)=true):KeyOk P kt ek where
  check:=hchk
  same:=hsame
  find:=fun ν w k es eV L hL=>by
    have key:∀(L:List MapEntry) (es:List (κ×ν)) (i:Nat),L.map (fun e=>(e.key,e.val))=es.map (fun p=>(ek p.1,eV p.2))→(Instr.findAsking kt (ek k) L i).run P w=.ok (zHN eV es k i) w:=by
      intro L
      induction L with
      | nil=>
        intro es i h;cases es with
        | nil=>rfl
        | cons _ _=>simp at h
      | cons e L ih=>
        intro es i h;cases es with
        | nil=>simp at h
        | cons p es=>
          simp only[List.map_cons,List.cons.injEq,Prod.mk.injEq] at h;obtain ⟨⟨h1,h2⟩,h3⟩:=h;unfold Instr.findAsking zHN;simp only[Sem.run_bind,h1,heq,Result.andThen_ok];by_cases hk:p.1=k
          · rw[if_pos hk,hk];simp[h2]
          · rw[if_neg hk,show decide (k=p.1)=false by simpa using fun h=>hk h.symm];exact ih es (i+1) h3
    rw[run_findKey_eq w hwide];exact key L es 0 hL
theorem zWP {P:Program} {t e:TypeId} {i:TypeInfo} (hu:P.underlying t=some (.array 2 e)) (he:P.underlying e=some (.int .i64)) (hi:P.info? e=some i) (hc:P.cellsOf e=1) (w:World) (a b:Int×Int):(Op.equal t (zIA a) (zIA b)).run P w=.ok (decide (a=b)) w:=by
 have hp:P.plainKey e=true:=by simp[Program.plainKey,he]
 have aa:∀(d:Nat) (x y:Int),(Op.equalIn (d+1) e (.int .i64 x) (.int .i64 y)).run P w=.ok (x == y) w:=fun d x y=>by
  simp[Op.equalIn,run_underlying he]
 have hq:∀x y:Int,(Op.equalIn 9999 e (.int .i64 x) (.int .i64 y)).run P w=.ok (x == y) w:=aa 9998;show (Op.equalIn (9999+1) t (.agg #[.int .i64 a.1,.int .i64 a.2]) (.agg #[.int .i64 b.1,.int .i64 b.2])).run P w=_;rw[run_equalIn_array w 9999 _ _ hu hi,hc,show List.range 2=[0,1] from rfl];obtain ⟨a1,a2⟩:=a;obtain ⟨b1,b2⟩:=b;have p1:∀(x y:Int),(part e #[.int .i64 x,.int .i64 y] 0).run P w=.ok (.int .i64 x) w:=fun x y=>run_part_plain w hp rfl;have p2:∀(x y:Int),(part e #[.int .i64 x,.int .i64 y] 1).run P w=.ok (.int .i64 y) w:=fun x y=>run_part_plain w hp rfl;simp only[Op.eqItems,Sem.run_bind,Nat.zero_mul,Nat.one_mul,p1,Result.andThen_ok,hq,Prod.mk.injEq];by_cases h1:a1=b1
 ·by_cases h2:a2=b2
  ·simp[h1,h2,p2,hq]
  ·simp[h1,h2,p2,hq,show (a2 == b2)=false by simpa using h2]
 ·simp[h1,show (a1 == b1)=false by simpa using h1]
theorem zPV (k:Int×Int):Instr.sameBits 10000 (zIA k) (zIA k)=true:=by
 show Instr.sameBits (9999+1) (.agg _) (.agg _)=true;simp[Instr.sameBits]
end Go.Eng
namespace Go.Proofs
open Go Go.Eng Go.Sort
set_option maxRecDepth 100000
--BEGIN
section
variable {α : Type}
def zBN:List α→Nat→List (α×Int)
  | [],_=>[]
  | m::ks,n=>(m,((n:Nat):Int))::zBN ks (n+1)
theorem zJK:∀(ks:List α) (m:α) (n:Nat),zBN (ks++[m]) n=zBN ks n++[(m,(((n+ks.length:Nat):Nat):Int))]
  | [],m,n=>rfl
  | x::ks,m,n=>by
    show (x,_)::zBN (ks++[m]) (n+1)=(x,_)::(zBN ks (n+1)++_);rw[zJK ks m (n+1),List.length_cons,show n+1+ks.length=n+(ks.length+1) by omega]
theorem zLJ:∀{ks:List α} {n:Nat} {q:α×Int},q∈zBN ks n→∃(j:Nat) (m:α),ks[j]?=some m∧q=(m,(((n+j:Nat):Nat):Int))
  | [],_,_,h=>by cases h
  | x::ks,n,q,h=>by
    rcases List.mem_cons.1 h with h|h
    · exact ⟨0,x,rfl,h⟩
    · obtain ⟨j,m,h1,h2⟩:=zLJ h;exact ⟨j+1,m,h1,by rw[h2];congr 2;omega⟩
theorem zLK:∀{ks:List α} {n:Nat} {m:α},m∈ks→m∈(zBN ks n).map (·.1)
  | x::ks,n,m,h=>by
    rcases List.mem_cons.1 h with rfl|h
    · exact List.mem_cons_self
    · exact List.mem_cons_of_mem _ (zLK (n:=n+1) h)
variable [DecidableEq α]
theorem zHz {ks:List α} {m:α} {v:Int} (h:zBr (zBN ks 0) m=some v):∃j:Nat,v=((j:Nat):Int)∧ks[j]?=some m:=by
 obtain ⟨j,m',h1,h2⟩:=zLJ (zDm h);simp only[Prod.mk.injEq,Nat.zero_add] at h2;exact ⟨j,h2.2,by rw[h1,h2.1]⟩
theorem zGe {ks:List α} {m:α} (h:zBr (zBN ks 0) m=none):m∉ks∧zHQ (zBN ks 0) m ((ks.length:Nat):Int)=zBN (ks++[m]) 0:=by
 refine ⟨fun hm=>?_,?_⟩
 ·have:=zEA.2 (zLK (n:=0) hm);rw[h] at this;cases this
 ·rw[zDu _ h,zJK,Nat.zero_add]
end
section
variable {α : Type}
def zIo (stp:α→Nat→Option α) (keys:List α) (k:α) (x:Nat) (y:Int):Prop:=match stp k x with|none=>y = -1|some b=>∃j:Nat,y=((j:Nat):Int)∧keys[j]?=some b
theorem zIo.mono {stp:α→Nat→Option α} {keys:List α} {k:α} {x:Nat} {y:Int} (h:zIo stp keys k x y) (u:List α):zIo stp (keys++u) k x y:=by
  unfold zIo at h⊢;cases hs:stp k x with
  | none=>rw[hs] at h;exact h
  | some b=>rw[hs] at h;obtain ⟨j,h1,h2⟩:=h;exact ⟨j,h1,by rw[List.getElem?_append_left (zAE h2)];exact h2⟩
structure ExpP (c:Nat) (stp:α→Nat→Option α) (a0:α) (keys:List α) (rows:List (List Int)) (row:List Int):Prop where
 k0:keys[0]?=some a0
 nd:keys.Nodup
 rch:∀k∈keys,∃w,inW c w∧zHP stp a0 w=some k
 len:∀r∈rows,r.length=c
 ent:∀(i x:Nat) r y k,rows[i]?=some r→r[x]?=some y→keys[i]?=some k→zIo stp keys k x y
 cur:∀(x:Nat) y k,row[x]?=some y→keys[rows.length]?=some k→zIo stp keys k x y
variable {c : Nat} {stp : α → Nat → Option α} {a0 : α} {keys : List α} {rows : List (List Int)} {row : List Int}
theorem ExpP.start (c:Nat) (stp:α→Nat→Option α) (a0:α):ExpP c stp a0 [a0] [] []:=by
 refine ⟨rfl,qP,fun k hk=>?_,fun r h=>(by cases h),fun i x r y k h=>by simp at h,fun x y k h=>by simp at h⟩;rw[List.mem_singleton] at hk;subst hk;exact ⟨[],inW.nil c,rfl⟩
theorem ExpP.add {k:α} {y:Int} (h:ExpP c stp a0 keys rows row) (hk:keys[rows.length]?=some k) (hE:zIo stp keys k row.length y):ExpP c stp a0 keys rows (row++[y]):=by
 refine {h with cur:=fun x z q hx hq=>?_};rcases zBz hx with h1|⟨h1,h2⟩
 ·exact h.cur x z q h1 hq
 ·rw[hk] at hq;cases hq;rw[h1,h2];exact hE
theorem ExpP.new {k b:α} (h:ExpP c stp a0 keys rows row) (hk:keys[rows.length]?=some k) (hx:row.length<c) (hs:stp k row.length=some b) (hb:b∉keys):ExpP c stp a0 (keys++[b]) rows (row++[((keys.length:Nat):Int)]):=by
 have aa:=zAE hk;have hE:zIo stp (keys++[b]) k row.length ((keys.length:Nat):Int):=by
  unfold zIo;rw[hs];exact ⟨keys.length,rfl,qP⟩
 refine ⟨by rw[List.getElem?_append_left (zAE h.k0)];exact h.k0,?_,fun q hq=>?_,h.len,fun i x r y q hr hy hq=>?_,fun x z q hz hq=>?_⟩
 ·rw[List.nodup_append];refine ⟨h.nd,qP,fun p hp q hq=>?_⟩;rw[List.mem_singleton] at hq;subst hq;exact fun e=>hb (e▸hp)
 ·rcases List.mem_append.1 hq with h1|h1
  ·exact h.rch q h1
  ·rw[List.mem_singleton] at h1;subst h1;obtain ⟨w,h2,h3⟩:=h.rch k (List.mem_of_getElem? hk);exact ⟨w++[row.length],h2.snoc hx,by rw[zGA,h3];exact hs⟩
 ·rcases zBz hq with h1|⟨h1,_⟩
  ·exact (h.ent i x r y q hr hy h1).mono _
  ·have:=zAE hr;omega
 ·have ab:q=k:=by
   rw[List.getElem?_append_left aa,hk] at hq;exact (Option.some.inj hq).symm
  subst ab;rcases zBz hz with h1|⟨h1,h2⟩
  ·exact (h.cur x z q h1 hk).mono _
  ·rw[h1,h2];exact hE
theorem ExpP.rowed (h:ExpP c stp a0 keys rows row) (hl:row.length=c):ExpP c stp a0 keys (rows++[row]) []:=by
 refine ⟨h.k0,h.nd,h.rch,fun r hm=>?_,fun i x r y s h1 h2 h3=>?_,fun x y s h1=>by simp at h1⟩
 ·rcases List.mem_append.1 hm with h1|h1
  ·exact h.len r h1
  ·rw[List.mem_singleton] at h1;rw[h1];exact hl
 ·rcases zBz h1 with h4|⟨h4,h5⟩
  ·exact h.ent i x r y s h4 h2 h3
  ·subst h5;rw[h4] at h3;exact h.cur x y s h2 h3
def zIb (c:Nat) (stp:α→Nat→Option α) (a0:α) (m:Nat):Prop:=∀l:List α,l.Nodup→(∀k∈l,∃w,inW c w∧zHP stp a0 w=some k)→l.length≤m
theorem zKz {β:Type}:∀{l m:List β},l.Nodup→(∀x∈l,x∈m)→l.length≤m.length
  | [],_,_,_=>Nat.zero_le _
  | x::l,m,hd,h=>by
    have hd':=List.nodup_cons.1 hd;obtain ⟨s,t,rfl⟩:=List.append_of_mem (h x List.mem_cons_self);have:=zKz (l:=l) (m:=s++t) hd'.2 fun y hy=>by
      have h1:=h y (List.mem_cons_of_mem _ hy);rcases List.mem_append.1 h1 with h2|h2
      · exact List.mem_append_left _ h2
      · rcases List.mem_cons.1 h2 with rfl|h3
        · exact absurd hy hd'.1
        · exact List.mem_append_right _ h3
    simp only[List.length_append,List.length_cons] at this⊢;omega
theorem ExpP.closed (h:ExpP c stp a0 keys rows []) (hl:rows.length=keys.length):∀(w:List Nat) (k q:α),inW c w→k∈keys→zHP stp k w=some q→q∈keys
  | [],k,q,_,hk,hr=>by simp only[zHP,Option.some.injEq] at hr;exact hr▸hk
  | x::w,k,q,hw,hk,hr=>by
    simp only[zHP] at hr;obtain ⟨i,hi⟩:=List.getElem?_of_mem hk;obtain ⟨r,hrr⟩:=zAN (l:=rows) (i:=i) (by have:=zAE hi;omega);obtain ⟨y,hy⟩:=zAN (l:=r) (i:=x) (by have:=h.len r (List.mem_of_getElem? hrr);have:=hw.head;omega);have hE:=h.ent i x r y k hrr hy hi;unfold zIo at hE;cases hs:stp k x with
    | none=>rw[hs] at hr;cases hr
    | some b=>
      rw[hs] at hE hr;obtain ⟨j,_,h2⟩:=hE;simp only[Option.bind_some] at hr;exact h.closed hl w b q hw.tail (List.mem_of_getElem? h2) hr
theorem ExpP.all (h:ExpP c stp a0 keys rows []) (hl:rows.length=keys.length):zIb c stp a0 keys.length:=fun l hd hr=>zKz hd fun k hk=>by
 obtain ⟨w,hw,h1⟩:=hr k hk;exact h.closed hl w a0 k hw (List.mem_of_getElem? h.k0) h1
theorem zIb.mono {m m':Nat} (h:zIb c stp a0 m) (hm:m≤m'):zIb c stp a0 m':=fun l hd hr=>Nat.le_trans (h l hd hr) hm
def zRA (stp:α→Nat→Option α) (acc:α→Int) (k:α) (w:List Nat):Int:=match zHP stp k w with|some b=>acc b|none=>-1
theorem ExpP.done {acc:α→Int} (h:ExpP c stp a0 keys rows []) (hl:rows.length=keys.length) (ha:∀k∈keys,-1≤acc k):OkD keys.length c ⟨0,keys.map acc,rows⟩∧∀w,inW c w→beh ⟨0,keys.map acc,rows⟩ 0 w=zRA stp acc a0 w:=by
  have hk0:=zAE h.k0;have ok:OkD keys.length c ⟨0,keys.map acc,rows⟩:=⟨hl,qP,⟨Int.le_refl _,by show (0:Int)<_;omega⟩,fun x hx=>by
    obtain ⟨k,hk,rfl⟩:=List.mem_map.1 hx;exact ha k hk,fun r hr=>by
    have hr:r∈rows:=hr;refine ⟨h.len r hr,fun y hy=>?_⟩;obtain ⟨i,hi⟩:=List.getElem?_of_mem hr;obtain ⟨x,hx⟩:=List.getElem?_of_mem hy;obtain ⟨k,hk⟩:=zAN (l:=keys) (i:=i) (by have:=zAE hi;omega);have hE:=h.ent i x r y k hi hx hk;unfold zIo at hE;cases hs:stp k x with
    | none=>rw[hs] at hE;simp only at hE;omega
    | some b=>rw[hs] at hE;obtain ⟨j,h1,h2⟩:=hE;have:=zAE h2;omega⟩
  refine ⟨ok,?_⟩;have aa:∀(w:List Nat) (i:Nat) (k:α),inW c w→keys[i]?=some k→beh ⟨0,keys.map acc,rows⟩ ((i:Nat):Int) w=zRA stp acc k w:=by
    intro w
    induction w with
    | nil=>
      intro i k _ hk;simp only[beh,zRA,zHP];exact zEC (by simp[hk])
    | cons x w ih=>
      intro i k hw hk;obtain ⟨r,hr⟩:=zAN (l:=rows) (i:=i) (by have:=zAE hk;omega);obtain ⟨y,hy⟩:=zAN (l:=r) (i:=x) (by have:=h.len r (List.mem_of_getElem? hr);have:=hw.head;omega);have hE:=h.ent i x r y k hr hy hk;simp only[beh,zRA,zHP];rw[zEl (d:=⟨0,keys.map acc,rows⟩) hr hy];unfold zIo at hE;cases hs:stp k x with
      | none=>rw[hs] at hE;simp only at hE;simp only[Option.bind_none];exact zDi qO
      | some b=>
        rw[hs] at hE;obtain ⟨j,rfl,h2⟩:=hE;simp only[Option.bind_some];exact ih j b hw.tail h2
  intro w hw;exact aa w 0 a0 hw h.k0
end
--END
end Go.Proofs
