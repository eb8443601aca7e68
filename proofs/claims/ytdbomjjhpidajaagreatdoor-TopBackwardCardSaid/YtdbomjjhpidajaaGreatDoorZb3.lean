/- Contracts and plain lemmas, part 3. -/
import Derived.Test.YtdbomjjhpidajaaGreatDoorZb2
open Go.Proofs.Tryz
set_option maxHeartbeats 16000000
namespace Go.Proofs
open Go Go.Eng
set_option maxRecDepth 100000
def zCU (t:Re):Int:=if t.kind<0∨10<t.kind then 1 else if zFE t=false then 3 else if t.kind=2 then (if zBO t.set≠0 then zBO t.set else if (t.set.length:Int)=0 then 3 else 0)
 else if t.kind=6 then (if t.mn<0∨t.mx<t.mn∨8<t.mx then 1 else 0) else if t.kind=9 then (if t.mn<0∨9<t.mn then 1 else 0) else 0
theorem zXz (wb w0:World) (t:Re) (vs:List Value) (ht:zBm wb t vs) (hE:Ext wb w0) :
  Ret prog 103 #[.agg vs.toArray] w0 fun v w=>v=.int .i64 (zCU t)∧Ext w0 w:=by
 have a2:=ht;obtain ⟨sa,sc,aa,ac,rfl,ao,a0,aq⟩:=ht.form;refine qR func103 rfl ntmps103 rfl (fun E=>(zAA (zBY (v:=(.agg (R6 t sa sc aa ac))) (c:=(R6 t sa sc aa ac)) qD rfl rfl ?_)));intro b1 w1 N1;replace E:=E.ext N1.ext;have B1:=N1.blk;refine qA (I6 0) rfl (zAB (zAH (zAA (qF b1 0 0 rfl underlying26 rfl zAv rfl (qV (zAG (v:=(I6 t.kind)) rfl zAm (B1.cell rfl)) ?_)))));obtain ⟨e2,ay⟩:∃e,(decide ((t.kind:Int)<0))=e:=⟨_,rfl⟩;refine qV ((zBA (k:=.i64) (a:=t.kind) (b:=0) rfl rfl).trans (by rw[ay];try rfl)) (qM (.bool e2) rfl (qG (.bool e2) (nU e2 (P6 b1 0)) (by cases e2<;>first|exact gA|exact gB|exact .inl ⟨rfl,zAY (b:=b1) (o:=0) (o':=0) rfl underlying26 rfl zAv rfl⟩) (qG (.bool e2) (nU e2 (I6 t.kind)) (by cases e2<;>first|exact gA|exact gB|exact .inl ⟨rfl,zAG (v:=(I6 t.kind)) rfl zAm (B1.cell rfl)⟩) ?_)));obtain ⟨e3,ap⟩:∃e,(decide ((10:Int)<t.kind))=e:=⟨_,rfl⟩;refine qG (.bool e2) (nU e2 (.bool e3)) (by cases e2<;>first|exact gA|exact gB|exact .inl ⟨rfl,(zEN (k:=.i64) (a:=t.kind) (b:=10) rfl rfl).trans (by rw[ap];try rfl)⟩) ?_;obtain ⟨e4,ar⟩:∃e,(e2 || e3)=e:=⟨_,rfl⟩;refine qV (zAr (b:=e2) (v:=.bool e4) rfl (by rw[←ar];cases e2<;>rfl)) (zAB ?_);subst ar;subst ap;subst ay;refine zAx (b:=((decide ((t.kind:Int)<0)) || (decide ((10:Int)<t.kind)))) rfl (fun hk=>?_) (fun hk=>?_)
 ·have a4:=hk;simp at hk;refine zAA (qA (I6 1) rfl (zAB (zAW (zAX (zAZ results103 (v:=(.int .i64 1)) rfl ?_)))));exact ⟨zBM (by unfold zCU;rw[if_pos qO]),E⟩
 ·have a4:=hk;simp at hk;refine zAO (zAC (zAH (zAA (qV (zAP (vs:=[(I6 t.kind),(.slice sa t.set.length sc),(.slice aa t.args.length ac),(I6 t.mn),(I6 t.mx),(.bool t.neg)]) rfl zBZ zAp rfl (B1.cells rfl)) (qE rfl (zAU (vs:=[(.agg (R6 t sa sc aa ac))]) func151 kQ kQ rfl) (zYL wb _ t _ a2) ?_)))));rintro _ w9 ⟨rfl,X9⟩;replace B1:=X9.keep B1;replace E:=E.ext X9;refine qV (zCa (b:=zFE t) rfl) (zAB (zAx (b:=!(zFE t)) rfl (fun hf=>?_) (fun hf=>?_)))
  ·have a3:=hf;replace hf:=by simpa using hf
   refine zAA (qA (I6 3) rfl (zAB (zAW (zAX (zAZ results103 (v:=(.int .i64 3)) rfl ?_)))));exact ⟨zBM (by unfold zCU;rw[if_neg qO,if_pos hf]),E⟩
  ·have a3:=hf;replace hf:=by simpa using hf
   have hN:zCU t=if t.kind=2 then (if zBO t.set≠0 then zBO t.set else if (t.set.length:Int)=0 then 3 else 0) else if t.kind=6 then (if t.mn<0∨t.mx<t.mn∨8<t.mx then 1 else 0) else if t.kind=9 then (if t.mn<0∨9<t.mn then 1 else 0) else 0:=by unfold zCU;rw[if_neg qO,if_neg (by simp[hf])]
   rw[hN];refine zAO (zAC (zAH (zAA (qF b1 0 0 rfl underlying26 rfl zAv rfl (qV (zAG (v:=(I6 t.kind)) rfl zAm (B1.cell rfl)) (zAB (zAT (zAA (qV (zAq (k:=.i64) (a:=t.kind) (b:=2) rfl rfl) (qA (.bool (decide ((t.kind:Int)=2))) rfl (zAB (qC rfl (fun h2=>?_) (fun h2=>?_)))))))))))))
   ·rw[if_pos h2];refine zAH (zAA (qF b1 0 1 rfl underlying26 rfl zCi rfl (qV (zAG (v:=(.slice sa t.set.length sc)) rfl zCs (B1.cell rfl)) (qE rfl (zAU (vs:=[(.slice sa t.set.length sc)]) func44 kQ kQ rfl) (zNn _ _ t.set ((ao.ext hE).ext E)) ?_))));rintro _ w10 ⟨rfl,av⟩;replace B1:=av.keep B1;replace E:=E.ext av;refine qA (I6 (zBO t.set)) rfl (zAB (zAA (qM (I6 (zBO t.set)) rfl (qV (zEY (k:=.i64) (a:=zBO t.set) (b:=0) rfl rfl) (zAB (qC rfl (fun h3=>?_) (fun h3=>?_)))))))
    ·refine zAA (qM (I6 (zBO t.set)) rfl (qA (I6 (zBO t.set)) rfl (zAB (zAW (zAX (zAh (zAX (zAZ results103 (v:=(.int .i64 (zBO t.set))) rfl ?_))))))));exact ⟨zBM (by rw[if_pos h3]),E⟩
    ·rw[if_neg h3];refine zAO (zAC (zAA (qF b1 0 1 rfl underlying26 rfl zCi rfl (qV (zAG (v:=(.slice sa t.set.length sc)) rfl zCs (B1.cell rfl)) (qV (zAK (ad:=sa) (n:=t.set.length) (cap:=sc) underlying23 rfl) (qV (zAq (k:=.i64) (a:=(t.set.length:Int)) (b:=0) rfl rfl) (zAB (qC rfl (fun h4=>?_) (fun h4=>?_)))))))))
     ·refine zAA (qA (I6 3) rfl (zAB (zAW (zAh (zAX (zAZ results103 (v:=(.int .i64 3)) rfl ?_))))));exact ⟨zBM (by rw[if_pos h4]),E⟩
     ·refine zAO (zAS (zAC (zAA (qA (I6 0) rfl (zAB (zAW (zAZ results103 (v:=(.int .i64 0)) rfl ?_)))))));exact ⟨zBM (by rw[if_neg h4]),E⟩
   ·rw[if_neg h2];refine zAA (qV (zAq (k:=.i64) (a:=t.kind) (b:=6) rfl rfl) (qA (.bool (decide ((t.kind:Int)=6))) rfl (zAB (qC rfl (fun h6=>?_) (fun h6=>?_)))))
    ·rw[if_pos h6];refine zAA (qF b1 0 3 rfl underlying26 rfl zAv rfl (qV (zAG (v:=(I6 t.mn)) rfl zAm (B1.cell rfl)) ?_));obtain ⟨ab,ai⟩:∃e,(decide ((t.mn:Int)<0))=e:=⟨_,rfl⟩;refine qV ((zBA (k:=.i64) (a:=t.mn) (b:=0) rfl rfl).trans (by rw[ai];try rfl)) (qM (.bool ab) rfl (qG (.bool ab) (nU ab (P6 b1 3)) (by cases ab<;>first|exact gA|exact gB|exact .inl ⟨rfl,zAY (b:=b1) (o:=0) (o':=3) rfl underlying26 rfl zAv rfl⟩) (qG (.bool ab) (nU ab (I6 t.mn)) (by cases ab<;>first|exact gA|exact gB|exact .inl ⟨rfl,zAG (v:=(I6 t.mn)) rfl zAm (B1.cell rfl)⟩) (qG (.bool ab) (nU ab (P6 b1 4)) (by cases ab<;>first|exact gA|exact gB|exact .inl ⟨rfl,zAY (b:=b1) (o:=0) (o':=4) rfl underlying26 rfl zAv rfl⟩) (qG (.bool ab) (nU ab (I6 t.mx)) (by cases ab<;>first|exact gA|exact gB|exact .inl ⟨rfl,zAG (v:=(I6 t.mx)) rfl zAm (B1.cell rfl)⟩) ?_)))));obtain ⟨ax,am⟩:∃e,(decide ((t.mx:Int)<t.mn))=e:=⟨_,rfl⟩;refine qG (.bool ab) (nU ab (.bool ax)) (by cases ab<;>first|exact gA|exact gB|exact .inl ⟨rfl,(zEN (k:=.i64) (a:=t.mn) (b:=t.mx) rfl rfl).trans (by rw[am];try rfl)⟩) ?_;obtain ⟨ae,ag⟩:∃e,(ab || ax)=e:=⟨_,rfl⟩;refine qV (zAr (b:=ab) (v:=.bool ae) rfl (by rw[←ag];cases ab<;>rfl)) (qM (.bool ae) rfl (qG (.bool ae) (nU ae (P6 b1 4)) (by cases ae<;>first|exact gA|exact gB|exact .inl ⟨rfl,zAY (b:=b1) (o:=0) (o':=4) rfl underlying26 rfl zAv rfl⟩) (qG (.bool ae) (nU ae (I6 t.mx)) (by cases ae<;>first|exact gA|exact gB|exact .inl ⟨rfl,zAG (v:=(I6 t.mx)) rfl zAm (B1.cell rfl)⟩) ?_)));obtain ⟨aw,ak⟩:∃e,(decide ((8:Int)<t.mx))=e:=⟨_,rfl⟩;refine qG (.bool ae) (nU ae (.bool aw)) (by cases ae<;>first|exact gA|exact gB|exact .inl ⟨rfl,(zEN (k:=.i64) (a:=t.mx) (b:=8) rfl rfl).trans (by rw[ak];try rfl)⟩) ?_;obtain ⟨a1,al⟩:∃e,(ae || aw)=e:=⟨_,rfl⟩;refine qV (zAr (b:=ae) (v:=.bool a1) rfl (by rw[←al];cases ae<;>rfl)) (zAB ?_);subst al;subst ak;subst ag;subst am;subst ai;refine zAx (b:=(((decide ((t.mn:Int)<0)) || (decide ((t.mx:Int)<t.mn))) || (decide ((8:Int)<t.mx)))) rfl (fun h7=>?_) (fun h7=>?_)
     ·have a6:=h7;simp at h7;refine zAA (qA (I6 1) rfl (zAB (zAW (zAh (zAX (zAZ results103 (v:=(.int .i64 1)) rfl ?_))))));exact ⟨zBM (by rw[if_pos qO]),E⟩
     ·have a6:=h7;simp at h7;refine zAO (zAS (zAC (zAA (qA (I6 0) rfl (zAB (zAW (zAZ results103 (v:=(.int .i64 0)) rfl ?_)))))));exact ⟨zBM (by rw[if_neg qO]),E⟩
    ·rw[if_neg h6];refine zAA (qV (zAq (k:=.i64) (a:=t.kind) (b:=9) rfl rfl) (qA (.bool (decide ((t.kind:Int)=9))) rfl (zAB (qC rfl (fun h9=>?_) (fun h9=>?_)))))
     ·rw[if_pos h9];refine zAA (qF b1 0 3 rfl underlying26 rfl zAv rfl (qV (zAG (v:=(I6 t.mn)) rfl zAm (B1.cell rfl)) ?_));obtain ⟨af,aj⟩:∃e,(decide ((t.mn:Int)<0))=e:=⟨_,rfl⟩;refine qV ((zBA (k:=.i64) (a:=t.mn) (b:=0) rfl rfl).trans (by rw[aj];try rfl)) (qM (.bool af) rfl (qG (.bool af) (nU af (P6 b1 3)) (by cases af<;>first|exact gA|exact gB|exact .inl ⟨rfl,zAY (b:=b1) (o:=0) (o':=3) rfl underlying26 rfl zAv rfl⟩) (qG (.bool af) (nU af (I6 t.mn)) (by cases af<;>first|exact gA|exact gB|exact .inl ⟨rfl,zAG (v:=(I6 t.mn)) rfl zAm (B1.cell rfl)⟩) ?_)));obtain ⟨au,ah⟩:∃e,(decide ((9:Int)<t.mn))=e:=⟨_,rfl⟩;refine qG (.bool af) (nU af (.bool au)) (by cases af<;>first|exact gA|exact gB|exact .inl ⟨rfl,(zEN (k:=.i64) (a:=t.mn) (b:=9) rfl rfl).trans (by rw[ah];try rfl)⟩) ?_;obtain ⟨az,an⟩:∃e,(af || au)=e:=⟨_,rfl⟩;refine qV (zAr (b:=af) (v:=.bool az) rfl (by rw[←an];cases af<;>rfl)) (zAB ?_);subst an;subst ah;subst aj;refine zAx (b:=((decide ((t.mn:Int)<0)) || (decide ((9:Int)<t.mn)))) rfl (fun h8=>?_) (fun h8=>?_)
      ·have a5:=h8;simp at h8;refine zAA (qA (I6 1) rfl (zAB (zAW (zAh (zAX (zAZ results103 (v:=(.int .i64 1)) rfl ?_))))));exact ⟨zBM (by rw[if_pos qO]),E⟩
      ·have a5:=h8;simp at h8;refine zAO (zAS (zAC (zAA (qA (I6 0) rfl (zAB (zAW (zAZ results103 (v:=(.int .i64 0)) rfl ?_)))))));exact ⟨zBM (by rw[if_neg qO]),E⟩
     ·rw[if_neg h9];refine zAO (zAS (zAC (zAA (qA (I6 0) rfl (zAB (zAW (zAZ results103 (v:=(.int .i64 0)) rfl ?_)))))));exact ⟨rfl,E⟩
end Go.Proofs
namespace Go.Proofs
open Go Go.Eng
set_option maxRecDepth 100000
def zFI (most:Int):Int×Int→Re→Bool×(Int×Int):=fun s t=>
 let n:=IntKind.i64.wrap (s.1+1)
 let e:=if most<n then 2 else zCU t
 (decide (e=0),(n,e))
def zCv (t:Re) (most:Int):Int:=(zCp (zFI most) t (0,0)).2.2
theorem zWW (wb w0:World) (t:Re) (vs:List Value) (ht:zBm wb t vs) (hE:Ext wb w0) (b1' b2' b3':Nat) (s:Int×Int) (most:Int) (h0:wb.heap.size≤b2') (h12:b2'<b1') (h13:b1'<b3')
  (hB1:Blk w0 b1' #[.int .i64 s.1] 3) (hB2:Blk w0 b2' #[.int .i64 most] 3) (hB3:Blk w0 b3' #[.int .i64 s.2] 29) :
  Ret prog 102 #[.agg vs.toArray,.pointer (some ⟨b1',0,none⟩),.pointer (some ⟨b2',0,none⟩),.pointer (some ⟨b3',0,none⟩)] w0
   fun v w=>v=.bool (zFI most s t).1∧Chg (fun x=>x=b1'∨x=b3') w0 w∧Blk w b1' #[.int .i64 (zFI most s t).2.1] 3∧Blk w b2' #[.int .i64 most] 3∧Blk w b3' #[.int .i64 (zFI most s t).2.2] 29:=by
 have ad:=ht;obtain ⟨sa,sc,aa,ac,rfl,af,ae,ab⟩:=ht.form;refine zDE func102 rfl ntmps102 (leT rfl) ?_;have E:Chg (fun x=>x=b1'∨x=b3') w0 w0:=Chg.refl _ _;refine zAA (zBY (v:=(.agg (R6 t sa sc aa ac))) (c:=(R6 t sa sc aa ac)) qD rfl rfl ?_);intro b1 w1 N1;have O1_b1':=N1.lt hB1;have O1_b2':=N1.lt hB2;have O1_b3':=N1.lt hB3;replace hB1:=N1.keep hB1;replace hB2:=N1.keep hB2;replace hB3:=N1.keep hB3;replace E:=E.ext N1.ext;have B1:=N1.blk;refine qA (.bool false) rfl (zAB (zAH (zAA (qV (zAG (v:=(I6 s.1)) rfl zAm (hB1.cell rfl)) (qV (zAw (k:=.i64) (a:=s.1) (b:=1) (c:=IntKind.i64.wrap (s.1+1)) rfl rfl (rfl)) (zAt (b:=b1') (o:=0) (c':=#[(I6 (IntKind.i64.wrap (s.1+1)))]) (v:=(I6 (IntKind.i64.wrap (s.1+1)))) rfl rfl rfl zAv hB1 qP rfl ?_))))));intro w2 S2;replace hB2:=S2.keep qO hB2;replace hB3:=S2.keep qO hB3;replace B1:=S2.keep qO B1;replace E:=S2.step E qQ;replace hB1:=S2.blk;refine zAB (zAA (qV (zAG (v:=(I6 (IntKind.i64.wrap (s.1+1)))) rfl zAm (hB1.cell rfl)) (qV (zAG (v:=(I6 most)) rfl zAm (hB2.cell rfl)) (qV (zEN (k:=.i64) (a:=IntKind.i64.wrap (s.1+1)) (b:=most) rfl rfl) (zAB (qC rfl (fun h=>?_) (fun h=>?_)))))))
 ·refine zAF (zAt (b:=b3') (o:=0) (c':=#[(I6 2)]) (v:=(I6 2)) rfl rfl rfl zQO hB3 qP rfl ?_);intro w4 S4;replace hB1:=S4.keep qO hB1;replace hB2:=S4.keep qO hB2;replace B1:=S4.keep qO B1;replace E:=S4.step E qQ;replace hB3:=S4.blk;refine zAB (zAC (zAA (qV (zAG (v:=(I6 2)) rfl zLw (hB3.cell rfl)) (qV (zAq (k:=.i64) (a:=2) (b:=0) rfl rfl) (qA (.bool false) rfl (zAB (zAW (zAZ results102 (v:=(.bool false)) rfl ?_))))))));exact ⟨by simp[zFI,h],E,by simpa[zFI] using hB1,hB2,by simpa[zFI,h] using hB3⟩
 ·refine zAF (qV (zAP (vs:=[(I6 t.kind),(.slice sa t.set.length sc),(.slice aa t.args.length ac),(I6 t.mn),(I6 t.mx),(.bool t.neg)]) rfl zBZ zAp rfl (B1.cells rfl)) (qE rfl (zAU (vs:=[(.agg (R6 t sa sc aa ac))]) func103 kQ kQ rfl) (zXz wb _ t _ ad (Chg.step hE E fun x hx hm=>by rcases hm with hm|hm<;>omega)) ?_));rintro _ w9 ⟨rfl,X9⟩;replace hB1:=X9.keep hB1;replace hB2:=X9.keep hB2;replace hB3:=X9.keep hB3;replace B1:=X9.keep B1;replace E:=E.ext X9;refine zAt (b:=b3') (o:=0) (c':=#[(I6 (zCU t))]) (v:=(I6 (zCU t))) rfl rfl rfl zQO hB3 qP rfl ?_;intro w5 S5;replace hB1:=S5.keep qO hB1;replace hB2:=S5.keep qO hB2;replace B1:=S5.keep qO B1;replace E:=S5.step E qQ;replace hB3:=S5.blk;refine zAB (zAC (zAA (qV (zAG (v:=(I6 (zCU t))) rfl zLw (hB3.cell rfl)) (qV (zAq (k:=.i64) (a:=zCU t) (b:=0) rfl rfl) (qA (.bool (decide ((zCU t:Int)=0))) rfl (zAB (zAW (zAZ results102 (v:=(.bool (decide ((zCU t:Int)=0)))) rfl ?_))))))));exact ⟨by simp[zFI,h],E,by simpa[zFI] using hB1,hB2,by simpa[zFI,h] using hB3⟩
theorem zYN (w0:World) (t:Re) (vs:List Value) (ht:zBm w0 t vs) (most:Int) :
  Ret prog 62 #[.agg vs.toArray,.int .i64 most] w0 fun v w=>v=.int .i64 (zCv t most)∧Ext w0 w:=by
 have af:=ht;obtain ⟨sa,sc,aa,ac,rfl,ae,ad,ab⟩:=ht.form;refine qR func62 rfl ntmps62 rfl (fun E=>(zAA (zBY (v:=(.agg (R6 t sa sc aa ac))) (c:=(R6 t sa sc aa ac)) qD rfl rfl ?_)));intro b1 w1 N1;have F1:=N1.ge E;replace E:=E.ext N1.ext;have B1:=N1.blk;refine zBY (v:=(I6 most)) (c:=#[(I6 most)]) qD rfl rfl ?_;intro b2 w2 N2;have F2:=N2.ge E;have O2_b1:=N2.lt B1;replace B1:=N2.keep B1;replace E:=E.ext N2.ext;have B2:=N2.blk;refine qA (I6 0) rfl (zAB (zAA (zBB (c:=#[(I6 0)]) qD zDJ rfl ?_)));intro b3 w3 N3;have F3:=N3.ge E;have O3_b1:=N3.lt B1;have O3_b2:=N3.lt B2;replace B1:=N3.keep B1;replace B2:=N3.keep B2;replace E:=E.ext N3.ext;have B3:=N3.blk;refine zBB (c:=#[(I6 0)]) qD zXM rfl ?_;intro b4 w4 N4;have F4:=N4.ge E;have O4_b1:=N4.lt B1;have O4_b2:=N4.lt B2;have O4_b3:=N4.lt B3;replace B1:=N4.keep B1;replace B2:=N4.keep B2;replace B3:=N4.keep B3;replace E:=E.ext N4.ext;have B4:=N4.blk;refine zAt (b:=b3) (o:=0) (c':=#[(I6 0)]) (v:=(I6 0)) rfl rfl rfl zAv B3 qP rfl ?_;intro w5 S5;replace B1:=S5.keep qO B1;replace B2:=S5.keep qO B2;replace B4:=S5.keep qO B4;replace E:=S5.step E qQ;replace B3:=S5.blk;refine zAt (b:=b4) (o:=0) (c':=#[(I6 0)]) (v:=(I6 0)) rfl rfl rfl zQO B4 qP rfl ?_;intro w6 S6;replace B1:=S6.keep qO B1;replace B2:=S6.keep qO B2;replace B3:=S6.keep qO B3;replace E:=S6.step E qQ;replace B4:=S6.blk;refine zAB (zAA (qV (zAP (vs:=[(I6 t.kind),(.slice sa t.set.length sc),(.slice aa t.args.length ac),(I6 t.mn),(I6 t.mx),(.bool t.neg)]) rfl zBZ zAp rfl (B1.cells rfl)) (qV (zBQ (vs:=[]) (us:=[(P6 b3 0),(P6 b2 0),(P6 b4 0)]) rfl rfl) ?_)));have hf:∀(s:Int×Int) (w:World) (t:Re) (vs:List Value),b4+1≤w.heap.size→Ext w0 w→(Blk w b3 #[.int .i64 s.1] 3∧Blk w b2 #[.int .i64 most] 3∧Blk w b4 #[.int .i64 s.2] 29)→zBm w0 t vs→zCJ prog (.func (.func 102) #[] #[.pointer (some ⟨b3,0,none⟩),.pointer (some ⟨b2,0,none⟩),.pointer (some ⟨b4,0,none⟩)]) #[.agg vs.toArray] w fun v w'=>v=.bool (zFI most s t).1∧Chg (fun x=>x=b3∨x=b4) w w'∧(Blk w' b3 #[.int .i64 (zFI most s t).2.1] 3∧Blk w' b2 #[.int .i64 most] 3∧Blk w' b4 #[.int .i64 (zFI most s t).2.2] 29):=fun s w t vs _ hE hI ht=>zCJ.mk (first:=#[]) (cap:=#[.pointer (some ⟨b3,0,none⟩),.pointer (some ⟨b2,0,none⟩),.pointer (some ⟨b4,0,none⟩)]) (args:=#[.agg vs.toArray]) func102 kQ kQ rfl (zWW w0 w t vs ht hE b3 b2 b4 s most qO qO qO hI.1 hI.2.1 hI.2.2);refine qE rfl (zAU (vs:=[(.agg (R6 t sa sc aa ac)),(.func (.func 102) #[] #[(P6 b3 0),(P6 b2 0),(P6 b4 0)])]) func42 kQ kQ rfl) (zUf (zFI most) (fun s w=>Blk w b3 #[.int .i64 s.1] 3∧Blk w b2 #[.int .i64 most] 3∧Blk w b4 #[.int .i64 s.2] 29) (fun x=>x=b3∨x=b4) (b4+1) _ w0 (fun b hb=>qO) (fun s w w' hI e=>⟨e.keep hI.1,e.keep hI.2.1,e.keep hI.2.2⟩) hf t.size t (Nat.le_refl _) (0,0) _ _ (by have:=B4.lt;omega) E ⟨B3,B2,B4⟩ af) ?_;rintro _ w9 ⟨rfl,C9,B3',B2',B4'⟩;replace B1:=C9.keep qO B1;replace E:=E.step C9 (by intro x hx hm;omega);refine zAB (zAA (qV (zAG (v:=(I6 ((zCp (zFI most) t (0,0)).2.2))) rfl zLw (B4'.cell rfl)) (qA (I6 ((zCp (zFI most) t (0,0)).2.2)) rfl (zAB (zAW (zAZ results62 (v:=(.int .i64 ((zCp (zFI most) t (0,0)).2.2))) rfl ?_))))));exact ⟨rfl,E⟩
theorem zNK (w0:World) (t:Re) (vs:List Value) (ht:zBm w0 t vs) :
  Ret prog 30 #[.agg vs.toArray] w0 fun v w=>v=.int .i64 (zCv t 40)∧Ext w0 w:=by
 have ae:=ht;obtain ⟨sa,sc,aa,ac,rfl,ad,af,ab⟩:=ht.form;refine qR func30 rfl ntmps30 rfl (fun E=>(zAA (zBY (v:=(.agg (R6 t sa sc aa ac))) (c:=(R6 t sa sc aa ac)) qD rfl rfl ?_)));intro b1 w1 N1;replace E:=E.ext N1.ext;have B1:=N1.blk;refine qA (I6 0) rfl (zAB (zAA (qV (zAP (vs:=[(I6 t.kind),(.slice sa t.set.length sc),(.slice aa t.args.length ac),(I6 t.mn),(I6 t.mx),(.bool t.neg)]) rfl zBZ zAp rfl (B1.cells rfl)) (qE rfl (zAU (vs:=[(.agg (R6 t sa sc aa ac)),(I6 40)]) func62 kQ kQ rfl) (zYN _ t _ (zBm.ext E t ae) 40) ?_))));rintro _ w9 ⟨rfl,X9⟩;replace B1:=X9.keep B1;replace E:=E.ext X9;refine qA (I6 (zCv t 40)) rfl (zAB (zAW (zAZ results30 (v:=(.int .i64 (zCv t 40))) rfl ?_)));exact ⟨rfl,E⟩
end Go.Proofs
namespace Go.Proofs
open Go Go.Eng
set_option maxRecDepth 100000
theorem zQo (m:Nat) (h:m<4294967296):(BitVec.ofInt 32 (m:Int)).toNat=m:=by
 rw[BitVec.toNat_ofInt];omega
theorem zUL {P:Program} {w:World} (m n:Nat) (hm:m<4294967296) (hn:n<4294967296):(Op.intBits .and .u32 (m:Int) (n:Int)).run P w=.ok (.int .u32 ((m &&& n:Nat):Int)) w:=by
 have h1:m &&& n<4294967296:=Nat.lt_of_le_of_lt Nat.and_le_left hm;show Result.ok (Value.int .u32 (IntKind.u32.wrap ((BitVec.ofInt 32 (m:Int) &&& BitVec.ofInt 32 (n:Int):BitVec 32).toNat:Int))) w=_;rw[BitVec.toNat_and,zQo m hm,zQo n hn,zZc qO]
def zSf:List Nat:=[0,1,28,2,29,14,24,3,30,22,20,15,25,17,4,8,31,27,13,23,21,19,16,7,26,12,18,6,11,5,10,9]
def zNR (w:World):Prop:=∀(i v:Nat),zSf[i]?=some v→w.cell? ⟨0,i,none⟩=some (.int .u8 (v:Int))
theorem zNR.ext {w w':World} (h:zNR w) (e:Ext w w'):zNR w':=fun i v hv=>e.cell (h i v hv)
theorem shl1 {k:Nat} (h:k≤25):IntKind.u32.wrap (1*2 ^ (min ((k:Int)).toNat IntKind.u32.bits))=((2 ^ k:Nat):Int):=by
 have h1:(2:Nat) ^ k≤2 ^ 25:=Nat.pow_le_pow_right qO h;have h2:min ((k:Int)).toNat IntKind.u32.bits=k:=by simp[IntKind.bits];omega
 rw[h2,Int.one_mul,show ((2:Int) ^ k)=((2 ^ k:Nat):Int) from qP];simp only[Nat.reducePow] at h1;generalize (2:Nat) ^ k=p at h1⊢;exact zZc qO
end Go.Proofs
namespace Go.Proofs
open Go Go.Eng
set_option maxRecDepth 100000
mutual
def zDo:Re→Prop
  | .mk k set args mn mx ng=>zCU (.mk k set args mn mx ng)=0∧zEC args
def zEC:List Re→Prop
  | []=>True
  | t::ts=>zDo t∧zEC ts
end
theorem zIO {ts:List Re} (h:zEC ts) {i:Nat} {x:Re} (hx:ts[i]?=some x):zDo x:=by
  induction ts generalizing i with
  | nil=>simp at hx
  | cons t ts ih=>
    simp only[zEC] at h;cases i with
    | zero=>simp at hx;subst hx;exact h.1
    | succ i=>exact ih h.2 (by simpa using hx)
theorem zED {t:Re} (h:zDo t):zCU t=0:=by cases t;simp only[zDo] at h;exact h.1
theorem zEE {t:Re} (h:zDo t):zEC t.args:=by cases t;simp only[zDo] at h;exact h.2
theorem zLX {t:Re} (h:zDo t):0≤t.kind∧t.kind≤10∧zFE t=true:=by
 have:=zED h;unfold zCU at this;split at this
 ·omega
 ·rename_i hk
  split at this
  ·omega
  ·rename_i hf;exact ⟨qO,qO,by simpa using hf⟩
theorem zMz (t:Re):t.args.length<t.size:=by
  rw[Re.size_eq];have:∀ts:List Re,ts.length≤Re.sizes ts:=by
    intro ts
    induction ts with
    | nil=>simp
    | cons x r ih=>have:=x.size_pos;simp[Re.sizes];omega
  have:=this t.args;omega
theorem zGB {w0:World} {aa:Option Addr} {ts:List Re} (h:ts=[]∨∃b o,aa=some ⟨b,o,none⟩∧zDS w0 b o ts) (h0:0<ts.length):∃b o,aa=some ⟨b,o,none⟩∧zDS w0 b o ts:=by
 rcases h with h|h
 ·rw[h] at h0;simp at h0
 ·exact h
end Go.Proofs
namespace Go.Proofs
open Go Go.Eng
set_option maxRecDepth 100000
theorem zRb {most:Int} {n e:Int} (t:Re) (h0:0≤n) (h1:n≤1000000):zFI most (n,e) t=(decide ((if most<n+1 then 2 else zCU t)=0),(n+1,if most<n+1 then 2 else zCU t)):=by
 simp only[zFI];rw[zBf qO]
mutual
theorem zOS {most:Int} (hm:most≤1000000):∀(t:Re) (n e:Int),0≤n→n+t.size≤most→zDo t→zCp (zFI most) t (n,e)=(true,(n+t.size,0))
  | .mk k set args mn mx ng,n,e,h0,h1,hok=>by
    simp only[Re.size] at h1⊢;rw[zEl,zRb _ h0 qO];have hn:=zED hok;have hlt:¬most<n+1:=qO
    simp only[if_neg hlt,hn,decide_true,if_true,Re.args];have ha:=zEE hok;simp only[Re.args] at ha;rw[zLx hm args (n+1) 0 qO qO ha rfl];simp;omega
theorem zLx {most:Int} (hm:most≤1000000):∀(ts:List Re) (n e:Int),0≤n→n+Re.sizes ts≤most→zEC ts→e=0→zCZ (zFI most) ts (n,e)=(true,(n+Re.sizes ts,0))
  | [],n,e,_,_,_,he=>by simp[zCZ,Re.sizes,he]
  | t::ts,n,e,h0,h1,hok,he=>by
    simp only[Re.sizes] at h1⊢;simp only[zEC] at hok;rw[zCo,zOS hm t n e h0 qO hok.1];simp only[if_true];rw[zLx hm ts _ _ qO qO hok.2 rfl];simp;omega
end
mutual
theorem zRa {most:Int} (hm:most≤1000000):∀(t:Re) (n e:Int),0≤n→n≤most→(zCp (zFI most) t (n,e)).1=true→zDo t∧n+t.size≤most∧(zCp (zFI most) t (n,e)).2=(n+t.size,0)
  | .mk k set args mn mx ng,n,e,h0,h1,h=>by
    rw[zEl,zRb _ h0 qO] at h⊢;by_cases hc:(if most<n+1 then 2 else zCU (.mk k set args mn mx ng))=0
    · have hlt:¬most<n+1:=by intro h';rw[if_pos h'] at hc;omega
      rw[if_neg hlt] at hc;simp only[if_neg hlt,hc,decide_true,if_true,Re.args] at h⊢;obtain ⟨a,b,c⟩:=zOT hm args (n+1) 0 qO qO h rfl;refine ⟨by simp only[zDo];exact ⟨hc,a⟩,by simp only[Re.size];omega,by rw[c];simp only[Re.size];simp;omega⟩
    · simp[hc] at h
theorem zOT {most:Int} (hm:most≤1000000):∀(ts:List Re) (n e:Int),0≤n→n≤most→(zCZ (zFI most) ts (n,e)).1=true→e=0→zEC ts∧n+Re.sizes ts≤most∧(zCZ (zFI most) ts (n,e)).2=(n+Re.sizes ts,0)
  | [],n,e,_,h1,_,he=>by simp[zCZ,Re.sizes,zEC,he];omega
  | t::ts,n,e,h0,h1,h,he=>by
    rw[zCo] at h⊢;by_cases hc:(zCp (zFI most) t (n,e)).1=true
    · rw[if_pos hc] at h⊢;obtain ⟨a,b,c⟩:=zRa hm t n e h0 h1 hc;rw[c] at h⊢;obtain ⟨a',b',c'⟩:=zOT hm ts _ _ qO b h rfl;exact ⟨by simp only[zEC];exact ⟨a,a'⟩,by simp only[Re.sizes];omega,by rw[c'];simp only[Re.sizes];simp;omega⟩
    · rw[if_neg hc] at h;simp at h
end
mutual
theorem zLy {most:Int}:∀(t:Re) (s:Int×Int),(zCp (zFI most) t s).1=decide ((zCp (zFI most) t s).2.2=0)
  | .mk k set args mn mx ng,s=>by
    rw[zEl];by_cases hc:(zFI most s (.mk k set args mn mx ng)).1=true
    · rw[if_pos hc];exact zJp args _ (by simpa[zFI] using hc)
    · rw[if_neg hc];have h2:(zFI most s (.mk k set args mn mx ng)).1=false:=by simpa using hc
      simp only[zFI] at h2⊢;exact h2.symm
theorem zJp {most:Int}:∀(ts:List Re) (s:Int×Int),s.2=0→(zCZ (zFI most) ts s).1=decide ((zCZ (zFI most) ts s).2.2=0)
  | [],s,h=>by simp[zCZ,h]
  | t::ts,s,h=>by
    rw[zCo];have:=zLy (most:=most) t s;by_cases hc:(zCp (zFI most) t s).1=true
    · rw[if_pos hc];rw[hc] at this;exact zJp ts _ (by simpa using this.symm)
    · rw[if_neg hc];have h2:(zCp (zFI most) t s).1=false:=by simpa using hc
      rw[h2] at this;exact this
end
theorem zDP {t:Re} {most:Int} (h0:0≤most) (hm:most≤1000000):zCv t most=0↔zDo t∧(t.size:Int)≤most:=by
 unfold zCv;constructor
 ·intro h;have h1:=zLy (most:=most) t (0,0);rw[h] at h1;obtain ⟨a,b,_⟩:=zRa hm t 0 0 (Int.le_refl 0) h0 (by simpa using h1);exact ⟨a,qO⟩
 ·rintro ⟨a,b⟩;rw[zOS hm t 0 0 (Int.le_refl 0) qO a]
def zFT (t:Re) (text:List Int):Int:=if zCv t 40≠0 then zCv t 40 else if 24<text.length then 2 else if (text.any fun r=>!zHh r)=true then 1 else 0
theorem zTH (w0:World) (t:Re) (vs:List Value) (vt:Value) (text:List Int) (ht:zBm w0 t vs) (htx:zBa w0 vt text) :
  Ret prog 58 #[.agg vs.toArray,vt] w0 fun v w=>v=.int .i64 (zFT t text)∧Ext w0 w:=by
 have af:=ht;obtain ⟨sa,sc,aa,ac,rfl,ai,ah,ab⟩:=ht.form;obtain ⟨ta,tc,rfl⟩:=zCQ.form htx;simp only[List.length_map] at htx⊢;refine qR func58 rfl ntmps58 rfl (fun E=>(zAA (zBY (v:=(.agg (R6 t sa sc aa ac))) (c:=(R6 t sa sc aa ac)) qD rfl rfl ?_)));intro b1 w1 N1;replace E:=E.ext N1.ext;have B1:=N1.blk;refine qA (I6 0) rfl (zAB (zAH (zAA (qV (zAP (vs:=[(I6 t.kind),(.slice sa t.set.length sc),(.slice aa t.args.length ac),(I6 t.mn),(I6 t.mx),(.bool t.neg)]) rfl zBZ zAp rfl (B1.cells rfl)) (qE rfl (zAU (vs:=[(.agg (R6 t sa sc aa ac))]) func30 kQ kQ rfl) (zNK _ t _ (zBm.ext E t af)) ?_)))));rintro _ w9 ⟨rfl,X9⟩;replace B1:=X9.keep B1;replace E:=E.ext X9;refine qA (I6 (zCv t 40)) rfl (zAB (zAA (qM (I6 (zCv t 40)) rfl (qV (zEY (k:=.i64) (a:=zCv t 40) (b:=0) rfl rfl) (zAB (qC rfl (fun h1=>?_) (fun h1=>?_)))))))
 ·refine zAA (qM (I6 (zCv t 40)) rfl (qA (I6 (zCv t 40)) rfl (zAB (zAW (zAX (zAZ results58 (v:=(.int .i64 (zCv t 40))) rfl ?_))))));exact ⟨zBM (by unfold zFT;rw[if_pos h1]),E⟩
 ·refine zAO (zAC (zAH (zAA (qM (.slice ta text.length tc) rfl (qV (zAK (ad:=ta) (n:=text.length) (cap:=tc) underlying22 rfl) (qV (zEN (k:=.i64) (a:=(text.length:Int)) (b:=24) rfl rfl) (zAB (qC rfl (fun h2=>?_) (fun h2=>?_)))))))))
  ·refine zAA (qA (I6 2) rfl (zAB (zAW (zAX (zAZ results58 (v:=(.int .i64 2)) rfl ?_)))));exact ⟨zBM (by unfold zFT;rw[if_neg h1,if_pos qO]),E⟩
  ·refine zAO (zAC (zAH (zAA (qM (.slice ta text.length tc) rfl (qE rfl (zAU (vs:=[(.slice ta text.length tc)]) func96 kQ kQ rfl) (zVo _ _ text (htx.ext E)) ?_)))));rintro _ w19 ⟨rfl,ae⟩;replace B1:=ae.keep B1;replace E:=E.ext ae;refine qV (zCa (b:=!(text.any fun r=>!zHh r)) rfl) (zAB (zAx (b:=!(!(text.any fun r=>!zHh r))) rfl (fun h3=>?_) (fun h3=>?_)))
   ·have ag:=h3;replace h3:=by simpa using h3
    replace h3:=by simpa using h3
    refine zAA (qA (I6 1) rfl (zAB (zAW (zAX (zAZ results58 (v:=(.int .i64 1)) rfl ?_)))));exact ⟨zBM (by unfold zFT;rw[if_neg h1,if_neg qO,if_pos (by simpa using h3)]),E⟩
   ·have ag:=h3;replace h3:=by simpa using h3
    replace h3:=by simpa using h3
    refine zAO (zAC (zAA (qA (I6 0) rfl (zAB (zAW (zAZ results58 (v:=(.int .i64 0)) rfl ?_))))));exact ⟨zBM (by unfold zFT;rw[if_neg h1,if_neg qO,if_neg (by simpa using h3)]),E⟩
def rowL (R:Rl) (i p:Nat):List (Nat×Nat):=((List.range p).filter (R i)).map fun j=>(i,j)
def zUp (R:Rl) (n:Nat):List (Nat×Nat):=(List.range n).flatMap fun i=>rowL R i 25
end Go.Proofs
namespace Go.Proofs
open Go Go.Eng
set_option maxRecDepth 100000
mutual
def zHk (p:Re→Prop):Re→Prop
  | .mk k set args mn mx ng=>p (.mk k set args mn mx ng)∧zDd p args
def zDd (p:Re→Prop):List Re→Prop
  | []=>True
  | t::ts=>zHk p t∧zDd p ts
end
def zSW (kinds:Int) (t:Re):Prop:=zCU t=0∧t.kind≤kinds∧(t.kind=2→∃lo hi,t.set=[(lo,hi)]∧97≤lo∧lo≤hi∧hi≤100)
mutual
theorem zVA {kinds:Int}:∀(t:Re),zHk (zSW kinds) t→zDo t
  | .mk k set args mn mx ng,h=>by simp only[zHk] at h;simp only[zDo];exact ⟨h.1.1,zRU args h.2⟩
theorem zRU {kinds:Int}:∀(ts:List Re),zDd (zSW kinds) ts→zEC ts
  | [],_=>by simp only[zEC]
  | t::ts,h=>by simp only[zDd] at h;simp only[zEC];exact ⟨zVA t h.1,zRU ts h.2⟩
end
theorem zHN.put {wb w w':World} {bs b:Nat} {l:List Int} {c:Array Value} {t:TypeId} (h:zHN wb w bs l) (s:Put w w' b c t) (hne:bs≠b):zHN wb w' bs l:=
 let ⟨a,c,h1,h2⟩:=h;⟨a,c,s.keep hne h1,h2⟩
theorem zLb {k:Int} (h:k=0∨k=1):zCU (.mk k [] [] 0 0 false)=0:=by
 rcases h with rfl|rfl<;>decide
theorem zTU {lo hi:Int} (h1:0≤lo) (h2:lo≤hi) (h3:hi≤1114111):zCU (.mk 2 [(lo,hi)] [] 0 0 false)=0:=by
 simp[zCU,zFE,okB,zBO,zEU,zFK,Re.kind,Re.set,Re.args,Re.mn,Re.mx,Re.neg,h1,h2,h3]
theorem zHs {k:Int} (h:k=3∨k=4∨k=7) (t u:Re):zCU (.mk k [] [t,u] 0 0 false)=0:=by
 rcases h with rfl|rfl|rfl<;>simp[zCU,zFE,okB,Re.kind,Re.set,Re.args,Re.mn,Re.mx,Re.neg]
theorem zTV {mn mx:Int} (h0:0≤mn) (h1:mn≤mx) (h2:mx≤8) (t:Re):zCU (.mk 6 [] [t] mn mx false)=0:=by
 simp[zCU,zFE,okB,Re.kind,Re.set,Re.args,Re.mn,Re.mx,Re.neg];omega
theorem zPE {mn:Int} (h0:0≤mn) (h1:mn≤9) (t:Re):zCU (.mk 9 [] [t] mn 0 false)=0:=by
 simp[zCU,zFE,okB,Re.kind,Re.set,Re.args,Re.mn,Re.mx,Re.neg];omega
theorem zQv (ng:Bool) (t:Re):zCU (.mk 10 [] [t] 0 0 ng)=0:=by
 simp[zCU,zFE,okB,Re.kind,Re.set,Re.args,Re.mn,Re.mx,Re.neg]
theorem zTW {k:Int} (h:k=5∨k=8) (t:Re):zCU (.mk k [] [t] 0 0 false)=0:=by
 rcases h with rfl|rfl<;>simp[zCU,zFE,okB,Re.kind,Re.set,Re.args,Re.mn,Re.mx,Re.neg]
theorem zGZ {kinds k mn mx:Int} {ng:Bool} {ts:List Re} (hk:k≤kinds) (h2:k≠2) (hn:zCU (.mk k [] ts mn mx ng)=0) (ht:zDd (zSW kinds) ts):zHk (zSW kinds) (.mk k [] ts mn mx ng):=by
 simp only[zHk];exact ⟨⟨hn,hk,fun h=>absurd h h2⟩,ht⟩
theorem zRT {d:Nat} (h:1≤d):2 ^ (d - 1+1)=2 ^ d:=by rw[Nat.sub_add_cancel h]
theorem zGY {d:Nat} (h:1≤d) {t:Re} (hs:t.size+1≤2 ^ (d - 1+1)) {k mn mx:Int} {set:List (Int×Int)} {ng:Bool}:(Re.mk k set [t] mn mx ng).size+1≤2 ^ (d+1):=by
 rw[zRT h] at hs;simp only[Re.size,Re.sizes,Nat.pow_succ];have:=t.size_pos;omega
theorem zId {d:Nat} (h:1≤d) {t u:Re} (hs:t.size+1≤2 ^ (d - 1+1)) (hu:u.size+1≤2 ^ (d - 1+1)) {k mn mx:Int} {set:List (Int×Int)} {ng:Bool}:(Re.mk k set [t,u] mn mx ng).size+1≤2 ^ (d+1):=by
 rw[zRT h] at hs hu;simp only[Re.size,Re.sizes,Nat.pow_succ];omega
theorem zZN (wb:World) (bs:Nat) (kinds:Int) (hk:kinds=8∨kinds=10) (hb:wb.heap.size≤bs):∀(d:Nat),d≤4→∀(w0:World) (l:List Int),Ext wb w0→zHN wb w0 bs l→
    Ret prog 29 #[.pointer (some ⟨bs,0,none⟩),.int .i64 ((d:Nat):Int),.int .i64 kinds] w0 fun v w=>∃t vs l',v=.agg vs.toArray∧zHk (zSW kinds) t∧t.size+1≤2 ^ (d+1)∧zBs (fun b=>w0.heap.size≤b) w t vs∧zHN wb w bs l'∧Chg (fun x=>x=bs) w0 w:=by
  intro d
  induction d using Nat.strongRecOn with
  | _ d ih=>
  intro hd4 w0 l hE hS;have bg:=hS.lt;have ah:∀{w:World},Chg (fun x=>x=bs) w0 w→Ext wb w:=fun c=>Chg.step hE c fun x hx hm=>by have ai:x=bs:=hm;omega
  refine zDE func29 rfl ntmps29 (leT rfl) ?_;have E:Chg (fun x=>x=bs) w0 w0:=Chg.refl _ _;refine zAA (zBB (c:=#[(I6 0),(.slice none 0 0),(.slice none 0 0),(I6 0),(I6 0),(.bool false)]) qD zDg rfl ?_);intro b1 w1 N1;have F1:=N1.ge E;replace hS:=hS.ext N1.ext;replace E:=E.ext N1.ext;have B1:=N1.blk;refine zAB (zAA (qM (P6 bs 0) rfl (qM (I6 kinds) rfl (qV (zAw (k:=.i64) (a:=kinds) (b:=1) (c:=kinds+1) rfl rfl (zBf qO)) ?_))));have aa:b1≠bs:=qO
  refine qE rfl (zAU (vs:=[(P6 bs 0),(I6 (kinds+1))]) func61 kQ kQ rfl) (zHX wb _ bs _ _ qO qO (ah E) hb hS) ?_;rintro _ w2 ⟨k0,l1,rfl,hk0,hk1,hS,C2⟩;replace B1:=C2.keep (aa) B1;replace E:=E.trans C2;refine qA (I6 k0) rfl (zAB (zFq (fun σ W2=>∃(k:Int) (l1:List Int),(∃jj_,σ=zCT jj_ [(0,(P6 bs 0)),(1,(I6 (d:Int))),(2,(I6 kinds)),(6,(P6 b1 0)),(7,(I6 k))])∧Chg (fun x=>x=bs) w0 W2∧Blk W2 b1 #[(I6 0),(.slice none 0 0),(.slice none 0 0),(I6 0),(I6 0),(.bool false)] 26∧(zHN wb W2 bs l1)∧(0≤k∧k≤kinds∧(d=0→k<3))) ?_ ?_))
  · skip
    refine zAA (qM (I6 (d:Int)) rfl (qV (zAq (k:=.i64) (a:=(d:Int)) (b:=0) rfl rfl) (zAB (qC rfl (fun hd=>?_) (fun hd=>?_)))))
    · refine zAF (qM (P6 bs 0) rfl (qE rfl (zAU (vs:=[(P6 bs 0),(I6 3)]) func61 kQ kQ rfl) (zHX wb _ bs _ _ qO qO (ah E) hb hS) ?_));rintro _ w3 ⟨k2,l2,rfl,hk2,hk3,hS,C3⟩;replace B1:=C3.keep (aa) B1;replace E:=E.trans C3;refine qA (I6 k2) rfl (zAB (zAC ?_));exact ⟨k2,l2,zAs.out ⟨rfl,rfl,rfl,rfl,rfl,trivial⟩,E,B1,hS,qO⟩
    · refine zAO (zAC ?_);exact ⟨k0,l1,zAs.out ⟨rfl,rfl,rfl,rfl,rfl,trivial⟩,E,B1,hS,qO⟩
  · clear E B1;rintro _ W2 ⟨k,l1,⟨j2,rfl⟩,E,B1,hS,ay⟩;refine zAH (zAA (qM (I6 k) rfl (zAB (zAT (zAH (zAA (qV (zAq (k:=.i64) (a:=k) (b:=0) rfl rfl) (qA (.bool (decide ((k:Int)=0))) rfl (zAB (qC rfl (fun h0=>?_) (fun h0=>?_)))))))))))
    · have a9:=decide_eq_true h0;refine zAO (zAC (zAk (cbk a9) (zAA (qM (I6 k) rfl (qV (zBF (ps:=[(0,(I6 k))]) (v:=(.agg #[(I6 k),(.slice none 0 0),(.slice none 0 0),(I6 0),(I6 0),(.bool false)])) rfl qK) (zAa (b:=b1) (o:=0) (c':=#[(I6 k),(.slice none 0 0),(.slice none 0 0),(I6 0),(I6 0),(.bool false)]) rfl rfl qS zAp rfl B1 qL rfl ?_))))));intro w5 S5;replace hS:=hS.put S5 (Ne.symm aa);replace E:=S5.step E qQ;replace B1:=S5.blk;refine zAB (zAW (zAh (zAX (zBb results29 (vs:=[(.int .i64 k),(.slice none 0 0),(.slice none 0 0),(.int .i64 0),(.int .i64 0),(.bool false)]) (b:=b1) rfl zBZ zAp rfl (B1.cells rfl) ?_))));exact ⟨.mk k [] [] 0 0 false,_,l1,rfl,zGZ ay.2.1 qO (zLb qO) (by simp only[zDd]),by simp only[Re.size,Re.sizes];have:=Nat.two_pow_pos d;rw[Nat.pow_succ];omega,zBs.of (set:=[]) (zDk.nil _ _ _ _ _) qP (.inl rfl),hS,E⟩
    · have a9:=decide_eq_false h0;refine zAF (qV (zAq (k:=.i64) (a:=k) (b:=1) rfl rfl) (qA (.bool (decide ((k:Int)=1))) rfl (zAB (zAC (qC rfl (fun h1=>?_) (fun h1=>?_))))))
      · refine zAA (qM (I6 k) rfl (qV (zBF (ps:=[(0,(I6 k))]) (v:=(.agg #[(I6 k),(.slice none 0 0),(.slice none 0 0),(I6 0),(I6 0),(.bool false)])) rfl qK) (zAa (b:=b1) (o:=0) (c':=#[(I6 k),(.slice none 0 0),(.slice none 0 0),(I6 0),(I6 0),(.bool false)]) rfl rfl qS zAp rfl B1 qL rfl ?_)));intro w7 S7;replace hS:=hS.put S7 (Ne.symm aa);replace E:=S7.step E qQ;replace B1:=S7.blk;refine zAB (zAW (zAh (zAX (zBb results29 (vs:=[(.int .i64 k),(.slice none 0 0),(.slice none 0 0),(.int .i64 0),(.int .i64 0),(.bool false)]) (b:=b1) rfl zBZ zAp rfl (B1.cells rfl) ?_))));exact ⟨.mk k [] [] 0 0 false,_,l1,rfl,zGZ ay.2.1 qO (zLb qO) (by simp only[zDd]),by simp only[Re.size,Re.sizes];have:=Nat.two_pow_pos d;rw[Nat.pow_succ];omega,zBs.of (set:=[]) (zDk.nil _ _ _ _ _) qP (.inl rfl),hS,E⟩
      · refine zAA (qV (zAq (k:=.i64) (a:=k) (b:=2) rfl rfl) (qA (.bool (decide ((k:Int)=2))) rfl (zAB (qC rfl (fun h2=>?_) (fun h2=>?_)))))
        · refine zAA (qM (P6 bs 0) rfl (qE rfl (zAU (vs:=[(P6 bs 0),(I6 3)]) func61 kQ kQ rfl) (zHX wb _ bs _ _ qO qO (ah E) hb hS) ?_));rintro _ w5 ⟨x,l2,rfl,a8,a7,hS,C5⟩;replace B1:=C5.keep (aa) B1;replace E:=E.trans C5;refine qV (zAw (k:=.i64) (a:=97) (b:=x) (c:=97+x) rfl rfl (zBf qO)) (qA (I6 (97+x)) rfl (zAB (zAA (qM (I6 k) rfl (qM (I6 (97+x)) rfl (qM (I6 (97+x)) rfl (qM (P6 bs 0) rfl (qE rfl (zAU (vs:=[(P6 bs 0),(I6 2)]) func61 kQ kQ rfl) (zHX wb _ bs _ _ qO qO (ah E) hb hS) ?_))))))));rintro _ w6 ⟨y,l3,rfl,bh,bf,hS,C6⟩;replace B1:=C6.keep (aa) B1;replace E:=E.trans C6;refine qV (zAw (k:=.i64) (a:=97+x) (b:=y) (c:=(97+x)+y) rfl rfl (zBf qO)) (qV (zBF (ps:=[(0,(I6 (97+x))),(1,(I6 ((97+x)+y)))]) (v:=(.agg #[(I6 (97+x)),(I6 ((97+x)+y))])) rfl qK) (zAc (ps:=[(0,(.agg #[(I6 (97+x)),(I6 ((97+x)+y))]))]) (c:=#[(I6 (97+x)),(I6 ((97+x)+y))]) qD rfl underlying23 zCK zGF qD qD qK ?_));intro bq wq Nq;have Fq:=Nq.ge E;have Oq_b1:=Nq.lt B1;replace B1:=Nq.keep B1;replace hS:=hS.ext Nq.ext;replace E:=E.ext Nq.ext;have Bq:=Nq.blk;refine qV (zBF (ps:=[(0,(I6 k)),(1,(.slice (some ⟨bq,0,none⟩) 1 1))]) (v:=(.agg #[(I6 k),(.slice (some ⟨bq,0,none⟩) 1 1),(.slice none 0 0),(I6 0),(I6 0),(.bool false)])) rfl qK) (zAa (b:=b1) (o:=0) (c':=#[(I6 k),(.slice (some ⟨bq,0,none⟩) 1 1),(.slice none 0 0),(I6 0),(I6 0),(.bool false)]) rfl rfl qS zAp rfl B1 qL rfl ?_);intro w9 S9;replace hS:=hS.put S9 (Ne.symm aa);replace Bq:=S9.keep qO Bq;replace E:=S9.step E qQ;replace B1:=S9.blk;refine zAB (zAW (zAh (zAX (zBb results29 (vs:=[(.int .i64 k),(.slice (some ⟨bq,0,none⟩) 1 1),(.slice none 0 0),(.int .i64 0),(.int .i64 0),(.bool false)]) (b:=b1) rfl zBZ zAp rfl (B1.cells rfl) ?_))));exact ⟨.mk k [(97+x,97+x+y)] [] 0 0 false,_,l3,rfl,by subst h2;simp only[zHk,zDd];exact ⟨⟨zTU qO qO qO,ay.2.1,fun _=>⟨_,_,rfl,qO,qO,qO⟩⟩,trivial⟩,by simp only[Re.size,Re.sizes];have:=Nat.two_pow_pos d;rw[Nat.pow_succ];omega,zBs.of (set:=[(97+x,97+x+y)]) (zDk.mk (zHV [(97+x,97+x+y)] Bq qP qP) qO) qP (.inl rfl),hS,E⟩
        · refine zAH (zAA (qV (zAq (k:=.i64) (a:=k) (b:=3) rfl rfl) (qA (.bool (decide ((k:Int)=3))) rfl (zAB (qC rfl (fun h3=>?_) (fun h3=>?_))))))
          · have bb:=decide_eq_true h3;have ak:1≤d:=qO
            have aj:=B1.lt;have au:=E.size;refine zAO (zAC (zAk (cbk bb) (zAA (qM (I6 k) rfl (qM (P6 bs 0) rfl (qM (I6 (d:Int)) rfl (qV (zEX (k:=.i64) (a:=(d:Int)) (b:=1) (c:=((d - 1:Nat):Int)) rfl rfl (by rw[zBf qO];omega)) (qM (I6 kinds) rfl (qE rfl (zAU (vs:=[(P6 bs 0),(I6 ((d - 1:Nat):Int)),(I6 kinds)]) func29 kQ kQ rfl) (ih (d - 1) qO qO _ _ (ah E) hS) ?_)))))))));rintro _ w5 ⟨t1,ax,l5,rfl,al,am,ab,hS,C5⟩;replace B1:=C5.keep (aa) B1;replace E:=E.trans C5;obtain ⟨ac,ae,ag,af,rfl,_,_,_⟩:=ab.form;have a1:=B1.lt;have bc:=E.size;refine qM (P6 bs 0) rfl (qM (I6 (d:Int)) rfl (qV (zEX (k:=.i64) (a:=(d:Int)) (b:=1) (c:=((d - 1:Nat):Int)) rfl rfl (by rw[zBf qO];omega)) (qM (I6 kinds) rfl (qE rfl (zAU (vs:=[(P6 bs 0),(I6 ((d - 1:Nat):Int)),(I6 kinds)]) func29 kQ kQ rfl) (ih (d - 1) qO qO _ _ (ah E) hS) ?_))));rintro _ w6 ⟨t2,be,l6,rfl,a3,a5,ad,hS,C6⟩;replace B1:=C6.keep (aa) B1;replace E:=E.trans C6;obtain ⟨ao,ar,ap,aq,rfl,_,_,_⟩:=ad.form;replace ab:=zBs.chg C6 (fun x hx hm=>by have an:=hx;have ai:x=bs:=hm;have:=E.size;omega) t1 ab;refine zAc (ps:=[(0,(.agg (R6 t1 ac ae ag af))),(1,(.agg (R6 t2 ao ar ap aq)))]) (c:=#[(I6 t1.kind),(.slice ac t1.set.length ae),(.slice ag t1.args.length af),(I6 t1.mn),(I6 t1.mx),(.bool t1.neg),(I6 t2.kind),(.slice ao t2.set.length ar),(.slice ap t2.args.length aq),(I6 t2.mn),(I6 t2.mx),(.bool t2.neg)]) qD rfl underlying24 zAp zDg qD qD qK ?_;intro bq wq Nq;have Fq:=Nq.ge E;have Oq_b1:=Nq.lt B1;replace B1:=Nq.keep B1;replace hS:=hS.ext Nq.ext;replace ab:=zBs.ext Nq.ext t1 ab;replace ad:=zBs.ext Nq.ext t2 ad;replace E:=E.ext Nq.ext;have Bq:=Nq.blk;refine qV (zBF (ps:=[(0,(I6 k)),(2,(.slice (some ⟨bq,0,none⟩) 2 2))]) (v:=(.agg #[(I6 k),(.slice none 0 0),(.slice (some ⟨bq,0,none⟩) 2 2),(I6 0),(I6 0),(.bool false)])) rfl qK) (zAa (b:=b1) (o:=0) (c':=#[(I6 k),(.slice none 0 0),(.slice (some ⟨bq,0,none⟩) 2 2),(I6 0),(I6 0),(.bool false)]) rfl rfl qS zAp rfl B1 qL rfl ?_);intro w11 aw;replace hS:=hS.put aw (Ne.symm aa);replace ab:=zBs.chg aw.chg (fun x hx hm=>by have an:=hx;have ai:x=b1:=hm;omega) t1 ab;replace ad:=zBs.chg aw.chg (fun x hx hm=>by have an:=hx;have ai:x=b1:=hm;omega) t2 ad;replace Bq:=aw.keep qO Bq;replace E:=aw.step E qQ;replace B1:=aw.blk;refine zAB (zAW (zAh (zAX (zBb results29 (vs:=[(.int .i64 k),(.slice none 0 0),(.slice (some ⟨bq,0,none⟩) 2 2),(.int .i64 0),(.int .i64 0),(.bool false)]) (b:=b1) rfl zBZ zAp rfl (B1.cells rfl) ?_))));exact ⟨.mk k [] [t1,t2] 0 0 false,_,l6,rfl,zGZ ay.2.1 qO (zHs qO t1 t2) (by simp only[zDd];exact ⟨al,a3,trivial⟩),zId ak am a5,zBs.of (set:=[]) (zDk.nil _ _ _ _ _) qP (.inr ⟨bq,0,qO,rfl,zCO.two (Bq.cells rfl) (zBs.mono (fun b (h:_≤b)=>qO) t1 ab) (Bq.cells rfl) (zBs.mono (fun b (h:_≤b)=>qO) t2 ad)⟩),hS,E⟩
          · have bb:=decide_eq_false h3;refine zAA (qV (zAq (k:=.i64) (a:=k) (b:=4) rfl rfl) (qA (.bool (decide ((k:Int)=4))) rfl (zAB (qC rfl (fun h4=>?_) (fun h4=>?_)))))
            · have ba:=decide_eq_true h4;have ak:1≤d:=qO
              have aj:=B1.lt;have au:=E.size;refine zAO (zAC (zAk (cbk ba) (zAA (qM (I6 k) rfl (qM (P6 bs 0) rfl (qM (I6 (d:Int)) rfl (qV (zEX (k:=.i64) (a:=(d:Int)) (b:=1) (c:=((d - 1:Nat):Int)) rfl rfl (by rw[zBf qO];omega)) (qM (I6 kinds) rfl (qE rfl (zAU (vs:=[(P6 bs 0),(I6 ((d - 1:Nat):Int)),(I6 kinds)]) func29 kQ kQ rfl) (ih (d - 1) qO qO _ _ (ah E) hS) ?_)))))))));rintro _ w5 ⟨t1,ax,l5,rfl,al,am,ab,hS,C5⟩;replace B1:=C5.keep (aa) B1;replace E:=E.trans C5;obtain ⟨ac,ae,ag,af,rfl,_,_,_⟩:=ab.form;have a1:=B1.lt;have bc:=E.size;refine qM (P6 bs 0) rfl (qM (I6 (d:Int)) rfl (qV (zEX (k:=.i64) (a:=(d:Int)) (b:=1) (c:=((d - 1:Nat):Int)) rfl rfl (by rw[zBf qO];omega)) (qM (I6 kinds) rfl (qE rfl (zAU (vs:=[(P6 bs 0),(I6 ((d - 1:Nat):Int)),(I6 kinds)]) func29 kQ kQ rfl) (ih (d - 1) qO qO _ _ (ah E) hS) ?_))));rintro _ w6 ⟨t2,be,l6,rfl,a3,a5,ad,hS,C6⟩;replace B1:=C6.keep (aa) B1;replace E:=E.trans C6;obtain ⟨ao,ar,ap,aq,rfl,_,_,_⟩:=ad.form;replace ab:=zBs.chg C6 (fun x hx hm=>by have an:=hx;have ai:x=bs:=hm;have:=E.size;omega) t1 ab;refine zAc (ps:=[(0,(.agg (R6 t1 ac ae ag af))),(1,(.agg (R6 t2 ao ar ap aq)))]) (c:=#[(I6 t1.kind),(.slice ac t1.set.length ae),(.slice ag t1.args.length af),(I6 t1.mn),(I6 t1.mx),(.bool t1.neg),(I6 t2.kind),(.slice ao t2.set.length ar),(.slice ap t2.args.length aq),(I6 t2.mn),(I6 t2.mx),(.bool t2.neg)]) qD rfl underlying24 zAp zDg qD qD qK ?_;intro bq wq Nq;have Fq:=Nq.ge E;have Oq_b1:=Nq.lt B1;replace B1:=Nq.keep B1;replace hS:=hS.ext Nq.ext;replace ab:=zBs.ext Nq.ext t1 ab;replace ad:=zBs.ext Nq.ext t2 ad;replace E:=E.ext Nq.ext;have Bq:=Nq.blk;refine qV (zBF (ps:=[(0,(I6 k)),(2,(.slice (some ⟨bq,0,none⟩) 2 2))]) (v:=(.agg #[(I6 k),(.slice none 0 0),(.slice (some ⟨bq,0,none⟩) 2 2),(I6 0),(I6 0),(.bool false)])) rfl qK) (zAa (b:=b1) (o:=0) (c':=#[(I6 k),(.slice none 0 0),(.slice (some ⟨bq,0,none⟩) 2 2),(I6 0),(I6 0),(.bool false)]) rfl rfl qS zAp rfl B1 qL rfl ?_);intro w13 az;replace hS:=hS.put az (Ne.symm aa);replace ab:=zBs.chg az.chg (fun x hx hm=>by have an:=hx;have ai:x=b1:=hm;omega) t1 ab;replace ad:=zBs.chg az.chg (fun x hx hm=>by have an:=hx;have ai:x=b1:=hm;omega) t2 ad;replace Bq:=az.keep qO Bq;replace E:=az.step E qQ;replace B1:=az.blk;refine zAB (zAW (zAh (zAX (zBb results29 (vs:=[(.int .i64 k),(.slice none 0 0),(.slice (some ⟨bq,0,none⟩) 2 2),(.int .i64 0),(.int .i64 0),(.bool false)]) (b:=b1) rfl zBZ zAp rfl (B1.cells rfl) ?_))));exact ⟨.mk k [] [t1,t2] 0 0 false,_,l6,rfl,zGZ ay.2.1 qO (zHs qO t1 t2) (by simp only[zDd];exact ⟨al,a3,trivial⟩),zId ak am a5,zBs.of (set:=[]) (zDk.nil _ _ _ _ _) qP (.inr ⟨bq,0,qO,rfl,zCO.two (Bq.cells rfl) (zBs.mono (fun b (h:_≤b)=>qO) t1 ab) (Bq.cells rfl) (zBs.mono (fun b (h:_≤b)=>qO) t2 ad)⟩),hS,E⟩
            · have ba:=decide_eq_false h4;refine zAF (qV (zAq (k:=.i64) (a:=k) (b:=7) rfl rfl) (qA (.bool (decide ((k:Int)=7))) rfl (zAB (zAC (qC rfl (fun h7=>?_) (fun h7=>?_))))))
              · have ak:1≤d:=qO
                have aj:=B1.lt;have au:=E.size;refine zAA (qM (I6 k) rfl (qM (P6 bs 0) rfl (qM (I6 (d:Int)) rfl (qV (zEX (k:=.i64) (a:=(d:Int)) (b:=1) (c:=((d - 1:Nat):Int)) rfl rfl (by rw[zBf qO];omega)) (qM (I6 kinds) rfl (qE rfl (zAU (vs:=[(P6 bs 0),(I6 ((d - 1:Nat):Int)),(I6 kinds)]) func29 kQ kQ rfl) (ih (d - 1) qO qO _ _ (ah E) hS) ?_))))));rintro _ w5 ⟨t1,ax,l5,rfl,al,am,ab,hS,C5⟩;replace B1:=C5.keep (aa) B1;replace E:=E.trans C5;obtain ⟨ac,ae,ag,af,rfl,_,_,_⟩:=ab.form;have a1:=B1.lt;have bc:=E.size;refine qM (P6 bs 0) rfl (qM (I6 (d:Int)) rfl (qV (zEX (k:=.i64) (a:=(d:Int)) (b:=1) (c:=((d - 1:Nat):Int)) rfl rfl (by rw[zBf qO];omega)) (qM (I6 kinds) rfl (qE rfl (zAU (vs:=[(P6 bs 0),(I6 ((d - 1:Nat):Int)),(I6 kinds)]) func29 kQ kQ rfl) (ih (d - 1) qO qO _ _ (ah E) hS) ?_))));rintro _ w6 ⟨t2,be,l6,rfl,a3,a5,ad,hS,C6⟩;replace B1:=C6.keep (aa) B1;replace E:=E.trans C6;obtain ⟨ao,ar,ap,aq,rfl,_,_,_⟩:=ad.form;replace ab:=zBs.chg C6 (fun x hx hm=>by have an:=hx;have ai:x=bs:=hm;have:=E.size;omega) t1 ab;refine zAc (ps:=[(0,(.agg (R6 t1 ac ae ag af))),(1,(.agg (R6 t2 ao ar ap aq)))]) (c:=#[(I6 t1.kind),(.slice ac t1.set.length ae),(.slice ag t1.args.length af),(I6 t1.mn),(I6 t1.mx),(.bool t1.neg),(I6 t2.kind),(.slice ao t2.set.length ar),(.slice ap t2.args.length aq),(I6 t2.mn),(I6 t2.mx),(.bool t2.neg)]) qD rfl underlying24 zAp zDg qD qD qK ?_;intro bq wq Nq;have Fq:=Nq.ge E;have Oq_b1:=Nq.lt B1;replace B1:=Nq.keep B1;replace hS:=hS.ext Nq.ext;replace ab:=zBs.ext Nq.ext t1 ab;replace ad:=zBs.ext Nq.ext t2 ad;replace E:=E.ext Nq.ext;have Bq:=Nq.blk;refine qV (zBF (ps:=[(0,(I6 k)),(2,(.slice (some ⟨bq,0,none⟩) 2 2))]) (v:=(.agg #[(I6 k),(.slice none 0 0),(.slice (some ⟨bq,0,none⟩) 2 2),(I6 0),(I6 0),(.bool false)])) rfl qK) (zAa (b:=b1) (o:=0) (c':=#[(I6 k),(.slice none 0 0),(.slice (some ⟨bq,0,none⟩) 2 2),(I6 0),(I6 0),(.bool false)]) rfl rfl qS zAp rfl B1 qL rfl ?_);intro w15 av;replace hS:=hS.put av (Ne.symm aa);replace ab:=zBs.chg av.chg (fun x hx hm=>by have an:=hx;have ai:x=b1:=hm;omega) t1 ab;replace ad:=zBs.chg av.chg (fun x hx hm=>by have an:=hx;have ai:x=b1:=hm;omega) t2 ad;replace Bq:=av.keep qO Bq;replace E:=av.step E qQ;replace B1:=av.blk;refine zAB (zAW (zAh (zAX (zBb results29 (vs:=[(.int .i64 k),(.slice none 0 0),(.slice (some ⟨bq,0,none⟩) 2 2),(.int .i64 0),(.int .i64 0),(.bool false)]) (b:=b1) rfl zBZ zAp rfl (B1.cells rfl) ?_))));exact ⟨.mk k [] [t1,t2] 0 0 false,_,l6,rfl,zGZ ay.2.1 qO (zHs qO t1 t2) (by simp only[zDd];exact ⟨al,a3,trivial⟩),zId ak am a5,zBs.of (set:=[]) (zDk.nil _ _ _ _ _) qP (.inr ⟨bq,0,qO,rfl,zCO.two (Bq.cells rfl) (zBs.mono (fun b (h:_≤b)=>qO) t1 ab) (Bq.cells rfl) (zBs.mono (fun b (h:_≤b)=>qO) t2 ad)⟩),hS,E⟩
              · refine zAA (qV (zAq (k:=.i64) (a:=k) (b:=6) rfl rfl) (qA (.bool (decide ((k:Int)=6))) rfl (zAB (qC rfl (fun h6=>?_) (fun h6=>?_)))))
                · refine zAA (qM (P6 bs 0) rfl (qE rfl (zAU (vs:=[(P6 bs 0),(I6 3)]) func61 kQ kQ rfl) (zHX wb _ bs _ _ qO qO (ah E) hb hS) ?_));rintro _ w3 ⟨x,l2,rfl,a8,a7,hS,C3⟩;replace B1:=C3.keep (aa) B1;replace E:=E.trans C3;refine qA (I6 x) rfl (zAB (zAA (qM (I6 k) rfl (qM (I6 x) rfl (qM (I6 x) rfl (qM (P6 bs 0) rfl (qE rfl (zAU (vs:=[(P6 bs 0),(I6 3)]) func61 kQ kQ rfl) (zHX wb _ bs _ _ qO qO (ah E) hb hS) ?_)))))));rintro _ w4 ⟨y,l3,rfl,bh,bf,hS,C4⟩;replace B1:=C4.keep (aa) B1;replace E:=E.trans C4;refine qV (zAw (k:=.i64) (a:=x) (b:=y) (c:=x+y) rfl rfl (zBf qO)) (qM (P6 bs 0) rfl (qM (I6 (d:Int)) rfl ?_));have ak:1≤d:=qO
                  have aj:=B1.lt;have au:=E.size;refine qV (zEX (k:=.i64) (a:=(d:Int)) (b:=1) (c:=((d - 1:Nat):Int)) rfl rfl (by rw[zBf qO];omega)) (qM (I6 kinds) rfl (qE rfl (zAU (vs:=[(P6 bs 0),(I6 ((d - 1:Nat):Int)),(I6 kinds)]) func29 kQ kQ rfl) (ih (d - 1) qO qO _ _ (ah E) hS) ?_));rintro _ w5 ⟨t1,ax,l5,rfl,al,am,ab,hS,C5⟩;replace B1:=C5.keep (aa) B1;replace E:=E.trans C5;obtain ⟨ac,ae,ag,af,rfl,_,_,_⟩:=ab.form;refine zAc (ps:=[(0,(.agg (R6 t1 ac ae ag af)))]) (c:=(R6 t1 ac ae ag af)) qD rfl underlying24 zAp zDg qD qD qK ?_;intro bq wq Nq;have Fq:=Nq.ge E;have Oq_b1:=Nq.lt B1;replace B1:=Nq.keep B1;replace hS:=hS.ext Nq.ext;replace ab:=zBs.ext Nq.ext t1 ab;replace E:=E.ext Nq.ext;have Bq:=Nq.blk;refine qV (zBF (ps:=[(0,(I6 k)),(3,(I6 x)),(4,(I6 (x+y))),(2,(.slice (some ⟨bq,0,none⟩) 1 1))]) (v:=(.agg #[(I6 k),(.slice none 0 0),(.slice (some ⟨bq,0,none⟩) 1 1),(I6 x),(I6 (x+y)),(.bool false)])) rfl qK) (zAa (b:=b1) (o:=0) (c':=#[(I6 k),(.slice none 0 0),(.slice (some ⟨bq,0,none⟩) 1 1),(I6 x),(I6 (x+y)),(.bool false)]) rfl rfl qS zAp rfl B1 qL rfl ?_);intro w17 a0;replace hS:=hS.put a0 (Ne.symm aa);replace ab:=zBs.chg a0.chg (fun x hx hm=>by have an:=hx;have ai:x=b1:=hm;omega) t1 ab;replace Bq:=a0.keep qO Bq;replace E:=a0.step E qQ;replace B1:=a0.blk;refine zAB (zAW (zAh (zAX (zBb results29 (vs:=[(.int .i64 k),(.slice none 0 0),(.slice (some ⟨bq,0,none⟩) 1 1),(.int .i64 x),(.int .i64 (x+y)),(.bool false)]) (b:=b1) rfl zBZ zAp rfl (B1.cells rfl) ?_))));exact ⟨.mk k [] [t1] x (x+y) false,_,l5,rfl,zGZ qO qO (by subst h6;exact zTV qO qO qO t1) (by simp only[zDd];exact ⟨al,trivial⟩),zGY ak am,zBs.of (set:=[]) (zDk.nil _ _ _ _ _) qP (.inr ⟨bq,0,qO,rfl,zCO.one (Bq.cells rfl) (zBs.mono (fun b (h:_≤b)=>qO) t1 ab)⟩),hS,E⟩
                · refine zAA (qV (zAq (k:=.i64) (a:=k) (b:=9) rfl rfl) (qA (.bool (decide ((k:Int)=9))) rfl (zAB (qC rfl (fun h9=>?_) (fun h9=>?_)))))
                  · refine zAA (qM (I6 k) rfl (qM (P6 bs 0) rfl (qE rfl (zAU (vs:=[(P6 bs 0),(I6 4)]) func61 kQ kQ rfl) (zHX wb _ bs _ _ qO qO (ah E) hb hS) ?_)));rintro _ w3 ⟨x,l2,rfl,a8,a7,hS,C3⟩;replace B1:=C3.keep (aa) B1;replace E:=E.trans C3;have ak:1≤d:=qO
                    have aj:=B1.lt;have au:=E.size;refine qM (P6 bs 0) rfl (qM (I6 (d:Int)) rfl (qV (zEX (k:=.i64) (a:=(d:Int)) (b:=1) (c:=((d - 1:Nat):Int)) rfl rfl (by rw[zBf qO];omega)) (qM (I6 kinds) rfl (qE rfl (zAU (vs:=[(P6 bs 0),(I6 ((d - 1:Nat):Int)),(I6 kinds)]) func29 kQ kQ rfl) (ih (d - 1) qO qO _ _ (ah E) hS) ?_))));rintro _ w5 ⟨t1,ax,l5,rfl,al,am,ab,hS,C5⟩;replace B1:=C5.keep (aa) B1;replace E:=E.trans C5;obtain ⟨ac,ae,ag,af,rfl,_,_,_⟩:=ab.form;refine zAc (ps:=[(0,(.agg (R6 t1 ac ae ag af)))]) (c:=(R6 t1 ac ae ag af)) qD rfl underlying24 zAp zDg qD qD qK ?_;intro bq wq Nq;have Fq:=Nq.ge E;have Oq_b1:=Nq.lt B1;replace B1:=Nq.keep B1;replace hS:=hS.ext Nq.ext;replace ab:=zBs.ext Nq.ext t1 ab;replace E:=E.ext Nq.ext;have Bq:=Nq.blk;refine qV (zBF (ps:=[(0,(I6 k)),(3,(I6 x)),(2,(.slice (some ⟨bq,0,none⟩) 1 1))]) (v:=(.agg #[(I6 k),(.slice none 0 0),(.slice (some ⟨bq,0,none⟩) 1 1),(I6 x),(I6 0),(.bool false)])) rfl qK) (zAa (b:=b1) (o:=0) (c':=#[(I6 k),(.slice none 0 0),(.slice (some ⟨bq,0,none⟩) 1 1),(I6 x),(I6 0),(.bool false)]) rfl rfl qS zAp rfl B1 qL rfl ?_);intro w19 a6;replace hS:=hS.put a6 (Ne.symm aa);replace ab:=zBs.chg a6.chg (fun x hx hm=>by have an:=hx;have ai:x=b1:=hm;omega) t1 ab;replace Bq:=a6.keep qO Bq;replace E:=a6.step E qQ;replace B1:=a6.blk;refine zAB (zAW (zAh (zAX (zBb results29 (vs:=[(.int .i64 k),(.slice none 0 0),(.slice (some ⟨bq,0,none⟩) 1 1),(.int .i64 x),(.int .i64 0),(.bool false)]) (b:=b1) rfl zBZ zAp rfl (B1.cells rfl) ?_))));exact ⟨.mk k [] [t1] x 0 false,_,l5,rfl,zGZ qO qO (by subst h9;exact zPE qO qO t1) (by simp only[zDd];exact ⟨al,trivial⟩),zGY ak am,zBs.of (set:=[]) (zDk.nil _ _ _ _ _) qP (.inr ⟨bq,0,qO,rfl,zCO.one (Bq.cells rfl) (zBs.mono (fun b (h:_≤b)=>qO) t1 ab)⟩),hS,E⟩
                  · refine zAA (qV (zAq (k:=.i64) (a:=k) (b:=10) rfl rfl) (qA (.bool (decide ((k:Int)=10))) rfl (zAB (qC rfl (fun bd=>?_) (fun bd=>?_)))))
                    · refine zAA (qM (I6 k) rfl (qM (P6 bs 0) rfl (qE rfl (zAU (vs:=[(P6 bs 0),(I6 2)]) func61 kQ kQ rfl) (zHX wb _ bs _ _ qO qO (ah E) hb hS) ?_)));rintro _ w3 ⟨x,l2,rfl,a8,a7,hS,C3⟩;replace B1:=C3.keep (aa) B1;replace E:=E.trans C3;have ak:1≤d:=qO
                      have aj:=B1.lt;have au:=E.size;refine qV (zAq (k:=.i64) (a:=x) (b:=1) rfl rfl) (qM (P6 bs 0) rfl (qM (I6 (d:Int)) rfl (qV (zEX (k:=.i64) (a:=(d:Int)) (b:=1) (c:=((d - 1:Nat):Int)) rfl rfl (by rw[zBf qO];omega)) (qM (I6 kinds) rfl (qE rfl (zAU (vs:=[(P6 bs 0),(I6 ((d - 1:Nat):Int)),(I6 kinds)]) func29 kQ kQ rfl) (ih (d - 1) qO qO _ _ (ah E) hS) ?_)))));rintro _ w5 ⟨t1,ax,l5,rfl,al,am,ab,hS,C5⟩;replace B1:=C5.keep (aa) B1;replace E:=E.trans C5;obtain ⟨ac,ae,ag,af,rfl,_,_,_⟩:=ab.form;refine zAc (ps:=[(0,(.agg (R6 t1 ac ae ag af)))]) (c:=(R6 t1 ac ae ag af)) qD rfl underlying24 zAp zDg qD qD qK ?_;intro bq wq Nq;have Fq:=Nq.ge E;have Oq_b1:=Nq.lt B1;replace B1:=Nq.keep B1;replace hS:=hS.ext Nq.ext;replace ab:=zBs.ext Nq.ext t1 ab;replace E:=E.ext Nq.ext;have Bq:=Nq.blk;refine qV (zBF (ps:=[(0,(I6 k)),(5,(.bool (decide ((x:Int)=1)))),(2,(.slice (some ⟨bq,0,none⟩) 1 1))]) (v:=(.agg #[(I6 k),(.slice none 0 0),(.slice (some ⟨bq,0,none⟩) 1 1),(I6 0),(I6 0),(.bool (decide ((x:Int)=1)))])) rfl qK) (zAa (b:=b1) (o:=0) (c':=#[(I6 k),(.slice none 0 0),(.slice (some ⟨bq,0,none⟩) 1 1),(I6 0),(I6 0),(.bool (decide ((x:Int)=1)))]) rfl rfl qS zAp rfl B1 qL rfl ?_);intro w21 a4;replace hS:=hS.put a4 (Ne.symm aa);replace ab:=zBs.chg a4.chg (fun x hx hm=>by have an:=hx;have ai:x=b1:=hm;omega) t1 ab;replace Bq:=a4.keep qO Bq;replace E:=a4.step E qQ;replace B1:=a4.blk;refine zAB (zAW (zAh (zAX (zBb results29 (vs:=[(.int .i64 k),(.slice none 0 0),(.slice (some ⟨bq,0,none⟩) 1 1),(.int .i64 0),(.int .i64 0),(.bool (decide ((x:Int)=1)))]) (b:=b1) rfl zBZ zAp rfl (B1.cells rfl) ?_))));exact ⟨.mk k [] [t1] 0 0 (decide (x=1)),_,l5,rfl,zGZ qO qO (by subst bd;exact zQv _ t1) (by simp only[zDd];exact ⟨al,trivial⟩),zGY ak am,zBs.of (set:=[]) (zDk.nil _ _ _ _ _) qP (.inr ⟨bq,0,qO,rfl,zCO.one (Bq.cells rfl) (zBs.mono (fun b (h:_≤b)=>qO) t1 ab)⟩),hS,E⟩
                    · have ak:1≤d:=qO
                      have aj:=B1.lt;have au:=E.size;refine zAO (zAS (zAC (zAA (qM (I6 k) rfl (qM (P6 bs 0) rfl (qM (I6 (d:Int)) rfl (qV (zEX (k:=.i64) (a:=(d:Int)) (b:=1) (c:=((d - 1:Nat):Int)) rfl rfl (by rw[zBf qO];omega)) (qM (I6 kinds) rfl (qE rfl (zAU (vs:=[(P6 bs 0),(I6 ((d - 1:Nat):Int)),(I6 kinds)]) func29 kQ kQ rfl) (ih (d - 1) qO qO _ _ (ah E) hS) ?_)))))))));rintro _ w5 ⟨t1,ax,l5,rfl,al,am,ab,hS,C5⟩;replace B1:=C5.keep (aa) B1;replace E:=E.trans C5;obtain ⟨ac,ae,ag,af,rfl,_,_,_⟩:=ab.form;refine zAc (ps:=[(0,(.agg (R6 t1 ac ae ag af)))]) (c:=(R6 t1 ac ae ag af)) qD rfl underlying24 zAp zDg qD qD qK ?_;intro bq wq Nq;have Fq:=Nq.ge E;have Oq_b1:=Nq.lt B1;replace B1:=Nq.keep B1;replace hS:=hS.ext Nq.ext;replace ab:=zBs.ext Nq.ext t1 ab;replace E:=E.ext Nq.ext;have Bq:=Nq.blk;refine qV (zBF (ps:=[(0,(I6 k)),(2,(.slice (some ⟨bq,0,none⟩) 1 1))]) (v:=(.agg #[(I6 k),(.slice none 0 0),(.slice (some ⟨bq,0,none⟩) 1 1),(I6 0),(I6 0),(.bool false)])) rfl qK) (zAa (b:=b1) (o:=0) (c':=#[(I6 k),(.slice none 0 0),(.slice (some ⟨bq,0,none⟩) 1 1),(I6 0),(I6 0),(.bool false)]) rfl rfl qS zAp rfl B1 qL rfl ?_);intro w22 a2;replace hS:=hS.put a2 (Ne.symm aa);replace ab:=zBs.chg a2.chg (fun x hx hm=>by have an:=hx;have ai:x=b1:=hm;omega) t1 ab;replace Bq:=a2.keep qO Bq;replace E:=a2.step E qQ;replace B1:=a2.blk;refine zAB (zAW (zBb results29 (vs:=[(.int .i64 k),(.slice none 0 0),(.slice (some ⟨bq,0,none⟩) 1 1),(.int .i64 0),(.int .i64 0),(.bool false)]) (b:=b1) rfl zBZ zAp rfl (B1.cells rfl) ?_));exact ⟨.mk k [] [t1] 0 0 false,_,l5,rfl,zGZ qO qO (zTW qO t1) (by simp only[zDd];exact ⟨al,trivial⟩),zGY ak am,zBs.of (set:=[]) (zDk.nil _ _ _ _ _) qP (.inr ⟨bq,0,qO,rfl,zCO.one (Bq.cells rfl) (zBs.mono (fun b (h:_≤b)=>qO) t1 ab)⟩),hS,E⟩
end Go.Proofs
namespace Go.Proofs
open Go Go.Eng
def Wf (n:Nat) (R:Rl):Prop:=∀i j,R i j=true→i≤j∧j≤n
theorem zSZ (n:Nat):Wf n noR:=fun i j h=>by simp[noR] at h
theorem zPu (n:Nat):Wf n (idR n):=fun i j h=>by simp[idR] at h;omega
theorem zVN {n:Nat} {A B:Rl} (a:Wf n A) (b:Wf n B):Wf n (orR A B):=fun i j h=>by
 simp only[orR,Bool.or_eq_true] at h;rcases h with h|h;exact a i j h;exact b i j h
theorem zXT {n:Nat} {A B:Rl} (a:Wf n A):Wf n (zYl A B):=fun i j h=>by
 simp only[zYl,Bool.and_eq_true] at h;exact a i j h.1
theorem zKA {n:Nat} {A B:Rl} (a:Wf n A) (b:Wf n B):Wf n (zGJ A B n):=fun i k h=>by
 simp only[zGJ,Bool.and_eq_true,List.any_eq_true] at h;obtain ⟨_,j,_,h1,h2⟩:=h;have:=a i j h1;have:=b j k h2;omega
theorem zMe {n:Nat} {A:Rl} (a:Wf n A):∀m,Wf n (zSh n A m)
  | 0=>zPu n
  | m+1=>zVN (zMe a m) (zKA (zMe a m) a)
theorem zUe {n:Nat} {A:Rl} (a:Wf n A):∀m,Wf n (zZC n A m)
  | 0=>zPu n
  | m+1=>zKA (zUe a m) a
theorem zPs {n:Nat} {A:Rl} (a:Wf n A) (mn:Int):∀m,Wf n (zXk n A mn m)
  | 0=>zSZ n
  | m+1=>by
    simp only[zXk];split
    · exact zVN (zPs a mn m) (zUe a m)
    · exact zPs a mn m
theorem zXS (n:Nat) (A:Rl):Wf n (zZF n A):=fun i j h=>by simp[zZF] at h;omega
theorem zVO (n:Nat) (A:Rl) (ng:Bool):Wf n (zWP n A ng):=fun i j h=>by simp[zWP] at h;omega
theorem zXR (text:List Int) (set:List (Int×Int)):Wf text.length (zYz text set):=fun i j h=>by
  simp only[zYz,Bool.and_eq_true,decide_eq_true_eq] at h;obtain ⟨h1,rfl⟩:=h;cases hx:text[i]? with
  | none=>simp[hx] at h1
  | some c=>have:=zAE hx;omega
theorem zKB {n:Nat} {L:List Rl} (h:∀x∈L,Wf n x):Wf n (L.headD noR):=by
  cases L with
  | nil=>exact zSZ n
  | cons x r=>exact h x qP
theorem zIB {n:Nat}:∀(L:List Rl) (A:Rl),Wf n A→(∀x∈L,Wf n x)→Wf n (L.foldl (fun a x=>zGJ a x n) A)
  | [],_,h,_=>h
  | x::L,A,h,hl=>zIB L _ (zKA h (hl x qP)) fun y hy=>hl y (by simp[hy])
theorem zLC {n:Nat}:∀(L:List Rl) (A:Rl),Wf n A→(∀x∈L,Wf n x)→Wf n (L.foldl orR A)
  | [],_,h,_=>h
  | x::L,A,h,hl=>zLC L _ (zVN h (hl x qP)) fun y hy=>hl y (by simp[hy])
theorem zJP {n:Nat}:∀(L:List Rl) (A:Rl),Wf n A→Wf n (L.foldl zYl A)
  | [],_,h=>h
  | x::L,A,h=>zJP L _ (zXT h)
theorem zVM (text:List Int) (k:Int) (set:List (Int×Int)) (L:List Rl) (mn mx:Int) (ng:Bool) (h:∀x∈L,Wf text.length x):Wf text.length (zYj text k set L mn mx ng):=by
 unfold zYj
 repeat' split
 ·exact zPu _
 ·exact zXR _ _
 ·exact zIB _ _ (zPu _) h
 ·exact zLC _ _ (zSZ _) h
 ·exact zJP _ _ (zKB h)
 ·exact zXS _ _
 ·exact zMe (zKB h) _
 ·exact zPs (zKB h) _ _
 ·exact zKB h
 ·exact zVO _ _ _
 ·exact zSZ _
mutual
theorem zNU (text:List Int):∀(t:Re),Wf text.length (zIG text t)
  | .mk k set args mn mx ng=>by simp only[zIG];exact zVM _ _ _ _ _ _ _ (zPt text args)
theorem zPt (text:List Int):∀(ts:List Re),∀x∈zJb text ts,Wf text.length x
  | [],_,h=>by simp[zJb] at h
  | t::ts,x,h=>by
    simp only[zJb,List.mem_cons] at h;rcases h with rfl|h
    · exact zNU text t
    · exact zPt text ts x h
end
theorem zUm {A B:Rl} (h:∀i j,A i j=true↔B i j=true):A=B:=by
 funext i j;exact Bool.eq_iff_iff.2 (h i j)
theorem zEs {n:Nat} (hn:n≤24) {A B:Rl} (a:Wf n A) (i k:Nat):zGJ A B n i k=true↔∃j,A i j=true∧B j k=true:=by
 simp only[zGJ,Bool.and_eq_true,List.any_eq_true,List.mem_range,decide_eq_true_eq];constructor
 ·rintro ⟨_,j,_,h⟩;exact ⟨j,h⟩
 ·rintro ⟨j,h1,h2⟩;have:=a i j h1;exact ⟨qO,j,qO,h1,h2⟩
theorem zUy (n i j:Nat):idR n i j=true↔i≤n∧j=i:=by simp[idR]
theorem zWU {n:Nat} (hn:n≤24) {A:Rl} (a:Wf n A):zGJ (idR n) A n=A:=zUm fun i k=>by
 rw[zEs hn (zPu n)];constructor
 ·rintro ⟨j,h1,h2⟩;rw[zUy] at h1;obtain ⟨_,rfl⟩:=h1;exact h2
 ·intro h;have:=a i k h;exact ⟨i,(zUy n i i).2 ⟨qO,rfl⟩,h⟩
theorem zOk {n:Nat} (hn:n≤24) {A B C:Rl} (a:Wf n A) (b:Wf n B):zGJ A (zGJ B C n) n=zGJ (zGJ A B n) C n:=zUm fun i k=>by
 rw[zEs hn a,zEs hn (zKA a b)];constructor
 ·rintro ⟨j,h1,h2⟩;rw[zEs hn b] at h2;obtain ⟨m,h3,h4⟩:=h2;exact ⟨m,(zEs hn a i m).2 ⟨j,h1,h3⟩,h4⟩
 ·rintro ⟨j,h1,h2⟩;rw[zEs hn a] at h1;obtain ⟨m,h3,h4⟩:=h1;exact ⟨m,h3,(zEs hn b m k).2 ⟨j,h4,h2⟩⟩
abbrev zYT (s t:Re):Re:=.mk 3 [] [s,t] 0 0 false
abbrev zOV:Re:=.mk 1 [] [] 0 0 false
abbrev zQu:Re:=.mk 0 [] [] 0 0 false
section
variable (text : List Int)
theorem zVr (hn:text.length≤24) (s t:Re):zIG text (zYT s t)=zGJ (zIG text s) (zIG text t) text.length:=by
 simp only[zIG,zJb,zYj,List.foldl];simp[zWU hn (zNU text s)]
end
theorem zOD {k:Int} (h:k=3∨k=4∨k=7) {s t:Re} (a:zDo s) (b:zDo t):zDo (.mk k [] [s,t] 0 0 false):=by simp only[zDo,zEC];exact ⟨zHs h s t,a,b,trivial⟩
def Txt (text:List Int):Prop:=text.length≤24∧∀x∈text,zHh x=true
theorem zJq {t:Re} {text:List Int} (ht:zDo t) (hs:t.size≤40) (h:Txt text):zFT t text=0:=by
 have h1:zCv t 40=0:=(zDP qD qD).2 ⟨ht,qO⟩;unfold zFT;rw[if_neg (by simp[h1]),if_neg (by have:=h.1;omega),if_neg];simp only[List.any_eq_true,Bool.not_eq_true',not_exists,not_and];intro x hx;simp[h.2 x hx]
def Sm (s t:Re) (text:List Int):Prop:=zFT s text=0∧zFT t text=0∧zUp (zIG text s) (text.length+1)=zUp (zIG text t) (text.length+1)
theorem zYx {s t:Re} {text:List Int} (h:Txt text) (a:zDo s) (b:zDo t) (ha:s.size≤40) (hb:t.size≤40) (he:zIG text s=zIG text t):Sm s t text:=
 ⟨zJq a ha h,zJq b hb h,by rw[he]⟩
section
variable {text : List Int} (h : Txt text) {a b c : Re} (oa : zDo a) (ob : zDo b) (oc : zDo c)
include h oa
theorem kl1 (ob:zDo b) (oc:zDo c) (hs:a.size+b.size+c.size≤18):Sm (zYT a (zYT b c)) (zYT (zYT a b) c) text:=
 zYx h (zOD qP oa (zOD qP ob oc)) (zOD qP (zOD qP oa ob) oc) (by simp[Re.size,Re.sizes];omega) (by simp[Re.size,Re.sizes];omega)
  (by simp only[zVr text h.1];exact zOk h.1 (zNU text a) (zNU text b))
end
end Go.Proofs
theorem Go.Proofs.kH {p:Prop} (h:¬p:=by intro h;first|omega|(dsimp only at h;omega)):¬p:=h
namespace Go.Proofs
open Go Go.Eng
mutual
def zXf:Re→Re→Bool
  | .mk k s a m x g,.mk k' s' a' m' x' g'=>decide (k=k') && decide (s=s') && decide (m=m') && decide (x=x') && decide (g=g') && zUl a a'
def zUl:List Re→List Re→Bool
  | [],[]=>true
  | t::ts,u::us=>zXf t u && zUl ts us
  | _,_=>false
end
def zZO (k:Int) (l:List Re):List Re:=l.flatMap fun x=>if x.kind=k then x.args else [x]
def zWE:List Re→List Re→List Re
  | out,[]=>out
  | out,x::l=>if (out.any fun y=>zXf x y)=true then zWE out l else zWE (out++[x]) l
def zZK (k:Int) (l:List Re):Re:=
  let l1:=zZO k l
  let l2:=if k=3 then l1.filter fun x=>!decide (x.kind=1) else if k=4 then l1.filter fun x=>!decide (x.kind=0) else l1
  if k≠4∧(l2.any fun x=>decide (x.kind=0))=true then zQu
  else
    match (if k=3 then l2 else zWE [] l2) with
    | [x]=>x
    | []=>if k=3 then zOV else zQu
    | out=>.mk k [] out 0 0 false
def zZI (k:Int) (set:List (Int×Int)) (a:List Re) (mn mx:Int) (ng:Bool):Re:=
  if k=3∨k=4∨k=7 then zZK k a
  else if k=5∨k=6 then
    match a with
    | x::_=>
      if x.kind=1∨(k=6∧mx=0) then zOV
      else if x.kind=0∧(k=5∨mn=0) then zOV
      else if x.kind=0 then zQu
      else if x.kind=5∨(k=6∧mn=1∧mx=1) then x
      else .mk k set a mn mx ng
    | []=>.mk k set a mn mx ng
  else if k=8 then
    match a with
    | x::_=>if x.kind=8 then x.args.headD zQu else .mk k set a mn mx ng
    | []=>.mk k set a mn mx ng
  else if k=10 then
    match a with
    | x::_=>
      if (x.kind=1∧ng=true)∨(x.kind=0∧ng=false) then zQu
      else if x.kind=1∨x.kind=0 then zOV
      else .mk k set a mn mx ng
    | []=>.mk k set a mn mx ng
  else .mk k set a mn mx ng
theorem zQl (ts:List Re):zEC ts↔∀x∈ts,zDo x:=by
  induction ts with
  | nil=>simp[zEC]
  | cons t ts ih=>simp[zEC,ih]
theorem zWF {k:Int} {set:List (Int×Int)} {a b:List Re} {mn mx:Int} {ng:Bool} (h:zDo (.mk k set a mn mx ng)) (hl:b.length=a.length) (hb:∀x∈b,zDo x):zDo (.mk k set b mn mx ng):=by
 simp only[zDo] at h⊢;refine ⟨?_,(zQl b).2 hb⟩;have h1:=h.1;have hf:zFE (.mk k set b mn mx ng)=zFE (.mk k set a mn mx ng):=by
  unfold zFE;simp only[Re.kind,Re.set,Re.args,Re.mn,Re.mx,Re.neg,hl];rfl
 unfold zCU at h1⊢;rw[hf];exact h1
def isL (k:Int):Prop:=k=3∨k=4∨k=7
mutual
def Nf:Re→Prop
  | .mk k set args mn mx ng=>Nfs args∧(isL k→set=[]∧mn=0∧mx=0∧ng=false∧2≤args.length∧(∀x∈args,x.kind≠k)∧(k=3→∀x∈args,x.kind≠1)∧(∀x∈args,x.kind≠0)∧(k≠3→args.Nodup))∧
      (¬isL k→zZI k set args mn mx ng=.mk k set args mn mx ng)
def Nfs:List Re→Prop
  | []=>True
  | t::ts=>Nf t∧Nfs ts
end
end Go.Proofs
namespace Go.Proofs
open Go Go.Eng
def zJD (k:Int) (l:List Re):List Re:=if k=3 then l.reverse else l
theorem zJZ (l:List Re):zJD 3 l=l.reverse:=rfl
theorem zKI {k:Int} (h:k≠3) (l:List Re):zJD k l=l:=if_neg h
mutual
def zBy:Re→Re
  | .mk k set args mn mx ng=>.mk k set (zJD k (zSs args)) mn mx ng
def zSs:List Re→List Re
  | []=>[]
  | t::ts=>zBy t::zSs ts
end
theorem zQY (ts:List Re):zSs ts=ts.map zBy:=by
  induction ts with
  | nil=>rfl
  | cons t ts ih=>simp[zSs,ih]
theorem zGq (k:Int) (set:List (Int×Int)) (args:List Re) (mn mx:Int) (ng:Bool):zBy (.mk k set args mn mx ng)=.mk k set (zJD k (args.map zBy)) mn mx ng:=by
 simp only[zBy,zQY]
theorem zMl (t:Re):zBy t=.mk t.kind t.set (zJD t.kind (t.args.map zBy)) t.mn t.mx t.neg:=by
 cases t;exact zGq _ _ _ _ _ _
mutual
theorem zVq:∀(t:Re),zBy (zBy t)=t
  | .mk k set args mn mx ng=>by
    have h:=zNi args;rw[zGq,zGq];by_cases hk:k=3
    · subst hk;rw[zJZ,zJZ,List.map_reverse,List.reverse_reverse,h]
    · rw[zKI hk,zKI hk,h]
theorem zNi:∀(ts:List Re),(ts.map zBy).map zBy=ts
  | []=>rfl
  | t::ts=>by simp only[List.map_cons];rw[zVq t,zNi ts]
end
theorem zOo (l:List Re):Re.sizes l.reverse=Re.sizes l:=by
  induction l with
  | nil=>rfl
  | cons x l ih=>rw[List.reverse_cons,Re.sizes_append,ih];simp only[Re.sizes];omega
mutual
theorem zNc:∀(t:Re),(zBy t).size=t.size
  | .mk k set args mn mx ng=>by
    have h:=zLI args;rw[zGq,Re.size_eq,Re.size_eq (.mk k set args mn mx ng)];simp only[Re.args];by_cases hk:k=3
    · subst hk;rw[zJZ,zOo,h]
    · rw[zKI hk,h]
theorem zLI:∀(ts:List Re),Re.sizes (ts.map zBy)=Re.sizes ts
  | []=>rfl
  | t::ts=>by simp only[List.map_cons,Re.sizes];rw[zNc t,zLI ts]
end
mutual
theorem zQk:∀(t:Re),zDo t→zDo (zBy t)
  | .mk k set args mn mx ng,h=>by
    have ho:=zQi args (zEE h);rw[zGq];refine zWF h ?_ ?_
    · unfold zJD;split<;>simp
    · intro x hx;unfold zJD at hx;split at hx
      · exact ho x (List.mem_reverse.1 hx)
      · exact ho x hx
theorem zQi:∀(ts:List Re),zEC ts→∀x∈ts.map zBy,zDo x
  | [],_,x,hx=>by simp at hx
  | t::ts,h,x,hx=>by
    simp only[zEC] at h;rw[List.map_cons,List.mem_cons] at hx;rcases hx with rfl|hx
    · exact zQk t h.1
    · exact zQi ts h.2 x hx
end
end Go.Proofs
namespace Go.Proofs
open Go Go.Eng
set_option maxRecDepth 100000
theorem zYB (w0:World) (v:Value) (l:List Int) (hl:zBa w0 v l):Ret prog 7 #[v] w0 fun r w=>∃t vs,r=.agg vs.toArray∧zHk (zSW 8) t∧t.size≤31∧zBs (fun b=>w0.heap.size≤b) w t vs∧Ext w0 w:=by
 obtain ⟨a,c,rfl⟩:=zCQ.form hl;simp only[List.length_map] at hl⊢;refine qR func7 rfl ntmps7 rfl (fun E=>(zAA (zBB (c:=#[(I6 0),(.slice none 0 0),(.slice none 0 0),(I6 0),(I6 0),(.bool false)]) qD zDg rfl ?_)));intro br wr Nr;have Fr:=Nr.ge E;replace E:=E.ext Nr.ext;have Br:=Nr.blk;refine zAB (zAA (qM _ rfl (qV (zBF (ps:=[(0,(.slice a l.length c))]) (v:=(.agg #[(.slice a l.length c)])) rfl qK) (zBY (v:=(.agg #[(.slice a l.length c)])) (c:=#[(.slice a l.length c)]) qD rfl rfl ?_))));intro bs ws Ns;have Fs:=Ns.ge E;have Os_br:=Ns.lt Br;replace Br:=Ns.keep Br;replace E:=E.ext Ns.ext;have Bs:=Ns.blk;have hne:br<bs:=qO
 have hz1:=Br.lt;have hz2:=E.size;refine qE rfl (zAU func29 kQ kQ rfl) (zZN wr bs 8 qO (by have:=Ns.eq;omega) 4 qD ws l Ns.ext ⟨a,c,Bs,hl.ext Nr.ext⟩) ?_;rintro _ w9 ⟨t,us,l',rfl,hg,hs,ht,hS,C9⟩;replace Br:=C9.keep qO Br;replace E:=E.step C9 (by intro x hx hm;omega);obtain ⟨sa,sc,aa,ac,rfl,_,_,_⟩:=ht.form;refine zAa (b:=br) (o:=0) (c':=(R6 t sa sc aa ac)) rfl rfl qS zAp rfl Br qL rfl ?_;intro w1 S1;replace ht:=zBs.chg S1.chg (fun x hx hm=>by have hx':=hx;have hm':x=br:=hm;omega) t ht;replace E:=S1.step E qQ;replace Br:=S1.blk;refine zAB (zAW (zBb results7 (vs:=[(.int .i64 t.kind),(.slice sa t.set.length sc),(.slice aa t.args.length ac),(.int .i64 t.mn),(.int .i64 t.mx),(.bool t.neg)]) (b:=br) rfl zBZ zAp rfl (Br.cells rfl) ?_));exact ⟨t,_,rfl,hg,qO,zBs.mono (fun b (h:_≤b)=>qO) t ht,E⟩
end Go.Proofs
namespace Go.Proofs
open Go Go.Eng
set_option maxRecDepth 100000
mutual
def zDv (ks:List Int):Re→Bool
  | .mk k _ args _ _ _=>ks.contains k || zFA ks args
def zFA (ks:List Int):List Re→Bool
  | []=>false
  | t::ts=>zDv ks t || zFA ks ts
end
def zPv (ks:List Int):Unit→Re→Bool×Unit:=fun _ t=>(!ks.contains t.kind,())
mutual
theorem zNV (ks:List Int):∀(t:Re),(zCp (zPv ks) t ()).1 = !zDv ks t
  | .mk k set args mn mx ng=>by
    have h:=zLD ks args;rw[zEl];split
    · rename_i hk
      have hk:ks.contains k=false:=by simpa only[zPv,Re.kind,Bool.not_eq_true'] using hk
      show (zCZ (zPv ks) args ()).1=_;rw[h];simp only[zDv,hk,Bool.false_or]
    · rename_i hk
      have hk:ks.contains k=true:=by
        cases hc:ks.contains k with
        | true=>rfl
        | false=>exact absurd (show (zPv ks () (.mk k set args mn mx ng)).1=true by simp only[zPv,Re.kind,hc,Bool.not_false]) hk
      simp only[zDv,hk,Bool.true_or,Bool.not_true]
theorem zLD (ks:List Int):∀(ts:List Re),(zCZ (zPv ks) ts ()).1 = !zFA ks ts
  | []=>rfl
  | t::ts=>by
    have h1:=zNV ks t;have h:=zLD ks ts;rw[zCo];split
    · rename_i hk
      rw[hk] at h1;have hu:zDv ks t=false:=by simpa using h1.symm
      show (zCZ (zPv ks) ts ()).1=_;rw[h];simp only[zFA,hu,Bool.false_or]
    · rename_i hk
      have hu:zDv ks t=true:=by
        cases hc:zDv ks t with
        | true=>rfl
        | false=>rw[hc] at h1;exact absurd h1 hk
      simp only[zFA,hu,Bool.true_or,Bool.not_true]
end
theorem zVQ (w0:World) (t:Re) (vs:List Value) (ks:List Int) (v:Value) (b:Nat) (ht:zBm w0 t vs) (hB:Blk w0 b #[v] 22) (hks:zBa w0 v ks) :
  Ret prog 63 #[.agg vs.toArray,.pointer (some ⟨b,0,none⟩)] w0 fun r w=>r=.bool (!ks.contains t.kind)∧Ext w0 w:=by
 obtain ⟨sa,sc,aa,ac,rfl,_,_,_⟩:=ht.form;refine qR func63 rfl ntmps63 rfl (fun E=>(zAA (zBY (v:=(.agg (R6 t sa sc aa ac))) (c:=(R6 t sa sc aa ac)) qD rfl rfl ?_)));intro b1 w1 N1;replace hB:=N1.keep hB;replace E:=E.ext N1.ext;have B1:=N1.blk;refine qA _ rfl (zAB (zAA (qV (zAG rfl zBI (hB.cell rfl)) (qF b1 0 0 rfl underlying26 rfl zAv rfl (qV (zAG rfl zAm (B1.cell rfl)) (qE rfl (zAU func64 kQ kQ rfl) (zYK _ v t.kind ks (hks.ext E)) ?_))))));rintro _ w9 ⟨rfl,X9⟩;replace hB:=X9.keep hB;replace B1:=X9.keep B1;replace E:=E.ext X9;refine qV (zCa rfl) (qA _ rfl (zAB (zAW (zAZ results63 (v:=(.bool (!(ks.contains t.kind)))) rfl ?_))));exact ⟨rfl,E⟩
theorem zUg (w0:World) (t:Re) (vs:List Value) (ks:List Int) (v:Value) (ht:zBm w0 t vs) (hks:zBa w0 v ks) :
  Ret prog 31 #[.agg vs.toArray,v] w0 fun r w=>r=.bool (zDv ks t)∧Ext w0 w:=by
 have ab:=ht;obtain ⟨sa,sc,aa,ac,rfl,_,_,_⟩:=ht.form;obtain ⟨ka,kc,rfl⟩:=zCQ.form hks;simp only[List.length_map] at hks⊢;refine qR func31 rfl ntmps31 rfl (fun E=>(zAA (zBY (v:=(.agg (R6 t sa sc aa ac))) (c:=(R6 t sa sc aa ac)) qD rfl rfl ?_)));intro br wr Nr;replace E:=E.ext Nr.ext;have Br:=Nr.blk;refine zBY (v:=(.slice ka ks.length kc)) (c:=#[(.slice ka ks.length kc)]) qD rfl rfl ?_;intro bp wp Np;replace Br:=Np.keep Br;replace E:=E.ext Np.ext;have Bp:=Np.blk;refine qA _ rfl (zAB (zAA (qV (zAP (vs:=[(I6 t.kind),(.slice sa t.set.length sc),(.slice aa t.args.length ac),(I6 t.mn),(I6 t.mx),(.bool t.neg)]) rfl zBZ zAp rfl (Br.cells rfl)) (qV (zBQ rfl rfl) ?_))));have hf:∀(s:Unit) (w:World) (t:Re) (vs:List Value),bp+1≤w.heap.size→Ext wp w→Blk w bp #[.slice ka ks.length kc] 22→zBm wp t vs→zCJ prog (.func (.func 63) #[] #[.pointer (some ⟨bp,0,none⟩)]) #[.agg vs.toArray] w fun r w'=>r=.bool (zPv ks s t).1∧Chg zAe w w'∧Blk w' bp #[.slice ka ks.length kc] 22:=fun s w t vs _ hE hI ht=>zCJ.mk (first:=#[]) (cap:=#[.pointer (some ⟨bp,0,none⟩)]) func63 kQ kQ rfl ((zVQ w t vs ks (.slice ka ks.length kc) bp (zBm.ext hE t ht) hI ((hks.ext E).ext hE)).mono fun r w' h=>⟨h.1,h.2,Ext.keep h.2 hI⟩);refine qE rfl (zAU func42 kQ kQ rfl) ((zUf (zPv ks) (fun _ w=>Blk w bp #[.slice ka ks.length kc] 22) zAe (bp+1) _ wp (fun b hb=>hb.elim) (fun s w w' hI e=>e.keep hI) hf t.size t (Nat.le_refl _) () _ _ (by have:=Bp.lt;omega) (Ext.refl _) Bp (zBm.ext E t ab)).mono (R':=fun r w=>r=.bool (zCp (zPv ks) t ()).1∧Ext wp w) (fun r w h=>⟨h.1,h.2.1⟩)) ?_;rintro _ w9 ⟨rfl,X9⟩;replace Br:=X9.keep Br;replace Bp:=X9.keep Bp;replace E:=E.ext X9;refine qV (zCa rfl) (qA _ rfl (zAB (zAW (zAZ results31 (v:=(.bool (!((zCp (zPv ks) t ()).1)))) rfl ?_))));exact ⟨zBx (by rw[zNV];simp),E⟩
structure NodeI (t:Re):Prop where
 k:0≤t.kind∧t.kind≤10
 two:t.kind=3∨t.kind=4∨t.kind=7→2≤t.args.length
 one:t.kind=5∨t.kind=6∨t.kind=8∨t.kind=9∨t.kind=10→t.args.length=1
 rep:t.kind=6→0≤t.mn∧t.mn≤t.mx∧t.mx≤8
 grp:t.kind=9→0≤t.mn∧t.mn≤9
 sett:t.kind=2→t.set≠[]
theorem zHt {t:Re} (h:zCU t=0):NodeI t:=by
 unfold zCU at h;split at h
 ·cases h
 rename_i h1
 split at h
 ·cases h
 rename_i h2
 have h3:zFE t=true:=by simpa using h2
 unfold zFE at h3;simp only[Bool.and_eq_true] at h3;have h4:=h3.1.1.1.1;unfold okB at h4;refine ⟨qO,fun hk=>?_,fun hk=>?_,fun hk=>?_,fun hk=>?_,fun hk=>?_⟩
 ·rw[if_pos hk] at h4;have:=of_decide_eq_true h4;omega
 ·rw[if_neg qO,if_pos hk] at h4;have:=of_decide_eq_true h4;omega
 ·rw[if_neg qO,if_pos hk] at h;split at h
  ·cases h
  ·omega
 ·rw[if_neg qO,if_neg qO,if_pos hk] at h;split at h
  ·cases h
  ·omega
 ·rw[if_pos hk] at h;intro e;rw[e] at h;simp[zBO,zEU] at h
end Go.Proofs
namespace Go.Proofs
open Go Go.Eng
set_option maxRecDepth 100000
abbrev Lg:=List Int→Prop
def noL:Lg:=fun _=>False
def zLc:Lg:=fun w=>w=[]
def zXe (s:List (Int×Int)):Lg:=fun w=>∃c,w=[c]∧inS s c=true
def zFo (A B:Lg):Lg:=fun w=>∃u v,w=u++v∧A u∧B v
def zJG:List Lg→Lg
  | []=>zLc
  | A::l=>zFo A (zJG l)
def zVH (L:List Lg):Lg:=fun w=>∃A∈L,A w
def zVI (L:List Lg):Lg:=fun w=>∀A∈L,A w
def zZH (A:Lg):Lg:=fun w=>¬A w
inductive starG (A:Lg):Lg where
  | nil:starG A []
  | cons {u v:List Int}:A u→starG A v→starG A (u++v)
def zOy (A:Lg):Nat→Lg
  | 0=>zLc
  | n+1=>zFo A (zOy A n)
def zZB (A:Lg) (m x:Int):Lg:=fun w=>∃n:Nat,m≤((n:Nat):Int)∧((n:Nat):Int)≤x∧zOy A n w
def zNB (k:Int) (s:List (Int×Int)) (L:List Lg) (m x:Int):Lg:=
 if k=1 then zLc else if k=2 then zXe s else if k=3 then zJG L else if k=4 then zVH L else if k=7 then zVI L
 else if k=8 then zZH (L.headD noL) else if k=5 then starG (L.headD noL) else if k=6 then zZB (L.headD noL) m x else if k=9 then L.headD noL else noL
mutual
def zJx:Re→Lg
  | .mk k s a m x _=>zNB k s (zUc a) m x
def zUc:List Re→List Lg
  | []=>[]
  | t::ts=>zJx t::zUc ts
end
theorem zRC (ts:List Re):zUc ts=ts.map zJx:=by
  induction ts with
  | nil=>rfl
  | cons t ts ih=>simp[zUc,ih]
theorem zNA (t:Re):zJx t=zNB t.kind t.set (t.args.map zJx) t.mn t.mx:=by cases t;simp only[zJx,zRC];rfl
end Go.Proofs
namespace Go.Proofs
open Go Go.Eng
set_option maxRecDepth 100000
def toW (d:Dfa):Int→List Nat→Int
  | s,[]=>s
  | s,x::w=>toW d (toD d s x) w
theorem zDB (d:Dfa):∀(w:List Nat) (s:Int),beh d s w=atD d (toW d s w)
  | [],_=>rfl
  | x::w,s=>by simp only[beh,toW];exact zDB d w _
theorem zQC (d:Dfa):∀(u v:List Nat) (s:Int),toW d s (u++v)=toW d (toW d s u) v
  | [],_,_=>rfl
  | x::u,v,s=>by simp only[List.cons_append,toW];exact zQC d u v _
theorem zDl (d:Dfa) (u:List Nat) (x:Nat) (s:Int):toW d s (u++[x])=toD d (toW d s u) x:=by rw[zQC];rfl
theorem zEp {n c:Nat} {d:Dfa} (ok:OkD n c d):∀(w:List Nat) {s:Int},-1≤s∧s<n→-1≤toW d s w∧toW d s w<n
  | [],_,h=>h
  | _::w,_,_=>zEp ok w ok.to
def zCl (M:Nat→Bool) (i:Nat):Nat:=(M (8*i)).toNat+2*(M (8*i+1)).toNat+4*(M (8*i+2)).toNat+8*(M (8*i+3)).toNat+16*(M (8*i+4)).toNat+32*(M (8*i+5)).toNat+64*(M (8*i+6)).toNat+128*(M (8*i+7)).toNat
def zJC (n:Nat) (M:Nat→Bool):Nat→Bool:=fun s=>decide (s<n) && M s
def zJH (n:Nat) (M:Nat→Bool):List Int:=(List.range ((n+7) / 8)).map fun i=>((zCl (zJC n M) i:Nat):Int)
theorem zDq (n:Nat) (M:Nat→Bool):(zJH n M).length=(n+7) / 8:=by simp[zJH]
theorem zPb {n:Nat} {M M':Nat→Bool} (h:∀s,s<n→M s=M' s):zJH n M=zJH n M':=by
 have:zJC n M=zJC n M':=funext fun s=>by
  unfold zJC;by_cases hs:s<n
  ·rw[h s hs]
  ·simp[hs]
 unfold zJH;rw[this]
theorem zNM (M:Nat→Bool) (i:Nat):zCl M i<256:=by
 unfold zCl;have h:∀b:Bool,b.toNat≤1:=fun b=>by cases b<;>decide
 have:=h (M (8*i));have:=h (M (8*i+1));have:=h (M (8*i+2));have:=h (M (8*i+3));have:=h (M (8*i+4));have:=h (M (8*i+5));have:=h (M (8*i+6));have:=h (M (8*i+7));omega
theorem zSC:∀(b0 b1 b2 b3 b4 b5 b6 b7:Bool),(∀v,v=b0.toNat+2*b1.toNat+4*b2.toNat+8*b3.toNat+16*b4.toNat+32*b5.toNat+64*b6.toNat+128*b7.toNat→
  v / 1 % 2=b0.toNat∧v / 2 % 2=b1.toNat∧v / 4 % 2=b2.toNat∧v / 8 % 2=b3.toNat∧v / 16 % 2=b4.toNat∧v / 32 % 2=b5.toNat∧v / 64 % 2=b6.toNat∧v / 128 % 2=b7.toNat):=by
 intro b0 b1 b2 b3 b4 b5 b6 b7 v hv;have h:∀b:Bool,b.toNat≤1:=fun b=>by cases b<;>decide
 have:=h b0;have:=h b1;have:=h b2;have:=h b3;have:=h b4;have:=h b5;have:=h b6;have:=h b7;generalize b0.toNat=c0 at *;generalize b1.toNat=c1 at *;generalize b2.toNat=c2 at *;generalize b3.toNat=c3 at *;generalize b4.toNat=c4 at *;generalize b5.toNat=c5 at *;generalize b6.toNat=c6 at *;generalize b7.toNat=c7 at *;omega
theorem zOZ (M:Nat→Bool) (i j:Nat) (hj:j<8):zCl M i / 2 ^ j % 2=(M (8*i+j)).toNat:=by
 obtain ⟨h0,h1,h2,h3,h4,h5,h6,h7⟩:=zSC _ _ _ _ _ _ _ _ (zCl M i) rfl;have:j=0∨j=1∨j=2∨j=3∨j=4∨j=5∨j=6∨j=7:=qO
 rcases this with rfl|rfl|rfl|rfl|rfl|rfl|rfl|rfl<;>assumption
theorem zUH (M:Nat→Bool) (i j:Nat) (hj:j<8):zCl (fun s=>M s || decide (s=8*i+j)) i=zCl M i+(if M (8*i+j)=true then 0 else 2 ^ j):=by
 have:j=0∨j=1∨j=2∨j=3∨j=4∨j=5∨j=6∨j=7:=qO
 unfold zCl;rcases this with rfl|rfl|rfl|rfl|rfl|rfl|rfl|rfl
 ·rw[Nat.add_zero];simp;cases M (8*i)<;>simp<;>omega
 ·simp;cases M (8*i+1)<;>simp<;>omega
 ·simp;cases M (8*i+2)<;>simp<;>omega
 ·simp;cases M (8*i+3)<;>simp<;>omega
 ·simp;cases M (8*i+4)<;>simp<;>omega
 ·simp;cases M (8*i+5)<;>simp<;>omega
 ·simp;cases M (8*i+6)<;>simp<;>omega
 ·simp;cases M (8*i+7)<;>simp<;>omega
theorem zPa {M:Nat→Bool} {i k j:Nat} (hj:j<8) (hk:k≠i):zCl (fun s=>M s || decide (s=8*i+j)) k=zCl M k:=by
 unfold zCl;have h:∀d,d<8→(M (8*k+d) || decide (8*k+d=8*i+j))=M (8*k+d):=fun d hd=>by
  rw[decide_eq_false (show ¬8*k+d=8*i+j by omega),Bool.or_false]
 dsimp only;have h0:=h 0 qD;rw[Nat.add_zero] at h0;rw[h0,h 1 qD,h 2 qD,h 3 qD,h 4 qD,h 5 qD,h 6 qD,h 7 qD]
def zDt (n:Nat) (M:Nat→Bool):ByteArray:=strOfNums (zJH n M)
def zGw (k:ByteArray) (s:Nat):Bool:=decide ((k.data.toList.getD (s / 8) 0).toNat / 2 ^ (s % 8) % 2=1)
theorem zEw {n:Nat} (M:Nat→Bool) {s:Nat} (hs:s<n):zGw (zDt n M) s=M s:=by
 have h1:=zNM (zJC n M) (s / 8);have h2:(UInt8.ofNat (zCl (zJC n M) (s / 8))).toNat=zCl (zJC n M) (s / 8):=by
  rw[UInt8.toNat_ofNat'];exact Nat.mod_eq_of_lt h1
 have e:(zDt n M).data.toList.getD (s / 8) 0=UInt8.ofNat (zCl (zJC n M) (s / 8)):=by
  unfold zDt;rw[strOfNums_data,List.getD_eq_getElem?_getD,List.getElem?_map];unfold zJH;rw[List.getElem?_map,List.getElem?_range qO];simp
 have h3:((zDt n M).data.toList.getD (s / 8) 0).toNat / 2 ^ (s % 8) % 2=(M s).toNat:=by
  rw[e,h2,zOZ _ _ _ (Nat.mod_lt _ qD),Nat.div_add_mod];unfold zJC;rw[decide_eq_true hs,Bool.true_and]
 unfold zGw;cases hM:M s
 ·exact decide_eq_false (by rw[h3,hM];decide)
 ·exact decide_eq_true (by rw[h3,hM];decide)
theorem zCk (n:Nat) (M:Nat→Bool):(zDt n M).size=(n+7) / 8:=by unfold zDt;rw[strOfNums_size,zDq]
theorem zPN {n:Nat} {M M':Nat→Bool} (h:∀s,s<n→M s=M' s):zDt n M=zDt n M':=by unfold zDt;rw[zPb h]
theorem zKU {n:Nat} (M:Nat→Bool):zDt n (zGw (zDt n M))=zDt n M:=zPN fun _ hs=>zEw M hs
def zJB (b:Dfa) (m:Nat) (k:ByteArray) (x:Nat):Nat→Bool:=fun q=>(List.range m).any fun p=>zGw k p && decide (toD b ((p:Nat):Int) x=((q:Nat):Int))
def zEM (b:Dfa) (m:Nat) (k:ByteArray) (x:Nat):Bool:=(List.range m).any fun p=>zGw k p && decide (0≤toD b ((p:Nat):Int) x)
def zMV (b:Dfa) (m:Nat) (k:ByteArray):Bool:=(List.range m).any fun p=>decide (0≤atD b ((p:Nat):Int)) && zGw k p
def zKc (b:Bool):Int:=if b=true then 0 else -1
theorem zHv {b:Dfa} {m:Nat} {k:ByteArray} {x q:Nat}:zJB b m k x q=true↔∃p,p<m∧zGw k p=true∧toD b ((p:Nat):Int) x=((q:Nat):Int):=by
 unfold zJB;simp only[List.any_eq_true,List.mem_range,Bool.and_eq_true,decide_eq_true_eq]
theorem zQM {b:Dfa} {m:Nat} {k:ByteArray} {x:Nat}:zEM b m k x=true↔∃p,p<m∧zGw k p=true∧0≤toD b ((p:Nat):Int) x:=by
 unfold zEM;simp only[List.any_eq_true,List.mem_range,Bool.and_eq_true,decide_eq_true_eq]
theorem zIA {b:Dfa} {m:Nat} {k:ByteArray}:zMV b m k=true↔∃p,p<m∧0≤atD b ((p:Nat):Int)∧zGw k p=true:=by
 unfold zMV;simp only[List.any_eq_true,List.mem_range,Bool.and_eq_true,decide_eq_true_eq]
theorem zLH {b:Dfa} {n c m:Nat} (ok:OkD m c b) {k:ByteArray} {x:Nat} (hn:n=m):zEM b m k x=true↔∃q,q<n∧zJB b m k x q=true:=by
 subst hn;rw[zQM];constructor
 ·rintro ⟨p,h1,h2,h3⟩;have:=ok.to (s:=((p:Nat):Int)) (x:=x);exact ⟨(toD b ((p:Nat):Int) x).toNat,qO,zHv.2 ⟨p,h1,h2,qO⟩⟩
 ·rintro ⟨q,_,h2⟩;obtain ⟨p,h3,h4,h5⟩:=zHv.1 h2;exact ⟨p,h3,h4,qO⟩
section
variable (a b : Dfa) (m : Nat)
def zIh (s:Int) (M:Nat→Bool):Nat→Bool:=fun q=>M q || (decide (0≤atD a s) && decide (((q:Nat):Int)=b.start))
def zIJ:Int×ByteArray:=(a.start,zDt m (zIh a b a.start fun _=>false))
def zGo (p:Int×ByteArray) (x:Nat):Option (Int×ByteArray):=if 0≤toD a p.1 x∨zEM b m p.2 x=true then some (toD a p.1 x,zDt m (zIh a b (toD a p.1 x) (zJB b m p.2 x))) else none
def zKy (p:Int×ByteArray):Int:=zKc (zMV b m p.2)
end
def zXL (f g:List Nat→Int) (w:List Nat):Prop:=∃u v,w=u++v∧0≤f u∧0≤g v
section
variable {a b : Dfa} {n m c : Nat}
def SetC (a b:Dfa) (m:Nat) (w:List Nat) (k:ByteArray):Prop:=∀q:Nat,q<m→(zGw k q=true↔∃u v,w=u++v∧0≤beh a a.start u∧toW b b.start v=((q:Nat):Int))
theorem zQU (okb:OkD m c b) (w:List Nat):match zGD (zGo a b m) (zIJ a b m) w with
    | some p=>p.1=toW a a.start w∧SetC a b m w p.2∧p.2=zDt m (zGw p.2)
    | none=>toW a a.start w<0∧∀u v,w=u++v→0≤beh a a.start u→toW b b.start v<0:=by
  obtain ⟨j,hj⟩:∃j,j=w.length:=⟨_,rfl⟩
  induction j generalizing w with
  | zero=>
    have:w=[]:=List.eq_nil_of_length_eq_zero hj.symm;subst this;refine ⟨rfl,fun q hq=>?_,(zKU _).symm⟩;show zGw (zDt m _) q=true↔_;rw[zEw _ hq];simp only[zIh,Bool.false_or,Bool.and_eq_true,decide_eq_true_eq];constructor
    · rintro ⟨h1,h2⟩;exact ⟨[],[],rfl,by simpa[beh] using h1,h2.symm⟩
    · rintro ⟨u,v,h1,h2,h3⟩;obtain ⟨rfl,rfl⟩:=List.append_eq_nil_iff.1 h1.symm;exact ⟨by simpa[beh] using h2,h3.symm⟩
  | succ j ih=>
    rcases List.eq_nil_or_concat w with rfl|⟨w,x,rfl⟩
    · simp at hj
    rw[List.concat_eq_append] at hj⊢;have h1:=ih w (by simpa using hj);rw[zEc];cases hr:zGD (zGo a b m) (zIJ a b m) w with
    | none=>
      rw[hr] at h1;obtain ⟨h2,h3⟩:=h1;simp only[Option.bind_none];refine ⟨by rw[zDl,zDw h2];decide,fun u v e hu=>?_⟩;rcases List.eq_nil_or_concat v with rfl|⟨v,y,rfl⟩
      · rw[List.append_nil] at e;subst e;rw[zDB,zDl,zDw h2] at hu;simp[atD] at hu
      · rw[List.concat_eq_append] at e⊢;rw[←List.append_assoc] at e;obtain ⟨e1,e2⟩:=List.append_inj' e rfl;rw[zDl,zDw (h3 u v e1 hu)];decide
    | some p=>
      rw[hr] at h1;obtain ⟨h2,h3,h4⟩:=h1;simp only[Option.bind_some];have ab:∀q:Nat,q<m→(zJB b m p.2 x q=true↔∃u v,w=u++v∧0≤beh a a.start u∧toW b b.start (v++[x])=((q:Nat):Int)):=fun q hq=>by
        rw[zHv];constructor
        · rintro ⟨s,h5,h6,h7⟩;obtain ⟨u,v,h8,h9,aa⟩:=(h3 s h5).1 h6;exact ⟨u,v,h8,h9,by rw[zDl,aa,h7]⟩
        · rintro ⟨u,v,h8,h9,aa⟩;rw[zDl] at aa;have ac:=zEp okb v (s:=b.start) (by have:=okb.st;omega);have ad:0≤toW b b.start v:=by
            apply Classical.byContradiction;intro h;rw[zDw qO] at aa;omega
          obtain ⟨s,hs⟩:=Int.eq_ofNat_of_zero_le ad;exact ⟨s,qO,(h3 s qO).2 ⟨u,v,h8,h9,hs⟩,by rw[←hs];exact aa⟩
      have ae:zEM b m p.2 x=true↔∃u v,w=u++v∧0≤beh a a.start u∧0≤toW b b.start (v++[x]):=by
        rw[zLH okb rfl];constructor
        · rintro ⟨q,h5,h6⟩;obtain ⟨u,v,h8,h9,aa⟩:=(ab q h5).1 h6;exact ⟨u,v,h8,h9,qO⟩
        · rintro ⟨u,v,h8,h9,aa⟩;have ac:=zEp okb (v++[x]) (s:=b.start) (by have:=okb.st;omega);obtain ⟨s,hs⟩:=Int.eq_ofNat_of_zero_le aa;exact ⟨s,qO,(ab s qO).2 ⟨u,v,h8,h9,hs⟩⟩
      unfold zGo;rw[h2,←zDl];by_cases hif:0≤toW a a.start (w++[x])∨zEM b m p.2 x=true
      · rw[if_pos hif];refine ⟨rfl,fun q hq=>?_,(zKU _).symm⟩;simp only;rw[zEw _ hq];simp only[zIh,Bool.or_eq_true,Bool.and_eq_true,decide_eq_true_eq];rw[ab q hq];constructor
        · rintro (⟨u,v,h8,h9,aa⟩|⟨h8,h9⟩)
          · exact ⟨u,v++[x],by rw[h8,List.append_assoc],h9,aa⟩
          · exact ⟨w++[x],[],qP,by rw[zDB];exact h8,h9.symm⟩
        · rintro ⟨u,v,h8,h9,aa⟩;rcases List.eq_nil_or_concat v with rfl|⟨v,y,rfl⟩
          · rw[List.append_nil] at h8;right;rw[←h8,zDB] at h9;exact ⟨h9,aa.symm⟩
          · left;rw[List.concat_eq_append] at h8 aa;rw[←List.append_assoc] at h8;obtain ⟨e1,e2⟩:=List.append_inj' h8 rfl;cases e2;exact ⟨u,v,e1,h9,aa⟩
      · rw[if_neg hif];have h5:¬0≤toW a a.start (w++[x]):=fun h=>hif (.inl h);have h6:¬zEM b m p.2 x=true:=fun h=>hif (.inr h);refine ⟨qO,fun u v e hu=>?_⟩;rcases List.eq_nil_or_concat v with rfl|⟨v,y,rfl⟩
        · rw[List.append_nil] at e;subst e;rw[zDB] at hu;unfold atD at hu;rw[if_pos qO] at hu;omega
        · rw[List.concat_eq_append] at e⊢;rw[←List.append_assoc] at e;obtain ⟨e1,e2⟩:=List.append_inj' e rfl;cases e2;apply Classical.byContradiction;intro h;exact h6 (ae.2 ⟨u,v,e1,hu,qO⟩)
open Classical in
theorem zUO (okb:OkD m c b) (w:List Nat):zPf (zGo a b m) (zKy b m) (zIJ a b m) w=if zXL (beh a a.start) (beh b b.start) w then 0 else -1:=by
  have h:=zQU (a:=a) okb w;unfold zPf;cases hr:zGD (zGo a b m) (zIJ a b m) w with
  | none=>
    rw[hr] at h;obtain ⟨h1,h2⟩:=h;rw[if_neg];rintro ⟨u,v,h3,h4,h5⟩;have:=h2 u v h3 h4;rw[zDB] at h5;unfold atD at h5;rw[if_pos this] at h5;omega
  | some p=>
    rw[hr] at h;obtain ⟨h1,h2,_⟩:=h;simp only[zKy,zKc];have:zMV b m p.2=true↔zXL (beh a a.start) (beh b b.start) w:=by
      rw[zIA];constructor
      · rintro ⟨q,h3,h4,h5⟩;obtain ⟨u,v,h6,h7,h8⟩:=(h2 q h3).1 h5;exact ⟨u,v,h6,h7,by rw[zDB,h8];exact h4⟩
      · rintro ⟨u,v,h6,h7,h8⟩;rw[zDB] at h8;have h11:=zEp okb v (s:=b.start) (by have:=okb.st;omega);have aa:0≤toW b b.start v:=by
          apply Classical.byContradiction;intro h;unfold atD at h8;rw[if_pos qO] at h8;omega
        obtain ⟨s,hs⟩:=Int.eq_ofNat_of_zero_le aa;exact ⟨s,qO,by rw[hs] at h8;exact h8,(h2 s qO).2 ⟨u,v,h6,h7,hs⟩⟩
    by_cases hc:zXL (beh a a.start) (beh b b.start) w
    · rw[if_pos hc,if_pos (this.2 hc)]
    · rw[if_neg hc,if_neg fun h=>hc (this.1 h)]
theorem zMm {c':Nat} (oka:OkD n c' a) (okb:OkD m c b) {p:Int×ByteArray} (h:Rch c (zGo a b m) (zIJ a b m) p):(-1≤p.1∧p.1<n)∧p.2=zDt m (zGw p.2):=by
 obtain ⟨w,_,h1⟩:=h;have h2:=zQU (a:=a) okb w;rw[h1] at h2;obtain ⟨h3,_,h4⟩:=h2;refine ⟨?_,h4⟩;rw[h3];exact zEp oka w (by have:=oka.st;omega)
theorem zUZ (b:Dfa) (m:Nat) (p:Int×ByteArray) : -1≤zKy b m p∧zKy b m p<2147483648:=by unfold zKy zKc;split<;>decide
end
inductive StarW (f:List Nat→Int):List Nat→Prop where
  | nil:StarW f []
  | cons {u v:List Nat}:0≤f u→StarW f v→StarW f (u++v)
theorem StarW.app {f:List Nat→Int} {u v:List Nat} (h:StarW f u) (k:StarW f v):StarW f (u++v):=by
  induction h with
  | nil=>exact k
  | cons hu _ ih=>rw[List.append_assoc];exact .cons hu ih
theorem StarW.one {f:List Nat→Int} {u:List Nat} (h:0≤f u):StarW f u:=by
 have:=StarW.cons h .nil
 rwa [List.append_nil] at this
theorem StarW.last {f:List Nat→Int} {w:List Nat} (h:StarW f w) (hw:w≠[]):∃u v,w=u++v∧v≠[]∧StarW f u∧0≤f v:=by
  induction h with
  | nil=>exact absurd rfl hw
  | @cons u v hu hv ih=>
    by_cases hv0:v=[]
    · subst hv0;rw[List.append_nil] at hw⊢;exact ⟨[],u,rfl,hw,.nil,hu⟩
    · obtain ⟨p,q,h1,h2,h3,h4⟩:=ih hv0;exact ⟨u++p,q,by rw[h1,List.append_assoc],h2,.cons hu h3,h4⟩
section
variable (a : Dfa) (n : Nat)
def zFy:ByteArray:=zDt n fun q=>decide (((q:Nat):Int)=a.start)
def zMC (M:Nat→Bool):Nat→Bool:=fun q=>M q || (zMV a n (zDt n M) && decide (((q:Nat):Int)=a.start))
def zGm (bg:ByteArray) (k:ByteArray) (x:Nat):Option ByteArray:=let k':=if k=bg then zFy a n else k;if zEM a n k' x=true then some (zDt n (zMC a n (zJB a n k' x))) else none
def zJI (bg:ByteArray) (k:ByteArray):Int:=zKc (decide (k=bg) || zMV a n k)
end
section
variable {a : Dfa} {n c : Nat} {bg : ByteArray}
def zXK (a:Dfa) (n:Nat) (w:List Nat) (k:ByteArray):Prop:=∀q:Nat,q<n→(zGw k q=true↔∃u v,w=u++v∧StarW (beh a a.start) u∧toW a a.start v=((q:Nat):Int))
theorem zSN (oka:OkD n c a) {w:List Nat} {k:ByteArray} (hw:w≠[]) (h:zXK a n w k):zMV a n k=true↔StarW (beh a a.start) w:=by
 rw[zIA];constructor
 ·rintro ⟨q,h1,h2,h3⟩;obtain ⟨u,v,rfl,h4,h5⟩:=(h q h1).1 h3;exact h4.app (.one (by rw[zDB,h5];exact h2))
 ·intro h1;obtain ⟨u,v,h2,_,h3,h4⟩:=h1.last hw;rw[zDB] at h4;have h11:=zEp oka v (s:=a.start) (by have:=oka.st;omega);have aa:0≤toW a a.start v:=by
   apply Classical.byContradiction;intro h;unfold atD at h4;rw[if_pos qO] at h4;omega
  obtain ⟨s,hs⟩:=Int.eq_ofNat_of_zero_le aa;exact ⟨s,qO,by rw[hs] at h4;exact h4,(h s qO).2 ⟨u,v,h2,h3,hs⟩⟩
theorem zQG (oka:OkD n c a) {w:List Nat} {k:ByteArray} (x:Nat) (h:zXK a n w k):(zEM a n k x=true→zXK a n (w++[x]) (zDt n (zMC a n (zJB a n k x))))∧(¬zEM a n k x=true→∀u v,w=u++v→StarW (beh a a.start) u→toW a a.start (v++[x])<0):=by
 have ab:∀q:Nat,q<n→(zJB a n k x q=true↔∃u v,w=u++v∧StarW (beh a a.start) u∧toW a a.start (v++[x])=((q:Nat):Int)):=fun q hq=>by
  rw[zHv];constructor
  ·rintro ⟨s,h5,h6,h7⟩;obtain ⟨u,v,h8,h9,aa⟩:=(h s h5).1 h6;exact ⟨u,v,h8,h9,by rw[zDl,aa,h7]⟩
  ·rintro ⟨u,v,h8,h9,aa⟩;rw[zDl] at aa;have ad:=zEp oka v (s:=a.start) (by have:=oka.st;omega);have ac:0≤toW a a.start v:=by
    apply Classical.byContradiction;intro h;rw[zDw qO] at aa;omega
   obtain ⟨s,hs⟩:=Int.eq_ofNat_of_zero_le ac;exact ⟨s,qO,(h s qO).2 ⟨u,v,h8,h9,hs⟩,by rw[←hs];exact aa⟩
 refine ⟨fun _=>?_,fun hs u v h8 h9=>?_⟩
 ·have ag:zMV a n (zDt n (zJB a n k x))=true↔StarW (beh a a.start) (w++[x]):=by
   rw[zIA];constructor
   ·rintro ⟨q,h1,h2,h3⟩;rw[zEw _ h1] at h3;obtain ⟨u,v,rfl,h4,h5⟩:=(ab q h1).1 h3;rw[List.append_assoc];exact h4.app (.one (by rw[zDB,h5];exact h2))
   ·intro h1;obtain ⟨u,v,h2,af,h3,h4⟩:=h1.last qP;rcases List.eq_nil_or_concat v with rfl|⟨v,y,rfl⟩
    ·exact absurd rfl af
    rw[List.concat_eq_append] at h2 h4;rw[←List.append_assoc] at h2;obtain ⟨e1,e2⟩:=List.append_inj' h2 rfl;cases e2;rw[zDB] at h4;have ad:=zEp oka (v++[x]) (s:=a.start) (by have:=oka.st;omega);have ac:0≤toW a a.start (v++[x]):=by
     apply Classical.byContradiction;intro h;unfold atD at h4;rw[if_pos qO] at h4;omega
    obtain ⟨s,hs⟩:=Int.eq_ofNat_of_zero_le ac;exact ⟨s,qO,by rw[hs] at h4;exact h4,by rw[zEw _ qO];exact (ab s qO).2 ⟨u,v,e1,h3,hs⟩⟩
  intro q hq;rw[zEw _ hq];simp only[zMC,Bool.or_eq_true,Bool.and_eq_true,decide_eq_true_eq];rw[ab q hq,ag];constructor
  ·rintro (⟨u,v,h8,h9,aa⟩|⟨h8,h9⟩)
   ·exact ⟨u,v++[x],by rw[h8,List.append_assoc],h9,aa⟩
   ·exact ⟨w++[x],[],qP,h8,h9.symm⟩
  ·rintro ⟨u,v,h8,h9,aa⟩;rcases List.eq_nil_or_concat v with rfl|⟨v,y,rfl⟩
   ·rw[List.append_nil] at h8;right;rw[←h8] at h9;exact ⟨h9,aa.symm⟩
   ·left;rw[List.concat_eq_append] at h8 aa;rw[←List.append_assoc] at h8;obtain ⟨e1,e2⟩:=List.append_inj' h8 rfl;cases e2;exact ⟨u,v,e1,h9,aa⟩
 ·apply Classical.byContradiction;intro aa;have ad:=zEp oka (v++[x]) (s:=a.start) (by have:=oka.st;omega);obtain ⟨s,ae⟩:=Int.eq_ofNat_of_zero_le (show 0≤toW a a.start (v++[x]) by omega);exact hs ((zLH oka rfl).2 ⟨s,qO,(ab s qO).2 ⟨u,v,h8,h9,ae⟩⟩)
theorem zTl (oka:OkD n c a):zXK a n [] (zFy a n):=fun q hq=>by
 unfold zFy;rw[zEw _ hq];simp only[decide_eq_true_eq];constructor
 ·intro h;exact ⟨[],[],rfl,.nil,h.symm⟩
 ·rintro ⟨u,v,h1,_,h3⟩;obtain ⟨rfl,rfl⟩:=List.append_eq_nil_iff.1 h1.symm;exact h3.symm
theorem zNg (oka:OkD n c a) (hbg:bg.size≠(n+7) / 8) (w:List Nat):match zGD (zGm a n bg) bg w with
    | some k=>(w=[]∧k=bg)∨(w≠[]∧zXK a n w k∧k=zDt n (zGw k))
    | none=>w≠[]∧∀u v,w=u++v→StarW (beh a a.start) u→toW a a.start v<0∨v=[]:=by
  obtain ⟨j,hj⟩:∃j,j=w.length:=⟨_,rfl⟩
  induction j generalizing w with
  | zero=>
    have:w=[]:=List.eq_nil_of_length_eq_zero hj.symm;subst this;exact .inl ⟨rfl,rfl⟩
  | succ j ih=>
    rcases List.eq_nil_or_concat w with rfl|⟨w,x,rfl⟩
    · simp at hj
    rw[List.concat_eq_append] at hj⊢;have h1:=ih w (by simpa using hj);rw[zEc];have aa:∀{p q:List Nat},w++[x]=p++q→q=[]∨∃q',q=q'++[x]∧w=p++q':=fun {p q} e=>by
      rcases List.eq_nil_or_concat q with rfl|⟨q,y,rfl⟩
      · exact .inl rfl
      · rw[List.concat_eq_append] at e⊢;rw[←List.append_assoc] at e;obtain ⟨e1,e2⟩:=List.append_inj' e rfl;cases e2;exact .inr ⟨q,rfl,e1⟩
    cases hr:zGD (zGm a n bg) bg w with
    | none=>
      rw[hr] at h1;obtain ⟨h2,h3⟩:=h1;simp only[Option.bind_none];refine ⟨qP,fun u v e hu=>?_⟩;rcases aa e with h|⟨q,rfl,e1⟩
      · exact .inr h
      · left;rw[zDl];rcases h3 u q e1 hu with h|h
        · rw[zDw h];decide
        · subst h;rw[List.append_nil] at e1;subst e1;obtain ⟨p,q,h4,h5,h6,h7⟩:=hu.last h2;rcases h3 p q h4 h6 with h|h
          · rw[zDB] at h7;unfold atD at h7;rw[if_pos h] at h7;omega
          · exact absurd h h5
    | some k=>
      rw[hr] at h1;simp only[Option.bind_some,zGm];have hk:zXK a n w (if k=bg then zFy a n else k):=by
        rcases h1 with ⟨rfl,rfl⟩|⟨h2,h3,h4⟩
        · rw[if_pos rfl];exact zTl oka
        · rw[if_neg]
          · exact h3
          · intro e;rw[e] at h4;rw[h4,zCk] at hbg;exact hbg rfl
      obtain ⟨h5,h6⟩:=zQG oka x hk;by_cases hs:zEM a n (if k=bg then zFy a n else k) x=true
      · rw[if_pos hs];exact .inr ⟨qP,h5 hs,(zKU _).symm⟩
      · rw[if_neg hs];refine ⟨qP,fun u v e hu=>?_⟩;rcases aa e with h|⟨q,rfl,e1⟩
        · exact .inr h
        · exact .inl (h6 hs u q e1 hu)
open Classical in
theorem zSH (oka:OkD n c a) (hbg:bg.size≠(n+7) / 8) (w:List Nat):zPf (zGm a n bg) (zJI a n bg) bg w=if StarW (beh a a.start) w then 0 else -1:=by
  have h:=zNg oka hbg w;unfold zPf;cases hr:zGD (zGm a n bg) bg w with
  | none=>
    rw[hr] at h;obtain ⟨h1,h2⟩:=h;rw[if_neg];intro h3;obtain ⟨u,v,h4,h5,h6,h7⟩:=h3.last h1;rcases h2 u v h4 h6 with h|h
    · rw[zDB] at h7;unfold atD at h7;rw[if_pos h] at h7;omega
    · exact absurd h h5
  | some k=>
    rw[hr] at h;rcases h with ⟨rfl,rfl⟩|⟨h2,h3,h4⟩
    · rw[if_pos StarW.nil];simp[zJI,zKc]
    · have aa:k≠bg:=fun e=>by
        rw[e] at h4;rw[h4,zCk] at hbg;exact hbg rfl
      simp only[zJI,zKc,decide_eq_false aa,Bool.false_or];have:=zSN oka h2 h3;by_cases hc:StarW (beh a a.start) w
      · rw[if_pos hc,if_pos (this.2 hc)]
      · rw[if_neg hc,if_neg fun h=>hc (this.1 h)]
theorem zNo (oka:OkD n c a) (hbg:bg.size≠(n+7) / 8) {k:ByteArray} (h:Rch c (zGm a n bg) bg k):k=bg∨k=zDt n (zGw k):=by
 obtain ⟨w,_,h1⟩:=h;have h2:=zNg oka hbg w;rw[h1] at h2;exact h2.imp (fun h=>h.2) fun h=>h.2.2
theorem zUW (a:Dfa) (n:Nat) (bg k:ByteArray) : -1≤zJI a n bg k∧zJI a n bg k<2147483648:=by unfold zJI zKc;split<;>decide
end
end Go.Proofs
namespace Go.Proofs
open Go Go.Eng Go.Sort
set_option maxRecDepth 100000
theorem zUD (b:Bool) (w:World) (k:Int×Int):(Instr.checkKey b 10000 163 (zIc k)).run prog w=.ok () w:=by kernel_rfl
theorem zTg:∃i,prog.info? 3=some i:=info_of_underlying underlying3
theorem zRw:prog.cellsOf 3=1:=by kernel_rfl
theorem zRI:KeyOk prog 163 zIc:=zRF (by rw[underlying163]) zUD (fun w a b=>by obtain ⟨i,hi⟩:=zTg;exact zYO underlying163 underlying3 hi zRw w a b) zQT
theorem zNz {w:World} {b e base:Nat} {u v:Value} (h:Blk w b #[u,v] e) (hb:base≤b):w.ownsRow base e 2 (.slice (some ⟨b,0,none⟩) 1 1) 1 [u,v]:=
 ⟨rfl,.inr ⟨b,1,#[u,v],rfl,hb,h,Nat.le_refl _,qD,rfl,rfl⟩⟩
theorem zWZ (w0:World) (first:Int×Int) (c most:Nat) (sv av:Value) (stp:Int×Int→Nat→Option (Int×Int)) (acc:Int×Int→Int) (hc:1≤c∧c≤16) (hm:1≤most∧most≤20000) (hac:∀k,Rch c stp first k→-1≤acc k∧acc k<2147483648)
  (hs:∀w k x,Ext w0 w→Rch c stp first k→x<c→zCJ prog sv #[.agg #[.int .i64 k.1,.int .i64 k.2],.int .i64 ((x:Nat):Int)] w fun r w'=>(∃q,r=.tuple #[.agg #[.int .i64 q.1,.int .i64 q.2],.bool (stp k x).isSome]∧∀b,stp k x=some b→q=b)∧Ext w w')
  (ha:∀w k,Ext w0 w→Rch c stp first k→zCJ prog av #[.agg #[.int .i64 k.1,.int .i64 k.2]] w fun r w'=>r=.int .i64 (acc k)∧Ext w w') :
  Ret prog 129 #[.agg #[.int .i64 first.1,.int .i64 first.2],.int .i64 ((c:Nat):Int),sv,av,.int .i64 ((most:Nat):Int)] w0 fun r w=>zJy c most stp acc first w0.heap.size r w∧Ext w0 w:=by
 have c1:∀k,(kcP k).length=2:=fun _=>rfl;refine qR func129 rfl ntmps129 rfl (fun E=>(zAA (zBY (v:=(.agg #[(I6 first.1),(I6 first.2)])) (c:=#[(I6 first.1),(I6 first.2)]) qD rfl rfl ?_)));intro bf wf Nf;have Ff:=Nf.ge E;replace E:=E.ext Nf.ext;have Bf:=Nf.blk;refine zBB (c:=#[(I6 0),(.slice none 0 0),(.slice none 0 0)]) qD zBn rfl ?_;intro br wr Nr;have Fr:=Nr.ge E;have Or_bf:=Nr.lt Bf;replace Bf:=Nr.keep Bf;replace E:=E.ext Nr.ext;have Br:=Nr.blk;refine qA (.bool false) rfl (zAB (zAA (qV (zAP (vs:=[(I6 first.1),(I6 first.2)]) rfl zEJ zCP rfl (Bf.cells rfl)) (zAc (ps:=[(0,(.agg #[(I6 first.1),(I6 first.2)]))]) (c:=#[(I6 first.1),(I6 first.2)]) qD rfl underlying197 zCP zJO qD qD qK ?_))));intro bs ws Ns;have Fs:=Ns.ge E;have Os_bf:=Ns.lt Bf;have Os_br:=Ns.lt Br;replace Bf:=Ns.keep Bf;replace Br:=Ns.keep Br;replace E:=E.ext Ns.ext;have Bs:=Ns.blk;refine qA (.slice (some ⟨bs,0,none⟩) 1 1) rfl (zAB (zAA (zEb zIc zFH qD ?_)));intro bm wm Nm;have Fm:=Nm.ge E;have Om_bf:=Nm.lt Bf;have Om_br:=Nm.lt Br;have Om_bs:=Nm.lt Bs;replace Bf:=Nm.keep Bf;replace Br:=Nm.keep Br;replace Bs:=Nm.keep Bs;replace E:=E.ext Nm.ext;intro Mm;refine qV (zAP (vs:=[(I6 first.1),(I6 first.2)]) rfl zEJ zCP rfl (Bf.cells rfl)) (zHm (k:=(first.1,first.2)) (v:=0) underlying198 (zRI) Mm rfl rfl rfl ?_);intro w1 S1 H1;replace Bf:=S1.keep qO Bf;replace Br:=S1.keep qO Br;replace Bs:=S1.keep qO Bs;replace E:=S1.step E qQ;replace Mm:=H1;refine qM (.map (some bm)) rfl (qA (.map (some bm)) rfl (zAB (zAA (zBB (c:=#[(I6 0),(.slice none 0 0),(.slice none 0 0)]) qD zBn rfl ?_))));intro bd wd Nd;have Fd:=Nd.ge E;have Od_bf:=Nd.lt Bf;have Od_br:=Nd.lt Br;have Od_bs:=Nd.lt Bs;have Od_bm:=Nd.ltM Mm;replace Bf:=Nd.keep Bf;replace Br:=Nd.keep Br;replace Bs:=Nd.keep Bs;replace Mm:=Nd.keepM Mm;replace E:=E.ext Nd.ext;have Bd:=Nd.blk;refine zAB (zAH (zAA (qA (I6 0) rfl (zAB (zAT ?_)))));obtain ⟨n1,dt⟩:∃n1,n1=bs:=⟨_,rfl⟩;obtain ⟨n2,ar⟩:∃n2,n2=(wd).heap.size:=⟨_,rfl⟩;have dx:br<n2∧bs<n2∧bm<n2∧bd<n2:=⟨by rw[ar];exact Br.lt,by rw[ar];exact Bs.lt,by rw[ar];exact Mm.lt,by rw[ar];exact Bd.lt⟩;have ck:w0.heap.size≤n1∧w0.heap.size≤n2:=qO
 have ed:(wd).ownsRow n1 163 2 (.slice (some ⟨bs,0,none⟩) 1 1) 1 ([first].map kcP).flatten:=zNz (base:=n1) Bs qO;refine zAo (fun nn_ σ W2=>∃(i:Nat) (ab:List (List Int)) (ks:List (Int×Int)) (ac:List Int) (vs:List Value) (sa ea af:Option Addr) (ae sn ec ag:Nat),(∃jj_,σ=zCT jj_ [(1,(I6 (c:Int))),(2,sv),(3,av),(4,(I6 (most:Int))),(10,(P6 br 0)),(13,(.map (some bm))),(14,(P6 bd 0)),(15,(I6 (i:Int))),(12,(.slice sa sn ae))])∧Chg zAe w0 W2∧Blk W2 br #[(I6 0),(.slice none 0 0),(.slice none 0 0)] 34∧zCG W2 bm zIc zFH (zBH ks 0)∧Blk W2 bd (#[Value.int .i64 0,.slice ea i ec,.slice af i ag]) 34∧(ExpP c stp first ks ab [])∧(ab.length=i)∧(ks.length≤most)∧(sn=ks.length)∧(i≤sn)∧(ac=(ks.take i).map acc)∧(W2.ownsRow n1 163 2 (.slice sa sn ae) sn (ks.map kcP).flatten)∧(OutSt W2 n2 (.slice ea i ec) (.slice af i ag) vs ac ab)∧(∀b,(Value.slice sa sn ae).ownBlock=some b→¬zHP (.slice ea i ec) (.slice af i ag) vs b∧b≠bm∧b≠bd)∧(n2≤W2.heap.size)∧nn_=most - i) (n:=most - 0) ?_ ?_
 ·exact ⟨0,[],[first],[],[],some ⟨bs,0,none⟩,none,none,1,1,0,0,zAs.out ⟨rfl,rfl,rfl,rfl,rfl,rfl,rfl,rfl,rfl,trivial⟩,E,Br,Mm,Bd,ExpP.start _ _ _,rfl,hm.1,rfl,qO,rfl,ed,OutSt.start _ _,(fun b hb=>⟨(fun h=>by rcases h with h|h|⟨i,v,h,_⟩;cases h;cases h;simp at h),(by have dk:bs=b:=Option.some.inj hb;omega),(by have dk:bs=b:=Option.some.inj hb;omega)⟩),qO,rfl⟩
 ·clear E Br Mm Bd;rintro _ _ W2 ⟨i,ab,ks,ac,vs,sa,ea,af,ae,sn,ec,ag,⟨j2,rfl⟩,E,Br,Mm,Bd,hC,bu,bb,be,du,a1,hS,hO,ah,ak,rfl⟩;refine zAH (zAA (qM (I6 (i:Int)) rfl (qM (.slice sa sn ae) rfl (qV (zAK (ad:=sa) (n:=sn) (cap:=ae) underlying197 rfl) (qV (zBA (k:=.i64) (a:=(i:Int)) (b:=(sn:Int)) rfl rfl) (zAB (qC rfl (fun dv=>?_) (fun dv=>?_))))))))
  ·obtain ⟨k,am⟩:=zAJ (l:=ks) (i:=i) qO;have c0:=hC.rch k (List.mem_of_getElem? am);obtain ⟨sb,rfl,db,hsc⟩:=zBS hS qO;obtain ⟨z0,hz0⟩:∃z0,z0=(W2).heap.size:=⟨_,rfl⟩;have dy:n2≤z0:=qO
   have bo:∀b,zHP (.slice ea i ec) (.slice af i ag) vs b→b<z0:=fun b hb=>by have:=(hO.lt hb).2;omega
   have d9:∀b,(Value.slice (some ⟨sb,0,none⟩) sn ae).ownBlock=some b→b<z0:=fun b hb=>by have:=(hS.lt b hb).2;omega
   refine zAO (zAC (zAH (zAT (zAA (qM (I6 (c:Int)) rfl (zEQ (n:=c) (z:=(I6 0)) (bytes:=8) qD underlying22 zAv zJs zDJ rfl rfl rfl qO qO ?_))))));intro bq wq Nq;have Fq:=Nq.ge E;have Oq_br:=Nq.lt Br;have Oq_bm:=Nq.ltM Mm;have Oq_bd:=Nq.lt Bd;replace Br:=Nq.keep Br;replace Mm:=Nq.keepM Mm;replace Bd:=Nq.keep Bd;replace hS:=zAg hS Nq.ext;replace hO:=hO.ext Nq.ext;replace ak:=Nat.le_trans ak Nq.ext.size;replace E:=E.ext Nq.ext;have Bq:=Nq.blk;refine qA (.slice (some ⟨bq,0,none⟩) c c) rfl (zAB (zAH (zAA (qM (I6 (c:Int)) rfl (qM (I6 0) rfl (zAB (zAT ?_)))))));have hqz:z0≤bq:=by have:=Nq.eq;omega
   rw[show List.replicate c (Value.int .i64 0)=(List.replicate c (0:Int)).map (Value.int .i64) by simp] at Bq;refine zAo (fun nn_ σ W4=>∃(x:Nat) (R:List Int) (ks:List (Int×Int)) (sa:Option Addr) (ae sn:Nat),(∃jj_,σ=zCT jj_ [(1,(I6 (c:Int))),(2,sv),(3,av),(4,(I6 (most:Int))),(10,(P6 br 0)),(13,(.map (some bm))),(14,(P6 bd 0)),(15,(I6 (i:Int))),(16,(.slice (some ⟨bq,0,none⟩) c c)),(35,(I6 (c:Int))),(36,(I6 (x:Int))),(12,(.slice sa sn ae))])∧Chg zAe w0 W4∧Blk W4 br #[(I6 0),(.slice none 0 0),(.slice none 0 0)] 34∧zCG W4 bm zIc zFH (zBH ks 0)∧Blk W4 bd (#[Value.int .i64 0,.slice ea i ec,.slice af i ag]) 34∧Blk W4 bq ((R.map (Value.int .i64)).toArray) 3∧(x≤c)∧(R.length=c)∧(ExpP c stp first ks ab (R.take x))∧(ks.length≤most)∧(ks[i]?=some k)∧(sn=ks.length)∧((ks.take i).map acc=ac)∧(W4.ownsRow n1 163 2 (.slice sa sn ae) sn (ks.map kcP).flatten)∧(OutSt W4 n2 (.slice ea i ec) (.slice af i ag) vs ac ab)∧(∀b,(Value.slice sa sn ae).ownBlock=some b→¬zHP (.slice ea i ec) (.slice af i ag) vs b∧b≠bm∧b≠bd∧b≠bq)∧(n2≤W4.heap.size)∧nn_=c - x) (n:=c - 0) ?_ ?_
   ·exact ⟨0,List.replicate c 0,ks,some ⟨sb,0,none⟩,ae,sn,zAs.out ⟨rfl,rfl,rfl,rfl,rfl,rfl,rfl,rfl,rfl,rfl,rfl,rfl,trivial⟩,E,Br,Mm,Bd,Bq,Nat.zero_le _,qP,(by simpa using hC),bb,am,be,a1.symm,hS,hO,(fun b hb=>⟨(ah b hb).1,(ah b hb).2.1,(ah b hb).2.2,fun e=>by have:=d9 b hb;omega⟩),ak,rfl⟩
   ·clear E Br Mm Bd Bq;rintro _ _ W4 ⟨x,R,ks,sa,ae,sn,⟨j4,rfl⟩,E,Br,Mm,Bd,Bq,hx,bh,hC,bb,am,be,bv,hS,hO,ah,ak,rfl⟩;refine zAA (qV (zBA (k:=.i64) (a:=(x:Int)) (b:=(c:Int)) rfl rfl) (zAB (zAH (qC rfl (fun ce=>?_) (fun ce=>?_)))))
    ·obtain ⟨aj,rfl,_,a4⟩:=zBS hS (by have:=zAE am;omega);have dw:i<sn:=by have:=zAE am;omega
     have b7:zAz (W4) aj (0+i*2) [.int .i64 k.1,.int .i64 k.2]:=zDO c1 a4 am;refine zAO (zAC (zAH (zAT (zAA (qM (I6 (x:Int)) rfl (qA (I6 (x:Int)) rfl (zAB (zAA (qM sv rfl (qM (.slice (some ⟨aj,0,none⟩) sn ae) rfl (qM (I6 (i:Int)) rfl (qV (zAD (b:=aj) (o:=0) (len:=sn) (cap:=ae) (i:=i) (o':=0+i*2) rfl rfl rfl underlying197 zCP qO qO) (qV (zAP (vs:=[(I6 k.1),(I6 k.2)]) rfl zEJ zCP rfl (b7)) (qM (I6 (x:Int)) rfl (zDD (fv:=sv) (vs:=[(.agg #[(I6 k.1),(I6 k.2)]),(I6 (x:Int))]) qD rfl rfl (hs _ k x E c0 qO) ?_)))))))))))))));rintro _ w9 ⟨⟨q,rfl,hq⟩,X9⟩;replace Br:=X9.keep Br;replace Mm:=X9.keepM Mm;replace Bd:=X9.keep Bd;replace Bq:=X9.keep Bq;replace E:=E.ext X9;have hS:=zAg hS X9;have hO:=hO.ext X9;have ak:=Nat.le_trans ak X9.size;obtain ⟨zz,hzz⟩:∃zz,zz=(w9).heap.size:=⟨_,rfl⟩;have cc:∀b,(Value.slice (some ⟨aj,0,none⟩) sn ae).ownBlock=some b→b<zz:=fun b hb=>by have:=(hS.lt b hb).2;omega
     have a6:(R.take x).length=x:=by simp;omega
     have a5:ks[ab.length]?=some k:=by rw[bu];exact am
     have d3:=zBp (L:=R) (s:=x) (x:=-1) qO;refine qM (.tuple #[(.agg #[(I6 q.1),(I6 q.2)]),(.bool ((stp k x).isSome))]) rfl (qV (zAb (vs:=#[(.agg #[(I6 q.1),(I6 q.2)]),(.bool ((stp k x).isSome))]) (v:=(.agg #[(I6 q.1),(I6 q.2)])) rfl rfl) (qV (zAb (vs:=#[(.agg #[(I6 q.1),(I6 q.2)]),(.bool ((stp k x).isSome))]) (v:=(.bool ((stp k x).isSome))) rfl rfl) (zAd (v:=(.agg #[(I6 q.1),(I6 q.2)])) (c:=#[(I6 q.1),(I6 q.2)]) (n:=2) qD zJO rfl zCP rfl rfl rfl qS ?_)));intro bz wz Nz;have Fz:=Nz.ge E;have Oz_br:=Nz.lt Br;have Oz_bm:=Nz.ltM Mm;have Oz_bd:=Nz.lt Bd;have Oz_bq:=Nz.lt Bq;replace Br:=Nz.keep Br;replace Mm:=Nz.keepM Mm;replace Bd:=Nz.keep Bd;replace Bq:=Nz.keep Bq;replace hS:=zAg hS Nz.ext;replace hO:=hO.ext Nz.ext;replace ak:=Nat.le_trans ak Nz.ext.size;replace E:=E.ext Nz.ext;have Bz:=Nz.blk;refine qA (.bool ((stp k x).isSome)) rfl (zAB (zAH (zAA (qM (.slice (some ⟨bq,0,none⟩) c c) rfl (qM (I6 (x:Int)) rfl (qV (zAD (b:=bq) (o:=0) (len:=c) (cap:=c) (i:=x) (o':=0+x) rfl rfl rfl underlying22 zAv qO qO) (zAt (b:=bq) (o:=0+x) (c':=((R.set x (-1)).map (Value.int .i64)).toArray) (v:=(I6 (-1))) rfl rfl rfl zAv Bq (by simp;omega) (zCW _) ?_)))))));intro w6 S6;replace hS:=zAn hS S6.chg fun b hb h=>(ah b hb).2.2.2 h;replace hO:=hO.chg S6.chg fun b hb h=>by have:=bo b hb;have h':b=bq:=h;omega
     replace ak:=Nat.le_trans ak S6.chg.size;replace Br:=S6.keep qO Br;replace Mm:=S6.keepM qO Mm;replace Bd:=S6.keep qO Bd;replace Bz:=S6.keep qO Bz;replace E:=S6.step E qQ;replace Bq:=S6.blk;refine zAB (zAA (qM (.bool ((stp k x).isSome)) rfl (qV (zCa (b:=(stp k x).isSome) rfl) (zAB (zAx (b:=!((stp k x).isSome)) rfl (fun au=>?_) (fun au=>?_))))))
     ·have cn:=au;replace au:=by simpa using au
      have b4:stp k x=none:=by simpa using au
      have d2:zJL stp ks k (R.take x).length (-1):=by unfold zJL;rw[a6,b4]
      refine zAl (zAV (zAf (zAC (zAF (qV (zAw (k:=.i64) (a:=(x:Int)) (b:=1) (c:=(x:Int)+1) rfl rfl (zBf qO)) (qM (I6 ((x:Int)+1)) rfl (zAB (zAC ?_))))))));exact ⟨c - (x+1),qO,x+1,R.set x (-1),ks,some ⟨aj,0,none⟩,ae,sn,zAs.out ⟨rfl,rfl,rfl,rfl,rfl,rfl,rfl,rfl,rfl,rfl,rfl,rfl,trivial⟩,E,Br,Mm,Bd,Bq,qO,(by simp[bh]),(by rw[d3];exact hC.add a5 d2),bb,am,be,bv,hS,hO,ah,ak,rfl⟩
     ·have cn:=au;replace au:=by simpa using au
      obtain ⟨q',cq⟩:=Option.isSome_iff_exists.1 (show (stp k x).isSome=true by simpa using au);have ef:=hq q' cq;subst ef;refine zAO (zAC (zAA (qM (.map (some bm)) rfl (qV (zAP (vs:=[(I6 q.1),(I6 q.2)]) rfl zEJ zCP rfl (Bz.cells rfl)) (zBo (v:=(.tuple #[(I6 ((zBk (zBH ks 0) (q.1,q.2)).getD 0)),(.bool ((zBk (zBH ks 0) (q.1,q.2)).isSome))])) rfl rfl qD (zEd (k:=(q.1,q.2)) (z:=0) underlying198 (zRI) zDJ Mm rfl rfl) (qM (.tuple #[(I6 ((zBk (zBH ks 0) (q.1,q.2)).getD 0)),(.bool ((zBk (zBH ks 0) (q.1,q.2)).isSome))]) rfl (qV (zAb (vs:=#[(I6 ((zBk (zBH ks 0) (q.1,q.2)).getD 0)),(.bool ((zBk (zBH ks 0) (q.1,q.2)).isSome))]) (v:=(I6 ((zBk (zBH ks 0) (q.1,q.2)).getD 0))) rfl rfl) (qV (zAb (vs:=#[(I6 ((zBk (zBH ks 0) (q.1,q.2)).getD 0)),(.bool ((zBk (zBH ks 0) (q.1,q.2)).isSome))]) (v:=(.bool ((zBk (zBH ks 0) (q.1,q.2)).isSome))) rfl rfl) (qA (I6 ((zBk (zBH ks 0) (q.1,q.2)).getD 0)) rfl (qA (.bool ((zBk (zBH ks 0) (q.1,q.2)).isSome)) rfl (zAB (zFq (fun σ W8=>∃(ax:List (Int×Int)) (j:Nat) (bw:Option Addr) (b1 a7:Nat),(∃jj_,σ=zCT jj_ [(1,(I6 (c:Int))),(2,sv),(3,av),(4,(I6 (most:Int))),(10,(P6 br 0)),(13,(.map (some bm))),(14,(P6 bd 0)),(15,(I6 (i:Int))),(16,(.slice (some ⟨bq,0,none⟩) c c)),(17,(I6 (x:Int))),(35,(I6 (c:Int))),(36,(I6 (x:Int))),(12,(.slice bw a7 b1)),(20,(I6 (j:Int)))])∧Chg zAe w0 W8∧Blk W8 br #[(I6 0),(.slice none 0 0),(.slice none 0 0)] 34∧zCG W8 bm zIc zFH (zBH ax 0)∧Blk W8 bd (#[Value.int .i64 0,.slice ea i ec,.slice af i ag]) 34∧Blk W8 bq (((R.set x (-1)).map (Value.int .i64)).toArray) 3∧Blk W8 bz #[(I6 q.1),(I6 q.2)] 163∧(ExpP c stp first ax ab (R.take x++[(j:Int)]))∧(ax.length≤most)∧(ax[i]?=some k)∧(a7=ax.length)∧((ax.take i).map acc=ac)∧(W8.ownsRow n1 163 2 (.slice bw a7 b1) a7 (ax.map kcP).flatten)∧(OutSt W8 n2 (.slice ea i ec) (.slice af i ag) vs ac ab)∧(∀b,(Value.slice bw a7 b1).ownBlock=some b→¬zHP (.slice ea i ec) (.slice af i ag) vs b∧b≠bm∧b≠bd∧b≠bq)∧(n2≤W8.heap.size)) ?_ ?_))))))))))))
      ·skip
       refine zAA (qM (.bool ((zBk (zBH ks 0) (q.1,q.2)).isSome)) rfl (qV (zCa (b:=(zBk (zBH ks 0) (q.1,q.2)).isSome) rfl) (zAB (zAx (b:=!((zBk (zBH ks 0) (q.1,q.2)).isSome)) rfl (fun ai=>?_) (fun ai=>?_)))))
       ·have b2:=ai;replace ai:=by simpa using ai
        have dn:zBk (zBH ks 0) q=none:=by simpa using ai
        obtain ⟨cl,b8⟩:=zGt dn;have b5:=hC.new a5 qO (by rw[a6];exact cq) cl;refine zAA (qM (.slice (some ⟨aj,0,none⟩) sn ae) rfl (qV (zAK (ad:=some ⟨aj,0,none⟩) (n:=sn) (cap:=ae) underlying197 rfl) (qA (I6 (sn:Int)) rfl (zAB (zAH (zAA (qM (I6 (sn:Int)) rfl (qM (I6 (most:Int)) rfl (qV (zAq (k:=.i64) (a:=(sn:Int)) (b:=(most:Int)) rfl rfl) (zAB (qC rfl (fun bk=>?_) (fun bk=>?_))))))))))))
        ·refine zAA (qV (zBF (ps:=[]) (v:=(.agg #[(I6 0),(.slice none 0 0),(.slice none 0 0)])) rfl qK) (zAa (b:=br) (o:=0) (c':=#[(I6 0),(.slice none 0 0),(.slice none 0 0)]) rfl rfl qS zAi rfl Br qL rfl ?_));intro w11 bg;replace Mm:=bg.keepM qO Mm;replace Bd:=bg.keep qO Bd;replace Bq:=bg.keep qO Bq;replace Bz:=bg.keep qO Bz;replace E:=bg.step E qQ;replace Br:=bg.blk;refine qA (.bool false) rfl (zAB (zAW (zAX (zAX (zAh (zAX (zAX (zAh (zAX (zAh (zAX (zAX (zAh (zAX (zBG results129 (vs:=[(.int .i64 0),(.slice none 0 0),(.slice none 0 0)]) (b:=br) (v':=(.bool false)) rfl zBC zAi rfl (Br.cells rfl) rfl ?_)))))))))))))));exact ⟨.inr ⟨fun hF=>by have h9:=hF _ b5.nd b5.rch;rw[List.length_append,List.length_singleton] at h9;omega,rfl⟩,E⟩
        ·refine zAO (zAC (zAA (qM (.map (some bm)) rfl (qV (zAP (vs:=[(I6 q.1),(I6 q.2)]) rfl zEJ zCP rfl (Bz.cells rfl)) (qM (I6 (sn:Int)) rfl (zDL (k:=(q.1,q.2)) (v:=(sn:Int)) underlying198 (zRI) Mm rfl rfl rfl ?_))))));intro w12 a3 de;replace hS:=zAn hS a3.chg fun b hb h=>(ah b hb).2.1 h;replace hO:=hO.chg a3.chg fun b hb h=>by have:=(hO.lt hb).1;have h':b=bm:=h;omega
         replace ak:=Nat.le_trans ak a3.chg.size;replace Br:=a3.keep qO Br;replace Bd:=a3.keep qO Bd;replace Bq:=a3.keep qO Bq;replace Bz:=a3.keep qO Bz;replace E:=a3.step E qQ;replace Mm:=de;refine zAB (zAF (qM (.slice (some ⟨aj,0,none⟩) sn ae) rfl (qV (zAP (vs:=[(I6 q.1),(I6 q.2)]) rfl zEJ zCP rfl (Bz.cells rfl)) (zAc (ps:=[(0,(.agg #[(I6 q.1),(I6 q.2)]))]) (c:=#[(I6 q.1),(I6 q.2)]) qD rfl underlying197 zCP zJO qD qD qK ?_))));intro b13 dj al;have F13:=al.ge E;have O13_br:=al.lt Br;have O13_bm:=al.ltM Mm;have O13_bd:=al.lt Bd;have O13_bq:=al.lt Bq;have O13_bz:=al.lt Bz;replace Br:=al.keep Br;replace Mm:=al.keepM Mm;replace Bd:=al.keep Bd;replace Bq:=al.keep Bq;replace Bz:=al.keep Bz;replace hS:=zAg hS al.ext;replace hO:=hO.ext al.ext;replace ak:=Nat.le_trans ak al.ext.size;replace E:=E.ext al.ext;have dq:=al.blk;have df:bq<(dj).heap.size:=Bq.lt;refine zBt (base:=n1) (n:=sn) (m:=1) (xs:=(ks.map kcP).flatten) (news:=[(I6 q.1),(I6 q.2)]) (size:=2) (bytes:=16) (v:=(.slice (some ⟨aj,0,none⟩) sn ae)) qD underlying197 zCP zYa zJO rfl qD rfl hS rfl (rfl) (dq.cells rfl) qS (by unfold maxLen;omega) qO (qO) ?_;intro v7 c4 cv az d6;replace Br:=az.keep (fun h=>by have:=(hS.lt _ h).1;omega) Br;replace Mm:=az.keepM (fun h=>(ah _ h).2.1 rfl) Mm;replace Bd:=az.keep (fun h=>(ah _ h).2.2.1 rfl) Bd;replace Bq:=az.keep (fun h=>(ah _ h).2.2.2 rfl) Bq;replace Bz:=az.keep (fun h=>(by have:=cc _ h;have:=Nz.eq;omega)) Bz;replace E:=E.step az (fun x hx h=>absurd (hS.lt x h).1 qO);obtain ⟨cs,cw,rfl⟩:=zBR cv;replace Mm:zCG (c4) bm zIc zFH (zHq (zBH ks 0) q ((sn:Nat):Int)):=Mm;rw[be,b8] at Mm;refine qA (.slice cs (sn+1) cw) rfl (zAB (zAC ?_));exact ⟨ks++[q],sn,cs,cw,sn+1,zAs.out ⟨rfl,rfl,rfl,rfl,rfl,rfl,rfl,rfl,rfl,rfl,rfl,rfl,rfl,rfl,trivial⟩,E,Br,Mm,Bd,Bq,Bz,(by rw[be];exact b5),(by rw[List.length_append,List.length_singleton];omega),(by rw[List.getElem?_append_left (zAE am)];exact am),(by simp;omega),(by rw[List.take_append_of_le_length (by have:=zAE am;omega)];exact bv),(by rw[List.map_append,List.flatten_append];exact cv),hO.chg az (fun b hb h=>(ah b h).1 hb),(fun b hb=>by rcases d6 b hb with h9|h9;exact ah b h9;exact ⟨fun ho=>by have:=(hO.lt ho).2;omega,qO,qO,qO⟩),Nat.le_trans ak az.size⟩
       ·have b2:=ai;replace ai:=by simpa using ai
        have eb:(zBk (zBH ks 0) q).isSome=true:=by simpa using ai
        obtain ⟨v9,cy⟩:=Option.isSome_iff_exists.1 eb;obtain ⟨j9,rfl,eh⟩:=zIb cy;rw[show (zBk (zBH ks 0) (q.1,q.2)).getD 0=((j9:Nat):Int) from by show (zBk (zBH ks 0) q).getD 0=_;rw[cy];rfl];refine zAO (zAC ?_);exact ⟨ks,j9,some ⟨aj,0,none⟩,ae,sn,zAs.out ⟨rfl,rfl,rfl,rfl,rfl,rfl,rfl,rfl,rfl,rfl,rfl,rfl,rfl,rfl,trivial⟩,E,Br,Mm,Bd,Bq,Bz,hC.add a5 (by unfold zJL;rw[a6,cq];exact ⟨j9,rfl,eh⟩),bb,am,be,bv,hS,hO,ah,ak⟩
      ·clear E Br Mm Bd Bq Bz;rintro _ W8 ⟨ax,j,bw,b1,a7,⟨j8,rfl⟩,E,Br,Mm,Bd,Bq,Bz,d4,b3,cd,ca,b9,cj,cp,b0,bc⟩;have co:=zBp (L:=R.set x (-1)) (s:=x) (x:=((j:Nat):Int)) (by simp;omega);refine zAF (qM (.slice (some ⟨bq,0,none⟩) c c) rfl (qM (I6 (x:Int)) rfl (qM (I6 (j:Int)) rfl (qV (zAD (b:=bq) (o:=0) (len:=c) (cap:=c) (i:=x) (o':=0+x) rfl rfl rfl underlying22 zAv qO qO) (zAt (b:=bq) (o:=0+x) (c':=(((R.set x (-1)).set x (j:Int)).map (Value.int .i64)).toArray) (v:=(I6 (j:Int))) rfl rfl rfl zAv Bq (by simp;omega) (zCW _) ?_)))));intro w14 aq;replace cj:=zAn cj aq.chg fun b hb h=>(b0 b hb).2.2.2 h;replace cp:=cp.chg aq.chg fun b hb h=>by have:=bo b hb;have h':b=bq:=h;omega
       replace bc:=Nat.le_trans bc aq.chg.size;replace Br:=aq.keep qO Br;replace Mm:=aq.keepM qO Mm;replace Bd:=aq.keep qO Bd;replace Bz:=aq.keep qO Bz;replace E:=aq.step E qQ;replace Bq:=aq.blk;refine zAB (zAS (zAC (zAF (qV (zAw (k:=.i64) (a:=(x:Int)) (b:=1) (c:=(x:Int)+1) rfl rfl (zBf qO)) (qM (I6 ((x:Int)+1)) rfl (zAB (zAC ?_)))))));exact ⟨c - (x+1),qO,x+1,(R.set x (-1)).set x ((j:Nat):Int),ax,bw,b1,a7,zAs.out ⟨rfl,rfl,rfl,rfl,rfl,rfl,rfl,rfl,rfl,rfl,rfl,rfl,trivial⟩,E,Br,Mm,Bd,Bq,qO,(by simp[bh]),(by rw[co,List.take_set_of_le (Nat.le_refl x)];exact d4),b3,cd,ca,b9,cj,cp,b0,bc,rfl⟩
    ·have dd:x=c:=qO
     rw[dd,show R.take c=R by rw[←bh,List.take_length]] at hC;obtain ⟨n4,c3⟩:∃n4,n4=(W4).heap.size:=⟨_,rfl⟩;have dw:=zAE am;obtain ⟨aj,rfl,_,a4⟩:=zBS hS qO;have b7:zAz (W4) aj (0+i*2) [.int .i64 k.1,.int .i64 k.2]:=zDO c1 a4 am;have bt:ac.length=i:=by rw[←bv,List.length_map,List.length_take];omega
     have an:(W4).ownsRow n2 TDI 1 (.slice ea i ec) i (ac.map (Value.int .i64)):=by have h9:=hO.e;rwa [bt] at h9
     have ap:(W4).ownsRow n2 zDf 1 (.slice af i ag) i vs:=hO.n.on (by rw[List.length_map];omega);have eg:=bb;have dl:=Bq.lt;have dz:=zFN (base:=bq) Bq (Nat.le_refl _) bh;refine zAl (zAV (zAV (zAf (zAC ?_))));obtain ⟨ch,aa⟩:∃Fs:List zEL,Fs=[(fun _ v _=>v=(P6 bd 2)),(fun _ v _=>v=(.slice af i ag)),(fun _ v _=>v=(.slice (some ⟨bq,0,none⟩) c c)),(fun _=>zEF zDf #[.slice (some ⟨bq,0,none⟩) c c] n4),(fun _=>zDI n2 zDf 1 (i+1) (vs++[Value.slice (some ⟨bq,0,none⟩) c c]) (.slice af i ag) n4),(fun _ v _=>v=(P6 bd 1)),(fun _ v _=>v=(.slice ea i ec)),(fun _ v _=>v=av),(fun _ v _=>v=(.slice (some ⟨aj,0,none⟩) sn ae)),(fun _ v _=>v=(I6 (i:Int))),(fun _ v _=>v=(.pointer (some ⟨aj,0+i*2,none⟩))),(fun _ v _=>v=(.agg #[(I6 k.1),(I6 k.2)])),(fun _ v _=>v=(I6 (acc k))),(fun _=>zEF TDI #[.int .i64 (acc k)] n4),(fun s v w=>zDI n2 TDI 1 (i+1) (ac.map (Value.int .i64)++[Value.int .i64 (acc k)]) (.slice ea i ec) n4 v w∧∀b,(s 84).ownBlock=some b→v.ownBlock≠some b),(fun _ v _=>v=(P6 bd 2))]:=⟨_,rfl⟩;refine zHM (two 4 14 (fun b=>(Value.slice af i ag).ownBlock=some b) (fun b=>(Value.slice ea i ec).ownBlock=some b)) 16 [80,81,82,83,84,85,86,87,88,89,90,91,92,93,94,95] [[],[0],[],[2],[1,3],[],[5],[],[],[],[8,9],[10],[4,7,11],[12],[6,12,13],[0,1,2,3,4,5,6]] [[],[0],[],[2],[1,0,3,2],[],[5],[],[],[],[8,9],[10,8,9],[4,1,0,3,2,7,11,10,8,9],[12,4,1,0,3,2,7,11,10,8,9],[6,5,12,4,1,0,3,2,7,11,10,8,9,13],[0,1,2,3,4,5,6]] ch aa qK mixed qK qK qK ?_ ?_
     ·intro wd X0;refine DagStepsX.cons (zBD.eq) (fun _ _ _ _ _ h=>h) (fun s' w' X U H=>?_) ?_
      ·exact zAQ (zAY (b:=bd) (o:=0) (o':=2) (U 14 rfl) underlying34 rfl zBr rfl) (Chg.refl _ _) rfl
      refine DagStepsX.cons (zBD.eq) (fun _ _ _ _ _ h=>h) (fun s' w' X U H=>?_) ?_
      ·have da:=H 0 rfl 80 _ rfl (by rw[aa];rfl);exact zAQ (zAG (v:=(.slice af i ag)) da zBh ((Chg.keep X (fun h=>(fun h=>h.elim (fun h=>by have:=(ap.lt _ h).1;omega) (fun h=>by have:=(an.lt _ h).1;omega)) (zEO.or h)) (X0.keep Bd)).cell rfl)) (Chg.refl _ _) rfl
      refine DagStepsX.cons (zBD.eq) (fun _ _ _ _ _ h=>h) (fun s' w' X U H=>?_) ?_
      ·exact zAQ (zAj (v:=(.slice (some ⟨bq,0,none⟩) c c)) (U 16 rfl)) (Chg.refl _ _) rfl
      refine DagStepsX.cons (zCV (fun y h=>by have:=(ap.lt y h).2;omega) (fun y h=>by have:=(an.lt y h).2;omega)) (zIt.const) (fun s' w' X U H=>?_) ?_
      ·have dm:=H 2 rfl 82 _ rfl (by rw[aa];rfl);exact zCH (hs:=n4) underlying32 zBE zEj dm qD qD qK (by have:=X0.size;have:=X.size;omega)
      refine DagStepsX.cons (zGk (fun k hk hm=>hk.elim (fun h=>hO.en k hm h) (fun h=>by have:=(an.lt k hm).2;omega))) (zIt.const) (fun s' w' X U H=>?_) ?_
      ·have d8:=H 1 rfl 81 _ rfl (by rw[aa];rfl);obtain ⟨b83,d0,c8,g83⟩:=(show ((fun _=>zEF zDf #[.slice (some ⟨bq,0,none⟩) c c] n4):zEL) s' (s' 83) w' from H 3 rfl 83 ((fun _=>zEF zDf #[.slice (some ⟨bq,0,none⟩) c c] n4)) rfl (by rw[aa];rfl));exact zBe (hs:=n4) underlying32 zBE zNN zEj rfl qD d8 (zAg (zAg ap X0) (X.mono (fun y _ h=>zEO.none rfl rfl h))) d0 rfl (c8.cells rfl) qS (by unfold maxLen;omega) qO (by have:=X0.size;have:=X.size;omega) (fun y h=>h) (by have:=X0.size;have:=X.size;omega)
      refine DagStepsX.cons (zBD.eq) (fun _ _ _ _ _ h=>h) (fun s' w' X U H=>?_) ?_
      ·exact zAQ (zAY (b:=bd) (o:=0) (o':=1) (U 14 rfl) underlying34 rfl zBE rfl) (Chg.refl _ _) rfl
      refine DagStepsX.cons (zBD.eq) (fun _ _ _ _ _ h=>h) (fun s' w' X U H=>?_) ?_
      ·have dp:=H 5 rfl 85 _ rfl (by rw[aa];rfl);exact zAQ (zAG (v:=(.slice ea i ec)) dp zBI ((Chg.keep X (fun h=>(fun h=>h.elim (fun h=>by have:=(ap.lt _ h).1;omega) (fun h=>by have:=(an.lt _ h).1;omega)) (zEO.or h)) (X0.keep Bd)).cell rfl)) (Chg.refl _ _) rfl
      refine DagStepsX.cons (zBD.eq) (fun _ _ _ _ _ h=>h) (fun s' w' X U H=>?_) ?_
      ·exact zAQ (zAj (v:=av) (U 3 rfl)) (Chg.refl _ _) rfl
      refine DagStepsX.cons (zBD.eq) (fun _ _ _ _ _ h=>h) (fun s' w' X U H=>?_) ?_
      ·exact zAQ (zAj (v:=(.slice (some ⟨aj,0,none⟩) sn ae)) (U 12 rfl)) (Chg.refl _ _) rfl
      refine DagStepsX.cons (zBD.eq) (fun _ _ _ _ _ h=>h) (fun s' w' X U H=>?_) ?_
      ·exact zAQ (zAj (v:=(I6 (i:Int))) (U 15 rfl)) (Chg.refl _ _) rfl
      refine DagStepsX.cons (zBD.eq) (fun _ _ _ _ _ h=>h) (fun s' w' X U H=>?_) ?_
      ·have ee:=H 8 rfl 88 _ rfl (by rw[aa];rfl);have c9:=H 9 rfl 89 _ rfl (by rw[aa];rfl);exact zAQ (zAD (b:=aj) (o:=0) (len:=sn) (cap:=ae) (i:=i) (o':=0+i*2) ee c9 rfl underlying197 zCP qO qO) (Chg.refl _ _) rfl
      refine DagStepsX.cons (zBD.eq) (fun _ _ _ _ _ h=>h) (fun s' w' X U H=>?_) ?_
      ·have dc:=H 10 rfl 90 _ rfl (by rw[aa];rfl);exact zAQ (zAP (vs:=[(I6 k.1),(I6 k.2)]) dc zEJ zCP rfl (fun j v hv=>Chg.cell X (fun h=>(zEO.or h).elim (fun h=>(ah _ rfl).1 (.inr (.inl h))) (fun h=>(ah _ rfl).1 (.inl h))) (X0.cell (b7 j v hv)))) (Chg.refl _ _) rfl
      refine DagStepsX.cons (zBD.eq) (fun _ _ _ _ _ h=>h) (fun s' w' X U H=>?_) ?_
      ·have ds:=H 7 rfl 87 _ rfl (by rw[aa];rfl);have dg:=H 11 rfl 91 _ rfl (by rw[aa];rfl);exact zGC (fv:=av) (vs:=[.agg #[.int .i64 k.1,.int .i64 k.2]]) ds (zPI dg) ((ha w' k ((E.ext X0).step X (fun y hy h=>(zEO.or h).elim (fun h=>by have:=(ap.lt y h).1;omega) (fun h=>by have:=(an.lt y h).1;omega))) c0).mono (fun v w h=>⟨h.1,Ext.chg h.2⟩))
      refine DagStepsX.cons (zCV (fun y h=>by have:=(ap.lt y h).2;omega) (fun y h=>by have:=(an.lt y h).2;omega)) (zIt.const) (fun s' w' X U H=>?_) ?_
      ·have di:=H 12 rfl 92 _ rfl (by rw[aa];rfl);exact zCH (hs:=n4) underlying22 zAv zDJ di qD qD qK (by have:=X0.size;have:=X.size;omega)
      refine DagStepsX.cons (zGj rfl) (fun s1 s2 h v w h2=>⟨h2.1,by have:=h 4 84 rfl rfl;rw[this];exact h2.2⟩) (fun s' w' X U H=>?_) ?_
      ·have c6:=H 6 rfl 86 _ rfl (by rw[aa];rfl);obtain ⟨b93,dh,d7,g93⟩:=(show ((fun _=>zEF TDI #[.int .i64 (acc k)] n4):zEL) s' (s' 93) w' from H 13 rfl 93 ((fun _=>zEF TDI #[.int .i64 (acc k)] n4)) rfl (by rw[aa];rfl));exact zHK (H 4 rfl 84 _ rfl (by rw[aa];rfl)) (zBe (hs:=w'.heap.size) underlying22 zAv zJs zDJ rfl qD c6 (zAn (zAg an X0) (X.mono (fun y _ h=>zEO.fst rfl h)) (fun k hk hm=>hO.en k hk hm)) dh rfl (d7.cells rfl) qS (by unfold maxLen;omega) qO (by have:=X0.size;have:=X.size;omega) (fun y h=>h) (Nat.le_refl _)) (by have:=X0.size;have:=X.size;omega) (fun k h1 h2=>h1.elim (fun h=>hO.en k h2 h) (fun h=>by have:=(an.lt k h2).2;omega))
      refine DagStepsX.cons (zBD.eq) (fun _ _ _ _ _ h=>h) (fun s' w' X U H=>?_) ?_
      ·exact zAQ (zAY (b:=bd) (o:=0) (o':=2) (U 14 rfl) underlying34 rfl zBr rfl) (Chg.refl _ _) rfl
      exact DagStepsX.nil
     ·intro s' c7 cx X0 ay U H;replace ay:=ay.mono (M':=fun y=>(fun b=>(Value.slice af i ag).ownBlock=some b) y∨(fun b=>(Value.slice ea i ec).ownBlock=some b) y) (fun y _ h=>by obtain ⟨j,h⟩:=h;rcases zFB h with h|h;exact .inl h.2;exact .inr h.2);obtain ⟨⟨ba,a9,c2⟩,ct,cf⟩:=(show ((fun _=>zDI n2 zDf 1 (i+1) (vs++[Value.slice (some ⟨bq,0,none⟩) c c]) (.slice af i ag) n4):zEL) s' (s' 84) cx from H 4 84 ((fun _=>zDI n2 zDf 1 (i+1) (vs++[Value.slice (some ⟨bq,0,none⟩) c c]) (.slice af i ag) n4)) rfl (by rw[aa];rfl));obtain ⟨⟨⟨bj,bi,cz⟩,cu,cr⟩,cm⟩:=(show ((fun s v w=>zDI n2 TDI 1 (i+1) (ac.map (Value.int .i64)++[Value.int .i64 (acc k)]) (.slice ea i ec) n4 v w∧∀b,(s 84).ownBlock=some b→v.ownBlock≠some b):zEL) s' (s' 94) cx from H 14 94 ((fun s v w=>zDI n2 TDI 1 (i+1) (ac.map (Value.int .i64)++[Value.int .i64 (acc k)]) (.slice ea i ec) n4 v w∧∀b,(s 84).ownBlock=some b→v.ownBlock≠some b)) rfl (by rw[aa];rfl));have dr:s' 95=(.pointer (some ⟨bd,2,none⟩)):=H 15 95 ((fun _ v _=>v=(.pointer (some ⟨bd,2,none⟩)))) rfl (by rw[aa];rfl);obtain ⟨j15,rfl⟩:=zAs.out (σ:=s') (l:=[(1,(.int .i64 ((c:Nat):Int))),(2,sv),(3,av),(4,(.int .i64 ((most:Nat):Int))),(10,(.pointer (some ⟨br,0,none⟩))),(12,(.slice (some ⟨aj,0,none⟩) sn ae)),(13,(.map (some bm))),(14,(.pointer (some ⟨bd,0,none⟩))),(15,(.int .i64 ((i:Nat):Int))),(84,(.slice ba (i+1) a9)),(94,(.slice bj (i+1) bi)),(95,(.pointer (some ⟨bd,2,none⟩)))]) ⟨U 1 rfl,U 2 rfl,U 3 rfl,U 4 rfl,U 10 rfl,U 12 rfl,U 13 rfl,U 14 rfl,U 15 rfl,c2,cz,dr,trivial⟩;clear U H;replace Br:=Chg.keep ay (fun h=>h.elim (fun h=>by have:=(ap.lt _ h).1;omega) (fun h=>by have:=(an.lt _ h).1;omega)) (X0.keep Br);replace Mm:=Chg.keepM ay (fun h=>h.elim (fun h=>by have:=(ap.lt _ h).1;omega) (fun h=>by have:=(an.lt _ h).1;omega)) (X0.keepM Mm);replace Bd:=Chg.keep ay (fun h=>h.elim (fun h=>by have:=(ap.lt _ h).1;omega) (fun h=>by have:=(an.lt _ h).1;omega)) (X0.keep Bd);replace Bq:=Chg.keep ay (fun h=>h.elim (fun h=>by have:=bo _ (.inr (.inl h));omega) (fun h=>by have:=bo _ (.inl h);omega)) (X0.keep Bq);have cg:=Chg.trans (Ext.chg X0) ay;replace E:=(E.ext X0).step ay (fun y hy h=>h.elim (fun h=>by have:=(ap.lt y h).1;omega) (fun h=>by have:=(an.lt y h).1;omega));rw[c2] at ct cf cm;rw[cz] at cu cr cm;have a8:=hO.push (y:=acc k) (N':=.slice ba (i+1) a9) (E':=.slice bj (i+1) bi) dz bh.symm qO (fun b hb=>by have:=bo b hb;omega) cg (by rw[bu];exact ct) (fun k hk=>by rw[←c3];exact cf k hk) (by rw[bt,List.map_append];exact cu) (fun k hk=>by rw[←c3];exact cr k hk) cm;have bx:=zAn hS cg (fun b hb h=>h.elim (fun h=>(ah b hb).1 (.inr (.inl h))) (fun h=>(ah b hb).1 (.inl h)));have ao:=Nat.le_trans ak cg.size;have b6:∀b,(Value.slice (some ⟨aj,0,none⟩) sn ae).ownBlock=some b→¬zHP (.slice bj (i+1) bi) (.slice ba (i+1) a9) (vs++[.slice (some ⟨bq,0,none⟩) c c]) b∧b≠bm∧b≠bd:=fun b hb=>⟨fun ho=>zHr ⟨(ah b hb).1,(ah b hb).2.2.2⟩ (by have:=(hS.lt b hb).2;omega) cf cr ho,(ah b hb).2.1,(ah b hb).2.2.1⟩;refine zAt (b:=bd) (o:=2) (c':=#[(I6 0),(.slice ea i ec),(.slice ba (i+1) a9)]) (v:=(.slice ba (i+1) a9)) rfl rfl rfl zBr Bd qP rfl ?_;intro w16 a2;replace a8:=a8.chg a2.chg fun b hb h=>by have:=(a8.lt hb).1;have h':b=bd:=h;omega
      replace bx:=zAn bx a2.chg fun b hb h=>(ah b hb).2.2.1 h;replace ao:=Nat.le_trans ao a2.chg.size;replace Br:=a2.keep qO Br;replace Mm:=a2.keepM qO Mm;replace Bq:=a2.keep qO Bq;replace E:=a2.step E qQ;replace Bd:=a2.blk;refine qF bd 0 1 rfl underlying34 rfl zBE rfl (zAt (b:=bd) (o:=1) (c':=#[(I6 0),(.slice bj (i+1) bi),(.slice ba (i+1) a9)]) (v:=(.slice bj (i+1) bi)) rfl rfl rfl zBE Bd qP rfl ?_);intro w17 a0;replace a8:=a8.chg a0.chg fun b hb h=>by have:=(a8.lt hb).1;have h':b=bd:=h;omega
      replace bx:=zAn bx a0.chg fun b hb h=>(ah b hb).2.2.1 h;replace ao:=Nat.le_trans ao a0.chg.size;replace Br:=a0.keep qO Br;replace Mm:=a0.keepM qO Mm;replace Bq:=a0.keep qO Bq;replace E:=a0.step E qQ;replace Bd:=a0.blk;refine zAB (zAS (zAC (zAF (qM (I6 (i:Int)) rfl (qV (zAw (k:=.i64) (a:=(i:Int)) (b:=1) (c:=(i:Int)+1) rfl rfl (zBf qO)) (qA (I6 ((i:Int)+1)) rfl (zAB (zAC ?_))))))));exact ⟨most - (i+1),qO,i+1,ab++[R],ks,ac++[acc k],vs++[.slice (some ⟨bq,0,none⟩) c c],some ⟨aj,0,none⟩,bj,ba,ae,sn,bi,a9,zAs.out ⟨rfl,rfl,rfl,rfl,rfl,rfl,rfl,rfl,rfl,trivial⟩,E,Br,Mm,Bd,hC.rowed bh,(by simp[bu]),bb,be,qO,(by rw[zDs am,List.map_append,bv];rfl),bx,a8,b6,ao,rfl⟩
  ·have d5:i=ks.length:=qO
   have cb:ab.length=ks.length:=qO
   obtain ⟨ci,c5⟩:=hC.done (acc:=acc) cb (fun k hk=>(hac k (hC.rch k hk)).1);have aw:ac=ks.map acc:=by rw[a1,d5,List.take_length]
   refine zAl (zAV (zAV (zAf (zAC (zAA (qV (zAP (vs:=[(I6 0),(.slice ea i ec),(.slice af i ag)]) rfl zBC zAi rfl (Bd.cells rfl)) (zAa (b:=br) (o:=0) (c':=#[(I6 0),(.slice ea i ec),(.slice af i ag)]) rfl rfl qS zAi rfl Br qL rfl ?_)))))));intro w18 bn;replace hO:=hO.chg bn.chg fun b hb h=>by have:=(hO.lt hb).1;have h':b=br:=h;omega
   replace Mm:=bn.keepM qO Mm;replace Bd:=bn.keep qO Bd;replace E:=bn.step E qQ;replace Br:=bn.blk;refine qA (.bool true) rfl (zAB (zAW (zBG results129 (vs:=[(.int .i64 0),(.slice ea i ec),(.slice af i ag)]) (b:=br) (v':=(.bool true)) rfl zBC zAi rfl (Br.cells rfl) rfl (⟨.inl ⟨(hC.all cb).mono bb,⟨0,ac,ab⟩,_,fun mx d1=>⟨?_,?_,rfl,?_,?_⟩,rfl,?_⟩,E⟩))))
   ·rw[aw];show OkD ab.length c _;rw[cb];exact ci
   ·show ab.length≤mx;have:=d1 ks hC.nd hC.rch;omega
   ·rw[aw];exact c5
   ·intro x hx;have hx:x∈ac:=hx;rw[aw] at hx;obtain ⟨u,hu,rfl⟩:=List.mem_map.1 hx;exact (hac u (hC.rch u hu)).2
   ·have bp:ac.length=i:=by rw[aw,List.length_map];omega
    exact ⟨ea,ec,af,ag,vs,by show Value.agg #[_,_,_]=.agg #[_,.slice ea ac.length ec,.slice af ab.length ag];rw[bp,bu],by show OutSt _ _ (.slice ea ac.length ec) (.slice af ab.length ag) vs ac ab;rw[bp,bu];exact hO.low ck.2⟩
end Go.Proofs
namespace Go.Eng
open Go
def zPT (l:List Oper) (t u:Nat):Bool:=match l[t]? with
  | some o=>o.after.any fun e=>Region.binds .any e && Nat.beq e.on u
  | none=>false
def zLq (hd:List Bool) (o:Oper):Bool:=match o.guard with|some p=>hd.getD p.1 false|none=>true
def zFz (N:Nat) (hd:List Bool):Nat→List Oper→List Nat→List (List Nat)→List Bool→Bool
  | _,[],[],[],[]=>true
  | i,o::l,d::ds,ws::wss,h::hs=>(bif h then zFR N i o d ws && ((o.after.all fun e=>!Region.binds .any e || hd.getD e.on false) && zLq hd o) else Nat.ble N d) && zFz N hd (i+1) l ds wss hs
  | _,_,_,_,_=>false
def zQE (l:List Oper) (hd:List Bool) (ts:List Nat):Bool:=
 (List.range l.length).all fun i=>hd.getD i false || (ts.contains i && ((List.range l.length).all (fun u=>!hd.getD u false || zPT l i u) || ts.any fun p=>!hd.getD p true && zPT l i p))
def zMt (ops:Array Oper):List Nat→Array Bool→Bool
  | [],listed=>(Region.ready .any ops listed).isEmpty
  | k::ks,listed=>decide (Region.ready .any ops listed=[k]) && zMt ops ks (listed.setIfInBounds k true)
theorem zEk {P:Program} {ops:Array Oper} {Q':Exit→Act→World→Prop}:∀(ks:List Nat) (listed:Array Bool) (a:Act) (w:World),zMt ops ks listed=true→wpList P ops Q' (ks.filterMap fun k=>ops[k]?) a w→wpAny P .any ops Q' ks.length listed a w
  | [],_,_,_,hB,h=>⟨by simpa[zMt] using hB,h⟩
  | k::ks,listed,a,w,hB,h=>by
    simp only[zMt,Bool.and_eq_true,decide_eq_true_eq] at hB;refine ⟨fun h1=>(by rw[hB.1] at h1;cases h1),fun i hi=>?_⟩;have hi0:=hi;rw[hB.1] at hi;have hik:i=k:=by simpa using hi
    subst hik;obtain ⟨_,o,h0,_⟩:=mem_ready.1 hi0;have hw:wpOp P ops Q' i (wpList P ops Q' (ks.filterMap fun k=>ops[k]?)) a w:=by
      rw[List.filterMap_cons,h0] at h;unfold wpOp;simp only[h0];exact h
    exact wpOp_mono (fun a' w' h'=>zEk ks _ a' w' hB.2 h') hw
theorem zGe {N:Nat} {hd:List Bool}:∀{i:Nat} {l:List Oper} {ds:List Nat} {wss:List (List Nat)} {hs:List Bool},zFz N hd i l ds wss hs=true→∀{j:Nat} {o:Oper},l[j]?=some o→∃d ws h,ds[j]?=some d∧wss[j]?=some ws∧hs[j]?=some h∧(bif h then zFR N (i+j) o d ws && ((o.after.all fun e=>!Region.binds .any e || hd.getD e.on false) && zLq hd o) else Nat.ble N d)=true
  | _,[],_,_,_,_,j,o,h=>by simp at h
  | i,x::l,[],_,_,hB,_,_,_=>by simp[zFz] at hB
  | i,x::l,d::ds,[],_,hB,_,_,_=>by simp[zFz] at hB
  | i,x::l,d::ds,ws::wss,[],hB,_,_,_=>by simp[zFz] at hB
  | i,x::l,d::ds,ws::wss,h0::hs,hB,j,o,h=>by
    simp only[zFz,Bool.and_eq_true] at hB;cases j with
    | zero=>simp at h;subst h;exact ⟨d,ws,h0,rfl,rfl,rfl,hB.1⟩
    | succ j=>
      simp at h;obtain ⟨d',ws',h',h1,h2,h3,h4⟩:=zGe hB.2 h;exact ⟨d',ws',h',by simpa using h1,by simpa using h2,by simpa using h3,by rw[show i+(j+1)=i+1+j from qO];exact h4⟩
theorem zME {N:Nat} {hd:List Bool}:∀{i:Nat} {l:List Oper} {ds:List Nat} {wss:List (List Nat)} {hs:List Bool},zFz N hd i l ds wss hs=true→ds.length=l.length∧hs.length=l.length
  | _,[],[],[],[],_=>⟨rfl,rfl⟩
  | _,[],[],[],_::_,hB=>by simp[zFz] at hB
  | _,[],[],_::_,_,hB=>by simp[zFz] at hB
  | _,[],_::_,_,_,hB=>by simp[zFz] at hB
  | i,x::l,[],_,_,hB=>by simp[zFz] at hB
  | i,x::l,d::ds,[],_,hB=>by simp[zFz] at hB
  | i,x::l,d::ds,ws::wss,[],hB=>by simp[zFz] at hB
  | i,x::l,d::ds,ws::wss,h0::hs,hB=>by
    simp only[zFz,Bool.and_eq_true] at hB;have:=zME hB.2;simp[this.1,this.2]
inductive DagStepsP (P:Program) (N:Nat) (ds:List Nat) (Fs:List Fact) (σ:Env) (w:World):List Oper→List (List Nat)→List Bool→List Fact→Prop where
  | nil:DagStepsP P N ds Fs σ w [] [] [] []
  | cons {o:Oper} {ws:List Nat} {F:Fact} {l:List Oper} {wss:List (List Nat)} {hs:List Bool} {Gs:List Fact}:zKt P N ds Fs σ w o ws F→DagStepsP P N ds Fs σ w l wss hs Gs→DagStepsP P N ds Fs σ w (o::l) (ws::wss) (true::hs) (F::Gs)
  | tail {o:Oper} {ws:List Nat} {F:Fact} {l:List Oper} {wss:List (List Nat)} {hs:List Bool} {Gs:List Fact}:DagStepsP P N ds Fs σ w l wss hs Gs→DagStepsP P N ds Fs σ w (o::l) (ws::wss) (false::hs) (F::Gs)
theorem DagStepsP.get {P:Program} {N:Nat} {ds:List Nat} {Fs:List Fact} {σ:Env} {w:World}:∀{l:List Oper} {wss:List (List Nat)} {hs:List Bool} {Gs:List Fact},DagStepsP P N ds Fs σ w l wss hs Gs→∀{j:Nat} {o:Oper},l[j]?=some o→hs[j]?=some true→∃ws F,wss[j]?=some ws∧Gs[j]?=some F∧zKt P N ds Fs σ w o ws F
  | _,_,_,_,.nil,j,o,h,_=>by simp at h
  | _,_,_,_,.cons h1 h2,0,o,h,_=>by simp at h;subst h;exact ⟨_,_,rfl,rfl,h1⟩
  | _,_,_,_,.tail h2,0,o,h,ht=>by simp at ht
  | _,_,_,_,.cons h1 h2,j+1,o,h,ht=>by
    obtain ⟨ws,F,a,b,c⟩:=h2.get (j:=j) (by simpa using h) (by simpa using ht);exact ⟨ws,F,by simpa using a,by simpa using b,c⟩
  | _,_,_,_,.tail h2,j+1,o,h,ht=>by
    obtain ⟨ws,F,a,b,c⟩:=h2.get (j:=j) (by simpa using h) (by simpa using ht);exact ⟨ws,F,by simpa using a,by simpa using b,c⟩
def zEZ (hd:List Bool) (listed:List Bool):Nat:=((hd.zip listed).filter fun p=>p.1 && !p.2).length
theorem zIW:∀{hd listed:List Bool} {i:Nat},hd[i]?=some true→listed[i]?=some false→zEZ hd (listed.set i true)+1=zEZ hd listed
  | [],_,_,h,_=>by simp at h
  | _::_,[],_,_,h=>by simp at h
  | h::hd,x::listed,0,h1,h2=>by
    simp at h1 h2;subst h1;subst h2;simp[zEZ]
  | h::hd,x::listed,i+1,h1,h2=>by
    have:=zIW (hd:=hd) (listed:=listed) (i:=i) (by simpa using h1) (by simpa using h2);simp only[zEZ,List.set_cons_succ,List.zip_cons_cons,List.filter_cons] at this⊢;split
    · simp only[List.length_cons];omega
    · exact this
theorem zGs:∀{hd listed:List Bool},hd.length=listed.length→zEZ hd listed=0→(∀(i:Nat),hd[i]?=some false→listed[i]?=some false)→listed=hd
  | [],[],_,_,_=>rfl
  | [],_::_,h,_,_=>by simp at h
  | _::_,[],h,_,_=>by simp at h
  | h::hd,x::listed,hl,h0,ht=>by
    have e1:zEZ hd listed=0:=by
      simp only[zEZ,List.zip_cons_cons,List.filter_cons] at h0⊢;split at h0
      · simp at h0
      · exact h0
    have e2:=zGs (by simpa using hl) e1 fun i hi=>by have:=ht (i+1) (by simpa using hi);simpa using this
    have e3:x=h:=by
      cases h with
      | false=>have:=ht 0 rfl;simpa using this
      | true=>
        cases x with
        | true=>rfl
        | false=>simp[zEZ] at h0
    rw[e2,e3]
theorem zIX:∀{hd listed:List Bool},0<zEZ hd listed→∃i:Nat,hd[i]?=some true∧listed[i]?=some false
  | [],_,h=>by simp[zEZ] at h
  | _::_,[],h=>by simp[zEZ] at h
  | h::hd,x::listed,hp=>by
    simp only[zEZ,List.zip_cons_cons,List.filter_cons] at hp;split at hp
    · rename_i hc
      simp at hc;exact ⟨0,by simp[hc.1],by simp[hc.2]⟩
    · obtain ⟨i,h1,h2⟩:=zIX (hd:=hd) (listed:=listed) hp;exact ⟨i+1,by simpa using h1,by simpa using h2⟩
theorem zDX {listed:Array Bool} {i:Nat} {b d:Bool} (h:listed.toList[i]?=some b):listed.getD i d=b:=by
 have:listed[i]?=some b:=by simpa using h
 simp[Array.getD_eq_getD_getElem?,this]
theorem zWz {P:Program} {N:Nat} {Q:zFm} {σ:Env} {w:World} {id:Nat} {l:List Oper} (hd:List Bool) (ts:List Nat) (ds:List Nat) (wss:List (List Nat)) (Fs:List Fact) {Gs:List Fact} (hG:Fs=Gs) (hm:P.follows .mixedOrders=true) (hB:zFz N hd 0 l ds wss hd=true) (hn:zGU ds=true)
    (hT:(zQE l hd ts && zMt l.toArray ts hd.toArray)=true) (hN:Nat.beq (zEZ hd (List.replicate l.length false)+ts.length) l.length=true)
    (steps:∀w1,Ext w w1→DagStepsP P N ds Fs σ w1 l wss hd Gs)
    (k:∀σ' w',Ext w w'→(∀t,ds.contains t=false→σ' t=σ t)→(∀j,hd[j]?=some true→Holds ds Fs j σ' w')→WpL P N l.toArray (Q .normal) Q (ts.filterMap fun k=>l[k]?) σ' w'):Wp P N (.region id l.toArray true) Q σ w:=by
  intro dz a ha he;have eQ:zGE dz N (thn (Q .normal) Q)=zGE dz N Q:=by funext e a w;cases e<;>rfl
  refine wp_region_any hm ?_;obtain ⟨w1,a8⟩:∃w1:World,w1={w with drawn:=w.drawn+1}:=⟨_,rfl⟩;have be:Ext w w1:=by rw[a8];exact zFf w
  rw[←a8];have ba:=steps w1 be;rw[←hG] at ba;rw[Bool.and_eq_true] at hT;obtain ⟨bg,bk⟩:=hT;obtain ⟨bh,a7⟩:=zME hB;have br:∀(m:Nat) (listed:Array Bool) (a:Act) (w':World),zEZ hd listed.toList=m→listed.size=l.length→(∀(t:Nat),hd[t]?=some false→listed.toList[t]?=some false)→Ok dz N a→Ext w1 w'→(∀t,ds.contains t=false→env a t=σ t)→(∀j,hd[j]?=some true→listed.getD j false=true→Holds ds Fs j (env a) w')→
      wpAny P .any l.toArray (zGE dz N Q) (m+ts.length) listed a w':=by
    intro m
    induction m with
    | zero=>
      intro listed a w' bf bd an ha hx hu hh;have hl:listed=hd.toArray:=by
        apply Array.ext';exact zGs (by simp;omega) bf an
      rw[Nat.zero_add];have h1:=k (env a) w' (be.trans hx) hu (fun j hj=>hh j hj (zDX (by rw[hl];exact hj))) dz a ha rfl;rw[eQ] at h1;exact zEk ts listed a w' (by rw[hl];exact bk) (by simpa using h1)
    | succ m ih=>
      intro listed a w' hcm bd an ha hx hu hh;obtain ⟨i0,ax,a9⟩:=zIX (hd:=hd) (listed:=listed.toList) qO;rw[show m+1+ts.length=(m+ts.length)+1 by omega];refine ⟨fun hr=>?_,fun i hi=>?_⟩
      · exfalso;have ay:∀i:Nat,hd[i]?=some true→listed.getD i true=true:=by
          intro i
          induction i using Nat.strongRecOn with
          | _ i ihi=>
            intro hi;cases hv:listed.getD i true with
            | true=>rfl
            | false=>
              exfalso;obtain ⟨o,ho⟩:=zAJ (l:=l) (i:=i) (by have:=zAE hi;omega);obtain ⟨d,ws,h,_,_,h2,h3⟩:=zGe hB ho;rw[hi] at h2;cases h2;simp only[cond_true,Bool.and_eq_true,Nat.zero_add] at h3;have:i∈Region.ready .any l.toArray listed:=by
                refine mem_ready.2 ⟨hv,o,by simpa using ho,fun e he hb=>?_⟩;have h4:=h3.1;simp only[zFR,Bool.and_eq_true,Array.all_eq_true_iff_forall_mem,Bool.or_eq_true,Bool.not_eq_true'] at h4;have h5:=h3.2.1;simp only[Array.all_eq_true_iff_forall_mem,Bool.or_eq_true,Bool.not_eq_true'] at h5;have h6:=(h4.1.2 e he).resolve_left (by simp[hb]);have ag:e.on<i:=by simpa[Nat.blt_eq] using h6
                have h7:=(h5 e he).resolve_left (by simp[hb]);have bb:e.on<hd.length:=by have:=zAE hi;omega
                have h8:hd[e.on]?=some true:=by
                  rw[List.getD_eq_getElem?_getD,List.getElem?_eq_getElem bb,Option.getD_some] at h7;rw[List.getElem?_eq_getElem bb,h7]
                have h9:=ihi e.on ag h8;have hj:e.on<listed.size:=qO
                simpa only[Array.getD_eq_getD_getElem?,Array.getElem?_eq_getElem hj,Option.getD_some] using h9
              rw[hr] at this;cases this
        have:=ay i0 ax;rw[zDX a9] at this;cases this
      · obtain ⟨h1,o,h2,h3⟩:=mem_ready.1 hi;have ho:l[i]?=some o:=by simpa using h2
        have bm:i<l.length:=zAE ho;have aw:hd[i]?=some true:=by
          obtain ⟨b,hb⟩:=zAJ (l:=hd) (i:=i) qO;cases b with
          | true=>exact hb
          | false=>
            exfalso;have h4:=List.all_eq_true.1 bg i (List.mem_range.2 bm);rw[List.getD_eq_getElem?_getD,hb,Option.getD_some,Bool.false_or,Bool.and_eq_true,Bool.or_eq_true] at h4;have au:∀u,zPT l i u=true→listed.getD u false=true:=fun u av=>by
              unfold zPT at av;rw[ho] at av;simp only[Array.any_eq_true',Bool.and_eq_true] at av;obtain ⟨e,he,a1,a2⟩:=av;have:=Nat.eq_of_beq_eq_true a2;rw[←this];exact h3 e he a1
            rcases h4.2 with h5|h5
            · have h6:=List.all_eq_true.1 h5 i0 (List.mem_range.2 (by have:=zAE ax;omega));rw[List.getD_eq_getElem?_getD,ax,Option.getD_some,Bool.not_true,Bool.false_or] at h6;have:=au i0 h6;rw[zDX a9] at this;cases this
            · obtain ⟨p,_,h6⟩:=List.any_eq_true.1 h5;rw[Bool.and_eq_true,Bool.not_eq_true'] at h6;have h7:=au p h6.2;have hp:hd[p]?=some false:=by
                have h8:=h6.1;rw[List.getD_eq_getElem?_getD] at h8;cases h9:hd[p]? with
                | none=>rw[h9] at h8;cases h8
                | some b=>rw[h9,Option.getD_some] at h8;rw[h8]
              rw[zDX (an p hp)] at h7;cases h7
        obtain ⟨d,ws,h,a3,bp,bc,h4⟩:=zGe hB ho;rw[aw] at bc;cases bc;obtain ⟨ws',F,aq,hF,al⟩:=ba.get ho aw;rw[bp] at aq;cases aq;simp only[cond_true,Bool.and_eq_true,Nat.zero_add] at h4;have ar:=h4.2.2;have h4:=h4.1;simp only[zFR,Bool.and_eq_true,List.all_eq_true,Array.any_eq_true',Array.all_eq_true_iff_forall_mem,Bool.or_eq_true,Bool.not_eq_true'] at h4;obtain ⟨⟨⟨ab,a4⟩,_⟩,ak⟩:=h4;have ab:o.dst=some d:=by
          split at ab
          · rename_i d' h;rw[h,Nat.eq_of_beq_eq_true ab]
          · cases ab
        have a4:d<N:=by simpa[Nat.blt_eq] using a4
        have hH:∀j,ws.contains j=true→Holds ds Fs j (env a) w':=by
          intro j hj;have bn:j∈ws:=by simpa using hj
          obtain ⟨e,he,hb⟩:=ak j bn;obtain ⟨a1,a2⟩:=hb;have bq:e.on=j:=Nat.eq_of_beq_eq_true a2;have aj:=h3 e he a1;rw[bq] at aj;refine hh j ?_ aj;obtain ⟨b,hb⟩:=zAJ (l:=hd) (i:=j) (by
            rcases Nat.lt_or_ge j listed.size with h9|h9
            · omega
            · simp[Array.getD_eq_getD_getElem?,Array.getElem?_eq_none h9] at aj)
          cases b with
          | true=>exact hb
          | false=>rw[zDX (an j hb)] at aj;cases aj
        have gd:∀j b,o.guard=some (j,b)→∀dj,ds[j]?=some dj→(∃oj,l[j]?=some oj∧oj.dst=some dj)∧dj<N:=fun j b ad dj ai=>by
          obtain ⟨oj,ah⟩:=zAJ (l:=l) (i:=j) (by have:=zAE ai;omega);obtain ⟨dj',_,hj,ap,_,h5,h6⟩:=zGe hB ah;rw[ai] at ap;cases ap;unfold zLq at ar;rw[ad] at ar;simp only at ar;have h7:hj=true:=by rw[List.getD_eq_getElem?_getD,h5,Option.getD_some] at ar;exact ar
          rw[h7] at h6;simp only[cond_true,Bool.and_eq_true,zFR] at h6;obtain ⟨⟨⟨aa,ac⟩,_⟩,_⟩:=h6.1;refine ⟨⟨oj,ah,?_⟩,by simpa[Nat.blt_eq] using ac⟩;split at aa
          · rename_i d' h;rw[h,Nat.eq_of_beq_eq_true aa]
          · cases aa
        have ao:∀v w2,Ext w' w2→F.In v w2→wpAny P .any l.toArray (zGE dz N Q) (m+ts.length) (listed.setIfInBounds i true) (a.put o.dst v) w2:=by
          intro v w2 a6 hv;have am:env (a.put o.dst v)=upd (env a) d v:=by rw[ab];exact zDQ ha a4 v
          have bj:listed.toList[i]?=some false:=by
            have hj:i<listed.size:=qO
            simp only[Array.getD_eq_getD_getElem?,Array.getElem?_eq_getElem hj,Option.getD_some] at h1;rw[Array.getElem?_toList,Array.getElem?_eq_getElem hj,h1]
          refine ih _ _ _ ?_ (by simpa using bd) (fun t ht=>?_) (ha.put _ _) (hx.trans a6) ?_ ?_
          · rw[Array.toList_setIfInBounds];have:=zIW aw bj;omega
          · rw[Array.toList_setIfInBounds,List.getElem?_set];have a5:i≠t:=fun e=>by rw[←e,aw] at ht;cases ht
            rw[if_neg a5];exact an t ht
          · intro t ht;rw[am,←hu t ht];simp only[upd];cases hb:Nat.beq t d
            · rfl
            · exfalso;have:t=d:=Nat.eq_of_beq_eq_true hb;subst this;have:=List.mem_of_getElem? a3;simp[this] at ht
          · intro j bo hj d' F' ae a0;rw[am];by_cases hij:j=i
            · subst hij;rw[a3] at ae;cases ae;rw[hF] at a0;cases a0;simp only[upd,Nat.beq_refl,cond_true];exact hv
            · have a5:Nat.beq d' d=false:=by
                cases hb:Nat.beq d' d
                · rfl
                · exfalso;have:d'=d:=Nat.eq_of_beq_eq_true hb;subst this;exact hij (zCN hn ae a3)
              simp only[upd,a5,cond_false];rw[getD_set_ne _ (Ne.symm hij)] at hj;exact Fact.ext (hh j bo hj d' F' ae a0) a6
        rcases al (env a) w' hx hu hH with ⟨hg,bi⟩|⟨⟨j,b,dj,ad,ai,af⟩,az⟩
        · have hw:Region.wanted o (yielded l.toArray a.tmps)=true:=by
            cases ad:o.guard with
            | none=>simp[Region.wanted,ad]
            | some p=>
              obtain ⟨j,b⟩:=p;obtain ⟨dj,ai,af⟩:=hg j b ad;obtain ⟨aa,ac⟩:=gd j b ad dj ai;have h6:a.tmps[dj]?=some (Value.bool b):=by
                have h2:a.tmps.getD dj undef=.bool b:=af;have ag:dj<a.tmps.size:=by rw[ha.size];exact ac
                rw[Array.getElem?_eq_getElem ag];simpa[ag] using h2
              obtain ⟨oj,ah,aa⟩:=aa;simp[Region.wanted,ad,yielded,ah,aa,h6]
          unfold wpOp;simp only[h2,hw,if_true];exact Or.inl (bi _ a ha rfl _ _ ao)
        · have hw:Region.wanted o (yielded l.toArray a.tmps)=false:=by
            obtain ⟨aa,ac⟩:=gd j b ad dj ai;have ag:dj<a.tmps.size:=by rw[ha.size];exact ac
            have h6:a.tmps[dj]?=some (env a dj):=by
              rw[Array.getElem?_eq_getElem ag];simp[env,ag]
            obtain ⟨oj,ah,aa⟩:=aa;rcases af with af|af
            · rw[af] at h6;cases b<;>simp[Region.wanted,ad,yielded,ah,aa,h6]
            · rw[af] at h6;simp[Region.wanted,ad,yielded,ah,aa,h6,undef]
          unfold wpOp;simp only[h2,hw,Bool.false_eq_true,if_false];exact ao undef w' (Ext.refl _) az
  have h1:=br (zEZ hd (Array.replicate l.toArray.size false).toList) (Array.replicate l.toArray.size false) a w1 rfl qP (fun t ht=>by have h9:=zAE ht;rw[Array.toList_replicate,List.getElem?_replicate,if_pos (by rw[List.size_toArray];omega)]) ha (Ext.refl _) (fun t _=>by rw[he]) (fun j _ hj=>by rw[getD_replicate_false] at hj;cases hj);have e3:zEZ hd (Array.replicate l.toArray.size false).toList+ts.length=l.toArray.size:=by have h9:=Nat.eq_of_beq_eq_true hN;simpa using h9
  rw[e3] at h1;exact h1
theorem zYk {x y z u p a b c d e:Value} (h:x=a) (h':y=b) (h'':z=c) (h3:u=d) (h4:p=e):[x,y,z,u,p]=[a,b,c,d,e]:=by rw[h,h',h'',h3,h4]
section
variable {P : Program} {N : Nat} {σ : Env} {w : World} {dst : Option Tmp} {ty : TypeId} {pos : String} {af : Array Edge} {g : Option (Nat × Bool)} {t : TypeId} {x y z u : Operand} {a b c d : Value} {i j k m : Nat}
theorem bld1 (h:ev σ x=a):([(i,x)].map fun (i,x)=>(i,ev σ x))=[(i,a)]:=by simp only[List.map,h]
theorem zZf (h:ev σ x=a) (h2:ev σ y=b):([(i,x),(j,y)].map fun (i,x)=>(i,ev σ x))=[(i,a),(j,b)]:=by simp only[List.map,h,h2]
def alF (e:Nat) (c:Array Value) (hs:Nat):Fct:=fun v w=>∃b,v=.pointer (some ⟨b,0,none⟩)∧Blk w b c e∧hs≤b
theorem zHL (e:Nat) (c:Array Value) (hs:Nat):zMX (alF e c hs):=by
 rintro v w w' x ⟨b,h1,h2,h3⟩;exact ⟨b,h1,Ext.keep x h2,h3⟩
end
end Go.Eng
namespace Go.Eng
open Go
abbrev zCw:=(Nat→Bool)→Env→Fct
abbrev eF (u:Value):zCw:=fun _ _ v _=>v=u
def zIv (ds:List Nat) (Fs:List zCw) (S:Nat→Bool) (j:Nat) (σ:Env) (w:World):Prop:=∀d F,ds[j]?=some d→Fs[j]?=some F→F S σ (σ d) w
def zMZ (S:Nat→Bool) (i:Nat):Nat→Bool:=fun j=>bif Nat.beq j i then true else S j
theorem zEi (S:Nat→Bool) (i:Nat):zMZ S i i=true:=by simp[zMZ]
theorem zGv {S:Nat→Bool} {i j:Nat} (h:j≠i):zMZ S i j=S j:=by
 have:Nat.beq j i=false:=by cases hb:Nat.beq j i;rfl;exact absurd (Nat.eq_of_beq_eq_true hb) h
 simp[zMZ,this]
def MsL:List (Nat×(Nat→Prop))→Nat→Nat→Prop
  | [],_,_=>False
  | p::r,j,y=>(j=p.1∧p.2 y)∨MsL r j y
theorem zBN {c:Nat} {M:Nat→Prop} {r:List (Nat×(Nat→Prop))} {j y:Nat} (h:MsL ((c,M)::r) j y):(j=c∧M y)∨MsL r j y:=h
theorem xN0 {S:Nat→Bool} {w w':World} (X:Chg (fun y=>∃j,S j=true∧MsL [] j y) w w'):Chg zAe w w':=X.mono fun y _ ⟨_,_,h⟩=>h.elim
theorem xN1 {S:Nat→Bool} {w w':World} {c:Nat} {M:Nat→Prop} (hN:S c=false) (X:Chg (fun y=>∃j,S j=true∧MsL [(c,M)] j y) w w'):Chg zAe w w':=X.mono fun y _ ⟨j,hj,h⟩=>by
  rcases zBN h with ⟨rfl,_⟩|h0
  · rw[hj] at hN;cases hN
  · exact h0.elim
theorem xN2 {S:Nat→Bool} {w w':World} {c d:Nat} {M M2:Nat→Prop} (hN:S c=false) (hN2:S d=false) (X:Chg (fun y=>∃j,S j=true∧MsL [(c,M),(d,M2)] j y) w w'):Chg zAe w w':=X.mono fun y _ ⟨j,hj,h⟩=>by
  rcases zBN h with ⟨rfl,_⟩|h
  · rw[hj] at hN;cases hN
  rcases zBN h with ⟨rfl,_⟩|h0
  · rw[hj] at hN2;cases hN2
  · exact h0.elim
theorem xM1 {S:Nat→Bool} {w w':World} {c:Nat} {M:Nat→Prop} (X:Chg (fun y=>∃j,S j=true∧MsL [(c,M)] j y) w w'):Chg M w w':=X.mono fun y _ ⟨j,hj,h⟩=>by
  rcases zBN h with ⟨_,h⟩|h0
  · exact h
  · exact h0.elim
theorem xM2 {S:Nat→Bool} {w w':World} {c d:Nat} {M M2:Nat→Prop} (hN2:S d=false) (X:Chg (fun y=>∃j,S j=true∧MsL [(c,M),(d,M2)] j y) w w'):Chg M w w':=X.mono fun y _ ⟨j,hj,h⟩=>by
  rcases zBN h with ⟨_,h⟩|h
  · exact h
  rcases zBN h with ⟨rfl,_⟩|h0
  · rw[hj] at hN2;cases hN2
  · exact h0.elim
def zHC (N i:Nat) (hd:List Bool) (o:Oper) (d:Nat) (ws:List Nat):Bool:=
 (match o.dst with|some d'=>Nat.beq d' d && Nat.blt d N|none=>Nat.ble N d) && (o.after.all fun e=>!Region.binds .any e || (Nat.blt e.on i && hd.getD e.on false)) && (ws.all fun j=>o.after.any fun e=>Region.binds .any e && Nat.beq e.on j) && zLq hd o
def zFl (N:Nat) (hd:List Bool):Nat→List Oper→List Nat→List (List Nat)→List Bool→Bool
  | _,[],[],[],[]=>true
  | i,o::l,d::ds,ws::wss,h::hs=>(bif h then zHC N i hd o d ws else Nat.ble N d) && zFl N hd (i+1) l ds wss hs
  | _,_,_,_,_=>false
theorem zFP {N:Nat} {hd:List Bool}:∀{i:Nat} {l:List Oper} {ds:List Nat} {wss:List (List Nat)} {hs:List Bool},zFl N hd i l ds wss hs=true→∀{j:Nat} {o:Oper},l[j]?=some o→∃d ws h,ds[j]?=some d∧wss[j]?=some ws∧hs[j]?=some h∧(bif h then zHC N (i+j) hd o d ws else Nat.ble N d)=true
  | _,[],_,_,_,_,j,o,h=>by simp at h
  | i,x::l,[],_,_,hB,_,_,_=>by simp[zFl] at hB
  | i,x::l,d::ds,[],_,hB,_,_,_=>by simp[zFl] at hB
  | i,x::l,d::ds,ws::wss,[],hB,_,_,_=>by simp[zFl] at hB
  | i,x::l,d::ds,ws::wss,h0::hs,hB,j,o,h=>by
    simp only[zFl,Bool.and_eq_true] at hB;cases j with
    | zero=>simp at h;subst h;exact ⟨d,ws,h0,rfl,rfl,rfl,hB.1⟩
    | succ j=>
      simp at h;obtain ⟨d',ws',h',h1,h2,h3,h4⟩:=zFP hB.2 h;exact ⟨d',ws',h',by simpa using h1,by simpa using h2,by simpa using h3,by rw[show i+(j+1)=i+1+j from qO];exact h4⟩
theorem zMD {N:Nat} {hd:List Bool}:∀{i:Nat} {l:List Oper} {ds:List Nat} {wss:List (List Nat)} {hs:List Bool},zFl N hd i l ds wss hs=true→ds.length=l.length∧hs.length=l.length∧wss.length=l.length
  | _,[],[],[],[],_=>⟨rfl,rfl,rfl⟩
  | _,[],[],[],_::_,hB=>by simp[zFl] at hB
  | _,[],[],_::_,_,hB=>by simp[zFl] at hB
  | _,[],_::_,_,_,hB=>by simp[zFl] at hB
  | i,x::l,[],_,_,hB=>by simp[zFl] at hB
  | i,x::l,d::ds,[],_,hB=>by simp[zFl] at hB
  | i,x::l,d::ds,ws::wss,[],hB=>by simp[zFl] at hB
  | i,x::l,d::ds,ws::wss,h0::hs,hB=>by
    simp only[zFl,Bool.and_eq_true] at hB;have:=zMD hB.2;simp[this.1,this.2.1,this.2.2]
def zKr (P:Program) (N:Nat) (ds:List Nat) (Fs:List zCw) (σ:Env) (w:World) (Ms:Nat→Nat→Prop) (cl:List (List Nat)) (i:Nat) (o:Oper) (ws:List Nat) (F:zCw):Prop:=
 ∀(S:Nat→Bool) σ' w',S i=false→(∀j,(cl.getD j []).contains i=true→S j=false)→Chg (fun y=>∃j,S j=true∧Ms j y) w w'→(∀t,ds.contains t=false→σ' t=σ t)→(∀j d,ds[j]?=some d→S j=false→σ' d=σ d)→(∀j,ws.contains j=true→S j=true∧zIv ds Fs S j σ' w')→
  (zIw ds o σ'∧zCg (Ms i) P N o (fun v w=>F (zMZ S i) σ' (Go.Eng.valOf o v) w) σ' w')∨(zUb ds o σ'∧F (zMZ S i) σ' undef w')
def zCF (Ms:Nat→Nat→Prop) (i:Nat) (ws:List Nat) (F:zCw):Prop:=∀p,p≠i→ws.contains p=false→∀S σ v w w',S i=true→S p=false→Chg (Ms p) w w'→F S σ v w→F (zMZ S p) σ v w'
def zCf (ds:List Nat) (ws:List Nat) (F:zCw):Prop:=∀S (σ1 σ2:Env),(∀j d,ws.contains j=true→ds[j]?=some d→σ2 d=σ1 d)→∀v w,F S σ1 v w→F S σ2 v w
inductive DagStepsS (P:Program) (N:Nat) (ds:List Nat) (Fs:List zCw) (σ:Env) (w:World) (Ms:Nat→Nat→Prop) (cl:List (List Nat)):Nat→List Oper→List (List Nat)→List Bool→List zCw→Prop where
  | nil {i:Nat}:DagStepsS P N ds Fs σ w Ms cl i [] [] [] []
  | cons {i:Nat} {o:Oper} {ws:List Nat} {F:zCw} {l:List Oper} {wss:List (List Nat)} {hs:List Bool} {Gs:List zCw} (s:zCF Ms i ws F) (lc:zCf ds ws F) (h:zKr P N ds Fs σ w Ms cl i o ws F) (t:DagStepsS P N ds Fs σ w Ms cl (i+1) l wss hs Gs):DagStepsS P N ds Fs σ w Ms cl i (o::l) (ws::wss) (true::hs) (F::Gs)
  | tail {i:Nat} {o:Oper} {ws:List Nat} {F:zCw} {l:List Oper} {wss:List (List Nat)} {hs:List Bool} {Gs:List zCw} (t:DagStepsS P N ds Fs σ w Ms cl (i+1) l wss hs Gs):DagStepsS P N ds Fs σ w Ms cl i (o::l) (ws::wss) (false::hs) (F::Gs)
def zNP (hd:List Bool):Nat→Bool:=fun j=>hd.getD j false
def zIx (M:Nat→Prop) (ch:List PanicEntry) (X:World→Prop) (P:Program) (N:Nat) (o:Oper) (R:Fct) (σ:Env) (w:World):Prop:=
 ∀dz a,Ok dz N a→env a=σ→∀(Q:Exit→Act→World→Prop) (K:Act→World→Prop),(∀v w',Chg M w w'→R v w'→K (a.put o.dst v) w')→(∀w',Chg M w w'→X w'→Q (.panic ch) a w')→o.wp P a w K Q
theorem zCg.x {M:Nat→Prop} {ch:List PanicEntry} {X:World→Prop} {P:Program} {N:Nat} {o:Oper} {R:Fct} {σ:Env} {w:World} (h:zCg M P N o R σ w):zIx M ch X P N o R σ w:=fun dz a ha he Q K hK _=>h dz a ha he Q K hK
theorem zNS {M:Nat→Prop} {ch:List PanicEntry} {X:World→Prop} {P:Program} {N:Nat} {o:Oper} {R:Fct} {σ:Env} {w:World} {f:FuncId} {args:Array Value} (hr:(execOp (ev σ) o).run P w=.ok (.enter f args) w) (hc:zSX P ch f args w (fun v w'=>R v w'∧Chg M w w') (fun w'=>X w'∧Chg M w w')):zIx M ch X P N o R σ w:=by
 intro dz a ha he Q K hK hX;unfold Oper.wp;rw[zCL,he,hr];simp only[Oper.upon];refine Calls.mono hc ?_;rintro e w' (⟨v,rfl,r,c⟩|⟨rfl,x,c⟩)
 ·exact hK v w' c r
 ·exact hX w' c x
theorem zIx.weak {M:Nat→Prop} {ch:List PanicEntry} {X:World→Prop} {P:Program} {N:Nat} {o:Oper} {R R':Fct} {σ:Env} {w:World} (h:zIx M ch X P N o R σ w) (hr:∀v w',Chg M w w'→R v w'→R' v w'):zIx M ch X P N o R' σ w:=fun dz a ha he Q K hK hX=>h dz a ha he Q K (fun v w' c r=>hK v w' c (hr v w' c r)) hX
def zKs (P:Program) (N:Nat) (ds:List Nat) (Fs:List zCw) (σ:Env) (w:World) (Ms:Nat→Nat→Prop) (Rs:Nat→World→World→Prop) (ch:List PanicEntry) (X:World→Prop) (cl:List (List Nat)) (i:Nat) (o:Oper) (ws:List Nat) (F:zCw):Prop:=
 ∀(S:Nat→Bool) σ' w',S i=false→(∀j,(cl.getD j []).contains i=true→S j=false)→Chg (fun y=>∃j,S j=true∧Ms j y) w w'→(∀t,ds.contains t=false→σ' t=σ t)→(∀j d,ds[j]?=some d→S j=false→σ' d=σ d)→(∀j,ws.contains j=true→S j=true∧zIv ds Fs S j σ' w')→
  (zIw ds o σ'∧zIx (Ms i) ch X P N o (fun v w=>F (zMZ S i) σ' (Go.Eng.valOf o v) w∧Rs i w' w) σ' w')∨(zUb ds o σ'∧F (zMZ S i) σ' undef w'∧Rs i w' w')
def zCI (Ms:Nat→Nat→Prop) (Rs:Nat→World→World→Prop) (cl:List (List Nat)) (i:Nat) (ws:List Nat) (F:zCw):Prop:=∀p,p≠i→ws.contains p=false→∀S σ v w w',S i=true→S p=false→(∀j,(cl.getD p []).contains j=true→S j=true)→Chg (Ms p) w w'→Rs p w w'→F S σ v w→F (zMZ S p) σ v w'
inductive DagStepsG (P:Program) (N:Nat) (ds:List Nat) (Fs:List zCw) (σ:Env) (w:World) (Ms:Nat→Nat→Prop) (Rs:Nat→World→World→Prop) (ch:List PanicEntry) (X:World→Prop) (cl:List (List Nat)):Nat→List Oper→List (List Nat)→List Bool→List zCw→Prop where
  | nil {i:Nat}:DagStepsG P N ds Fs σ w Ms Rs ch X cl i [] [] [] []
  | cons {i:Nat} {o:Oper} {ws:List Nat} {F:zCw} {l:List Oper} {wss:List (List Nat)} {hs:List Bool} {Gs:List zCw} (s:zCI Ms Rs cl i ws F) (lc:zCf ds ws F) (h:zKs P N ds Fs σ w Ms Rs ch X cl i o ws F) (t:DagStepsG P N ds Fs σ w Ms Rs ch X cl (i+1) l wss hs Gs):DagStepsG P N ds Fs σ w Ms Rs ch X cl i (o::l) (ws::wss) (true::hs) (F::Gs)
  | tail {i:Nat} {o:Oper} {ws:List Nat} {F:zCw} {l:List Oper} {wss:List (List Nat)} {hs:List Bool} {Gs:List zCw} (t:DagStepsG P N ds Fs σ w Ms Rs ch X cl (i+1) l wss hs Gs):DagStepsG P N ds Fs σ w Ms Rs ch X cl i (o::l) (ws::wss) (false::hs) (F::Gs)
theorem DagStepsG.get {P:Program} {N:Nat} {ds:List Nat} {Fs:List zCw} {σ:Env} {w:World} {Ms:Nat→Nat→Prop} {Rs:Nat→World→World→Prop} {ch:List PanicEntry} {X:World→Prop} {cl:List (List Nat)}:∀{i:Nat} {l:List Oper} {wss:List (List Nat)} {hs:List Bool} {Gs:List zCw},DagStepsG P N ds Fs σ w Ms Rs ch X cl i l wss hs Gs→∀{j:Nat} {o:Oper},l[j]?=some o→hs[j]?=some true→∃ws F,wss[j]?=some ws∧Gs[j]?=some F∧zCI Ms Rs cl (i+j) ws F∧zCf ds ws F∧zKs P N ds Fs σ w Ms Rs ch X cl (i+j) o ws F
  | _,_,_,_,_,.nil,j,o,h,_=>by simp at h
  | i,_,_,_,_,.cons s lc h t,0,o,ho,_=>by
    simp at ho;subst ho;exact ⟨_,_,rfl,rfl,s,lc,h⟩
  | _,_,_,_,_,.tail t,0,o,h,ht=>by simp at ht
  | i,_,_,_,_,.cons s lc h t,j+1,o,ho,ht=>by
    obtain ⟨ws,F,h1,h2,h3,h5,h4⟩:=t.get (j:=j) (by simpa using ho) (by simpa using ht);exact ⟨ws,F,by simpa using h1,by simpa using h2,by rw[show i+(j+1)=i+1+j from qO];exact h3,h5,by rw[show i+(j+1)=i+1+j from qO];exact h4⟩
  | i,_,_,_,_,.tail t,j+1,o,ho,ht=>by
    obtain ⟨ws,F,h1,h2,h3,h5,h4⟩:=t.get (j:=j) (by simpa using ho) (by simpa using ht);exact ⟨ws,F,by simpa using h1,by simpa using h2,by rw[show i+(j+1)=i+1+j from qO];exact h3,h5,by rw[show i+(j+1)=i+1+j from qO];exact h4⟩
theorem zNQ {P:Program} {N:Nat} {Q:zFm} {σ:Env} {w:World} {id:Nat} {l:List Oper} (Ms:Nat→Nat→Prop) (Rs:Nat→World→World→Prop) (ch:List PanicEntry) (X:World→Prop) (hd:List Bool) (ts:List Nat) (ds:List Nat) (wss cl:List (List Nat)) (Fs:List zCw) {Gs:List zCw} (hG:Fs=Gs) (hC:zUB wss cl=true) (hm:P.follows .mixedOrders=true) (hB:zFl N hd 0 l ds wss hd=true) (hn:zGU ds=true)
    (hT:(zQE l hd ts && zMt l.toArray ts hd.toArray)=true) (hN:Nat.beq (zEZ hd (List.replicate l.length false)+ts.length) l.length=true)
    (steps:∀w1,Ext w w1→DagStepsG P N ds Fs σ w1 Ms Rs ch X cl 0 l cl hd Gs)
    (hX:∀σ' w1 w',Ext w w1→Chg (fun y=>∃j,Ms j y) w1 w'→X w'→Q (.panic ch) σ' w')
    (k:∀σ' w1 w',Ext w w1→Chg (fun y=>∃j,hd.getD j false=true∧Ms j y) w1 w'→(∀t,ds.contains t=false→σ' t=σ t)→(∀j,hd[j]?=some true→zIv ds Fs (zNP hd) j σ' w')→WpL P N l.toArray (Q .normal) Q (ts.filterMap fun k=>l[k]?) σ' w'):Wp P N (.region id l.toArray true) Q σ w:=by
  intro dz a ha he;have eQ:zGE dz N (thn (Q .normal) Q)=zGE dz N Q:=by funext e a w;cases e<;>rfl
  refine wp_region_any hm ?_;obtain ⟨w1,bp⟩:∃w1:World,w1={w with drawn:=w.drawn+1}:=⟨_,rfl⟩;have bo:Ext w w1:=by rw[bp];exact zFf w
  rw[←bp];have bm:=steps w1 bo;rw[←hG] at bm;rw[Bool.and_eq_true] at hT;obtain ⟨b7,b9⟩:=hT;obtain ⟨cm,b0,b5⟩:=zMD hB
  let Lf:Array Bool→Nat→Bool:=fun listed j=>listed.getD j false
  have ct:∀(m:Nat) (listed:Array Bool) (a:Act) (w':World),zEZ hd listed.toList=m→listed.size=l.length→(∀(t:Nat),hd[t]?=some false→listed.toList[t]?=some false)→(∀(j:Nat) oj,l[j]?=some oj→listed.getD j false=true→∀e∈oj.after,Region.binds .any e=true→listed.getD e.on false=true)→Ok dz N a→Chg (fun y=>∃j,listed.getD j false=true∧Ms j y) w1 w'→(∀t,ds.contains t=false→env a t=σ t)→(∀j d,ds[j]?=some d→listed.getD j false=false→env a d=σ d)→(∀j,hd[j]?=some true→listed.getD j false=true→zIv ds Fs (Lf listed) j (env a) w')→
      wpAny P .any l.toArray (zGE dz N Q) (m+ts.length) listed a w':=by
    intro m
    induction m with
    | zero=>
      intro listed a w' b6 bw a4 bf ha hx hu bg hh;have hl:listed=hd.toArray:=by
        apply Array.ext';exact zGs (by simp;omega) b6 a4
      have br:Lf listed=zNP hd:=by
        funext j;show listed.getD j false=hd.getD j false;rw[hl];simp[List.getD_eq_getElem?_getD]
      rw[Nat.zero_add];have h1:=k (env a) w1 w' bo (hx.mono fun y _ h=>by
        obtain ⟨j,h1,h2⟩:=h;have:zNP hd j=true:=by rw[←br];exact h1
        exact ⟨j,this,h2⟩) hu (fun j hj=>by rw[←br];exact hh j hj (zDX (by rw[hl];exact hj))) dz a ha rfl
      rw[eQ] at h1;exact zEk ts listed a w' (by rw[hl];exact b9) (by simpa using h1)
    | succ m ih=>
      intro listed a w' hcm bw a4 bf ha hx hu bg hh;obtain ⟨i0,bj,bq⟩:=zIX (hd:=hd) (listed:=listed.toList) qO;rw[show m+1+ts.length=(m+ts.length)+1 by omega];refine ⟨fun hr=>?_,fun i hi=>?_⟩
      · exfalso;have be:∀i:Nat,hd[i]?=some true→listed.getD i true=true:=by
          intro i
          induction i using Nat.strongRecOn with
          | _ i ihi=>
            intro hi;cases hv:listed.getD i true with
            | true=>rfl
            | false=>
              exfalso;obtain ⟨o,ho⟩:=zAJ (l:=l) (i:=i) (by have:=zAE hi;omega);obtain ⟨d,ws,h,_,_,h2,h3⟩:=zFP hB ho;rw[hi] at h2;cases h2;simp only[cond_true,zHC,Bool.and_eq_true,Nat.zero_add] at h3;have:i∈Region.ready .any l.toArray listed:=by
                refine mem_ready.2 ⟨hv,o,by simpa using ho,fun e he hb=>?_⟩;have h4:=h3.1.1.2;simp only[Array.all_eq_true_iff_forall_mem,Bool.or_eq_true,Bool.not_eq_true',Bool.and_eq_true] at h4;have h6:=(h4 e he).resolve_left (by simp[hb]);have ar:e.on<i:=by simpa[Nat.blt_eq] using h6.1
                have h7:=h6.2;have b1:e.on<hd.length:=by have:=zAE hi;omega
                have h8:hd[e.on]?=some true:=by
                  rw[List.getD_eq_getElem?_getD,List.getElem?_eq_getElem b1,Option.getD_some] at h7;rw[List.getElem?_eq_getElem b1,h7]
                have h9:=ihi e.on ar h8;have hj:e.on<listed.size:=qO
                simpa only[Array.getD_eq_getD_getElem?,Array.getElem?_eq_getElem hj,Option.getD_some] using h9
              rw[hr] at this;cases this
        have:=be i0 bj;rw[zDX bq] at this;cases this
      · obtain ⟨h1,o,h2,h3⟩:=mem_ready.1 hi;have ho:l[i]?=some o:=by simpa using h2
        have cq:i<l.length:=zAE ho;have bc:hd[i]?=some true:=by
          obtain ⟨b,hb⟩:=zAJ (l:=hd) (i:=i) qO;cases b with
          | true=>exact hb
          | false=>
            exfalso;have h4:=List.all_eq_true.1 b7 i (List.mem_range.2 cq);rw[List.getD_eq_getElem?_getD,hb,Option.getD_some,Bool.false_or,Bool.and_eq_true,Bool.or_eq_true] at h4;have a8:∀u,zPT l i u=true→listed.getD u false=true:=fun u bb=>by
              unfold zPT at bb;rw[ho] at bb;simp only[Array.any_eq_true',Bool.and_eq_true] at bb;obtain ⟨e,he,aw,a1⟩:=bb;have:=Nat.eq_of_beq_eq_true a1;rw[←this];exact h3 e he aw
            rcases h4.2 with h5|h5
            · have h6:=List.all_eq_true.1 h5 i0 (List.mem_range.2 (by have:=zAE bj;omega));rw[List.getD_eq_getElem?_getD,bj,Option.getD_some,Bool.not_true,Bool.false_or] at h6;have:=a8 i0 h6;rw[zDX bq] at this;cases this
            · obtain ⟨p,_,h6⟩:=List.any_eq_true.1 h5;rw[Bool.and_eq_true,Bool.not_eq_true'] at h6;have h7:=a8 p h6.2;have hp:hd[p]?=some false:=by
                have h8:=h6.1;rw[List.getD_eq_getElem?_getD] at h8;cases h9:hd[p]? with
                | none=>rw[h9] at h8;cases h8
                | some b=>rw[h9,Option.getD_some] at h8;rw[h8]
              rw[zDX (a4 p hp)] at h7;cases h7
        obtain ⟨d,ws,h,ay,cc,bv,h4⟩:=zFP hB ho;rw[bc] at bv;cases bv;obtain ⟨ci,F,b4,hF,a3,bn,ao⟩:=bm.get ho bc;rw[Nat.zero_add] at a3 ao;simp only[cond_true,zHC,Bool.and_eq_true,List.all_eq_true,Array.any_eq_true',Nat.zero_add] at h4;obtain ⟨⟨⟨ae,_⟩,a0⟩,a2⟩:=h4;have ac:∀j,listed.getD j false=true→hd[j]?=some true:=fun j hj=>by
          obtain ⟨b,hb⟩:=zAJ (l:=hd) (i:=j) (by
            rcases Nat.lt_or_ge j listed.size with h9|h9
            · omega
            · simp[Array.getD_eq_getD_getElem?,Array.getElem?_eq_none h9] at hj)
          cases b with
          | true=>exact hb
          | false=>rw[zDX (a4 j hb)] at hj;cases hj
        have bs:∀j,listed.getD j false=true→∀c,(cl.getD j []).contains c=true→listed.getD c false=true:=by
          intro j
          induction j using Nat.strongRecOn with
          | _ j ihj=>
            intro am c hc;have ax:=ac j am;obtain ⟨oc,bu⟩:=zAJ (l:=l) (i:=j) (by have:=zAE ax;omega);obtain ⟨dc,cb,hb,_,bh,bt,h5⟩:=zFP hB bu;rw[ax] at bt;cases bt;simp only[cond_true,zHC,Bool.and_eq_true,List.all_eq_true,Array.any_eq_true',Array.all_eq_true_iff_forall_mem,Bool.or_eq_true,Bool.not_eq_true',Nat.zero_add] at h5;have af:∀e'∈cb,listed.getD e' false=true∧e'<j:=by
              intro e' aq;obtain ⟨e,he,aw,a1⟩:=h5.1.2 e' aq;have cf:e.on=e':=Nat.eq_of_beq_eq_true a1;have h6:=bf j oc bu am e he aw;have h7:=(h5.1.1.2 e he).resolve_left (by simp[aw]);rw[cf] at h6 h7;exact ⟨h6,by simpa[Nat.blt_eq] using h7.1⟩
            rcases zGg hC bh hc with h6|⟨e',aq,h6⟩
            · exact (af c h6).1
            · exact ihj e' (af e' aq).2 (af e' aq).1 c h6
        have ag:∀j,ci.contains j=true→listed.getD j false=true:=by
          intro j hj;have ap:(cl.getD i []).contains j=true:=by rw[List.getD_eq_getElem?_getD,b4,Option.getD_some];exact hj
          have af:∀e'∈ws,listed.getD e' false=true:=by
            intro e' aq;obtain ⟨e,he,aw,a1⟩:=a0 e' aq;have:e.on=e':=Nat.eq_of_beq_eq_true a1;exact this▸h3 e he aw
          rcases zGg hC cc ap with h6|⟨e',aq,h6⟩
          · exact af j h6
          · exact bs e' (af e' aq) j h6
        have a7:∀j,(cl.getD i []).contains j=true→Lf listed j=true:=fun j hj=>ag j (by rw[List.getD_eq_getElem?_getD,b4,Option.getD_some] at hj;exact hj);have b3:Lf listed i=false:=getD_both h1;have bx:∀j,(cl.getD j []).contains i=true→Lf listed j=false:=by
          intro j hj;cases am:Lf listed j with
          | false=>rfl
          | true=>
            exfalso;have:=bs j am i hj;rw[getD_both h1] at this;cases this
        have hH:∀j,ci.contains j=true→Lf listed j=true∧zIv ds Fs (Lf listed) j (env a) w':=fun j hj=>⟨ag j hj,hh j (ac j (ag j hj)) (ag j hj)⟩;have ah:i<listed.size:=qO
        have cr:Lf (listed.setIfInBounds i true)=zMZ (Lf listed) i:=by
          funext j;by_cases hij:j=i
          · subst hij;rw[zEi];show (listed.setIfInBounds j true).getD j false=true;simp[Array.getD_eq_getD_getElem?,ah]
          · rw[zGv hij];exact getD_set_ne _ (Ne.symm hij)
        have ai:∀w2,Chg (Ms i) w' w2→Chg (fun y=>∃j,(listed.setIfInBounds i true).getD j false=true∧Ms j y) w1 w2:=by
          intro w2 av;have hg:(listed.setIfInBounds i true).getD i false=true:=by simp[Array.getD_eq_getD_getElem?,ah]
          refine Chg.step (hx.mono fun y _ h=>?_) av (fun y _ h=>⟨i,hg,h⟩);obtain ⟨j,h5,h6⟩:=h;by_cases hij:j=i
          · exact ⟨i,hg,hij▸h6⟩
          · exact ⟨j,by rw[getD_set_ne _ (Ne.symm hij)];exact h5,h6⟩
        have a5:∀v w2,Chg (Ms i) w' w2→F (zMZ (Lf listed) i) (env a) (Go.Eng.valOf o v) w2∧Rs i w' w2→wpAny P .any l.toArray (zGE dz N Q) (m+ts.length) (listed.setIfInBounds i true) (a.put o.dst v) w2:=by
          rintro v w2 av ⟨hv,bd⟩;have ad:(∀t,t≠d→env (a.put o.dst v) t=env a t)∧env (a.put o.dst v) d=Go.Eng.valOf o v:=by
            cases hod:o.dst with
            | none=>
              rw[hod] at ae;have cd:N≤d:=Nat.le_of_ble_eq_true ae;refine ⟨fun t _=>rfl,?_⟩;simp only[Go.Eng.valOf,hod];show a.tmps.getD d undef=undef;have:a.tmps.size≤d:=by rw[ha.size];exact cd
              simp[Array.getElem?_eq_none this]
            | some d'=>
              rw[hod] at ae;simp only[Bool.and_eq_true] at ae;have cp:d'=d:=Nat.eq_of_beq_eq_true ae.1;have aj:d<N:=by simpa[Nat.blt_eq] using ae.2
              subst cp;rw[zDQ ha aj v];refine ⟨fun t ht=>?_,?_⟩
              · have:Nat.beq t d'=false:=by cases hb:Nat.beq t d';rfl;exact absurd (Nat.eq_of_beq_eq_true hb) ht
                simp[upd,this]
              · simp[upd,Go.Eng.valOf,hod]
          have co:listed.toList[i]?=some false:=by
            simp only[Array.getD_eq_getD_getElem?,Array.getElem?_eq_getElem ah,Option.getD_some] at h1;rw[Array.getElem?_toList,Array.getElem?_eq_getElem ah,h1]
          refine ih _ _ _ ?_ (by simpa using bw) (fun t ht=>?_) (fun j oj ab am e he hb=>?_) (ha.put _ _) (ai w2 av) ?_ ?_ ?_
          · rw[Array.toList_setIfInBounds];have:=zIW bc co;omega
          · rw[Array.toList_setIfInBounds,List.getElem?_set];have bi:i≠t:=fun e=>by rw[←e,bc] at ht;cases ht
            rw[if_neg bi];exact a4 t ht
          · refine getD_set_true ?_;by_cases hij:j=i
            · subst hij;rw[ho] at ab;cases ab;exact h3 e he hb
            · rw[getD_set_ne _ (Ne.symm hij)] at am;exact bf j oj ab am e he hb
          · intro t ht;rw[ad.1 t (fun h=>by
              subst h;have:=List.mem_of_getElem? ay;simp[this] at ht),hu t ht]
          · intro j d2 aj a9;by_cases hij:j=i
            · subst hij;have cn:(listed.setIfInBounds j true).getD j false=true:=by simp[Array.getD_eq_getD_getElem?,ah]
              rw[cn] at a9;cases a9
            · rw[getD_set_ne _ (Ne.symm hij)] at a9;rw[ad.1 d2 (fun h=>by subst h;exact hij (zCN hn aj ay)),bg j d2 aj a9]
          · intro j ax hj d2 F2 aj ba;rw[cr];by_cases hij:j=i
            · subst hij;rw[ay] at aj;cases aj;rw[hF] at ba;cases ba;rw[ad.2];refine bn _ (env a) _ (fun j' d2 ap aj=>ad.1 d2 fun he=>?_) _ _ hv;have:=zCN hn (he▸aj) ay;subst this;have:=ag j' ap;rw[getD_both h1] at this;cases this
            · have bi:d2≠d:=by
                intro h;subst h;exact hij (zCN hn aj ay)
              rw[ad.1 d2 bi];rw[getD_set_ne _ (Ne.symm hij)] at hj;have h6:=hh j ax hj d2 F2 aj ba;obtain ⟨oj,ab⟩:=zAJ (l:=l) (i:=j) (by have:=zAE ax;omega);obtain ⟨cj,Fj,cs,b2,bz,am,_⟩:=bm.get ab ax;rw[ba] at b2;cases b2;rw[Nat.zero_add] at bz;have ce:cl.getD j []=cj:=by rw[List.getD_eq_getElem?_getD,cs,Option.getD_some]
              have al:cj.contains i=false:=by
                cases al:cj.contains i with
                | false=>rfl
                | true=>
                  exfalso;have:=bx j (by rw[ce];exact al);have ap:Lf listed j=true:=hj;rw[ap] at this;cases this
              refine am _ (env a) _ (fun j' d3 ap ca=>ad.1 d3 fun he=>?_) _ _ (bz i (Ne.symm hij) al (Lf listed) (env a) _ _ _ hj b3 a7 av bd h6);have h8:=zCN hn (he▸ca) ay;subst h8;rw[al] at ap;cases ap
        have gd:∀j b,o.guard=some (j,b)→∀dj,ds[j]?=some dj→((∃oj,l[j]?=some oj∧oj.dst=some dj)∧dj<N)∨(N≤dj∧∃oj,l[j]?=some oj∧oj.dst=none):=fun j b ak dj az=>by
          obtain ⟨oj,ab⟩:=zAJ (l:=l) (i:=j) (by have:=zAE az;omega);obtain ⟨dj',_,hj,a6,_,h5,h6⟩:=zFP hB ab;rw[az] at a6;cases a6;unfold zLq at a2;rw[ak] at a2;simp only at a2;have h7:hj=true:=by rw[List.getD_eq_getElem?_getD,h5,Option.getD_some] at a2;exact a2
          rw[h7] at h6;simp only[cond_true,Bool.and_eq_true,zHC] at h6;have aa:=h6.1.1.1;split at aa
          · rename_i d2 hq
            rw[Bool.and_eq_true] at aa;exact .inl ⟨⟨oj,ab,by rw[hq,Nat.eq_of_beq_eq_true aa.1]⟩,by simpa[Nat.blt_eq] using aa.2⟩
          · rename_i hq
            exact .inr ⟨Nat.le_of_ble_eq_true aa,oj,ab,hq⟩
        rcases ao (Lf listed) (env a) w' b3 bx hx hu bg hH with ⟨hg,b8⟩|⟨⟨j,b,dj,ak,az,an⟩,bk,bd⟩
        · have hw:Region.wanted o (yielded l.toArray a.tmps)=true:=by
            cases ak:o.guard with
            | none=>simp[Region.wanted,ak]
            | some p=>
              obtain ⟨j,b⟩:=p;obtain ⟨dj,az,an⟩:=hg j b ak;rcases gd j b ak dj az with ⟨aa,au⟩|⟨ck,_⟩
              · have h6:a.tmps[dj]?=some (Value.bool b):=by
                  have h2:a.tmps.getD dj undef=.bool b:=an;have ar:dj<a.tmps.size:=by rw[ha.size];exact au
                  rw[Array.getElem?_eq_getElem ar];simpa[ar] using h2
                obtain ⟨oj,ab,aa⟩:=aa;simp[Region.wanted,ak,yielded,ab,aa,h6]
              · exfalso;have h2:a.tmps.getD dj undef=.bool b:=an;have:a.tmps.size≤dj:=by rw[ha.size];exact ck
                simp[Array.getElem?_eq_none this,undef] at h2
          unfold wpOp;simp only[h2,hw,if_true];exact Or.inl (b8 _ a ha rfl _ _ a5 (fun w2 av cg=>⟨ha,hX (env a) w1 w2 bo ((ai w2 av).mono fun y _ h=>h.imp fun j h=>h.2) cg⟩))
        · have hw:Region.wanted o (yielded l.toArray a.tmps)=false:=by
            rcases gd j b ak dj az with ⟨aa,au⟩|⟨_,oj,ab,hq⟩
            · have ar:dj<a.tmps.size:=by rw[ha.size];exact au
              have h6:a.tmps[dj]?=some (env a dj):=by
                rw[Array.getElem?_eq_getElem ar];simp[env,ar]
              obtain ⟨oj,ab,aa⟩:=aa;rcases an with an|an
              · rw[an] at h6;cases b<;>simp[Region.wanted,ak,yielded,ab,aa,h6]
              · rw[an] at h6;simp[Region.wanted,ak,yielded,ab,aa,h6,undef]
            · simp[Region.wanted,ak,yielded,ab,hq]
          unfold wpOp;simp only[h2,hw,Bool.false_eq_true,if_false];exact a5 undef w' (Chg.refl _ _) (by
            have:Go.Eng.valOf o undef=undef:=by unfold Go.Eng.valOf;split<;>rfl
            rw[this];exact ⟨bk,bd⟩)
  have h1:=ct (zEZ hd (Array.replicate l.toArray.size false).toList) (Array.replicate l.toArray.size false) a w1 rfl qP (fun t ht=>by have h9:=zAE ht;rw[Array.toList_replicate,List.getElem?_replicate,if_pos (by rw[List.size_toArray];omega)]) (fun j oj _ hl=>(by rw[getD_replicate_false] at hl;cases hl)) ha (Chg.refl _ _) (fun t _=>by rw[he]) (fun j d _ _=>by rw[he]) (fun j _ hj=>by rw[getD_replicate_false] at hj;cases hj);have e3:zEZ hd (Array.replicate l.toArray.size false).toList+ts.length=l.toArray.size:=by have h9:=Nat.eq_of_beq_eq_true hN;simpa using h9
  rw[e3] at h1;exact h1
theorem zKr.toG {P:Program} {N:Nat} {ds:List Nat} {Fs:List zCw} {σ:Env} {w:World} {Ms:Nat→Nat→Prop} {cl:List (List Nat)} {i:Nat} {o:Oper} {ws:List Nat} {F:zCw} (h:zKr P N ds Fs σ w Ms cl i o ws F):zKs P N ds Fs σ w Ms (fun _ _ _=>True) [] (fun _=>False) cl i o ws F:=fun S σ' w' a b c d e f=>
 (h S σ' w' a b c d e f).imp (fun ⟨g,h⟩=>⟨g,(zCg.x h).weak fun _ _ _ r=>⟨r,trivial⟩⟩) fun ⟨u,f⟩=>⟨u,f,trivial⟩
theorem DagStepsS.toG {P:Program} {N:Nat} {ds:List Nat} {Fs:List zCw} {σ:Env} {w:World} {Ms:Nat→Nat→Prop} {cl:List (List Nat)}:∀{i:Nat} {l:List Oper} {wss:List (List Nat)} {hs:List Bool} {Gs:List zCw},DagStepsS P N ds Fs σ w Ms cl i l wss hs Gs→DagStepsG P N ds Fs σ w Ms (fun _ _ _=>True) [] (fun _=>False) cl i l wss hs Gs
  | _,_,_,_,_,.nil=>.nil
  | _,_,_,_,_,.cons s lc h t=>.cons (fun p hp hw S σ v w w' hi hS _ hC _ hF=>s p hp hw S σ v w w' hi hS hC hF) lc h.toG t.toG
  | _,_,_,_,_,.tail t=>.tail t.toG
theorem zEz {P:Program} {N:Nat} {Q:zFm} {σ:Env} {w:World} {id:Nat} {l:List Oper} (Ms:Nat→Nat→Prop) (hd:List Bool) (ts:List Nat) (ds:List Nat) (wss cl:List (List Nat)) (Fs:List zCw) {Gs:List zCw} (hG:Fs=Gs) (hC:zUB wss cl=true) (hm:P.follows .mixedOrders=true) (hB:zFl N hd 0 l ds wss hd=true) (hn:zGU ds=true)
  (hT:(zQE l hd ts && zMt l.toArray ts hd.toArray)=true) (hN:Nat.beq (zEZ hd (List.replicate l.length false)+ts.length) l.length=true)
  (steps:∀w1,Ext w w1→DagStepsS P N ds Fs σ w1 Ms cl 0 l cl hd Gs)
  (k:∀σ' w1 w',Ext w w1→Chg (fun y=>∃j,hd.getD j false=true∧Ms j y) w1 w'→(∀t,ds.contains t=false→σ' t=σ t)→(∀j,hd[j]?=some true→zIv ds Fs (zNP hd) j σ' w')→WpL P N l.toArray (Q .normal) Q (ts.filterMap fun k=>l[k]?) σ' w'):Wp P N (.region id l.toArray true) Q σ w:=
 zNQ Ms (fun _ _ _=>True) [] (fun _=>False) hd ts ds wss cl Fs hG hC hm hB hn hT hN (fun w1 e=>(steps w1 e).toG) (fun _ _ _ _ _ h=>h.elim) k
section
variable {Ms : Nat → Nat → Prop} {i : Nat} {ws ds : List Nat}
theorem zCF.eq {u:Value}:zCF Ms i ws (fun _ _ v _=>v=u):=fun _ _ _ _ _ _ _ _ _ _ _ h=>h
theorem zCF.chg {F:Fct} {U:Nat→Prop} (hF:∀v w w',Chg U w w'→F v w→F v w') (hM:∀p y,p≠i→ws.contains p=false→Ms p y→U y):zCF Ms i ws (fun _ _=>F):=
 fun p h1 h2 _ _ v w w' _ _ x h=>hF v w w' (x.mono fun y _ hy=>hM p y h1 h2 hy) h
theorem zCF.till {F:Fct} {U:Nat→Prop} {c:Nat} (hF:∀v w w',Chg U w w'→F v w→F v w') (hM:∀p y,p≠i→ws.contains p=false→p≠c→Ms p y→U y):zCF Ms i ws (fun S _ v w=>S c=false→F v w):=
 fun p h1 h2 S _ v w w' _ _ x h hc=>by
  have hpc:p≠c:=fun e=>by subst e;rw[zEi] at hc;cases hc
  rw[zGv (Ne.symm hpc)] at hc;exact hF v w w' (x.mono fun y _ hy=>hM p y h1 h2 hpc hy) (h hc)
theorem zCf.const {G:(Nat→Bool)→Fct}:zCf ds ws (fun S _=>G S):=fun _ _ _ _ _ _ h=>h
end
theorem qZ {P:Program} {N:Nat} {ds:List Nat} {Fs:List zCw} {σ:Env} {w:World} {Ms:Nat→Nat→Prop} {cl:List (List Nat)} {i:Nat} {dst:Option Tmp} {op:Op} {ty:TypeId} {pos:String} {af:Array Edge} {ws:List Nat} {u:Value} {l:List Oper} {wss:List (List Nat)} {hs:List Bool} {Gs:List zCw}
  (h:∀(S:Nat→Bool) σ' w',S i=false→(∀j,(cl.getD j []).contains i=true→S j=false)→Chg (fun y=>∃j,S j=true∧Ms j y) w w'→(∀t,ds.contains t=false→σ' t=σ t)→(∀j d,ds[j]?=some d→S j=false→σ' d=σ d)→(∀j,ws.contains j=true→S j=true∧zIv ds Fs S j σ' w')→zCg (Ms i) P N ⟨dst,op,ty,pos,af,none⟩ (fun v _=>Go.Eng.valOf ⟨dst,op,ty,pos,af,none⟩ v=u) σ' w')
  (t:DagStepsS P N ds Fs σ w Ms cl (i+1) l wss hs Gs):DagStepsS P N ds Fs σ w Ms cl i (⟨dst,op,ty,pos,af,none⟩::l) (ws::wss) (true::hs) ((eF u)::Gs):=
 .cons zCF.eq zCf.const (fun S s' w' a b c d e f=>.inl ⟨zAI rfl,h S s' w' a b c d e f⟩) t
section
variable {M : Nat → Prop} {P : Program} {N : Nat} {o : Oper} {R : Fct} {σ : Env} {w : World} {dst : Option Tmp} {ty : TypeId} {pos : String} {af : Array Edge} {g : Option (Nat × Bool)} {t : TypeId}
theorem zAR {v:Value} (hr:(execOp (ev σ) o).run P w=.ok (.value v) w) (h:R v w):zCg M P N o R σ w:=zAQ hr (Chg.refl _ _) h
theorem zBv {R R':Fct} (h:zCg M P N o R σ w) (hr:∀v w,R v w→R' (Go.Eng.valOf o v) w):zCg M P N o (fun v w=>R' (Go.Eng.valOf o v) w) σ w:=fun dz a ha he Q K hK=>h dz a ha he Q K fun v w2 hx2 h2=>hK v w2 hx2 (hr v w2 h2)
theorem zCC {f:FuncId} {args:Array Value} (hr:(execOp (ev σ) o).run P w=.ok (.enter f args) w) (hc:Ret P f args w fun v w'=>R v w'∧Ext w w'):zCg M P N o R σ w:=
 zCS hr (hc.mono fun _ _ h=>⟨h.1,Ext.chg h.2⟩)
theorem zDV {d hs:Nat} {z:Value} {c:Array Value} (hz:Zer P t z) (hc:z.cells=c) (hh:hs≤w.heap.size):zCg M P N ⟨some d,.alloc t,ty,pos,af,g⟩ (alF t c hs) σ w:=by
 subst hc;have hn:=New.mk' w z.cells t;exact zAQ (v:=.pointer (some ⟨w.heap.size,0,none⟩)) (by simp[execOp,Instr.alloc,hz.run,newVar,newRow]) (Ext.chg hn.ext) ⟨_,rfl,hn.blk,hh⟩
end
def zJA (st:Nat) (rest:List Value) (G:Fct):zCw:=fun S _ v w=>∃u,v=.tuple (u::rest).toArray∧(S st=false→G u w)
def zMq (sa n:Nat) (T:TypeId) (G:Fct):zCw:=fun _ s _ w=>∃b vs,s sa=.pointer (some ⟨b,0,none⟩)∧n≤b∧Blk w b vs T∧G (.agg vs) w
section
variable {Ms : Nat → Nat → Prop} {i : Nat} {ws ds : List Nat}
theorem zCF.tup {st:Nat} {rest:List Value} {G:Fct} {U:Nat→Prop} (hG:∀v w w',Chg U w w'→G v w→G v w') (hM:∀p y,p≠i→ws.contains p=false→p≠st→Ms p y→U y):zCF Ms i ws (zJA st rest G):=
 fun p h1 h2 S _ v w w' _ _ x h=>by
  obtain ⟨u,h3,h4⟩:=h;refine ⟨u,h3,fun hc=>?_⟩;have hpc:p≠st:=fun e=>by subst e;rw[zEi] at hc;cases hc
  rw[zGv (Ne.symm hpc)] at hc;exact hG u w w' (x.mono fun y _ hy=>hM p y h1 h2 hpc hy) (h4 hc)
theorem zCF.put {sa n:Nat} {T:TypeId} {G:Fct} (hG:∀v w w',Ext w w'→G v w→G v w') (hM:∀p y,p≠i→ws.contains p=false→Ms p y→False):zCF Ms i ws (zMq sa n T G):=
 fun p h1 h2 _ _ v w w' _ _ x h=>by
  obtain ⟨b,vs,h3,h4,h5,h6⟩:=h;have hx:Ext w w':=x.mono fun y _ hy=>(hM p y h1 h2 hy).elim;exact ⟨b,vs,h3,h4,Ext.keep hx h5,hG _ _ _ hx h6⟩
theorem zCf.put {sa n j:Nat} {T:TypeId} {G:Fct} (hj:ws.contains j=true) (hd:ds[j]?=some sa):zCf ds ws (zMq sa n T G):=
 fun _ σ1 σ2 hs v w h=>by
  obtain ⟨b,vs,h3,h4⟩:=h;exact ⟨b,vs,by rw[hs j sa hj hd];exact h3,h4⟩
end
theorem zFk {M:Nat→Prop} {P:Program} {N:Nat} {σ:Env} {w:World} {ty:TypeId} {pos:String} {af:Array Edge} {g:Option (Nat×Bool)} {T:TypeId} {x y:Operand} {b n:Nat} {u:Value} {c:Array Value} {G:Fct} (hx:ev σ x=.pointer (some ⟨b,0,none⟩)) (hy:ev σ y=u) (hG:G u w) (hB:Blk w b c T) (hc:c.size=n) (hs:Siz P T n)
  (form:∀u w,G u w→∃vs:Array Value,u=.agg vs∧vs.size=n∧∀v∈vs.toList,v.oneCell'=true) (keep:∀u w w',Blk w b c T→Chg (fun y=>y=b) w w'→G u w→G u w') (hM:M b) :
  zCg M P N ⟨none,.store T x y,ty,pos,af,g⟩ (fun _ w'=>∃vs,Blk w' b vs T∧G (.agg vs) w') σ w:=by
 obtain ⟨vs,rfl,h1,h2⟩:=form u w hG;refine zCX hx hy h2 hs h1 hB qO hM fun w' h=>⟨vs,?_,keep _ _ _ hB h.chg hG⟩;have h3:=h.blk;rw[List.take_zero,List.nil_append,Nat.zero_add,List.drop_of_length_le (by simp;omega),List.append_nil] at h3;simpa using h3
end Go.Eng
namespace Go.Proofs
open Go Go.Eng Go.Sort
set_option maxRecDepth 100000
--BEGIN
def onP (both:Bool) (x y:Int):Bool:=bif both then decide (0≤x) && decide (0≤y) else decide (0≤x) || decide (0≤y)
def zHU (both:Bool) (a b:Dfa) (k:Int×Int) (x:Nat):Option (Int×Int):=bif onP both (toD a k.1 x) (toD b k.2 x) then some (toD a k.1 x,toD b k.2 x) else none
def jnP (both:Bool) (x y:Int):Int:=if (both && decide (y<0))=true then -1 else if (both || decide (0≤x))=true then x else y
def zJv (both:Bool) (a b:Dfa) (k:Int×Int):Int:=jnP both (atD a k.1) (atD b k.2)
theorem zTd {both:Bool} {x y:Int} (h:onP both x y=false) (a b:Dfa) (w:List Nat):jnP both (beh a x w) (beh b y w) = -1:=by
  unfold onP at h;cases both with
  | true=>
    simp only[cond_true,Bool.and_eq_false_iff,decide_eq_false_iff_not] at h;unfold jnP;by_cases hy:beh b y w<0
    · simp[hy]
    · simp only[Bool.true_and,decide_eq_true_eq,hy,if_false,Bool.true_or,if_true];rcases h with h|h
      · exact zCh qO
      · rw[zCh (show y<0 by omega)] at hy;exact absurd qD hy
  | false=>
    simp only[cond_false,Bool.or_eq_false_iff,decide_eq_false_iff_not] at h;rw[zCh (show x<0 by omega),zCh (show y<0 by omega)];rfl
theorem zJt (both:Bool) (a b:Dfa):∀(w:List Nat) (k:Int×Int),zPf (zHU both a b) (zJv both a b) k w=jnP both (beh a k.1 w) (beh b k.2 w)
  | [],k=>rfl
  | x::w,k=>by
    simp only[zPf,zGD,beh];cases hs:onP both (toD a k.1 x) (toD b k.2 x) with
    | true=>
      simp only[zHU,hs,cond_true,Option.bind_some];exact zJt both a b w (toD a k.1 x,toD b k.2 x)
    | false=>
      simp only[zHU,hs,cond_false,Option.bind_none];exact (zTd hs a b w).symm
theorem zLK {both:Bool} {a b:Dfa} {n m c:Nat} (ha:OkD n c a) (hb:OkD m c b):∀(w:List Nat) (k q:Int×Int),(-1≤k.1∧k.1<n)∧(-1≤k.2∧k.2<m)→zGD (zHU both a b) k w=some q→(-1≤q.1∧q.1<n)∧(-1≤q.2∧q.2<m)
  | [],k,q,h,hr=>by simp only[zGD,Option.some.injEq] at hr;subst hr;exact h
  | x::w,k,q,h,hr=>by
    simp only[zGD] at hr;cases hs:zHU both a b k x with
    | none=>rw[hs] at hr;cases hr
    | some p=>
      rw[hs] at hr;simp only[Option.bind_some] at hr;refine zLK ha hb w p q ?_ hr;unfold zHU at hs;cases ho:onP both (toD a k.1 x) (toD b k.2 x) with
      | true=>rw[ho] at hs;simp only[cond_true,Option.some.injEq] at hs;subst hs;exact ⟨ha.to,hb.to⟩
      | false=>rw[ho] at hs;cases hs
theorem zGR {both:Bool} {a b:Dfa} {n m c:Nat} (ha:OkD n c a) (hb:OkD m c b) {k:Int×Int} (h:Rch c (zHU both a b) (a.start,b.start) k):(-1≤k.1∧k.1<n)∧(-1≤k.2∧k.2<m):=by
 obtain ⟨w,_,h2⟩:=h;have h3:=ha.st;have h4:=hb.st;exact zLK ha hb w _ _ ⟨⟨by show -1≤a.start;omega,h3.2⟩,⟨by show -1≤b.start;omega,h4.2⟩⟩ h2
theorem zUY {both:Bool} {a b:Dfa} {n m c:Nat} (ha:OkD n c a) (hb:OkD m c b) (h1:∀x∈a.accept,x<2147483648) (h2:∀x∈b.accept,x<2147483648) (k:Int×Int) : -1≤zJv both a b k∧zJv both a b k<2147483648:=by
  have aa:∀{d:Dfa} (s:Int),(∀x∈d.accept,x<2147483648)→atD d s<2147483648:=fun {d} s h=>by
    unfold atD;split
    · decide
    · rw[List.getD_eq_getElem?_getD];cases hx:d.accept[s.toNat]? with
      | none=>decide
      | some x=>exact h x (List.mem_of_getElem? hx)
  have a1:=ha.at' (s:=k.1);have b1:=hb.at' (s:=k.2);have a2:=aa k.1 h1;have b2:=aa k.2 h2;unfold zJv jnP;split
  · omega
  · split<;>omega
--END
theorem zTJ (w0 : World) (n m c : Nat) (a b : Dfa) (av bv : List Value) (both : Bool) (ba bb bf : Nat) (k : Int × Int) (x : Nat) (oka : OkD n c a) (okb : OkD m c b) (ha : zBV w0 a av) (hb : zBV w0 b bv) (hBa : Blk w0 ba av.toArray 34) (hBb : Blk w0 bb bv.toArray 34) (hBf : Blk w0 bf #[.bool both] 4) (hk : k.1 < n ∧ k.2 < m) (hx : x < c) :
  Ret prog 130 #[.agg #[.int .i64 k.1, .int .i64 k.2], .int .i64 ((x : Nat) : Int), .pointer (some ⟨ba, 0, none⟩), .pointer (some ⟨bb, 0, none⟩), .pointer (some ⟨bf, 0, none⟩)] w0 fun r w => r = .tuple #[.agg #[.int .i64 (toD a k.1 x), .int .i64 (toD b k.2 x)], .bool (onP both (toD a k.1 x) (toD b k.2 x))] ∧ Ext w0 w := by
 have ha' := ha
 have hb' := hb
 obtain ⟨aa, ac, na, nc, rfl, _, _⟩ := ha'
 obtain ⟨aa2, ac2, na2, nc2, rfl, _, _⟩ := hb'
 refine zDE func130 rfl ntmps130 (Nat.le_of_ble_eq_true rfl) ?_
 have E : Chg zAe w0 w0 := Chg.refl _ _
 refine zAA ?_
 refine zBY (v := (.agg #[(I6 k.1), (I6 k.2)])) (c := #[(I6 k.1), (I6 k.2)]) (by decide) rfl rfl ?_
 intro bq wq Nq
 have Fq := Nq.ge E
 have Oq_ba := Nq.lt hBa
 have Oq_bb := Nq.lt hBb
 have Oq_bf := Nq.lt hBf
 replace hBa := Nq.keep hBa
 replace hBb := Nq.keep hBb
 replace hBf := Nq.keep hBf
 replace E := E.ext Nq.ext
 have Bq := Nq.blk
 refine zBB (c := #[(I6 0), (I6 0)]) (by decide) zJO rfl ?_
 intro br wr Nr
 have Fr := Nr.ge E
 have Or_ba := Nr.lt hBa
 have Or_bb := Nr.lt hBb
 have Or_bf := Nr.lt hBf
 have Or_bq := Nr.lt Bq
 replace hBa := Nr.keep hBa
 replace hBb := Nr.keep hBb
 replace hBf := Nr.keep hBf
 replace Bq := Nr.keep Bq
 replace E := E.ext Nr.ext
 have Br := Nr.blk
 refine qA _ rfl ?_
 refine zAB ?_
 have hz_1 : w0.heap.size ≤ wr.heap.size := E.size
 have lz_1_ba : ba < wr.heap.size := hBa.lt
 have lz_1_bb : bb < wr.heap.size := hBb.lt
 have lz_1_bf : bf < wr.heap.size := hBf.lt
 have lz_1_bq : bq < wr.heap.size := Bq.lt
 have lz_1_br : br < wr.heap.size := Br.lt
 refine zAH ?_
 obtain ⟨Fs1, hFs1⟩ : ∃ Fs : List zCw, Fs = [(eF (.agg #[(I6 a.start), (.slice aa a.accept.length ac), (.slice na a.next.length nc)])), (eF (P6 bq 0)), (eF (I6 k.1)), (eF (I6 (x : Int))), (eF (I6 (toD a k.1 x))), (eF (.agg #[(I6 b.start), (.slice aa2 b.accept.length ac2), (.slice na2 b.next.length nc2)])), (eF (P6 bq 1)), (eF (I6 k.2)), (eF (I6 (x : Int))), (eF (I6 (toD b k.2 x))), (eF (.agg #[(I6 (toD a k.1 x)), (I6 (toD b k.2 x))])), (fun _ _ => alF 163 #[(I6 0), (I6 0)] wr.heap.size), (eF undef)] := ⟨_, rfl⟩
 refine zEz (MsL []) [true, true, true, true, true, true, true, true, true, true, true, true, false] [12] [10, 11, 12, 13, 14, 15, 16, 17, 18, 19, 20, 9, 52] [[], [], [1], [], [0, 2, 3], [], [], [6], [], [4, 5, 7, 8], [4, 9], [], []] [[], [], [1], [], [0, 2, 1, 3], [], [], [6], [], [4, 0, 2, 1, 3, 5, 7, 6, 8], [4, 0, 2, 1, 3, 9, 5, 7, 6, 8], [], []] Fs1 hFs1 (by kernel_rfl) mixed (by kernel_rfl) (by kernel_rfl) (by kernel_rfl) (by kernel_rfl) ?_ ?_
 ·intro wd X0
  refine qZ (fun S s' w' hi hN X U V H => ?_) ?_
  ·replace X := xN0 X
   exact zAR (zAP (U 2 rfl) zBC zAi rfl (((X0.trans X).keep hBa).cells rfl)) rfl
  refine qZ (fun S s' w' hi hN X U V H => ?_) ?_
  ·replace X := xN0 X
   exact zAR (zCE (i := 0) (U 5 rfl) rfl rfl underlying163 zAv (by omega) (by omega)) rfl
  refine qZ (fun S s' w' hi hN X U V H => ?_) ?_
  ·replace X := xN0 X
   have e11 := (H 1 rfl).2 11 _ rfl (by rw [hFs1]; rfl)
   exact zAR (zAG e11 zAm (((X0.trans X).keep Bq).cell rfl)) rfl
  refine qZ (fun S s' w' hi hN X U V H => ?_) ?_
  ·replace X := xN0 X
   exact zAR (zAj (U 1 rfl)) rfl
  refine qZ (fun S s' w' hi hN X U V H => ?_) ?_
  ·replace X := xN0 X
   have e10 := (H 0 rfl).2 10 _ rfl (by rw [hFs1]; rfl)
   have e12 := (H 2 rfl).2 12 _ rfl (by rw [hFs1]; rfl)
   have e13 := (H 3 rfl).2 13 _ rfl (by rw [hFs1]; rfl)
   exact zCC (zAU func131 kQ kQ (zXH e10 e12 e13)) ((zRl _ n c a _ k.1 (x : Int) oka (ha.ext (Ext.trans E (X0.trans X))) hk.1 (by omega)).mono (fun v w h => h))
  refine qZ (fun S s' w' hi hN X U V H => ?_) ?_
  ·replace X := xN0 X
   exact zAR (zAP (U 3 rfl) zBC zAi rfl (((X0.trans X).keep hBb).cells rfl)) rfl
  refine qZ (fun S s' w' hi hN X U V H => ?_) ?_
  ·replace X := xN0 X
   exact zAR (zCE (i := 1) (U 5 rfl) rfl rfl underlying163 zAv (by omega) (by omega)) rfl
  refine qZ (fun S s' w' hi hN X U V H => ?_) ?_
  ·replace X := xN0 X
   have e16 := (H 6 rfl).2 16 _ rfl (by rw [hFs1]; rfl)
   exact zAR (zAG e16 zAm (((X0.trans X).keep Bq).cell rfl)) rfl
  refine qZ (fun S s' w' hi hN X U V H => ?_) ?_
  ·replace X := xN0 X
   exact zAR (zAj (U 1 rfl)) rfl
  refine qZ (fun S s' w' hi hN X U V H => ?_) ?_
  ·replace X := xN0 X
   have e15 := (H 5 rfl).2 15 _ rfl (by rw [hFs1]; rfl)
   have e17 := (H 7 rfl).2 17 _ rfl (by rw [hFs1]; rfl)
   have e18 := (H 8 rfl).2 18 _ rfl (by rw [hFs1]; rfl)
   exact zCC (zAU func131 kQ kQ (zXH e15 e17 e18)) ((zRl _ m c b _ k.2 (x : Int) okb (hb.ext (Ext.trans E (X0.trans X))) hk.2 (by omega)).mono (fun v w h => h))
  refine qZ (fun S s' w' hi hN X U V H => ?_) ?_
  ·replace X := xN0 X
   have e14 := (H 4 rfl).2 14 _ rfl (by rw [hFs1]; rfl)
   have e19 := (H 9 rfl).2 19 _ rfl (by rw [hFs1]; rfl)
   exact zAR (zBF (ps := [(0, (I6 (toD a k.1 x))), (1, (I6 (toD b k.2 x)))]) (v := (.agg #[(I6 (toD a k.1 x)), (I6 (toD b k.2 x))])) (zZf e14 e19) (by kernel_rfl)) rfl
  refine DagStepsS.cons (zCF.chg (U := zAe) (fun v w w' x h => zHL _ _ _ v w w' x h) (fun p y hp hw h => by
     exact h.elim)) (zCf.const) (fun S s' w' hi hN X U V H => Or.inl ⟨zAI rfl, ?_⟩) ?_
  ·replace X := xN0 X
   exact zDV (c := #[(I6 0), (I6 0)]) zJO rfl (by have := X0.size; have := X.size; omega)
  refine DagStepsS.tail ?_
  exact DagStepsS.nil
 ·intro s' wd1 w1 X0 X1 U H
  replace X1 := X1.mono (M' := zAe) (fun y _ h => by
    obtain ⟨j, hj, h⟩ := h
    exact h.elim)
  have e20 := H 10 rfl 20 _ rfl (by rw [hFs1]; rfl)
  obtain ⟨b9, e9, B9, g9⟩ := (show ((fun _ _ => alF 163 #[(.int .i64 0), (.int .i64 0)] wr.heap.size) : zCw) (zNP [true, true, true, true, true, true, true, true, true, true, true, true, false]) s' (s' 9) w1 from H 11 rfl 9 (fun _ _ => alF 163 #[(.int .i64 0), (.int .i64 0)] wr.heap.size) rfl (by rw [hFs1]; rfl))
  obtain ⟨j1, rfl⟩ := zAs.out (σ := s') (l := [(4, (.pointer (some ⟨bf, 0, none⟩))), (7, (.pointer (some ⟨br, 0, none⟩))), (20, (.agg #[(.int .i64 (toD a k.1 x)), (.int .i64 (toD b k.2 x))])), (9, (.pointer (some ⟨b9, 0, none⟩)))]) ⟨U 4 rfl, U 7 rfl, e20, e9, trivial⟩
  clear U H
  replace hBa := (X0.trans X1).keep hBa
  replace hBb := (X0.trans X1).keep hBb
  replace hBf := (X0.trans X1).keep hBf
  replace Bq := (X0.trans X1).keep Bq
  replace Br := (X0.trans X1).keep Br
  replace X1 := X0.trans X1
  replace E := E.ext X1
  refine zAa (b := b9) (o := 0) (c' := #[(I6 (toD a k.1 x)), (I6 (toD b k.2 x))]) rfl rfl (by simp [Value.oneCell']) zCP rfl B9 (by first | (simp; done) | exact Nat.le_of_ble_eq_true rfl) rfl ?_
  intro w2 S2
  replace hBa := S2.keep (by omega) hBa
  replace hBb := S2.keep (by omega) hBb
  replace hBf := S2.keep (by omega) hBf
  replace Bq := S2.keep (by omega) Bq
  replace Br := S2.keep (by omega) Br
  replace E := S2.step E (by first | exact Or.inl (by omega) | exact Or.inr rfl | exact Or.inr (by assumption) | exact Or.inr (by simp) | exact Or.inr (by omega) | exact Or.inr (by dsimp only; omega))
  replace B9 := S2.blk
  refine zAB (zAC ?_)
  rcases Bool.eq_false_or_eq_true (both) with hbo | hbo
  ·have khbo := hbo
   rcases Bool.eq_false_or_eq_true (decide ((0 : Int) ≤ toD a k.1 x)) with hp1 | hp1
   ·have khp1 := hp1
    replace khp1 := of_decide_eq_true khp1
    refine zAH (zAA ?_)
    refine qV (zAG rfl zKa (hBf.cell rfl)) ?_
    refine zAB ?_
    refine zAk (congrArg Value.bool hbo) ?_
    have hz_3 : w0.heap.size ≤ w2.heap.size := E.size
    have lz_3_ba : ba < w2.heap.size := hBa.lt
    have lz_3_bb : bb < w2.heap.size := hBb.lt
    have lz_3_bf : bf < w2.heap.size := hBf.lt
    have lz_3_bq : bq < w2.heap.size := Bq.lt
    have lz_3_br : br < w2.heap.size := Br.lt
    have lz_3_b9 : b9 < w2.heap.size := B9.lt
    refine zAH ?_
    obtain ⟨Fs3, hFs3⟩ : ∃ Fs : List zCw, Fs = [(eF (.agg #[(I6 (toD a k.1 x)), (I6 (toD b k.2 x))])), (eF (P6 b9 0)), (eF (I6 (toD a k.1 x))), (eF (.bool true)), (eF (.bool true)), (eF (P6 b9 1)), (eF (I6 (toD b k.2 x))), (eF (.bool (decide ((0 : Int) ≤ toD b k.2 x)))), (eF (.bool (decide ((0 : Int) ≤ toD b k.2 x)))), (fun _ _ => (fun _ w => Blk w br #[(I6 (toD a k.1 x)), (I6 (toD b k.2 x))] 163)), (eF undef)] := ⟨_, rfl⟩
    refine zEz (MsL [(9, (fun y => y = br))]) [true, true, true, true, true, true, true, true, true, true, false] [10] [22, 23, 24, 25, 26, 27, 28, 29, 30, 49, 50] [[], [], [1], [2], [3], [4], [4, 5], [4, 6], [4, 7], [0, 4], []] [[], [], [1], [2, 1], [3, 2, 1], [4, 3, 2, 1], [4, 3, 2, 1, 5], [4, 3, 2, 1, 6, 5], [4, 3, 2, 1, 7, 6, 5], [0, 4, 3, 2, 1], []] Fs3 hFs3 (by kernel_rfl) mixed (by kernel_rfl) (by kernel_rfl) (by kernel_rfl) (by kernel_rfl) ?_ ?_
    ·intro wd X0
     refine qZ (fun S s' w' hi hN X U V H => ?_) ?_
     ·replace X := xN1 (hN 9 rfl) X
      exact zAR (zAP (U 9 rfl) zEJ zCP rfl (((X0.trans X).keep B9).cells rfl)) rfl
     refine qZ (fun S s' w' hi hN X U V H => ?_) ?_
     ·replace X := xN1 (hN 9 rfl) X
      exact zAR (zCE (i := 0) (U 9 rfl) rfl rfl underlying163 zAv (by omega) (by omega)) rfl
     refine qZ (fun S s' w' hi hN X U V H => ?_) ?_
     ·replace X := xN1 (hN 9 rfl) X
      have e23 := (H 1 rfl).2 23 _ rfl (by rw [hFs3]; rfl)
      exact zAR (zAG e23 zAm (((X0.trans X).keep B9).cell rfl)) rfl
     refine qZ (fun S s' w' hi hN X U V H => ?_) ?_
     ·replace X := xN1 (hN 9 rfl) X
      have e24 := (H 2 rfl).2 24 _ rfl (by rw [hFs3]; rfl)
      exact zAR (Eq.trans (zDF e24 rfl) (by rw [hp1])) rfl
     refine qZ (fun S s' w' hi hN X U V H => ?_) ?_
     ·replace X := xN1 (hN 9 rfl) X
      have e25 := (H 3 rfl).2 25 _ rfl (by rw [hFs3]; rfl)
      exact zAR (zAj e25) rfl
     refine DagStepsS.cons (zCF.eq) (zCf.const) (fun S s' w' hi hN X U V H => Or.inl ⟨zCt rfl rfl (d := 26) ((H 4 rfl).2 26 (eF (.bool true)) rfl (by rw [hFs3]; rfl)), ?_⟩) ?_
     ·replace X := xM1 X
      exact zAR (zCE (i := 1) (U 9 rfl) rfl rfl underlying163 zAv (by omega) (by omega)) rfl
     refine DagStepsS.cons (zCF.eq) (zCf.const) (fun S s' w' hi hN X U V H => Or.inl ⟨zCt rfl rfl (d := 26) ((H 4 rfl).2 26 (eF (.bool true)) rfl (by rw [hFs3]; rfl)), ?_⟩) ?_
     ·replace X := xM1 X
      have e27 := (H 5 rfl).2 27 _ rfl (by rw [hFs3]; rfl)
      exact zAR (zAG e27 zAm ((Chg.keep X kH (X0.keep B9)).cell rfl)) rfl
     refine DagStepsS.cons (zCF.eq) (zCf.const) (fun S s' w' hi hN X U V H => Or.inl ⟨zCt rfl rfl (d := 26) ((H 4 rfl).2 26 (eF (.bool true)) rfl (by rw [hFs3]; rfl)), ?_⟩) ?_
     ·replace X := xM1 X
      have e28 := (H 6 rfl).2 28 _ rfl (by rw [hFs3]; rfl)
      exact zAR (zDF e28 rfl) rfl
     refine qZ (fun S s' w' hi hN X U V H => ?_) ?_
     ·replace X := xM1 X
      have e26 := (H 4 rfl).2 26 _ rfl (by rw [hFs3]; rfl)
      have e29 := (H 7 rfl).2 29 _ rfl (by rw [hFs3]; rfl)
      exact zAR (zAr e26 e29) rfl
     refine DagStepsS.cons (zCF.chg (U := zAe) (fun v w w' x h => Chg.keep x (fun h => h) h) (fun p y hp hw h => by
        rcases zBN h with ⟨rfl, h0⟩ | h0
        ·exact absurd rfl hp
        exact h0.elim)) (zCf.const) (fun S s' w' hi hN X U V H => Or.inl ⟨zAI rfl, ?_⟩) ?_
     ·replace X := xN1 hi X
      have e22 := (H 0 rfl).2 22 _ rfl (by rw [hFs3]; rfl)
      exact zCX (b := br) (o := 0) (n := 2) (U 7 rfl) e22 (by simp [Value.oneCell']) zCP rfl ((X0.trans X).keep Br) (by simp) (by first | exact .inl ⟨rfl, rfl⟩ | exact .inr (.inl ⟨rfl, rfl⟩) | exact .inr (.inr (.inl ⟨rfl, rfl⟩))) (fun w9 h => by have h2 := h.blk; simpa using h2)
     refine DagStepsS.tail ?_
     exact DagStepsS.nil
    ·intro s' wd3 w3 X0 X3 U H
     replace X3 := X3.mono (M' := (fun y => (fun y => y = br) y)) (fun y _ h => by
       obtain ⟨j, hj, h⟩ := h
       rcases zBN h with ⟨rfl, h0⟩ | h0
       ·exact h0
       exact h0.elim)
     have e30 := H 8 rfl 30 _ rfl (by rw [hFs3]; rfl)
     obtain B49 := (show ((fun _ _ => (fun _ w => Blk w br #[(.int .i64 (toD a k.1 x)), (.int .i64 (toD b k.2 x))] 163)) : zCw) (zNP [true, true, true, true, true, true, true, true, true, true, false]) s' (s' 49) w3 from H 9 rfl 49 (fun _ _ => (fun _ w => Blk w br #[(.int .i64 (toD a k.1 x)), (.int .i64 (toD b k.2 x))] 163)) rfl (by rw [hFs3]; rfl))
     obtain ⟨j3, rfl⟩ := zAs.out (σ := s') (l := [(7, (.pointer (some ⟨br, 0, none⟩))), (30, (.bool (decide ((0 : Int) ≤ toD b k.2 x))))]) ⟨U 7 rfl, e30, trivial⟩
     clear U H
     replace Br := B49
     replace hBa := Chg.keep X3 kH (X0.keep hBa)
     replace hBb := Chg.keep X3 kH (X0.keep hBb)
     replace hBf := Chg.keep X3 kH (X0.keep hBf)
     replace Bq := Chg.keep X3 kH (X0.keep Bq)
     replace B9 := Chg.keep X3 kH (X0.keep B9)
     replace E := (E.ext X0).step X3 (fun y hy h => by first | omega | (dsimp only at h; omega))
     refine qA _ rfl ?_
     refine zAB (zAC (zAW (zAX ?_)))
     refine zBG results130 (vs := [(.int .i64 (toD a k.1 x)), (.int .i64 (toD b k.2 x))]) (b := br) (v' := (.bool (decide ((0 : Int) ≤ toD b k.2 x)))) rfl zEJ zCP rfl (Br.cells rfl) rfl ?_
     exact ⟨by unfold onP; rw [hbo]; simp [khp1], E⟩
   ·have khp1 := hp1
    replace khp1 := of_decide_eq_false khp1
    refine zAH (zAA ?_)
    refine qV (zAG rfl zKa (hBf.cell rfl)) ?_
    refine zAB ?_
    refine zAk (congrArg Value.bool hbo) ?_
    have hz_4 : w0.heap.size ≤ w2.heap.size := E.size
    have lz_4_ba : ba < w2.heap.size := hBa.lt
    have lz_4_bb : bb < w2.heap.size := hBb.lt
    have lz_4_bf : bf < w2.heap.size := hBf.lt
    have lz_4_bq : bq < w2.heap.size := Bq.lt
    have lz_4_br : br < w2.heap.size := Br.lt
    have lz_4_b9 : b9 < w2.heap.size := B9.lt
    refine zAH ?_
    obtain ⟨Fs4, hFs4⟩ : ∃ Fs : List zCw, Fs = [(eF (.agg #[(I6 (toD a k.1 x)), (I6 (toD b k.2 x))])), (eF (P6 b9 0)), (eF (I6 (toD a k.1 x))), (eF (.bool false)), (eF (.bool false)), (eF undef), (eF undef), (eF undef), (eF (.bool false)), (fun _ _ => (fun _ w => Blk w br #[(I6 (toD a k.1 x)), (I6 (toD b k.2 x))] 163)), (eF undef)] := ⟨_, rfl⟩
    refine zEz (MsL [(9, (fun y => y = br))]) [true, true, true, true, true, true, true, true, true, true, false] [10] [22, 23, 24, 25, 26, 27, 28, 29, 30, 49, 50] [[], [], [1], [2], [3], [4], [4, 5], [4, 6], [4, 7], [0, 4], []] [[], [], [1], [2, 1], [3, 2, 1], [4, 3, 2, 1], [4, 3, 2, 1, 5], [4, 3, 2, 1, 6, 5], [4, 3, 2, 1, 7, 6, 5], [0, 4, 3, 2, 1], []] Fs4 hFs4 (by kernel_rfl) mixed (by kernel_rfl) (by kernel_rfl) (by kernel_rfl) (by kernel_rfl) ?_ ?_
    ·intro wd X0
     refine qZ (fun S s' w' hi hN X U V H => ?_) ?_
     ·replace X := xN1 (hN 9 rfl) X
      exact zAR (zAP (U 9 rfl) zEJ zCP rfl (((X0.trans X).keep B9).cells rfl)) rfl
     refine qZ (fun S s' w' hi hN X U V H => ?_) ?_
     ·replace X := xN1 (hN 9 rfl) X
      exact zAR (zCE (i := 0) (U 9 rfl) rfl rfl underlying163 zAv (by omega) (by omega)) rfl
     refine qZ (fun S s' w' hi hN X U V H => ?_) ?_
     ·replace X := xN1 (hN 9 rfl) X
      have e23 := (H 1 rfl).2 23 _ rfl (by rw [hFs4]; rfl)
      exact zAR (zAG e23 zAm (((X0.trans X).keep B9).cell rfl)) rfl
     refine qZ (fun S s' w' hi hN X U V H => ?_) ?_
     ·replace X := xN1 (hN 9 rfl) X
      have e24 := (H 2 rfl).2 24 _ rfl (by rw [hFs4]; rfl)
      exact zAR (Eq.trans (zDF e24 rfl) (by rw [hp1])) rfl
     refine qZ (fun S s' w' hi hN X U V H => ?_) ?_
     ·replace X := xN1 (hN 9 rfl) X
      have e25 := (H 3 rfl).2 25 _ rfl (by rw [hFs4]; rfl)
      exact zAR (zAj e25) rfl
     refine DagStepsS.cons (zCF.eq) (zCf.const) (fun S s' w' hi hN X U V H => Or.inr ⟨zFj rfl rfl (d := 26) (Or.inl ((H 4 rfl).2 26 (eF (.bool false)) rfl (by rw [hFs4]; rfl))), ?_⟩) ?_
     ·exact rfl
     refine DagStepsS.cons (zCF.eq) (zCf.const) (fun S s' w' hi hN X U V H => Or.inr ⟨zFj rfl rfl (d := 26) (Or.inl ((H 4 rfl).2 26 (eF (.bool false)) rfl (by rw [hFs4]; rfl))), ?_⟩) ?_
     ·exact rfl
     refine DagStepsS.cons (zCF.eq) (zCf.const) (fun S s' w' hi hN X U V H => Or.inr ⟨zFj rfl rfl (d := 26) (Or.inl ((H 4 rfl).2 26 (eF (.bool false)) rfl (by rw [hFs4]; rfl))), ?_⟩) ?_
     ·exact rfl
     refine qZ (fun S s' w' hi hN X U V H => ?_) ?_
     ·replace X := xM1 X
      have e26 := (H 4 rfl).2 26 _ rfl (by rw [hFs4]; rfl)
      exact zAR (zAr e26 rfl) rfl
     refine DagStepsS.cons (zCF.chg (U := zAe) (fun v w w' x h => Chg.keep x (fun h => h) h) (fun p y hp hw h => by
        rcases zBN h with ⟨rfl, h0⟩ | h0
        ·exact absurd rfl hp
        exact h0.elim)) (zCf.const) (fun S s' w' hi hN X U V H => Or.inl ⟨zAI rfl, ?_⟩) ?_
     ·replace X := xN1 hi X
      have e22 := (H 0 rfl).2 22 _ rfl (by rw [hFs4]; rfl)
      exact zCX (b := br) (o := 0) (n := 2) (U 7 rfl) e22 (by simp [Value.oneCell']) zCP rfl ((X0.trans X).keep Br) (by simp) (by first | exact .inl ⟨rfl, rfl⟩ | exact .inr (.inl ⟨rfl, rfl⟩) | exact .inr (.inr (.inl ⟨rfl, rfl⟩))) (fun w9 h => by have h2 := h.blk; simpa using h2)
     refine DagStepsS.tail ?_
     exact DagStepsS.nil
    ·intro s' wd4 w4 X0 X4 U H
     replace X4 := X4.mono (M' := (fun y => (fun y => y = br) y)) (fun y _ h => by
       obtain ⟨j, hj, h⟩ := h
       rcases zBN h with ⟨rfl, h0⟩ | h0
       ·exact h0
       exact h0.elim)
     have e30 := H 8 rfl 30 _ rfl (by rw [hFs4]; rfl)
     obtain B49 := (show ((fun _ _ => (fun _ w => Blk w br #[(.int .i64 (toD a k.1 x)), (.int .i64 (toD b k.2 x))] 163)) : zCw) (zNP [true, true, true, true, true, true, true, true, true, true, false]) s' (s' 49) w4 from H 9 rfl 49 (fun _ _ => (fun _ w => Blk w br #[(.int .i64 (toD a k.1 x)), (.int .i64 (toD b k.2 x))] 163)) rfl (by rw [hFs4]; rfl))
     obtain ⟨j4, rfl⟩ := zAs.out (σ := s') (l := [(7, (.pointer (some ⟨br, 0, none⟩))), (30, (.bool false))]) ⟨U 7 rfl, e30, trivial⟩
     clear U H
     replace Br := B49
     replace hBa := Chg.keep X4 kH (X0.keep hBa)
     replace hBb := Chg.keep X4 kH (X0.keep hBb)
     replace hBf := Chg.keep X4 kH (X0.keep hBf)
     replace Bq := Chg.keep X4 kH (X0.keep Bq)
     replace B9 := Chg.keep X4 kH (X0.keep B9)
     replace E := (E.ext X0).step X4 (fun y hy h => by first | omega | (dsimp only at h; omega))
     refine qA _ rfl ?_
     refine zAB (zAC (zAW (zAX ?_)))
     refine zBG results130 (vs := [(.int .i64 (toD a k.1 x)), (.int .i64 (toD b k.2 x))]) (b := br) (v' := (.bool false)) rfl zEJ zCP rfl (Br.cells rfl) rfl ?_
     exact ⟨by unfold onP; rw [hbo]; simp [show ¬ (0 : Int) ≤ toD a k.1 x by omega], E⟩
  ·have khbo := hbo
   rcases Bool.eq_false_or_eq_true (decide ((0 : Int) ≤ toD a k.1 x)) with hp1 | hp1
   ·have khp1 := hp1
    replace khp1 := of_decide_eq_true khp1
    refine zAH (zAA ?_)
    refine qV (zAG rfl zKa (hBf.cell rfl)) ?_
    refine zAB ?_
    refine zAN (congrArg Value.bool hbo) ?_
    refine zAO (zAC ?_)
    have hz_5 : w0.heap.size ≤ w2.heap.size := E.size
    have lz_5_ba : ba < w2.heap.size := hBa.lt
    have lz_5_bb : bb < w2.heap.size := hBb.lt
    have lz_5_bf : bf < w2.heap.size := hBf.lt
    have lz_5_bq : bq < w2.heap.size := Bq.lt
    have lz_5_br : br < w2.heap.size := Br.lt
    have lz_5_b9 : b9 < w2.heap.size := B9.lt
    refine zAH ?_
    obtain ⟨Fs5, hFs5⟩ : ∃ Fs : List zCw, Fs = [(eF (.agg #[(I6 (toD a k.1 x)), (I6 (toD b k.2 x))])), (eF (P6 b9 0)), (eF (I6 (toD a k.1 x))), (eF (.bool true)), (eF (.bool true)), (eF undef), (eF undef), (eF undef), (eF (.bool true)), (fun _ _ => (fun _ w => Blk w br #[(I6 (toD a k.1 x)), (I6 (toD b k.2 x))] 163)), (eF undef)] := ⟨_, rfl⟩
    refine zEz (MsL [(9, (fun y => y = br))]) [true, true, true, true, true, true, true, true, true, true, false] [10] [31, 32, 33, 34, 35, 36, 37, 38, 39, 49, 50] [[], [], [1], [2], [3], [4], [4, 5], [4, 6], [4, 7], [0, 4], []] [[], [], [1], [2, 1], [3, 2, 1], [4, 3, 2, 1], [4, 3, 2, 1, 5], [4, 3, 2, 1, 6, 5], [4, 3, 2, 1, 7, 6, 5], [0, 4, 3, 2, 1], []] Fs5 hFs5 (by kernel_rfl) mixed (by kernel_rfl) (by kernel_rfl) (by kernel_rfl) (by kernel_rfl) ?_ ?_
    ·intro wd X0
     refine qZ (fun S s' w' hi hN X U V H => ?_) ?_
     ·replace X := xN1 (hN 9 rfl) X
      exact zAR (zAP (U 9 rfl) zEJ zCP rfl (((X0.trans X).keep B9).cells rfl)) rfl
     refine qZ (fun S s' w' hi hN X U V H => ?_) ?_
     ·replace X := xN1 (hN 9 rfl) X
      exact zAR (zCE (i := 0) (U 9 rfl) rfl rfl underlying163 zAv (by omega) (by omega)) rfl
     refine qZ (fun S s' w' hi hN X U V H => ?_) ?_
     ·replace X := xN1 (hN 9 rfl) X
      have e32 := (H 1 rfl).2 32 _ rfl (by rw [hFs5]; rfl)
      exact zAR (zAG e32 zAm (((X0.trans X).keep B9).cell rfl)) rfl
     refine qZ (fun S s' w' hi hN X U V H => ?_) ?_
     ·replace X := xN1 (hN 9 rfl) X
      have e33 := (H 2 rfl).2 33 _ rfl (by rw [hFs5]; rfl)
      exact zAR (Eq.trans (zDF e33 rfl) (by rw [hp1])) rfl
     refine qZ (fun S s' w' hi hN X U V H => ?_) ?_
     ·replace X := xN1 (hN 9 rfl) X
      have e34 := (H 3 rfl).2 34 _ rfl (by rw [hFs5]; rfl)
      exact zAR (zAj e34) rfl
     refine DagStepsS.cons (zCF.eq) (zCf.const) (fun S s' w' hi hN X U V H => Or.inr ⟨zFj rfl rfl (d := 35) (Or.inl ((H 4 rfl).2 35 (eF (.bool true)) rfl (by rw [hFs5]; rfl))), ?_⟩) ?_
     ·exact rfl
     refine DagStepsS.cons (zCF.eq) (zCf.const) (fun S s' w' hi hN X U V H => Or.inr ⟨zFj rfl rfl (d := 35) (Or.inl ((H 4 rfl).2 35 (eF (.bool true)) rfl (by rw [hFs5]; rfl))), ?_⟩) ?_
     ·exact rfl
     refine DagStepsS.cons (zCF.eq) (zCf.const) (fun S s' w' hi hN X U V H => Or.inr ⟨zFj rfl rfl (d := 35) (Or.inl ((H 4 rfl).2 35 (eF (.bool true)) rfl (by rw [hFs5]; rfl))), ?_⟩) ?_
     ·exact rfl
     refine qZ (fun S s' w' hi hN X U V H => ?_) ?_
     ·replace X := xM1 X
      have e35 := (H 4 rfl).2 35 _ rfl (by rw [hFs5]; rfl)
      exact zAR (zAr e35 rfl) rfl
     refine DagStepsS.cons (zCF.chg (U := zAe) (fun v w w' x h => Chg.keep x (fun h => h) h) (fun p y hp hw h => by
        rcases zBN h with ⟨rfl, h0⟩ | h0
        ·exact absurd rfl hp
        exact h0.elim)) (zCf.const) (fun S s' w' hi hN X U V H => Or.inl ⟨zAI rfl, ?_⟩) ?_
     ·replace X := xN1 hi X
      have e31 := (H 0 rfl).2 31 _ rfl (by rw [hFs5]; rfl)
      exact zCX (b := br) (o := 0) (n := 2) (U 7 rfl) e31 (by simp [Value.oneCell']) zCP rfl ((X0.trans X).keep Br) (by simp) (by first | exact .inl ⟨rfl, rfl⟩ | exact .inr (.inl ⟨rfl, rfl⟩) | exact .inr (.inr (.inl ⟨rfl, rfl⟩))) (fun w9 h => by have h2 := h.blk; simpa using h2)
     refine DagStepsS.tail ?_
     exact DagStepsS.nil
    ·intro s' wd5 w5 X0 X5 U H
     replace X5 := X5.mono (M' := (fun y => (fun y => y = br) y)) (fun y _ h => by
       obtain ⟨j, hj, h⟩ := h
       rcases zBN h with ⟨rfl, h0⟩ | h0
       ·exact h0
       exact h0.elim)
     have e39 := H 8 rfl 39 _ rfl (by rw [hFs5]; rfl)
     obtain B49 := (show ((fun _ _ => (fun _ w => Blk w br #[(.int .i64 (toD a k.1 x)), (.int .i64 (toD b k.2 x))] 163)) : zCw) (zNP [true, true, true, true, true, true, true, true, true, true, false]) s' (s' 49) w5 from H 9 rfl 49 (fun _ _ => (fun _ w => Blk w br #[(.int .i64 (toD a k.1 x)), (.int .i64 (toD b k.2 x))] 163)) rfl (by rw [hFs5]; rfl))
     obtain ⟨j5, rfl⟩ := zAs.out (σ := s') (l := [(7, (.pointer (some ⟨br, 0, none⟩))), (39, (.bool true))]) ⟨U 7 rfl, e39, trivial⟩
     clear U H
     replace Br := B49
     replace hBa := Chg.keep X5 kH (X0.keep hBa)
     replace hBb := Chg.keep X5 kH (X0.keep hBb)
     replace hBf := Chg.keep X5 kH (X0.keep hBf)
     replace Bq := Chg.keep X5 kH (X0.keep Bq)
     replace B9 := Chg.keep X5 kH (X0.keep B9)
     replace E := (E.ext X0).step X5 (fun y hy h => by first | omega | (dsimp only at h; omega))
     refine qA _ rfl ?_
     refine zAB (zAC (zAW ?_))
     refine zBG results130 (vs := [(.int .i64 (toD a k.1 x)), (.int .i64 (toD b k.2 x))]) (b := br) (v' := (.bool true)) rfl zEJ zCP rfl (Br.cells rfl) rfl ?_
     exact ⟨by unfold onP; rw [hbo]; simp [khp1], E⟩
   ·have khp1 := hp1
    replace khp1 := of_decide_eq_false khp1
    refine zAH (zAA ?_)
    refine qV (zAG rfl zKa (hBf.cell rfl)) ?_
    refine zAB ?_
    refine zAN (congrArg Value.bool hbo) ?_
    refine zAO (zAC ?_)
    have hz_6 : w0.heap.size ≤ w2.heap.size := E.size
    have lz_6_ba : ba < w2.heap.size := hBa.lt
    have lz_6_bb : bb < w2.heap.size := hBb.lt
    have lz_6_bf : bf < w2.heap.size := hBf.lt
    have lz_6_bq : bq < w2.heap.size := Bq.lt
    have lz_6_br : br < w2.heap.size := Br.lt
    have lz_6_b9 : b9 < w2.heap.size := B9.lt
    refine zAH ?_
    obtain ⟨Fs6, hFs6⟩ : ∃ Fs : List zCw, Fs = [(eF (.agg #[(I6 (toD a k.1 x)), (I6 (toD b k.2 x))])), (eF (P6 b9 0)), (eF (I6 (toD a k.1 x))), (eF (.bool false)), (eF (.bool false)), (eF (P6 b9 1)), (eF (I6 (toD b k.2 x))), (eF (.bool (decide ((0 : Int) ≤ toD b k.2 x)))), (eF (.bool (decide ((0 : Int) ≤ toD b k.2 x)))), (fun _ _ => (fun _ w => Blk w br #[(I6 (toD a k.1 x)), (I6 (toD b k.2 x))] 163)), (eF undef)] := ⟨_, rfl⟩
    refine zEz (MsL [(9, (fun y => y = br))]) [true, true, true, true, true, true, true, true, true, true, false] [10] [31, 32, 33, 34, 35, 36, 37, 38, 39, 49, 50] [[], [], [1], [2], [3], [4], [4, 5], [4, 6], [4, 7], [0, 4], []] [[], [], [1], [2, 1], [3, 2, 1], [4, 3, 2, 1], [4, 3, 2, 1, 5], [4, 3, 2, 1, 6, 5], [4, 3, 2, 1, 7, 6, 5], [0, 4, 3, 2, 1], []] Fs6 hFs6 (by kernel_rfl) mixed (by kernel_rfl) (by kernel_rfl) (by kernel_rfl) (by kernel_rfl) ?_ ?_
    ·intro wd X0
     refine qZ (fun S s' w' hi hN X U V H => ?_) ?_
     ·replace X := xN1 (hN 9 rfl) X
      exact zAR (zAP (U 9 rfl) zEJ zCP rfl (((X0.trans X).keep B9).cells rfl)) rfl
     refine qZ (fun S s' w' hi hN X U V H => ?_) ?_
     ·replace X := xN1 (hN 9 rfl) X
      exact zAR (zCE (i := 0) (U 9 rfl) rfl rfl underlying163 zAv (by omega) (by omega)) rfl
     refine qZ (fun S s' w' hi hN X U V H => ?_) ?_
     ·replace X := xN1 (hN 9 rfl) X
      have e32 := (H 1 rfl).2 32 _ rfl (by rw [hFs6]; rfl)
      exact zAR (zAG e32 zAm (((X0.trans X).keep B9).cell rfl)) rfl
     refine qZ (fun S s' w' hi hN X U V H => ?_) ?_
     ·replace X := xN1 (hN 9 rfl) X
      have e33 := (H 2 rfl).2 33 _ rfl (by rw [hFs6]; rfl)
      exact zAR (Eq.trans (zDF e33 rfl) (by rw [hp1])) rfl
     refine qZ (fun S s' w' hi hN X U V H => ?_) ?_
     ·replace X := xN1 (hN 9 rfl) X
      have e34 := (H 3 rfl).2 34 _ rfl (by rw [hFs6]; rfl)
      exact zAR (zAj e34) rfl
     refine DagStepsS.cons (zCF.eq) (zCf.const) (fun S s' w' hi hN X U V H => Or.inl ⟨zCt rfl rfl (d := 35) ((H 4 rfl).2 35 (eF (.bool false)) rfl (by rw [hFs6]; rfl)), ?_⟩) ?_
     ·replace X := xM1 X
      exact zAR (zCE (i := 1) (U 9 rfl) rfl rfl underlying163 zAv (by omega) (by omega)) rfl
     refine DagStepsS.cons (zCF.eq) (zCf.const) (fun S s' w' hi hN X U V H => Or.inl ⟨zCt rfl rfl (d := 35) ((H 4 rfl).2 35 (eF (.bool false)) rfl (by rw [hFs6]; rfl)), ?_⟩) ?_
     ·replace X := xM1 X
      have e36 := (H 5 rfl).2 36 _ rfl (by rw [hFs6]; rfl)
      exact zAR (zAG e36 zAm ((Chg.keep X kH (X0.keep B9)).cell rfl)) rfl
     refine DagStepsS.cons (zCF.eq) (zCf.const) (fun S s' w' hi hN X U V H => Or.inl ⟨zCt rfl rfl (d := 35) ((H 4 rfl).2 35 (eF (.bool false)) rfl (by rw [hFs6]; rfl)), ?_⟩) ?_
     ·replace X := xM1 X
      have e37 := (H 6 rfl).2 37 _ rfl (by rw [hFs6]; rfl)
      exact zAR (zDF e37 rfl) rfl
     refine qZ (fun S s' w' hi hN X U V H => ?_) ?_
     ·replace X := xM1 X
      have e35 := (H 4 rfl).2 35 _ rfl (by rw [hFs6]; rfl)
      have e38 := (H 7 rfl).2 38 _ rfl (by rw [hFs6]; rfl)
      exact zAR (zAr e35 e38) rfl
     refine DagStepsS.cons (zCF.chg (U := zAe) (fun v w w' x h => Chg.keep x (fun h => h) h) (fun p y hp hw h => by
        rcases zBN h with ⟨rfl, h0⟩ | h0
        ·exact absurd rfl hp
        exact h0.elim)) (zCf.const) (fun S s' w' hi hN X U V H => Or.inl ⟨zAI rfl, ?_⟩) ?_
     ·replace X := xN1 hi X
      have e31 := (H 0 rfl).2 31 _ rfl (by rw [hFs6]; rfl)
      exact zCX (b := br) (o := 0) (n := 2) (U 7 rfl) e31 (by simp [Value.oneCell']) zCP rfl ((X0.trans X).keep Br) (by simp) (by first | exact .inl ⟨rfl, rfl⟩ | exact .inr (.inl ⟨rfl, rfl⟩) | exact .inr (.inr (.inl ⟨rfl, rfl⟩))) (fun w9 h => by have h2 := h.blk; simpa using h2)
     refine DagStepsS.tail ?_
     exact DagStepsS.nil
    ·intro s' wd6 w6 X0 X6 U H
     replace X6 := X6.mono (M' := (fun y => (fun y => y = br) y)) (fun y _ h => by
       obtain ⟨j, hj, h⟩ := h
       rcases zBN h with ⟨rfl, h0⟩ | h0
       ·exact h0
       exact h0.elim)
     have e39 := H 8 rfl 39 _ rfl (by rw [hFs6]; rfl)
     obtain B49 := (show ((fun _ _ => (fun _ w => Blk w br #[(.int .i64 (toD a k.1 x)), (.int .i64 (toD b k.2 x))] 163)) : zCw) (zNP [true, true, true, true, true, true, true, true, true, true, false]) s' (s' 49) w6 from H 9 rfl 49 (fun _ _ => (fun _ w => Blk w br #[(.int .i64 (toD a k.1 x)), (.int .i64 (toD b k.2 x))] 163)) rfl (by rw [hFs6]; rfl))
     obtain ⟨j6, rfl⟩ := zAs.out (σ := s') (l := [(7, (.pointer (some ⟨br, 0, none⟩))), (39, (.bool (decide ((0 : Int) ≤ toD b k.2 x))))]) ⟨U 7 rfl, e39, trivial⟩
     clear U H
     replace Br := B49
     replace hBa := Chg.keep X6 kH (X0.keep hBa)
     replace hBb := Chg.keep X6 kH (X0.keep hBb)
     replace hBf := Chg.keep X6 kH (X0.keep hBf)
     replace Bq := Chg.keep X6 kH (X0.keep Bq)
     replace B9 := Chg.keep X6 kH (X0.keep B9)
     replace E := (E.ext X0).step X6 (fun y hy h => by first | omega | (dsimp only at h; omega))
     refine qA _ rfl ?_
     refine zAB (zAC (zAW ?_))
     refine zBG results130 (vs := [(.int .i64 (toD a k.1 x)), (.int .i64 (toD b k.2 x))]) (b := br) (v' := (.bool (decide ((0 : Int) ≤ toD b k.2 x)))) rfl zEJ zCP rfl (Br.cells rfl) rfl ?_
     exact ⟨by unfold onP; rw [hbo]; simp [show ¬ (0 : Int) ≤ toD a k.1 x by omega], E⟩
theorem zTI (w0 : World) (n m c : Nat) (a b : Dfa) (av bv : List Value) (both : Bool) (ba bb bf : Nat) (k : Int × Int) (oka : OkD n c a) (okb : OkD m c b) (ha : zBV w0 a av) (hb : zBV w0 b bv) (hBa : Blk w0 ba av.toArray 34) (hBb : Blk w0 bb bv.toArray 34) (hBf : Blk w0 bf #[.bool both] 4) (hk : k.1 < n ∧ k.2 < m) :
  Ret prog 132 #[.agg #[.int .i64 k.1, .int .i64 k.2], .pointer (some ⟨ba, 0, none⟩), .pointer (some ⟨bb, 0, none⟩), .pointer (some ⟨bf, 0, none⟩)] w0 fun r w => r = .int .i64 (zJv both a b k) ∧ Ext w0 w := by
 have ha' := ha
 have hb' := hb
 have hal := oka.al
 have hbl := okb.al
 obtain ⟨aa, ac, na, nc, rfl, _, _⟩ := ha'
 obtain ⟨aa2, ac2, na2, nc2, rfl, _, _⟩ := hb'
 obtain ⟨x, hx⟩ : ∃ x, x = atD a k.1 := ⟨_, rfl⟩
 obtain ⟨y, hy⟩ : ∃ y, y = atD b k.2 := ⟨_, rfl⟩
 refine zDE func132 rfl ntmps132 (Nat.le_of_ble_eq_true rfl) ?_
 have E : Chg zAe w0 w0 := Chg.refl _ _
 refine zAA ?_
 refine zBY (v := (.agg #[(I6 k.1), (I6 k.2)])) (c := #[(I6 k.1), (I6 k.2)]) (by decide) rfl rfl ?_
 intro bq wq Nq
 have Fq := Nq.ge E
 have Oq_ba := Nq.lt hBa
 have Oq_bb := Nq.lt hBb
 have Oq_bf := Nq.lt hBf
 replace hBa := Nq.keep hBa
 replace hBb := Nq.keep hBb
 replace hBf := Nq.keep hBf
 replace E := E.ext Nq.ext
 have Bq := Nq.blk
 refine qA _ rfl ?_
 refine zAB ?_
 have hz_1 : w0.heap.size ≤ wq.heap.size := E.size
 have lz_1_ba : ba < wq.heap.size := hBa.lt
 have lz_1_bb : bb < wq.heap.size := hBb.lt
 have lz_1_bf : bf < wq.heap.size := hBf.lt
 have lz_1_bq : bq < wq.heap.size := Bq.lt
 refine zAH ?_
 obtain ⟨Fs1, hFs1⟩ : ∃ Fs : List zCw, Fs = [(eF (.agg #[(I6 a.start), (.slice aa a.accept.length ac), (.slice na a.next.length nc)])), (eF (P6 bq 0)), (eF (I6 k.1)), (eF (I6 x)), (eF (.agg #[(I6 b.start), (.slice aa2 b.accept.length ac2), (.slice na2 b.next.length nc2)])), (eF (P6 bq 1)), (eF (I6 k.2)), (eF (I6 y)), (eF (I6 x)), (eF (I6 y))] := ⟨_, rfl⟩
 refine zEz (MsL []) [true, true, true, true, true, true, true, true, true, true] [] [8, 9, 10, 11, 12, 13, 14, 15, 6, 7] [[], [], [1], [0, 2], [], [], [5], [3, 4, 6], [0, 1, 2, 3, 7], [0, 1, 2, 3, 4, 5, 6, 7, 8]] [[], [], [1], [0, 2, 1], [], [], [5], [3, 0, 2, 1, 4, 6, 5], [0, 1, 2, 3, 7, 4, 6, 5], [0, 1, 2, 3, 4, 5, 6, 7, 8]] Fs1 hFs1 (by kernel_rfl) mixed (by kernel_rfl) (by kernel_rfl) (by kernel_rfl) (by kernel_rfl) ?_ ?_
 ·intro wd X0
  refine qZ (fun S s' w' hi hN X U V H => ?_) ?_
  ·replace X := xN0 X
   exact zAR (zAP (U 1 rfl) zBC zAi rfl (((X0.trans X).keep hBa).cells rfl)) rfl
  refine qZ (fun S s' w' hi hN X U V H => ?_) ?_
  ·replace X := xN0 X
   exact zAR (zCE (i := 0) (U 4 rfl) rfl rfl underlying163 zAv (by omega) (by omega)) rfl
  refine qZ (fun S s' w' hi hN X U V H => ?_) ?_
  ·replace X := xN0 X
   have e9 := (H 1 rfl).2 9 _ rfl (by rw [hFs1]; rfl)
   exact zAR (zAG e9 zAm (((X0.trans X).keep Bq).cell rfl)) rfl
  refine qZ (fun S s' w' hi hN X U V H => ?_) ?_
  ·replace X := xN0 X
   have e8 := (H 0 rfl).2 8 _ rfl (by rw [hFs1]; rfl)
   have e10 := (H 2 rfl).2 10 _ rfl (by rw [hFs1]; rfl)
   exact zCC (zAU func133 kQ kQ (zPH e8 e10)) ((zRn _ a _ k.1 (ha.ext (Ext.trans E (X0.trans X))) (by omega)).mono (fun v w h => ⟨by rw [hx]; exact h.1, h.2⟩))
  refine qZ (fun S s' w' hi hN X U V H => ?_) ?_
  ·replace X := xN0 X
   exact zAR (zAP (U 2 rfl) zBC zAi rfl (((X0.trans X).keep hBb).cells rfl)) rfl
  refine qZ (fun S s' w' hi hN X U V H => ?_) ?_
  ·replace X := xN0 X
   exact zAR (zCE (i := 1) (U 4 rfl) rfl rfl underlying163 zAv (by omega) (by omega)) rfl
  refine qZ (fun S s' w' hi hN X U V H => ?_) ?_
  ·replace X := xN0 X
   have e13 := (H 5 rfl).2 13 _ rfl (by rw [hFs1]; rfl)
   exact zAR (zAG e13 zAm (((X0.trans X).keep Bq).cell rfl)) rfl
  refine qZ (fun S s' w' hi hN X U V H => ?_) ?_
  ·replace X := xN0 X
   have e12 := (H 4 rfl).2 12 _ rfl (by rw [hFs1]; rfl)
   have e14 := (H 6 rfl).2 14 _ rfl (by rw [hFs1]; rfl)
   exact zCC (zAU func133 kQ kQ (zPH e12 e14)) ((zRn _ b _ k.2 (hb.ext (Ext.trans E (X0.trans X))) (by omega)).mono (fun v w h => ⟨by rw [hy]; exact h.1, h.2⟩))
  refine qZ (fun S s' w' hi hN X U V H => ?_) ?_
  ·replace X := xN0 X
   have e11 := (H 3 rfl).2 11 _ rfl (by rw [hFs1]; rfl)
   exact zAR (zEu e11) rfl
  refine qZ (fun S s' w' hi hN X U V H => ?_) ?_
  ·replace X := xN0 X
   have e15 := (H 7 rfl).2 15 _ rfl (by rw [hFs1]; rfl)
   exact zAR (zEu e15) rfl
  exact DagStepsS.nil
 ·intro s' wd1 w1 X0 X1 U H
  replace X1 := X1.mono (M' := zAe) (fun y _ h => by
    obtain ⟨j, hj, h⟩ := h
    exact h.elim)
  have e6 := H 8 rfl 6 _ rfl (by rw [hFs1]; rfl)
  have e7 := H 9 rfl 7 _ rfl (by rw [hFs1]; rfl)
  obtain ⟨j1, rfl⟩ := zAs.out (σ := s') (l := [(3, (.pointer (some ⟨bf, 0, none⟩))), (6, (.int .i64 x)), (7, (.int .i64 y))]) ⟨U 3 rfl, e6, e7, trivial⟩
  clear U H
  replace hBa := (X0.trans X1).keep hBa
  replace hBb := (X0.trans X1).keep hBb
  replace hBf := (X0.trans X1).keep hBf
  replace Bq := (X0.trans X1).keep Bq
  replace X1 := X0.trans X1
  replace E := E.ext X1
  refine zAB (zAC (zAH (zAT (zAA ?_))))
  refine qV (zAG rfl zKa (hBf.cell rfl)) ?_
  refine qM _ rfl ?_
  refine qG (.bool both) (yU both (I6 y)) (by cases both <;> first | exact gA | exact gB | exact .inl ⟨rfl, zAj rfl⟩) ?_
  obtain ⟨e2, he2⟩ : ∃ e, (decide ((y : Int) < 0)) = e := ⟨_, rfl⟩
  refine qG (.bool both) (yU both (.bool e2)) (by cases both <;> first | exact gA | exact gB | exact .inl ⟨rfl, (zBA rfl rfl).trans (by rw [he2]; try rfl)⟩) ?_
  obtain ⟨e3, he3⟩ : ∃ e, (both && e2) = e := ⟨_, rfl⟩
  refine qV (zAr (v := .bool e3) rfl (by rw [← he3]; cases both <;> rfl)) ?_
  refine qA _ rfl ?_
  refine zAB ?_
  subst he3
  subst he2
  refine zAx rfl (fun hq1 => ?_) (fun hq1 => ?_)
  ·have khq1 := hq1
   refine zAA ?_
   refine qA _ rfl ?_
   refine zAB (zAW (zAh (zAX ?_)))
   refine zAZ results132 (v := (.int .i64 (-1))) rfl ?_
   exact ⟨zBM (by unfold zJv jnP; rw [← hx, ← hy, if_pos khq1]), E⟩
  ·have khq1 := hq1
   refine zAA ?_
   refine qV (zAG rfl zKa (hBf.cell rfl)) ?_
   refine qM _ rfl ?_
   refine qG (.bool both) (nU both (I6 x)) (by cases both <;> first | exact gA | exact gB | exact .inl ⟨rfl, zAj rfl⟩) ?_
   obtain ⟨e5, he5⟩ : ∃ e, (decide ((0 : Int) ≤ x)) = e := ⟨_, rfl⟩
   refine qG (.bool both) (nU both (.bool e5)) (by cases both <;> first | exact gA | exact gB | exact .inl ⟨rfl, (zDF rfl rfl).trans (by rw [he5]; try rfl)⟩) ?_
   obtain ⟨e6, he6⟩ : ∃ e, (both || e5) = e := ⟨_, rfl⟩
   refine qV (zAr (v := .bool e6) rfl (by rw [← he6]; cases both <;> rfl)) ?_
   refine qA _ rfl ?_
   refine zAB ?_
   subst he6
   subst he5
   refine zAx rfl (fun hq2 => ?_) (fun hq2 => ?_)
   ·have khq2 := hq2
    refine zAA ?_
    refine qM _ rfl ?_
    refine qA _ rfl ?_
    refine zAB (zAW (zAh (zAX ?_)))
    refine zAZ results132 (v := (.int .i64 x)) rfl ?_
    exact ⟨zBM (by unfold zJv jnP; rw [← hx, ← hy, if_neg (by rw [khq1]; decide), if_pos khq2]), E⟩
   ·have khq2 := hq2
    refine zAO (zAS (zAC (zAA ?_)))
    refine qM _ rfl ?_
    refine qA _ rfl ?_
    refine zAB (zAW ?_)
    refine zAZ results132 (v := (.int .i64 y)) rfl ?_
    exact ⟨zBM (by unfold zJv jnP; rw [← hx, ← hy, if_neg (by rw [khq1]; decide), if_neg (by rw [khq2]; decide)]), E⟩
def zMA {α:Type} (c most:Nat) (stp:α→Nat→Option α) (acc:α→Int) (a0:α) (base:Nat):Fct:=fun v w=>∃D ea ec na nc vs,v=.agg #[.int .i64 D.start,.slice ea D.accept.length ec,.slice na D.next.length nc]∧ExpOf c most stp acc a0 D∧OutSt w base (.slice ea D.accept.length ec) (.slice na D.next.length nc) vs D.accept D.next
theorem zHx {α:Type} {c most:Nat} {stp:α→Nat→Option α} {acc:α→Int} {a0:α} {base:Nat}:∀v w w',Ext w w'→zMA c most stp acc a0 base v w→zMA c most stp acc a0 base v w':=by
 rintro v w w' x ⟨D,ea,ec,na,nc,vs,h3,h2,h4⟩;exact ⟨D,ea,ec,na,nc,vs,h3,h2,h4.ext x⟩
theorem zRg {α:Type} {c most:Nat} {stp:α→Nat→Option α} {acc:α→Int} {a0:α} {base:Nat}:∀u w,zMA c most stp acc a0 base u w→∃vs:Array Value,u=.agg vs∧vs.size=3∧∀v∈vs.toList,v.oneCell'=true:=by
 rintro u w ⟨D,ea,ec,na,nc,vs,h3,h2,h4⟩;exact ⟨_,h3,rfl,by simp[Value.oneCell']⟩
theorem OutSt.dfa {w:World} {base:Nat} {ea na:Option Addr} {ec nc:Nat} {vs:List Value} {D:Dfa} (h:OutSt w base (.slice ea D.accept.length ec) (.slice na D.next.length nc) vs D.accept D.next):zBV w D [.int .i64 D.start,.slice ea D.accept.length ec,.slice na D.next.length nc]:=
 ⟨ea,ec,na,nc,rfl,zEe h.e rfl,h.intss⟩
theorem zRf {α:Type} {c most:Nat} {stp:α→Nat→Option α} {acc:α→Int} {a0:α} {base b:Nat} {cs:Array Value}:∀u w w',Blk w b cs 34→Chg (fun y=>y=b) w w'→zMA c most stp acc a0 base u w→zMA c most stp acc a0 base u w':=by
 rintro u w w' hB x ⟨D,ea,ec,na,nc,vs,h3,h2,h4⟩;exact ⟨D,ea,ec,na,nc,vs,h3,h2,h4.chg x (fun y hy h=>OutSt.typ h4 hB qD qD (by have h':y=b:=h;rw[←h'];exact hy))⟩
theorem zNa (both:Bool) (a b:Dfa) (k:Int×Int) (x:Nat):(zHU both a b k x).isSome=onP both (toD a k.1 x) (toD b k.2 x)∧∀q,zHU both a b k x=some q→(toD a k.1 x,toD b k.2 x)=q:=by
  unfold zHU;cases onP both (toD a k.1 x) (toD b k.2 x) with
  | true=>exact ⟨rfl,fun q h=>Option.some.inj h⟩
  | false=>exact ⟨rfl,fun q h=>by cases h⟩
end Go.Proofs
namespace Go.Proofs
open Go Go.Eng Go.Sort
set_option maxRecDepth 100000
theorem zTp (w0:World) (v1 v2:Value) (l1 l2:List (List Int)) (h1:zDT w0 v1 l1) (h2:zDT w0 v2 l2) (n1 n2:Nat) (a1 a2:Option Addr) (c1 c2:Nat) (e1:v1=.slice a1 n1 c1) (e2:v2=.slice a2 n2 c2) (hn1:l1.length=n1) (hn2:l2.length=n2) (hb:n1≤20000) :
  Ret prog 41 #[v1,v2,.func (.func 25) #[] #[]] w0 fun v w=>v=.bool (decide (l1=l2))∧Ext w0 w:=by
 subst e1;subst e2;refine qR func41 rfl ntmps41 rfl (fun E=>(zAA (qA _ rfl (zAB (zAH (zAA (qM _ rfl (qV (zAK underlying32 rfl) (qM _ rfl (qV (zAK underlying32 rfl) (qV (zEY rfl rfl) (zAB (qC rfl (fun hl=>?_) (fun hl=>?_))))))))))))))
 ·refine zAA (qA _ rfl (zAB (zAW (zAX (zAZ results41 (v:=(.bool false)) rfl ?_)))));exact ⟨zBx (by symm;rw[decide_eq_false_iff_not];intro h;rw[h] at hn1;omega),E⟩
 ·refine zAO (zAC (zAH (zAA (qM _ rfl (qV (zAK underlying32 rfl) (qM _ rfl (zAB (zAT (zAo (fun nn_ σ W2=>∃(k:Nat),(∃jj_,σ=zCT jj_ [(1,(.slice a2 n2 c2)),(2,(.func (.func 25) #[] #[])),(15,(.slice a1 n1 c1)),(16,(I6 (n1:Int))),(17,(I6 (k:Int)))])∧Chg zAe w0 W2∧(k≤n1)∧(∀(i:Nat),i<k→l1[i]?=l2[i]?)∧nn_=n1 - k) (n:=n1 - 0) ?_ ?_)))))))))
  ·exact ⟨0,zAs.out ⟨rfl,rfl,rfl,rfl,rfl,trivial⟩,E,Nat.zero_le _,(fun i h=>absurd h (Nat.not_lt_zero _)),rfl⟩
  ·clear E;rintro _ _ W2 ⟨k,⟨j2,rfl⟩,E,hk,ad,rfl⟩;refine zAA (qV (zBA rfl rfl) (zAB (zAH (qC rfl (fun ah=>?_) (fun ah=>?_)))))
   ·obtain ⟨p,hp⟩:=zAJ (l:=l1) (i:=k) qO;obtain ⟨q,hq⟩:=zAJ (l:=l2) (i:=k) qO;obtain ⟨b1,o1,rfl,ak⟩:=zBi h1 qO;obtain ⟨b2,o2,rfl,aj⟩:=zBi h2 qO;obtain ⟨ra1,rc1,af,ag⟩:=ak k p hp;obtain ⟨ra2,rc2,ae,ai⟩:=aj k q hq;refine zAO (zAC (zAH (zAT (zAA (qM _ rfl (qV (zAD (b:=b1) (o:=o1) (len:=n1) (cap:=c1) (i:=k) (o':=o1+k) rfl rfl rfl underlying32 zBE qO qO) (qV (zAG rfl zBI (E.cell (fun f=>f) af)) (qA _ rfl (qA _ rfl (zAB (zAA (qM _ rfl (qM _ rfl (qV (zAD (b:=b2) (o:=o2) (len:=n2) (cap:=c2) (i:=k) (o':=o2+k) rfl rfl rfl underlying32 zBE qO qO) (qV (zAG rfl zBI (E.cell (fun f=>f) ae)) (qA _ rfl (zAB (zAA (qM _ rfl (qM _ rfl ?_))))))))))))))))))));refine qM _ rfl (qE rfl (zCy rfl func25 kQ kQ rfl rfl) (zVC _ _ _ p q (ag.ext E) (ai.ext E)) ?_);rintro _ w9 ⟨rfl,X9⟩;replace E:=E.ext X9;refine qV (zCa rfl) (zAB (zAx rfl (fun aa=>?_) (fun aa=>?_)))
    ·have ac:=aa;replace aa:=by simpa using aa
     refine zAA (qA _ rfl (zAB (zAW (zAh (zAX (zAX (zAh (zAX (zAZ results41 (v:=(.bool false)) rfl ?_)))))))));exact ⟨zBx (by symm;rw[decide_eq_false_iff_not];intro h;rw[h] at hp;rw[hp] at hq;exact aa (Option.some.inj hq)),E⟩
    ·have ac:=aa;replace aa:=by simpa using aa
     refine zAO (zAS (zAC (zAF (qV (zAw rfl rfl (zBf qO)) (qM _ rfl (zAB (zAC ?_)))))));exact ⟨n1 - (k+1),qO,k+1,zAs.out ⟨rfl,rfl,rfl,rfl,rfl,trivial⟩,E,qO,(fun i hi=>by rcases Nat.lt_or_ge i k with h|h;exact ad i h;(have h':i=k:=qO);subst h';(have ab:p=q:=by simpa using aa);rw[hp,hq,ab]),rfl⟩
   ·refine zAl (zAV (zAV (zAf (zAC (zAA (qA _ rfl (zAB (zAW (zAZ results41 (v:=(.bool true)) rfl ?_)))))))));exact ⟨zBx (by symm;rw[decide_eq_true_iff];apply List.ext_getElem?;intro i;rcases Nat.lt_or_ge i n1 with h|h;exact ad i qO;rw[List.getElem?_eq_none qO,List.getElem?_eq_none qO]),E⟩
theorem zFg (a b:Dfa):a=b↔a.start=b.start∧a.accept=b.accept∧a.next=b.next:=by
 cases a;cases b;simp
instance:DecidableEq Dfa:=fun a b=>decidable_of_iff _ (zFg a b).symm
end Go.Proofs
namespace Go.Proofs
open Go Go.Eng Go.Sort
set_option maxRecDepth 100000
--BEGIN
theorem zCc.ok {c:Nat} {f:List Nat→Int} {C:Dfa} (h:zCc c f C):OkD C.next.length c C∧C.start=0∧(∀w,inW c w→beh C C.start w=f w)∧1≤C.next.length:=by
 obtain ⟨m,b,h1,_,_⟩:=h;have e:=b.ok.nl;have:=b.ok.st;exact ⟨by rw[e];exact b.ok,b.st,fun w hw=>by rw[b.st];exact h1 w hw,qO⟩
--END
end Go.Proofs
namespace Go.Eng
open Go
theorem zFv {P:Program} {σ:Env} {w:World} {dst:Option Tmp} {ty:TypeId} {pos:String} {af:Array Edge} {g:Option (Nat×Bool)} {t:TypeId} {x y:Operand} {k:ByteArray} {n:Nat} {b:UInt8} {c:Int} (hu:P.underlying t=some .string) (hx:ev σ x=.string k) (hy:ev σ y=.int .i64 ((n:Nat):Int)) (hb:k[n]?=some b) (hc:(b.toNat:Int)=c) :
  (execOp (ev σ) ⟨dst,.index t x y,ty,pos,af,g⟩).run P w=.ok (.value (.int .u8 c)) w:=by
 subst hc;have h0:(0:Int)≤((n:Nat):Int):=qO
 simp[execOp,hx,hy,Instr.index,asIntOf,run_underlying hu,h0,hb]
end Go.Eng
namespace Go.Proofs
open Go Go.Eng Go.Sort
set_option maxRecDepth 100000
--BEGIN
def zPd (b:Bool):Int:=if b then 1 else 0
def zCB (M:List Bool):ByteArray:=strOfNums (M.map zPd)
def zXJ (k:ByteArray):List Bool:=k.data.toList.map fun x=>x == 1
theorem zGd (M:List Bool):zXJ (zCB M)=M:=by
 unfold zXJ zCB;rw[strOfNums_data,List.map_map,List.map_map]
 conv=>rhs;rw[←List.map_id M]
 exact List.map_congr_left fun b _=>by cases b<;>rfl
theorem zOU {M:List Bool} {t:Nat} {b:Bool} (h:M[t]?=some b):(zCB M)[t]?=some (UInt8.ofNat (zPd b).toNat):=by
 have h1:(zCB M).data.toList[t]?=some (UInt8.ofNat (zPd b).toNat):=by
  unfold zCB;rw[strOfNums_data,List.map_map,List.getElem?_map,h];rfl
 have aa:t<(zCB M).size:=by
  have h3:=zAE h;have h4:(zCB M).size=M.length:=by unfold zCB;rw[strOfNums_size,List.length_map]
  omega
 rw[getElem?_pos (zCB M) t aa];congr 1;have h2:(zCB M).data[t]?=some (UInt8.ofNat (zPd b).toNat):=by rw[←Array.getElem?_toList];exact h1
 have h3:=(Array.getElem?_eq_some_iff.1 h2).2;exact h3
def zOx (n:Nat) (m:Dfa) (M:List Bool) (x:Nat):List Bool:=(List.range n).map fun s=>decide (0≤toD m ((s:Nat):Int) x) && M.getD (toD m ((s:Nat):Int) x).toNat false
def zGn (n:Nat) (m:Dfa) (k:ByteArray) (x:Nat):Option ByteArray:=bif (zOx n m (zXJ k) x).any id then some (zCB (zOx n m (zXJ k) x)) else none
def zJu (m:Dfa) (k:ByteArray):Int:=bif (zXJ k).getD m.start.toNat false then 0 else -1
def zFZ (n:Nat) (m:Dfa) (w:List Nat):List Bool:=(List.range n).map fun s=>decide (0≤beh m ((s:Nat):Int) w.reverse)
theorem zNf {n:Nat} {m:Dfa} {w:List Nat} {s:Nat} (hs:s<n):(zFZ n m w).getD s false=decide (0≤beh m ((s:Nat):Int) w.reverse):=by
 unfold zFZ;rw[List.getD_eq_getElem?_getD,List.getElem?_map,List.getElem?_range hs];rfl
theorem zLJ {n c:Nat} {m:Dfa} (ok:OkD n c m) (w:List Nat) (x:Nat):zOx n m (zFZ n m w) x=zFZ n m (w++[x]):=by
 refine List.map_congr_left fun s hs=>?_;have ab:=ok.to (s:=((s:Nat):Int)) (x:=x);rw[List.reverse_append,List.reverse_singleton,List.singleton_append];simp only[beh];have aa:∀q:Int,-1≤q∧q<n→(decide (0≤q) && (zFZ n m w).getD q.toNat false)=decide (0≤beh m q w.reverse):=fun q hq=>by
  rcases Int.lt_or_le q 0 with h|h
  ·rw[decide_eq_false (show ¬(0:Int)≤q by omega),Bool.false_and];exact (decide_eq_false (by rw[zCh h];decide)).symm
  ·obtain ⟨t,rfl⟩:=Int.eq_ofNat_of_zero_le h;rw[Int.toNat_natCast,zNf qO,decide_eq_true h,Bool.true_and]
 exact aa _ ab
theorem zQQ {n:Nat} {m:Dfa} {w:List Nat} (h:(zFZ n m w).any id=false) {s:Nat} (hs:s<n):beh m ((s:Nat):Int) w.reverse<0:=by
 rw[List.any_eq_false] at h;have:=h (decide (0≤beh m ((s:Nat):Int) w.reverse)) (List.mem_map.2 ⟨s,List.mem_range.2 hs,rfl⟩);simp at this;exact this
theorem zHn {n c:Nat} {m:Dfa} (ok:OkD n c m) (w:List Nat):match zGD (zGn n m) (zCB (zFZ n m [])) w with|some k=>k=zCB (zFZ n m w)|none=>∀s:Nat,s<n→beh m ((s:Nat):Int) w.reverse<0:=by
  obtain ⟨j,hj⟩:∃j,j=w.length:=⟨_,rfl⟩
  induction j generalizing w with
  | zero=>
    have:w=[]:=List.eq_nil_of_length_eq_zero hj.symm;subst this;rfl
  | succ j ih=>
    rcases List.eq_nil_or_concat w with rfl|⟨u,x,rfl⟩
    · simp at hj
    rw[List.concat_eq_append] at hj⊢;have h1:=ih u (by simpa using hj);rw[zEc];cases hr:zGD (zGn n m) (zCB (zFZ n m [])) u with
    | none=>
      rw[hr] at h1;simp only[Option.bind_none];intro s hs;rw[List.reverse_append,List.reverse_singleton,List.singleton_append];simp only[beh];have hto:=ok.to (s:=((s:Nat):Int)) (x:=x);rcases Int.lt_or_le (toD m ((s:Nat):Int) x) 0 with h|h
      · rw[zCh h];decide
      · obtain ⟨t,ht⟩:=Int.eq_ofNat_of_zero_le h;rw[ht];exact h1 t qO
    | some k=>
      rw[hr] at h1;simp only[Option.bind_some];simp only at h1;subst h1;unfold zGn;rw[zGd,zLJ ok];cases ha:(zFZ n m (u++[x])).any id with
      | true=>simp only[cond_true]
      | false=>simp only[cond_false];exact fun s hs=>zQQ ha hs
theorem zSI {n c:Nat} {m:Dfa} (ok:OkD n c m) (w:List Nat):zPf (zGn n m) (zJu m) (zCB (zFZ n m [])) w=if 0≤beh m m.start w.reverse then 0 else -1:=by
  have h:=zHn ok w;have ab:=ok.st;obtain ⟨s0,aa⟩:=Int.eq_ofNat_of_zero_le ab.1;unfold zPf;cases hr:zGD (zGn n m) (zCB (zFZ n m [])) w with
  | none=>
    rw[hr] at h;simp only at h;have:=h s0 qO;rw[aa,if_neg qO]
  | some k=>
    rw[hr] at h;simp only at h;subst h;simp only[zJu];rw[zGd,aa,Int.toNat_natCast,zNf qO];by_cases hb:0≤beh m ((s0:Nat):Int) w.reverse
    · rw[decide_eq_true hb,if_pos hb];rfl
    · rw[decide_eq_false hb,if_neg hb];rfl
theorem zUX (m:Dfa) (k:ByteArray) : -1≤zJu m k∧zJu m k<2147483648:=by
 unfold zJu;cases (zXJ k).getD m.start.toNat false<;>decide
theorem zNp {n c:Nat} {m:Dfa} (ok:OkD n c m) {k:ByteArray} (h:Rch c (zGn n m) (zCB (zFZ n m [])) k):∃w,inW c w∧k=zCB (zFZ n m w):=by
 obtain ⟨w,h1,h2⟩:=h;have h3:=zHn ok w;rw[h2] at h3;exact ⟨w,h1,h3⟩
def zKu (n:Nat) (M:List Bool) (s:Nat):List Int:=(M.take s).map zPd++List.replicate (n - s) 0
theorem zLV (n:Nat) (M:List Bool):zKu n M 0=List.replicate n 0:=by simp[zKu]
theorem zNy {n:Nat} {M:List Bool} (h:M.length=n):zKu n M n=M.map zPd:=by
 unfold zKu;rw[Nat.sub_self,←h,List.take_length];simp
theorem zNx {n:Nat} {M:List Bool} (h:M.length=n) {s:Nat} (hs:s≤n):(zKu n M s).length=n:=by simp[zKu];omega
theorem zNw {n:Nat} {M:List Bool} (h:M.length=n) {s:Nat} {b:Bool} (hb:M[s]?=some b):(zKu n M s).set s (zPd b)=zKu n M (s+1):=by
 have hs:=zAE hb;unfold zKu;rw[List.set_append_right _ _ (by simp;omega),List.take_add_one,hb,show n - s=(n - (s+1))+1 by omega,List.replicate_succ];simp only[List.length_map,List.length_take,Option.toList_some,List.map_append,List.map_cons,List.map_nil];rw[show s - min s M.length=0 by omega];simp
theorem zIL {n:Nat} {M:List Bool} (h:M.length=n) {s:Nat} (hb:M[s]?=some false):zKu n M s=zKu n M (s+1):=by
 have hs:=zAE hb;unfold zKu;rw[List.take_add_one,hb,show n - s=(n - (s+1))+1 by omega,List.replicate_succ];simp[zPd]
theorem zKn {M:List Bool} {s:Nat} {b:Bool} (hb:M[s]?=some b):(M.take (s+1)).any id=((M.take s).any id || b):=by
 rw[List.take_add_one,hb,List.any_append];simp
--END
theorem zPx {L:List Int} {k:Nat} (x:Int):((L.map (Value.int .u8)).toArray).setIfInBounds (0+k) (.int .u8 x)=((L.set k x).map (Value.int .u8)).toArray:=by
 apply Array.ext';rw[Array.toList_setIfInBounds,Nat.zero_add,←List.map_set]
theorem zWu (w0:World) (n c:Nat) (m:Dfa) (mv:List Value) (M:List Bool) (x bn bm:Nat) (ok:OkD n c m) (h:zBV w0 m mv) (hB:Blk w0 bm mv.toArray 34) (hN:Blk w0 bn #[.int .i64 ((n:Nat):Int)] 3) (hM:M.length=n) (hx:x<c) (hn:n≤20000) :
  Ret prog 39 #[.string (zCB M),.int .i64 ((x:Nat):Int),.pointer (some ⟨bn,0,none⟩),.pointer (some ⟨bm,0,none⟩)] w0 fun r w=>r=.tuple #[.string (zCB (zOx n m M x)),.bool ((zOx n m M x).any id)]∧Ext w0 w:=by
 obtain ⟨aa,ac,na,nc,rfl,aw,ai⟩:=h;have aq:=ok.nl;have hst:=ok.st;rw[aq] at ai hB;obtain ⟨nb,no,rfl,ao⟩:=zBi (n:=n) ai qO;obtain ⟨Q,hQ⟩:∃Q,Q=zOx n m M x:=⟨_,rfl⟩;have af:Q.length=n:=by rw[hQ];simp[zOx]
 refine qR func39 rfl ntmps39 rfl (fun E=>(zAA (qA _ rfl (qA _ rfl (zAB (zAA (qV (zAG rfl zAm (hN.cell rfl)) (zEQ (n:=n) (z:=(.int .u8 0)) (bytes:=1) qD underlying69 zMj zYX zXE rfl rfl rfl qO qO ?_))))))));intro bz wz Nz;have Fz:=Nz.ge E;have Oz_bn:=Nz.lt hN;have Oz_bm:=Nz.lt hB;replace hN:=Nz.keep hN;replace hB:=Nz.keep hB;replace E:=E.ext Nz.ext;have Bz:=Nz.blk;refine qA _ rfl (qA _ rfl (zAB (zAH (zAA (qF bm 0 2 rfl underlying34 rfl zBr rfl (qV (zAG rfl zBh (hB.cell rfl)) (qV (zAK underlying32 rfl) (qM _ rfl (zAB (zAT ?_))))))))));rw[show List.replicate n (Value.int .u8 0)=(zKu n Q 0).map (Value.int .u8) by rw[zLV];simp] at Bz;refine zAo (fun nn_ σ W1=>∃(s:Nat),(∃jj_,σ=zCT jj_ [(0,(.string (zCB M))),(1,(I6 (x:Int))),(8,(.slice (some ⟨bz,0,none⟩) n n)),(16,(.slice (some ⟨nb,no,none⟩) n nc)),(17,(I6 (n:Int))),(18,(I6 (s:Int))),(9,(.bool ((Q.take s).any id)))])∧Chg zAe w0 W1∧Blk W1 bn #[(I6 (n:Int))] 3∧Blk W1 bm #[(I6 m.start),(.slice aa m.accept.length ac),(.slice (some ⟨nb,no,none⟩) n nc)] 34∧Blk W1 bz (((zKu n Q s).map (Value.int .u8)).toArray) 5∧(s≤n)∧nn_=n - s) (n:=n - 0) ?_ ?_
 ·exact ⟨0,zAs.out ⟨rfl,rfl,rfl,rfl,rfl,rfl,rfl,trivial⟩,E,hN,hB,Bz,Nat.zero_le _,rfl⟩
 ·clear E hN hB Bz;rintro _ _ W1 ⟨s,⟨j1,rfl⟩,E,hN,hB,Bz,hs,rfl⟩;refine zAA (qV (zBA rfl rfl) (zAB (zAH (qC rfl (fun ar=>?_) (fun ar=>?_)))))
  ·obtain ⟨row,ae⟩:=zAJ (l:=m.next) (i:=s) qO;have hrl:=(ok.row row (List.mem_of_getElem? ae)).1;obtain ⟨ra,rc,aj,ap⟩:=ao s row ae;obtain ⟨rb,ro,rfl,au⟩:=zAy ap qO;obtain ⟨t,ht⟩:=zAJ (l:=row) (i:=x) qO;obtain ⟨ak,_,_,hxl,hxh⟩:=zKF ok ae ht;refine zAO (zAC (zAH (zAT (zAA (qM _ rfl (qV (zAD (b:=nb) (o:=no) (len:=n) (cap:=nc) (i:=s) (o':=no+s) rfl rfl rfl underlying32 zBE qO qO) (qV (zAG rfl zBI (E.cell (fun f=>f) aj)) (qA _ rfl (qA _ rfl (zAB (zAA (qM _ rfl (qM _ rfl (qV (zAD (b:=rb) (o:=ro) (len:=row.length) (cap:=rc) (i:=x) (o':=ro+x) rfl rfl rfl underlying22 zAv qO qO) (qV (zAG rfl zAm (E.cell (fun f=>f) (au x t ht))) (qA _ rfl (zAB (zAA (qM _ rfl (qV (zDF rfl rfl) ?_))))))))))))))))))));refine qM _ rfl ?_;rcases Bool.eq_false_or_eq_true (decide ((0:Int)≤t)) with ab|ab
   ·have ad:=ab;replace ad:=of_decide_eq_true ad;obtain ⟨tN,al⟩:=Int.eq_ofNat_of_zero_le ad;obtain ⟨b,hb⟩:=zAJ (l:=M) (i:=tN) qO;have ah:Q[s]?=some b:=by rw[hQ,zOx,List.getElem?_map,List.getElem?_range qO];simp only[Option.map_some,ak,al];rw[Int.toNat_natCast,List.getD_eq_getElem?_getD,hb,decide_eq_true qO];rfl
    refine zAL rfl rfl qD (cbk ab) (qM _ rfl (zAL rfl rfl qD (cbk ab) (qM _ rfl (zAL rfl rfl qD (cbk ab) (qV (zFv (n:=tN) (c:=zPd b) underlying9 rfl (by rw[al];rfl) (zOU hb) (by cases b<;>rfl)) (zAL rfl rfl qD (cbk ab) (qV (zAq rfl rfl) (qV (zAr (v:=(.bool (decide ((zPd b:Int)=1)))) rfl (by rw[ab];rfl)) (zAB (qC rfl (fun ag=>?_) (fun ag=>?_)))))))))))
    ·have am:b=true:=by cases b with|true=>rfl|false=>exact absurd ag qD
     refine zAF (qM _ rfl (qM _ rfl (qV (zAD (b:=bz) (o:=0) (len:=n) (cap:=n) (i:=s) (o':=0+s) rfl rfl rfl underlying69 zMj qO qO) (zAt (b:=bz) (o:=0+s) (c':=((zKu n Q (s+1)).map (Value.int .u8)).toArray) (v:=(.int .u8 1)) rfl rfl rfl zMj Bz (by have:=zNx af hs;simp;omega) (by rw[zPx,←zNw af ah,am];rfl) ?_))));intro w5 S5;replace hN:=S5.keep qO hN;replace hB:=S5.keep qO hB;replace E:=S5.step E qQ;replace Bz:=S5.blk;refine qA _ rfl (zAB (zAS (zAC (zAF (qV (zAw rfl rfl (zBf qO)) (qM _ rfl (zAB (zAC ?_))))))));rw[show true=(Q.take (s+1)).any id by rw[zKn ah,am,Bool.or_true]];exact ⟨n - (s+1),qO,s+1,zAs.out ⟨rfl,rfl,rfl,rfl,rfl,rfl,rfl,trivial⟩,E,hN,hB,Bz,qO,rfl⟩
    ·have av:b=false:=by cases b with|false=>rfl|true=>exact absurd qD ag
     subst av;rw[zIL af ah] at Bz;rw[show (Q.take s).any id=(Q.take (s+1)).any id by rw[zKn ah,Bool.or_false]];refine zAO (zAS (zAC (zAF (qV (zAw rfl rfl (zBf qO)) (qM _ rfl (zAB (zAC ?_)))))));exact ⟨n - (s+1),qO,s+1,zAs.out ⟨rfl,rfl,rfl,rfl,rfl,rfl,rfl,trivial⟩,E,hN,hB,Bz,qO,rfl⟩
   ·have ad:=ab;replace ad:=of_decide_eq_false ad;have ah:Q[s]?=some false:=by rw[hQ,zOx,List.getElem?_map,List.getElem?_range qO];simp only[Option.map_some,ak];rw[decide_eq_false qO];rfl
    rw[zIL af ah] at Bz;rw[show (Q.take s).any id=(Q.take (s+1)).any id by rw[zKn ah,Bool.or_false]];refine zAM rfl rfl qD (v:=.bool false) (cbk ab) (Or.inl rfl) (zAM rfl rfl qD (v:=.bool false) (cbk ab) (Or.inl rfl) (zAM rfl rfl qD (v:=.bool false) (cbk ab) (Or.inl rfl) (zAM rfl rfl qD (v:=.bool false) (cbk ab) (Or.inl rfl) (qV (zAr (v:=(.bool false)) rfl (by rw[ab];rfl)) (zAB (zAN rfl (zAO (zAS (zAC (zAF (qV (zAw rfl rfl (zBf qO)) (qM _ rfl (zAB (zAC ?_))))))))))))));exact ⟨n - (s+1),qO,s+1,zAs.out ⟨rfl,rfl,rfl,rfl,rfl,rfl,rfl,trivial⟩,E,hN,hB,Bz,qO,rfl⟩
  ·have an:s=n:=qO
   rw[an,zNy af] at Bz;rw[show Q.take s=Q by rw[an,←af];exact List.take_length];refine zAl (zAV (zAV (zAf (zAC (zAA (qM _ rfl (qV (zCM (l:=Q.map zPd) underlying69 underlying5 underlying9 rfl Bz (by simp[af])) (qM _ rfl (qA _ rfl (qA _ rfl (zAB (zAW (zCY results39 (v:=(.string (zCB Q))) (v':=(.bool (Q.any id))) rfl rfl ?_)))))))))))));exact ⟨by rw[hQ],E⟩
theorem zWt (w0:World) (n c:Nat) (m:Dfa) (mv:List Value) (M:List Bool) (bm:Nat) (ok:OkD n c m) (h:zBV w0 m mv) (hB:Blk w0 bm mv.toArray 34) (hM:M.length=n) :
  Ret prog 40 #[.string (zCB M),.pointer (some ⟨bm,0,none⟩)] w0 fun r w=>r=.int .i64 (zJu m (zCB M))∧Ext w0 w:=by
 obtain ⟨aa,ac,na,nc,rfl,ag,ah⟩:=h;have af:=ok.st;obtain ⟨s0,ad⟩:=Int.eq_ofNat_of_zero_le af.1;obtain ⟨b,hb⟩:=zAJ (l:=M) (i:=s0) qO;have ae:zJu m (zCB M)=bif b then 0 else -1:=by unfold zJu;rw[zGd,ad,Int.toNat_natCast,List.getD_eq_getElem?_getD,hb];rfl
 refine qR func40 rfl ntmps40 rfl (fun E=>(zAA (qA _ rfl (zAB (zAH (zAA (qM _ rfl (qF bm 0 0 rfl underlying34 rfl zAv rfl (qV (zAG rfl zAm (hB.cell rfl)) (qV (zFv (n:=s0) (c:=zPd b) underlying9 rfl (by rw[ad];rfl) (zOU hb) (by cases b<;>rfl)) (qV (zAq rfl rfl) (zAB (qC rfl (fun ab=>?_) (fun ab=>?_))))))))))))))
 ·refine zAA (qA _ rfl (zAB (zAW (zAX (zAZ results40 (v:=(.int .i64 0)) rfl ?_)))));exact ⟨zBM (by rw[ae];cases b with|true=>rfl|false=>exact absurd ab qD),E⟩
 ·refine zAO (zAC (zAA (qA _ rfl (zAB (zAW (zAZ results40 (v:=(.int .i64 (-1))) rfl ?_))))));exact ⟨zBM (by rw[ae];cases b with|false=>rfl|true=>exact absurd qD ab),E⟩
end Go.Proofs
namespace Go.Proofs
open Go Go.Eng Go.Sort
set_option maxRecDepth 100000
theorem zUq:∀b:Nat,b<256→∀j:Nat,j<8→b ||| 2 ^ j=b+(if b / 2 ^ j % 2=1 then 0 else 2 ^ j)∧b ||| 2 ^ j<256:=by decide +kernel
theorem zYs {n:Nat} (h:n<256):IntKind.u8.wrap ((n:Nat):Int)=((n:Nat):Int):=by
 have:=zXV ((n:Nat):Int);rw[this];omega
theorem zOE (m:Nat) (h:m<256):(BitVec.ofInt 8 (m:Int)).toNat=m:=by
 rw[BitVec.toNat_ofInt];omega
theorem or8 {P:Program} {w:World} {a b c:Nat} (ha:a<256) (hb:b<256) (hc:a ||| b=c) (hc2:c<256):(Op.intBits .or .u8 ((a:Nat):Int) ((b:Nat):Int)).run P w=.ok (.int .u8 ((c:Nat):Int)) w:=by
 show Result.ok (Value.int .u8 (IntKind.u8.wrap ((BitVec.ofInt 8 ((a:Nat):Int) ||| BitVec.ofInt 8 ((b:Nat):Int):BitVec 8).toNat:Int))) w=_;rw[BitVec.toNat_or,zOE a qO,zOE b qO,hc,zYs hc2]
theorem zZX {P:Program} {w:World} {a b c:Nat} (ha:a<256) (hb:b<256) (hc:a &&& b=c) (hc2:c<256):(Op.intBits .and .u8 ((a:Nat):Int) ((b:Nat):Int)).run P w=.ok (.int .u8 ((c:Nat):Int)) w:=by
 show Result.ok (Value.int .u8 (IntKind.u8.wrap ((BitVec.ofInt 8 ((a:Nat):Int) &&& BitVec.ofInt 8 ((b:Nat):Int):BitVec 8).toNat:Int))) w=_;rw[BitVec.toNat_and,zOE a qO,zOE b qO,hc,zYs hc2]
theorem pow8 {j:Nat} (h:j<8):2 ^ j<256:=by
 have:=Nat.pow_le_pow_right (show 0<2 by decide) (show j≤7 by omega);omega
theorem zSm {j:Nat} (h:j<8):IntKind.u8.wrap ((1:Int)*2 ^ (min (((j:Nat):Int)).toNat IntKind.u8.bits))=((2 ^ j:Nat):Int):=by
 rw[Int.toNat_natCast,show min j IntKind.u8.bits=j from Nat.min_eq_left (by show j≤8;omega),Int.one_mul,show (2:Int) ^ j=((2 ^ j:Nat):Int) from (Int.natCast_pow 2 j).symm];exact zYs (pow8 h)
theorem zSl {v j:Nat} (h:j<8):(((v:Nat):Int)).fdiv (2 ^ (min (((j:Nat):Int)).toNat IntKind.u8.bits))=((v / 2 ^ j:Nat):Int):=by
 rw[Int.toNat_natCast,show min j IntKind.u8.bits=j from Nat.min_eq_left (by show j≤8;omega),show (2:Int) ^ j=((2 ^ j:Nat):Int) from (Int.natCast_pow 2 j).symm,Int.fdiv_eq_ediv_of_nonneg _ (Int.natCast_nonneg _)];rfl
theorem zUI {k:ByteArray} {i:Nat} (h:i<k.size):k[i]?=some (k.data.toList.getD i 0):=by
 rw[getElem?_pos k i h,List.getD_eq_getElem?_getD];congr 1;have h2:k.data.toList[i]?=some (k.data[i]'h):=by rw[Array.getElem?_toList];exact Array.getElem?_eq_getElem h
 rw[h2];rfl
def zJW (n:Nat) (M:Nat→Bool):Array Value:=((zJH n M).map (Value.int .u8)).toArray
theorem zQR (n:Nat) (M:Nat→Bool):(zJW n M).size=(n+7) / 8:=by simp[zJW,zDq]
theorem zQS (n:Nat):zJW n (fun _=>false)=(List.replicate ((n+7) / 8) (Value.int .u8 0)).toArray:=by
 unfold zJW zJH;congr 1;rw[List.map_map];refine List.eq_replicate_iff.2 ⟨qP,fun x hx=>?_⟩;obtain ⟨i,_,rfl⟩:=List.mem_map.1 hx;simp[zCl,zJC]
theorem zUK {n s:Nat} (M:Nat→Bool) (hs:s<n):(zJH n M)[s / 8]?=some ((zCl (zJC n M) (s / 8):Nat):Int):=by
 unfold zJH;rw[List.getElem?_map,List.getElem?_range qO];rfl
theorem zUJ {n s:Nat} (M:Nat→Bool) (hs:s<n):(zJH n M).set (s / 8) ((zCl (zJC n M) (s / 8) ||| 2 ^ (s % 8):Nat):Int)=zJH n fun q=>M q || decide (q=s):=by
 have hb:=zNM (zJC n M) (s / 8);have hm:=Nat.mod_lt s (show 0<8 by decide);have aa:zJC n (fun q=>M q || decide (q=s))=fun q=>zJC n M q || decide (q=8*(s / 8)+s % 8):=funext fun q=>by
  unfold zJC;rw[Nat.div_add_mod];by_cases hq:q=s
  ·subst hq;simp[hs]
  ·simp[hq]
 apply List.ext_getElem?;intro i;rw[List.getElem?_set];unfold zJH;rw[aa];by_cases hi:s / 8=i
 ·subst hi;rw[if_pos rfl,if_pos (by simp;omega),List.getElem?_map,List.getElem?_range qO];simp only[Option.map_some];rw[zUH _ _ _ hm,(zUq _ hb _ hm).1,zOZ _ _ _ hm];cases zJC n M (8*(s / 8)+s % 8)<;>simp
 ·rw[if_neg hi,List.getElem?_map,List.getElem?_map];rcases Nat.lt_or_ge i ((n+7) / 8) with h|h
  ·rw[List.getElem?_range h];simp only[Option.map_some];rw[zPa hm (fun e=>hi e.symm)]
  ·rw[List.getElem?_eq_none (by simpa using h)];rfl
theorem zKS (w0:World) (n:Nat) (hn:n≤100000):Ret prog 180 #[.int .i64 ((n:Nat):Int)] w0 fun v w=>(∃b,v=.slice (some ⟨b,0,none⟩) ((n+7) / 8) ((n+7) / 8)∧Blk w b (zJW n fun _=>false) 5∧w0.heap.size≤b)∧Ext w0 w:=by
 refine qR func180 rfl ntmps180 rfl (fun E=>(zAA (qA _ rfl (zAB (zAA (qM _ rfl (qV (zAw rfl rfl (zBf qO)) (qV (zVt (c:=(((n+7) / 8:Nat):Int)) rfl rfl qD ((by rw[show ((n:Int)+7).tdiv 8=(((n+7) / 8:Nat):Int) from by rw[Int.tdiv_eq_ediv_of_nonneg qO];omega];exact zBf qO))) (zEQ (n:=(n+7) / 8) (z:=(.int .u8 0)) (bytes:=1) qD underlying69 zMj zYX zXE rfl rfl rfl qO qO ?_)))))))));intro b1 w1 N1;replace E:=E.ext N1.ext;have B1:=N1.blk;refine qA _ rfl (zAB (zAW (zAZ results180 (v:=(.slice (some ⟨b1,0,none⟩) ((n+7) / 8) ((n+7) / 8))) rfl ?_)));exact ⟨⟨b1,rfl,by rw[zQS];exact B1,by have:=N1.eq;omega⟩,E⟩
theorem zVJ (w0:World) (n b s:Nat) (M:Nat→Bool) (hn:n≤100000) (hB:Blk w0 b (zJW n M) 5) (hs:s<n):Ret prog 178 #[.slice (some ⟨b,0,none⟩) ((n+7) / 8) ((n+7) / 8),.int .i64 ((s:Nat):Int)] w0 fun v w=>v=.tuple #[]∧Chg (fun y=>y=b) w0 w∧Blk w b (zJW n fun q=>M q || decide (q=s)) 5:=by
 have hq:(((s:Nat):Int)).tdiv 8=((s / 8:Nat):Int):=by rw[Int.tdiv_eq_ediv_of_nonneg qO];omega
 have hr:(((s:Nat):Int)).tmod 8=((s % 8:Nat):Int):=by rw[Int.tmod_eq_emod_of_nonneg qO];omega
 have hb:=zNM (zJC n M) (s / 8);have hm:=Nat.mod_lt s (show 0<8 by decide);have hp:2 ^ (s % 8)<256:=by
  have:=Nat.pow_le_pow_right (show 0<2 by decide) (show s % 8≤7 by omega);omega
 have hsl:s / 8<(n+7) / 8:=qO
 refine zDE func178 rfl ntmps178 (leT rfl) ?_;have E:Chg (fun y=>y=b) w0 w0:=Chg.refl _ _;refine zKp 10 mixed qK ?_;intro w1 X1 _;replace hB:=X1.keep hB;replace E:=E.ext X1;refine qT (zAj (v:=(.slice (some ⟨b,0,none⟩) ((n+7) / 8) ((n+7) / 8))) rfl) (qT (zAj (v:=(I6 (s:Int))) rfl) (qT (zVt (k:=.i64) (a:=(s:Int)) (b:=8) (c:=((s / 8:Nat):Int)) rfl rfl qD ((by rw[hq];exact zBf qO))) (qT (zAD (b:=b) (o:=0) (len:=(n+7) / 8) (cap:=(n+7) / 8) (i:=s / 8) (o':=0+(s / 8)) rfl rfl rfl underlying69 zMj qO qO) (qT (zAG (v:=(.int .u8 ((zCl (zJC n M) (s / 8):Nat):Int))) rfl zZP (hB.cell (by unfold zJW;rw[Nat.zero_add];simp[zUK M hs]))) (qT (zAj (v:=(I6 (s:Int))) rfl) (qT (zVs (k:=.i64) (a:=(s:Int)) (b:=8) (c:=((s % 8:Nat):Int)) rfl rfl qD rfl) (qT (zXn (k:=.u8) (a:=1) (b:=((s % 8:Nat):Int)) (c:=((2 ^ (s % 8):Nat):Int)) (k':=.i64) rfl rfl qO (zSm hm)) (qT (zJd (k:=.u8) (a:=((zCl (zJC n M) (s / 8):Nat):Int)) (b:=((2 ^ (s % 8):Nat):Int)) (v:=.int .u8 ((zCl (zJC n M) (s / 8) ||| 2 ^ (s % 8):Nat):Int)) rfl rfl qP (or8 hb hp rfl (zUq _ hb _ hm).2)) (qT (zAD (b:=b) (o:=0) (len:=(n+7) / 8) (cap:=(n+7) / 8) (i:=s / 8) (o':=0+(s / 8)) rfl rfl rfl underlying69 zMj qO qO) (zEW (zAt (b:=b) (o:=0+(s / 8)) (c':=zJW n (fun q=>M q || decide (q=s))) (v:=(.int .u8 ((zCl (zJC n M) (s / 8) ||| 2 ^ (s % 8):Nat):Int))) rfl rfl rfl zMj hB (by rw[zQR];omega) (by unfold zJW;rw[←zUJ M hs];simp) ?_)))))))))));intro w2 S2;replace E:=S2.step E qQ;replace hB:=S2.blk;refine zAB (zET results178 ?_);exact ⟨rfl,E,hB⟩
theorem zLp (w0:World) (n s:Nat) (k:ByteArray) (hn:n≤100000) (hk:k.size=(n+7) / 8) (hs:s<n):Ret prog 195 #[.string k,.int .i64 ((s:Nat):Int)] w0 fun v w=>v=.bool (zGw k s)∧Ext w0 w:=by
 have hq:(((s:Nat):Int)).tdiv 8=((s / 8:Nat):Int):=by rw[Int.tdiv_eq_ediv_of_nonneg qO];omega
 have hr:(((s:Nat):Int)).tmod 8=((s % 8:Nat):Int):=by rw[Int.tmod_eq_emod_of_nonneg qO];omega
 have hm:=Nat.mod_lt s (show 0<8 by decide);obtain ⟨v,hv⟩:∃v,v=(k.data.toList.getD (s / 8) 0).toNat:=⟨_,rfl⟩;have ab:v<256:=by rw[hv];exact UInt8.toNat_lt _
 have hd:v / 2 ^ (s % 8)<256:=Nat.lt_of_le_of_lt (Nat.div_le_self _ _) ab;have aa:zGw k s=decide (v / 2 ^ (s % 8) % 2=1):=by rw[hv];rfl
 rw[aa];refine qR func195 rfl ntmps195 rfl (fun E=>(zAA (qA _ rfl (zAB (zAA (qM _ rfl (qM _ rfl (qV (zVt (c:=((s / 8:Nat):Int)) rfl rfl qD ((by rw[hq];exact zBf qO))) (qV (zFv (n:=s / 8) (b:=k.data.toList.getD (s / 8) 0) (c:=(v:Int)) underlying203 rfl rfl (zUI qO) (by rw[hv])) (qM _ rfl (qV (zVs (c:=((s % 8:Nat):Int)) rfl rfl qD rfl) (qV (zJE (c:=((v / 2 ^ (s % 8):Nat):Int)) rfl rfl qO (zSl hm)) (qV (zJd (v:=.int .u8 ((v / 2 ^ (s % 8) % 2:Nat):Int)) rfl rfl qP (zZX hd qD (Nat.and_one_is_mod _) qO)) (qV (zAq rfl rfl) (qA _ rfl (zAB (zAW ?_)))))))))))))))));refine zAZ results195 (v:=(.bool (decide ((((v / 2 ^ (s % 8) % 2:Nat):Int):Int)=1)))) rfl ?_;exact ⟨zBx (decide_eq_decide.2 qO),E⟩
end Go.Proofs
namespace Go.Proofs
open Go Go.Eng Go.Sort
set_option maxRecDepth 100000
def zSV (b:Dfa) (k:ByteArray) (x s:Nat):Nat→Bool:=fun q=>(List.range s).any fun p=>zGw k p && decide (toD b ((p:Nat):Int) x=((q:Nat):Int))
def zMi (b:Dfa) (k:ByteArray) (x s:Nat):Bool:=(List.range s).any fun p=>zGw k p && decide (0≤toD b ((p:Nat):Int) x)
theorem zLd (b:Dfa) (k:ByteArray) (x s q:Nat):zSV b k x (s+1) q=(zSV b k x s q || (zGw k s && decide (toD b ((s:Nat):Int) x=((q:Nat):Int)))):=by
 unfold zSV;rw[List.range_succ,List.any_append];simp
theorem zJT (b:Dfa) (k:ByteArray) (x s:Nat):zMi b k x (s+1)=(zMi b k x s || (zGw k s && decide (0≤toD b ((s:Nat):Int) x))):=by
 unfold zMi;rw[List.range_succ,List.any_append];simp
theorem zQx {b:Dfa} {k:ByteArray} {x s:Nat} (h:zGw k s=false∨toD b ((s:Nat):Int) x<0):zSV b k x (s+1)=zSV b k x s∧zMi b k x (s+1)=zMi b k x s:=by
 refine ⟨funext fun q=>?_,?_⟩
 ·rw[zLd];rcases h with h|h
  ·rw[h];simp
  ·rw[decide_eq_false (show ¬toD b ((s:Nat):Int) x=((q:Nat):Int) by omega)];simp
 ·rw[zJT];rcases h with h|h
  ·rw[h];simp
  ·rw[decide_eq_false (show ¬0≤toD b ((s:Nat):Int) x by omega)];simp
theorem zTX {b:Dfa} {k:ByteArray} {x s t:Nat} (h:zGw k s=true) (ht:toD b ((s:Nat):Int) x=((t:Nat):Int)):(fun q=>zSV b k x s q || decide (q=t))=zSV b k x (s+1)∧zMi b k x (s+1)=true:=by
 refine ⟨funext fun q=>?_,?_⟩
 ·rw[zLd,h,ht,Bool.true_and];congr 1;exact decide_eq_decide.2 qO
 ·rw[zJT,h,ht,decide_eq_true qO];simp
theorem zIp (w0:World) (n c:Nat) (b:Dfa) (dv:List Value) (k:ByteArray) (ok:OkD n c b) (hb:zBV w0 b dv) (hn:n≤20000) (hk:k.size=(n+7) / 8) :
    Ret prog 184 #[.agg dv.toArray,.string k] w0 fun v w=>v=.bool (zMV b n k)∧Ext w0 w:=by
  have hal:=ok.al;obtain ⟨aa,ac,na,nc,rfl,ag,ai⟩:=hb;have ae:=zIA (b:=b) (m:=n) (k:=k);obtain ⟨A,hA⟩:∃A,A=zMV b n k:=⟨_,rfl⟩;rw[←hA] at ae⊢;refine qR func184 rfl ntmps184 rfl (fun E=>(zAA (zBY (v:=(.agg #[(I6 b.start),(.slice aa b.accept.length ac),(.slice na b.next.length nc)])) (c:=#[(I6 b.start),(.slice aa b.accept.length ac),(.slice na b.next.length nc)]) qD rfl rfl ?_)));intro bd wd Nd;replace E:=E.ext Nd.ext;have Bd:=Nd.blk;refine qA _ rfl (zAB (zAH (zAA (qF bd 0 1 rfl underlying34 rfl zBE rfl (qV (zAG rfl zBI (Bd.cell rfl)) (qV (zAK underlying22 rfl) (qM _ rfl (zAB (zAT (zAo (fun nn_ σ W1=>∃(i:Nat),(∃jj_,σ=zCT jj_ [(1,(.string k)),(8,(.slice aa b.accept.length ac)),(9,(I6 (b.accept.length:Int))),(10,(I6 (i:Int)))])∧Chg zAe w0 W1∧Blk W1 bd #[(I6 b.start),(.slice aa b.accept.length ac),(.slice na b.next.length nc)] 34∧(i≤b.accept.length)∧(∀p,p<i→¬(0≤atD b (p:Int)∧zGw k p=true))∧nn_=b.accept.length - i) (n:=b.accept.length - 0) ?_ ?_))))))))))
  · exact ⟨0,zAs.out ⟨rfl,rfl,rfl,rfl,trivial⟩,E,Bd,Nat.zero_le _,(fun p hp=>absurd hp qO),rfl⟩
  · clear E Bd;rintro _ _ W1 ⟨i,⟨j1,rfl⟩,E,Bd,hi,af,rfl⟩;refine zAA (qV (zBA rfl rfl) (zAB (zAH (qC rfl (fun aj=>?_) (fun aj=>?_)))))
    · obtain ⟨y,hy⟩:=zAJ (l:=b.accept) (i:=i) qO;obtain ⟨b9,o9,an,ak⟩:=zAy ag qO;subst an;have ah:=zDi hy;refine zAO (zAC (zAH (zAT (zAA (qM _ rfl (qV (zAD (b:=b9) (o:=o9) (len:=b.accept.length) (cap:=ac) (i:=i) (o':=o9+i) rfl rfl rfl underlying22 zAv qO qO) (qV (zAG rfl zAm (E.cell (fun f=>f) (ak i y hy))) (qA _ rfl (qA _ rfl (zAB (zAA (qM _ rfl (qV (zDF rfl rfl) (qM _ rfl ?_))))))))))))));rcases Bool.eq_false_or_eq_true (decide ((0:Int)≤y)) with ad|ad
      · have ab:=ad;replace ab:=of_decide_eq_true ab;refine zAL rfl rfl qD (cbk ad) (qM _ rfl (zAL rfl rfl qD (cbk ad) (qM _ rfl (zAL rfl rfl qD (cbk ad) (qE rfl (zAU func195 kQ kQ rfl) (zLp _ n i k qO hk qO) ?_)))));rintro _ w9 ⟨rfl,X9⟩;replace Bd:=X9.keep Bd;replace E:=E.ext X9;refine qV (zAr (v:=(.bool (zGw k i))) rfl (by rw[ad];rfl)) (zAB (zAx rfl (fun hh=>?_) (fun hh=>?_)))
        · have am:=hh;refine zAA (qA _ rfl (zAB (zAW (zAh (zAX (zAX (zAh (zAX (zAZ results184 (v:=(.bool true)) rfl ?_)))))))));exact ⟨zBx (ae.2 ⟨i,qO,by rw[ah];exact ab,hh⟩).symm,E⟩
        · have am:=hh;refine zAO (zAS (zAC (zAF (qV (zAw rfl rfl (zBf qO)) (qM _ rfl (zAB (zAC ?_)))))));exact ⟨b.accept.length - (i+1),qO,i+1,zAs.out ⟨rfl,rfl,rfl,rfl,trivial⟩,E,Bd,qO,(fun p hp=>by rcases Nat.lt_or_ge p i with h|h;exact af p h;obtain rfl:p=i:=qO;exact fun h9=>by rw[h9.2] at hh;cases hh),rfl⟩
      · have ab:=ad;replace ab:=of_decide_eq_false ab;refine zAM rfl rfl qD (v:=.bool false) (cbk ad) (Or.inl rfl) (zAM rfl rfl qD (v:=.bool false) (cbk ad) (Or.inl rfl) (zAM rfl rfl qD (v:=.bool false) (cbk ad) (Or.inl rfl) (qV (zAr (v:=(.bool false)) rfl (by rw[ad];rfl)) (zAB (zAN rfl (zAO (zAS (zAC (zAF (qV (zAw rfl rfl (zBf qO)) (qM _ rfl (zAB (zAC ?_)))))))))))));exact ⟨b.accept.length - (i+1),qO,i+1,zAs.out ⟨rfl,rfl,rfl,rfl,trivial⟩,E,Bd,qO,(fun p hp=>by rcases Nat.lt_or_ge p i with h|h;exact af p h;obtain rfl:p=i:=qO;exact fun h9=>by rw[ah] at h9;omega),rfl⟩
    · refine zAl (zAV (zAV (zAf (zAC (zAA (qA _ rfl (zAB (zAW (zAZ results184 (v:=(.bool false)) rfl (⟨zBx ?_,E⟩))))))))));cases A with
      | false=>rfl
      | true=>
        obtain ⟨p,h1,h2,h3⟩:=ae.1 rfl;exact absurd ⟨h2,h3⟩ (af p qO)
theorem zMf (w0:World) (n c x:Nat) (b:Dfa) (dv:List Value) (k:ByteArray) (ok:OkD n c b) (hb:zBV w0 b dv) (hn:n≤20000) (hk:k.size=(n+7) / 8) (hx:x<c) (hc:c≤16) :
  Ret prog 182 #[.agg dv.toArray,.string k,.int .i64 ((x:Nat):Int)] w0 fun v w=>(∃g,v=.tuple #[.slice (some ⟨g,0,none⟩) ((n+7) / 8) ((n+7) / 8),.bool (zEM b n k x)]∧Blk w g (zJW n (zJB b n k x)) 5∧w0.heap.size≤g)∧Ext w0 w:=by
 have av:=ok.nl;subst av;have hst:=ok.st;have ag:zSV b k x 0=fun _=>false:=rfl;obtain ⟨aa,ac,na,nc,rfl,az,aj⟩:=hb;obtain ⟨nb,no,rfl,aq⟩:=zBi (n:=b.next.length) aj qO;refine qR func182 rfl ntmps182 rfl (fun E=>(zAA (zBY (v:=(.agg #[(I6 b.start),(.slice aa b.accept.length ac),(.slice (some ⟨nb,no,none⟩) b.next.length nc)])) (c:=#[(I6 b.start),(.slice aa b.accept.length ac),(.slice (some ⟨nb,no,none⟩) b.next.length nc)]) qD rfl rfl ?_)));intro bd wd Nd;replace E:=E.ext Nd.ext;have Bd:=Nd.blk;refine qA _ rfl (qA _ rfl (zAB (zAA (qF bd 0 2 rfl underlying34 rfl zBr rfl (qV (zAG rfl zBh (Bd.cell rfl)) (qV (zAK underlying32 rfl) (qE rfl (zAU func180 kQ kQ rfl) ((zKS _ b.next.length qO).mono (R':=fun v w=>(∃g,v=.slice (some ⟨g,0,none⟩) ((b.next.length+7) / 8) ((b.next.length+7) / 8)∧Blk w g (zJW b.next.length (zSV b k x 0)) 5∧wd.heap.size≤g)∧Ext wd w) (fun v w h=>by rw[ag];exact h)) ?_)))))));rintro _ w9 ⟨⟨g,rfl,hG,hg0⟩,X9⟩;replace Bd:=X9.keep Bd;replace E:=E.ext X9;have hgd:bd<g:=by have:=Nd.eq;have:=Nd.size;omega
 have ay:w0.heap.size≤g:=by have:=Nd.ext.size;omega
 refine qA _ rfl (qA _ rfl (zAB (zAH (zAA (qF bd 0 2 rfl underlying34 rfl zBr rfl (qV (zAG rfl zBh (Bd.cell rfl)) (qV (zAK underlying32 rfl) (qM _ rfl (zAB (zAT (zAo (fun nn_ σ W1=>∃(i:Nat) (sm:Bool),(∃jj_,σ=zCT jj_ [(1,(.string k)),(2,(I6 (x:Int))),(3,(P6 bd 0)),(8,(.slice (some ⟨g,0,none⟩) ((b.next.length+7) / 8) ((b.next.length+7) / 8))),(17,(I6 (b.next.length:Int))),(18,(I6 (i:Int))),(9,(.bool sm))])∧Chg zAe w0 W1∧Blk W1 bd #[(I6 b.start),(.slice aa b.accept.length ac),(.slice (some ⟨nb,no,none⟩) b.next.length nc)] 34∧Blk W1 g (zJW b.next.length (zSV b k x i)) 5∧(i≤b.next.length)∧(sm=zMi b k x i)∧nn_=b.next.length - i) (n:=b.next.length - 0) ?_ ?_)))))))))))
 ·exact ⟨0,false,zAs.out ⟨rfl,rfl,rfl,rfl,rfl,rfl,rfl,trivial⟩,E,Bd,hG,Nat.zero_le _,rfl,rfl⟩
 ·clear E Bd hG;rintro _ _ W1 ⟨i,sm,⟨j1,rfl⟩,E,Bd,hG,hi,ah,rfl⟩;refine zAA (qV (zBA rfl rfl) (zAB (zAH (qC rfl (fun ax=>?_) (fun ax=>?_)))))
  ·obtain ⟨row,ab⟩:=zAJ (l:=b.next) (i:=i) qO;have hrl:=(ok.row row (List.mem_of_getElem? ab)).1;obtain ⟨ra,rc,ad,ar⟩:=aq i row ab;obtain ⟨b9,o9,aw,ao⟩:=zAy ar qO;subst aw;obtain ⟨y,hy⟩:=zAJ (l:=row) (i:=x) qO;have hyr:=(ok.row row (List.mem_of_getElem? ab)).2 y (List.mem_of_getElem? hy);have al:=zEq ab hy;refine zAO (zAC (zAH (zAT (zAA (qM _ rfl (qA _ rfl (zAB (zAA (qM _ rfl (qM _ rfl (qE rfl (zAU func195 kQ kQ rfl) (zLp _ b.next.length i k qO hk qO) ?_)))))))))));rintro _ w19 ⟨rfl,ai⟩;replace Bd:=ai.keep Bd;replace hG:=ai.keep hG;replace E:=E.ext ai;refine qM _ rfl ?_;rcases Bool.eq_false_or_eq_true (zGw k i) with hh|hh
   ·have ap:=hh;refine zAL rfl rfl qD (cbk hh) (qF bd 0 2 rfl underlying34 rfl zBr rfl (zAL rfl rfl qD (cbk hh) (qV (zAG rfl zBh (Bd.cell rfl)) (zAL rfl rfl qD (cbk hh) (qM _ rfl (zAL rfl rfl qD (cbk hh) (qV (zAD (b:=nb) (o:=no) (len:=b.next.length) (cap:=nc) (i:=i) (o':=no+i) rfl rfl rfl underlying32 zBE qO qO) (zAL rfl rfl qD (cbk hh) (qV (zAG rfl zBI (E.cell (fun f=>f) ad)) (zAL rfl rfl qD (cbk hh) (qM _ rfl (zAL rfl rfl qD (cbk hh) (qV (zAD (b:=b9) (o:=o9) (len:=row.length) (cap:=rc) (i:=x) (o':=o9+x) rfl rfl rfl underlying22 zAv qO qO) (zAL rfl rfl qD (cbk hh) ?_))))))))))))));refine qV (zAG rfl zAm (E.cell (fun f=>f) (ao x y hy))) (zAL rfl rfl qD (cbk hh) (qV (zDF rfl rfl) (qV (zAr (v:=(.bool (decide ((0:Int)≤y)))) rfl (by rw[hh];rfl)) (zAB (qC rfl (fun an=>?_) (fun an=>?_))))))
    ·obtain ⟨t,rfl⟩:=Int.eq_ofNat_of_zero_le an;refine zAA (qM _ rfl (qF bd 0 2 rfl underlying34 rfl zBr rfl (qV (zAG rfl zBh (Bd.cell rfl)) (qM _ rfl (qV (zAD (b:=nb) (o:=no) (len:=b.next.length) (cap:=nc) (i:=i) (o':=no+i) rfl rfl rfl underlying32 zBE qO qO) (qV (zAG rfl zBI (E.cell (fun f=>f) ad)) (qM _ rfl (qV (zAD (b:=b9) (o:=o9) (len:=row.length) (cap:=rc) (i:=x) (o':=o9+x) rfl rfl rfl underlying22 zAv qO qO) (qV (zAG rfl zAm (E.cell (fun f=>f) (ao x _ hy))) (qE rfl (zAU func178 kQ kQ rfl) (zVJ _ b.next.length g t _ qO hG qO) ?_))))))))));rintro _ w29 ⟨rfl,ak,am⟩;replace Bd:=ak.keep qO Bd;replace E:=E.step ak (by intro x hx hm;omega);obtain ⟨af,ae⟩:=zTX (b:=b) (k:=k) (x:=x) (s:=i) (t:=t) hh al;rw[af] at am;refine zAB (zAF (qA _ rfl (zAB (zAS (zAC (zAF (qV (zAw rfl rfl (zBf qO)) (qM _ rfl (zAB (zAC ?_))))))))));exact ⟨b.next.length - (i+1),qO,i+1,true,zAs.out ⟨rfl,rfl,rfl,rfl,rfl,rfl,rfl,trivial⟩,E,Bd,am,qO,ae.symm,rfl⟩
    ·obtain ⟨af,ae⟩:=zQx (b:=b) (k:=k) (x:=x) (s:=i) (.inr (by rw[al];omega));rw[←af] at hG;refine zAO (zAS (zAC (zAF (qV (zAw rfl rfl (zBf qO)) (qM _ rfl (zAB (zAC ?_)))))));exact ⟨b.next.length - (i+1),qO,i+1,sm,zAs.out ⟨rfl,rfl,rfl,rfl,rfl,rfl,rfl,trivial⟩,E,Bd,hG,qO,(by rw[ae];exact ah),rfl⟩
   ·have ap:=hh;obtain ⟨af,ae⟩:=zQx (b:=b) (k:=k) (x:=x) (s:=i) (.inl hh);rw[←af] at hG;refine zAM rfl rfl qD (v:=.bool false) (cbk hh) (Or.inl rfl) (zAM rfl rfl qD (v:=.bool false) (cbk hh) (Or.inl rfl) (zAM rfl rfl qD (v:=.bool false) (cbk hh) (Or.inl rfl) (zAM rfl rfl qD (v:=.bool false) (cbk hh) (Or.inl rfl) (zAM rfl rfl qD (v:=.bool false) (cbk hh) (Or.inl rfl) (zAM rfl rfl qD (v:=.bool false) (cbk hh) (Or.inl rfl) (zAM rfl rfl qD (v:=.bool false) (cbk hh) (Or.inl rfl) (zAM rfl rfl qD (v:=.bool false) (cbk hh) (Or.inl rfl) (zAM rfl rfl qD (v:=.bool false) (cbk hh) (Or.inl rfl) (qV (zAr (v:=(.bool false)) rfl (by rw[hh];rfl)) (zAB (zAN rfl (zAO (zAS (zAC (zAF (qV (zAw rfl rfl (zBf qO)) (qM _ rfl ?_)))))))))))))))));refine zAB (zAC ?_);exact ⟨b.next.length - (i+1),qO,i+1,sm,zAs.out ⟨rfl,rfl,rfl,rfl,rfl,rfl,rfl,trivial⟩,E,Bd,hG,qO,(by rw[ae];exact ah),rfl⟩
  ·have au:i=b.next.length:=qO
   subst au;refine zAl (zAV (zAV (zAf (zAC (zAA (qM _ rfl (qM _ rfl (qA _ rfl (qA _ rfl (zAB (zAW (zCY results182 (v:=(.slice (some ⟨g,0,none⟩) ((b.next.length+7) / 8) ((b.next.length+7) / 8))) (v':=(.bool sm)) rfl rfl ?_))))))))))));subst ah;exact ⟨⟨g,rfl,hG,ay⟩,E⟩
end Go.Proofs
namespace Go.Eng
open Go
abbrev Plc:=Int×ByteArray
def zRJ (p:Plc):Value:=.agg #[.int .i64 p.1,.string p.2]
theorem zSo (k:Plc):Instr.sameBits 10000 (zRJ k) (zRJ k)=true:=by
 show Instr.sameBits (9999+1) (.agg _) (.agg _)=true;simp[Instr.sameBits,(MapKept.bytes_beq k.2 k.2).2 rfl]
theorem zZR {P : Program} {t e f : TypeId} {n1 n2 p1 p2 g1 g2 : String} {m1 m2 : Bool} {o1 o2 : Nat} (hu : P.underlying t = some (.struct #[⟨n1, e, 0, m1, p1, g1, o1⟩, ⟨n2, f, 1, m2, p2, g2, o2⟩])) (hs : P.stoodInHeld t = false) (he : P.underlying e = some (.int .i64)) (hf' : P.underlying f = some .string) (h1 : n1 ≠ "_") (h2 : n2 ≠ "_") (w : World) (a b : Plc) :
  (Op.equal t (zRJ a) (zRJ b)).run P w=.ok (decide (a=b)) w:=by
 have hp:P.plainKey e=true:=by simp[Program.plainKey,he]
 have aa:P.plainKey f=true:=by simp[Program.plainKey,hf']
 have hf:P.fieldsOf t=#[⟨n1,e,0,m1,p1,g1,o1⟩,⟨n2,f,1,m2,p2,g2,o2⟩]:=by simp[Program.fieldsOf,hu]
 have hq:∀(d:Nat) (x y:Int),(Op.equalIn (d+1) e (.int .i64 x) (.int .i64 y)).run P w=.ok (x == y) w:=fun d x y=>by
  simp[Op.equalIn,run_underlying he]
 have hr:∀(d:Nat) (x y:ByteArray),(Op.equalIn (d+1) f (.string x) (.string y)).run P w=.ok (x == y) w:=fun d x y=>by
  simp[Op.equalIn,run_underlying hf']
 show (Op.equalIn (9999+1) t (.agg _) (.agg _)).run P w=_;rw[run_equalIn_struct w 9999 t _ _ (by rw[hf];exact hu) hs,hf];obtain ⟨a1,a2⟩:=a;obtain ⟨b1,b2⟩:=b;have q0:∀(x:Int) (y:ByteArray),(part e #[.int .i64 x,.string y] 0).run P w=.ok (.int .i64 x) w:=fun x y=>run_part_plain w hp rfl;have q1:∀(x:Int) (y:ByteArray),(part f #[.int .i64 x,.string y] 1).run P w=.ok (.string y) w:=fun x y=>run_part_plain w aa rfl;have b':∀x y:Int,(x == y)=decide (x=y):=fun x y=>by rw[Bool.eq_iff_iff];simp
 have c':∀x y:ByteArray,(x == y)=decide (x=y):=fun x y=>by rw[Bool.eq_iff_iff,MapKept.bytes_beq];simp
 simp only[Op.eqFields,h1,h2,ne_eq,not_false_eq_true,if_true,Sem.run_bind,q0,q1,Result.andThen_ok,hq 9998,b',Prod.mk.injEq];by_cases e1:a1=b1
 ·by_cases e2:a2=b2<;>simp[e1,e2,q1,hr 9998,c']
 ·simp[e1]
end Go.Eng
