/- Contracts and plain lemmas, part 5. -/
import Derived.Tactics
import Derived.Deep.Quiet
import Derived.Laws.AppendOwn
import Derived.KernelRfl
import Derived.Laws.Entries
import Derived.Laws.Build
import Derived.Below
import Derived.RowKit3
import Derived.StillTail
import Derived.Sort.Grow
import Derived.Deep.Draws
import Derived.Test.YtnnkdgabkoggaaaGreatDoorChecked
import Derived.Laws.StructEq
import Derived.MapKept
import Derived.Laws.BytesArg
import Derived.Defers
import Derived.Recover
import Derived.Shelf.SlSortCmp.WholeK
import Derived.Shelf.Sort.Plain
import Derived.Shelf.Slices.CompactI
import Derived.Test.YtnnkdgabkoggaaaGreatDoorProg
import Derived.Shelf.Small.Bits
import Derived.DeepKeys3
import Derived.Test.YtnnkdgabkoggaaaGreatDoorAg4
set_option maxHeartbeats 16000000
set_option maxRecDepth 100000
namespace Go.Proofs
open Go Go.Eng Go.Sort
theorem repGs_none {f : GF} {mn : Int} {g : GS} {k : Nat} (h : repGs f mn g k = none) : ∀ m,k ≤ m → repGs f mn g m = none
  | 0,hm => by obtain rfl : k = 0 := (by omega); exact h
  | m + 1,hm => by
    rcases Nat.lt_or_ge m k with h1 | h1
    · obtain rfl : k = m + 1 := (by omega); exact h
    · rw [repGs,repGs_none h m h1]; rfl
theorem cat_hyp {c : Nat} {g0 g g2 : GS} {o p : Pt} {C : Nat} (h : GSt1 c g0 g o) (k : GSt1 C g g2 p) (hR : RowB 25000 g2.fol) : (∀ t ∈ o.lst,t < g2.fol.length) ∧ RowB 100000 g2.fol ∧ (o.fst.length ≤ 1000 ∧ o.lst.length ≤ 1000) ∧ (p.fst.length ≤ 1000 ∧ p.lst.length ≤ 1000) ∧ 0 < g2.fol.length := by
 have h1 := h.inv.2
 have k1 := k.inv.2
 have k2 := k.inv.1
 have kl := k.le
 have a1 := h.fst.len
 have a2 := h.lst.len
 have a3 := k.fst.len
 have a4 := k.lst.len
 exact ⟨fun t ht => by have := (h.lst.2.1 t ht).2; omega,fun i l hl => by have := hR i l hl; omega,⟨by omega,by omega⟩,⟨by omega,by omega⟩,by omega⟩
theorem gof6_c (wb : World) (x : Re) (hk : x.kind = 6) (ha : x.args.length = 1) (hsz : x.size ≤ 44) (hmx : x.mx ≤ 1000) (hof : ∀ y ∈ x.args,GkOf wb y) : GkOf wb x := by
 intro base pb F w0 sv fv vs g us hxt hE hF hP hI hR
 obtain ⟨sa,sc,aa,ac,rfl,hset,hlen,hargs⟩ := hxt.form
 obtain ⟨y,hy⟩ := args_one9 ha
 have hys : y.size + 1 ≤ 44 := by have h9 := Re.size_arg (t := x) (i := 0) (x := y) (by rw [hy]; rfl); omega
 have hym : y ∈ x.args := by rw [hy]; exact List.mem_singleton_self y
 obtain ⟨ab,ao,rfl,hres⟩ := args_at hargs (by omega)
 obtain ⟨us,hus,hyt⟩ := hres.get (i := 0) (t := y) (by rw [hy]; rfl)
 have hyt0 := hyt
 obtain ⟨ysa,ysc,yaa,yac,rfl,_,_,_⟩ := hyt.form
 refine RetX_of Tryz.func24 rfl Tryz.ntmps24 (Nat.le_of_ble_eq_true rfl) ?_
 have E : Chg (fun _ => True) w0 w0 := Chg.refl _ _
 have hG := GrG.start hP
 refine Wp_seq_region ?_
 refine s_box (v := (.agg (R6 x sa sc (some ⟨ab,ao,none⟩) ac))) (c := (R6 x sa sc (some ⟨ab,ao,none⟩) ac)) (by decide) rfl rfl ?_
 intro bb wb Nb
 have Fb := Nb.ge E
 replace hG := hG.ext Nb.ext
 replace E := E.ext Nb.ext
 have Bb := Nb.blk
 refine s_alloc (c := #[(.bool false),(.slice none 0 0),(.slice none 0 0)]) (by decide) zer67 rfl ?_
 intro br wr Nr
 have Fr := Nr.ge E
 have Or_bb := Nr.lt Bb
 replace Bb := Nr.keep Bb
 replace hG := hG.ext Nr.ext
 replace E := E.ext Nr.ext
 have Br := Nr.blk
 refine WpL_nil (Wp_seq (Wp_seq_region ?_))
 refine qF bb 0 0 rfl Tryz.underlying27 rfl siz3 rfl ?_
 refine qV (r_load (v := (I6 x.kind)) rfl flat3 (Bb.cell rfl)) ?_
 refine WpL_nil (Wp_block (Wp_seq_region ?_))
 refine qV (r_eql (k := .i64) (a := x.kind) (b := 1) rfl rfl) ?_
 refine qA (.bool (decide ((x.kind : Int) = 1))) rfl ?_
 refine WpL_nil ?_
 have hc1 : (decide ((x.kind : Int) = 1)) = false := decide_eq_false (by omega)
 refine Wp_cond_false (congrArg Value.bool hc1) ?_
 refine Wp_seq_region ?_
 refine qV (r_eql (k := .i64) (a := x.kind) (b := 2) rfl rfl) ?_
 refine qA (.bool (decide ((x.kind : Int) = 2))) rfl ?_
 refine WpL_nil ?_
 have hc2 : (decide ((x.kind : Int) = 2)) = false := decide_eq_false (by omega)
 refine Wp_cond_false (congrArg Value.bool hc2) ?_
 refine Wp_seq_region ?_
 refine qV (r_eql (k := .i64) (a := x.kind) (b := 3) rfl rfl) ?_
 refine qA (.bool (decide ((x.kind : Int) = 3))) rfl ?_
 refine WpL_nil ?_
 have hc3 : (decide ((x.kind : Int) = 3)) = false := decide_eq_false (by omega)
 refine Wp_cond_false (congrArg Value.bool hc3) ?_
 refine Wp_seq_region ?_
 refine qV (r_eql (k := .i64) (a := x.kind) (b := 4) rfl rfl) ?_
 refine qA (.bool (decide ((x.kind : Int) = 4))) rfl ?_
 refine WpL_nil ?_
 have hc4 : (decide ((x.kind : Int) = 4)) = false := decide_eq_false (by omega)
 refine Wp_cond_false (congrArg Value.bool hc4) ?_
 refine Wp_seq_region ?_
 refine qV (r_eql (k := .i64) (a := x.kind) (b := 5) rfl rfl) ?_
 refine qA (.bool (decide ((x.kind : Int) = 5))) rfl ?_
 refine WpL_nil ?_
 have hc5 : (decide ((x.kind : Int) = 5)) = false := decide_eq_false (by omega)
 refine Wp_cond_false (congrArg Value.bool hc5) ?_
 refine Wp_seq_region ?_
 refine qV (r_eql (k := .i64) (a := x.kind) (b := 6) rfl rfl) ?_
 refine qA (.bool (decide ((x.kind : Int) = 6))) rfl ?_
 refine WpL_nil ?_
 have hc6 : (decide ((x.kind : Int) = 6)) = true := decide_eq_true hk
 refine Wp_cond_true (congrArg Value.bool hc6) ?_
 refine Wp_seq_region ?_
 refine qV (r_build (ps := [(0,(.bool true))]) (v := (.agg #[(.bool true),(.slice none 0 0),(.slice none 0 0)])) rfl (by kernel_rfl)) ?_
 refine s_allocStore (v := (.agg #[(.bool true),(.slice none 0 0),(.slice none 0 0)])) (c := #[(.bool true),(.slice none 0 0),(.slice none 0 0)]) (n := 3) (by decide) zer67 rfl siz67 rfl rfl rfl (by simp [Value.oneCell']) ?_
 intro bo wo No
 have Fo := No.ge E
 have Oo_bb := No.lt Bb
 have Oo_br := No.lt Br
 replace Bb := No.keep Bb
 replace Br := No.keep Br
 replace hG := hG.ext No.ext
 replace E := E.ext No.ext
 have Bo := No.blk
 refine WpL_nil (Wp_seq (Wp_seq_region ?_))
 refine qF bb 0 4 rfl Tryz.underlying27 rfl siz3 rfl ?_
 refine qV (r_load (v := (I6 x.mx)) rfl flat3 (Bb.cell rfl)) ?_
 refine qM (I6 0) rfl ?_
 refine WpL_nil (Wp_block ?_)
 refine Wp_loop (fun nn_ σ W7 => ∃ (k : Nat) (gk : GS) (o : Pt) (Fk : Nat → Prop) (sk : Value) (fk : Value) (vk : List Value) (oa : Option Addr) (oc : Nat) (oa2 : Option Addr) (oc2 : Nat),(∃ jj_,σ = upds jj_ [(0,(P6 pb 0)),(3,(P6 bb 0)),(4,(P6 br 0)),(14,(P6 bo 0)),(133,(I6 x.mx)),(134,(I6 (k : Int)))]) ∧ Chg (fun _ => True) w0 W7 ∧ Blk W7 bb (R6 x sa sc (some ⟨ab,ao,none⟩) ac) 27 ∧ Blk W7 br #[(.bool false),(.slice none 0 0),(.slice none 0 0)] 67 ∧ Blk W7 bo (#[Value.bool o.nul,.slice oa o.fst.length oc,.slice oa2 o.lst.length oc2]) 67 ∧ (k ≤ x.mx.toNat) ∧ (repGs (gkO y) x.mn g k = some (gk,o)) ∧ (GrG F w0 base pb sv fv vs Fk sk fk vk gk W7) ∧ (FrI Fk W7 (.slice oa o.fst.length oc) o.fst) ∧ (FrI Fk W7 (.slice oa2 o.lst.length oc2) o.lst) ∧ (Apq Fk pb sk fk vk bo ∧ Apq Fk pb sk fk vk br ∧ Apq Fk pb sk fk vk bb) ∧ nn_ = x.mx.toNat - k) (n := x.mx.toNat - 0) ?_ ?_
 ·exact ⟨0,g,⟨true,[],[]⟩,F,sv,fv,vs,none,0,none,0,Fits.out ⟨rfl,rfl,rfl,rfl,rfl,rfl,trivial⟩,E,Bb,Br,Bo,Nat.zero_le _,rfl,hG,FrI.nil _ _,FrI.nil _ _,⟨hP.fresh (by omega),hP.fresh (by omega),hP.fresh (by omega)⟩,rfl⟩
 ·clear E Bb Br Bo
  rintro _ _ W7 ⟨k,gk,o,Fk,sk,fk,vk,oa,oc,oa2,oc2,⟨j7,rfl⟩,E,Bb,Br,Bo,hk2,hQ,hGk,ho1,ho2,hA,rfl⟩
  refine Wp_seq_region ?_
  refine qV (r_lss (k := .i64) (a := (k : Int)) (b := x.mx) rfl rfl) ?_
  refine WpL_nil (Wp_seq ?_)
  refine Wp_cond (b := decide (((k : Int) : Int) < x.mx)) rfl (fun hlt => ?_) (fun hlt => ?_)
  ·have khlt := hlt
   replace hlt := of_decide_eq_true hlt
   have hSk := repGs_ok (Nat.le_refl _) (gkO_ok y) hI k gk o hQ
   have hRk := hSk.rows hR (by omega)
   have hbl : bo < (W7).heap.size ∧ br < (W7).heap.size ∧ bb < (W7).heap.size := ⟨Bo.lt,Br.lt,Bb.lt⟩
   refine Wp_skip (thn_normal (Wp_seq (Wp_block (Wp_seq_region ?_))))
   refine qM (I6 (k : Int)) rfl ?_
   refine qA (I6 (k : Int)) rfl ?_
   refine WpL_nil (Wp_seq_region ?_)
   refine qM (P6 pb 0) rfl ?_
   refine qF bb 0 2 rfl Tryz.underlying27 rfl siz25 rfl ?_
   refine qV (r_load (v := (.slice (some ⟨ab,ao,none⟩) x.args.length ac)) rfl flat25 (Bb.cell rfl)) ?_
   refine qV (r_indexSlice (b := ab) (o := ao) (len := x.args.length) (cap := ac) (i := 0) (o' := ao + 0 * 6) rfl rfl rfl Tryz.underlying25 siz27 (by omega) (by omega)) ?_
   refine qV (r_loadAgg (vs := [(I6 y.kind),(.slice ysa y.set.length ysc),(.slice yaa y.args.length yac),(I6 y.mn),(I6 y.mx),(.bool y.neg)]) rfl agg27 siz27 rfl (by simpa using hus.ext (hGk.base' hP hF hE))) ?_
   refine WpL_enterX rfl rfl (by decide) (r_callF (vs := [(P6 pb 0),(.agg (R6 y ysa ysc yaa yac))]) Tryz.func24 kQ kQ rfl) (hof y hym base pb _ _ _ _ _ gk _ hyt0 (hGk.base' hP hF hE) (fun q hq => hGk.sub q (hF q hq)) hGk.st hSk.inv hRk) (fun w' h => And.intro rfl ⟨by rw [gk_6 hk hy,repGs_none (k := k + 1) (by rw [repGs,hQ,Option.bind_some]; dsimp only; rw [h.1]; rfl) _ (by omega)],hGk.pan h.2⟩) ?_
   rintro _ w19 ⟨g2,p,F2,s2,f2,v2,h2,⟨pa,pc,pa2,pc2,rfl,hp1,hp2⟩,G2⟩
   replace Bb := G2.chg.keep ((by first | exact hA.1.2 | exact hA.2.1.2 | exact hA.2.2.2)) Bb
   replace Br := G2.chg.keep ((by first | exact hA.1.2 | exact hA.2.1.2 | exact hA.2.2.2)) Br
   replace Bo := G2.chg.keep ((by first | exact hA.1.2 | exact hA.2.1.2 | exact hA.2.2.2)) Bo
   replace E := E.step G2.chg (fun _ _ _ => trivial)
   have hok := gkO_ok y gk g2 p hSk.inv h2
   have hch := cat_hyp hSk hok (hok.rows hRk (by omega))
   have hA2 : Apq F2 pb s2 f2 v2 bo ∧ Apq F2 pb s2 f2 v2 br ∧ Apq F2 pb s2 f2 v2 bb := ⟨G2.apart hA.1 hbl.1,G2.apart hA.2.1 hbl.2.1,G2.apart hA.2.2 hbl.2.2⟩
   replace ho1 := (ho1.chg G2.chg fun y hy => hGk.st.kept hy).mono G2.sub
   replace ho2 := (ho2.chg G2.chg fun y hy => hGk.st.kept hy).mono G2.sub
   replace G2 := hGk.comp G2
   have hGo := G2
   have E7 : Chg none1 w19 w19 := Chg.refl _ _
   refine s_allocStore (v := (.agg #[(.bool p.nul),(.slice pa p.fst.length pc),(.slice pa2 p.lst.length pc2)])) (c := #[(.bool p.nul),(.slice pa p.fst.length pc),(.slice pa2 p.lst.length pc2)]) (n := 3) (by decide) zer67 rfl siz67 rfl rfl rfl (by simp [Value.oneCell']) ?_
   intro bp wp Np
   have Fp := Np.ge E
   have Fp_E7 := Np.ge E7
   have Op_bb := Np.lt Bb
   have Op_br := Np.lt Br
   have Op_bo := Np.lt Bo
   replace Bb := Np.keep Bb
   replace Br := Np.keep Br
   replace Bo := Np.keep Bo
   replace E := E.ext Np.ext
   have Bp := Np.blk
   replace E7 := E7.ext Np.ext
   refine WpL_nil (Wp_seq_region ?_)
   refine qF bp 0 0 rfl Tryz.underlying67 rfl siz4 rfl ?_
   refine qV (r_load (v := (.bool p.nul)) rfl flat4 (Bp.cell rfl)) ?_
   obtain ⟨e9,he9⟩ : ∃ e,(p.nul) = e := ⟨_,rfl⟩
   refine qV (r_move (v := .bool e9) (congrArg Value.bool he9)) ?_
   refine qG (.bool e9) (nU e9 (I6 (k : Int))) (by cases e9 <;> first | exact gA | exact gB | exact .inl ⟨rfl,r_move (v := (I6 (k : Int))) rfl⟩) ?_
   refine qG (.bool e9) (nU e9 (P6 bb 3)) (by cases e9 <;> first | exact gA | exact gB | exact .inl ⟨rfl,r_fieldAddr (b := bb) (o := 0) (o' := 3) rfl Tryz.underlying27 rfl siz3 rfl⟩) ?_
   refine qG (.bool e9) (nU e9 (I6 x.mn)) (by cases e9 <;> first | exact gA | exact gB | exact .inl ⟨rfl,r_load (v := (I6 x.mn)) rfl flat3 (Bb.cell rfl)⟩) ?_
   obtain ⟨e10,he10⟩ : ∃ e,(decide ((x.mn : Int) ≤ ((k : Nat) : Int))) = e := ⟨_,rfl⟩
   refine qG (.bool e9) (nU e9 (.bool e10)) (by cases e9 <;> first | exact gA | exact gB | exact .inl ⟨rfl,(r_geq (k := .i64) (a := (k : Int)) (b := x.mn) rfl rfl).trans (by rw [he10]; try rfl)⟩) ?_
   obtain ⟨e11,he11⟩ : ∃ e,(e9 || e10) = e := ⟨_,rfl⟩
   refine qV (r_pick (b := e9) (v := .bool e11) rfl (by rw [← he11]; cases e9 <;> rfl)) ?_
   refine qF bp 0 0 rfl Tryz.underlying67 rfl siz4 rfl ?_
   refine s_store (b := bp) (o := 0) (c' := #[(.bool e11),(.slice pa p.fst.length pc),(.slice pa2 p.lst.length pc2)]) (v := (.bool e11)) rfl rfl rfl siz4 Bp (by simp) rfl ?_
   intro w12 S12
   replace Bb := S12.keep (by omega) Bb
   replace Br := S12.keep (by omega) Br
   replace Bo := S12.keep (by omega) Bo
   replace E := S12.step E (by first | exact Or.inl (by omega) | exact Or.inr rfl | exact Or.inr (by assumption) | exact Or.inr (by simp) | exact Or.inr (by omega) | exact Or.inr (by dsimp only; omega))
   replace E7 := S12.step E7 (Or.inl (by omega))
   replace Bp := S12.blk
   refine WpL_nil ?_
   subst he11
   subst he10
   subst he9
   refine Wp_region ?_
   refine qM (P6 pb 0) rfl ?_
   refine qV (r_loadAgg (vs := [(.bool o.nul),(.slice oa o.fst.length oc),(.slice oa2 o.lst.length oc2)]) rfl agg67 siz67 rfl (Bo.cells rfl)) ?_
   refine qV (r_loadAgg (vs := [(.bool (p.nul || (decide ((x.mn : Int) ≤ (k : Int))))),(.slice pa p.fst.length pc),(.slice pa2 p.lst.length pc2)]) rfl agg67 siz67 rfl (Bp.cells rfl)) ?_
   have hAp : Apq F2 pb s2 f2 v2 bp := hGo.st.fresh (by omega)
   have hbl2 : bo < (w12).heap.size ∧ br < (w12).heap.size ∧ bb < (w12).heap.size ∧ bp < (w12).heap.size := ⟨Bo.lt,Br.lt,Bb.lt,Bp.lt⟩
   replace G2 := G2.ext E7
   replace ho1 := ho1.ext E7
   replace ho2 := ho2.ext E7
   replace hp1 := hp1.ext E7
   replace hp2 := hp2.ext E7
   refine WpL_enter rfl rfl (by decide) (r_callF (vs := [(P6 pb 0),(.agg #[(.bool o.nul),(.slice oa o.fst.length oc),(.slice oa2 o.lst.length oc2)]),(.agg #[(.bool (p.nul || (decide ((x.mn : Int) ≤ (k : Int))))),(.slice pa p.fst.length pc),(.slice pa2 p.lst.length pc2)])]) Tryz.func56 kQ kQ rfl) (gcat_c F2 _ base pb s2 f2 v2 g2 G2.st o (orP p (decide (x.mn ≤ (k : Int)))) _ _ ⟨_,_,_,_,rfl,ho1,ho2⟩ ⟨_,_,_,_,rfl,hp1,hp2⟩ hch.1 hch.2.1 hch.2.2.1 hch.2.2.2.1 hch.2.2.2.2) ?_
   rintro _ w29 ⟨F3,v3,G3,ca,cc,ca2,cc2,rfl,hc1,hc2⟩
   replace Bb := G3.chg.keep ((by first | exact hA2.1.2 | exact hA2.2.1.2 | exact hA2.2.2.2)) Bb
   replace Br := G3.chg.keep ((by first | exact hA2.1.2 | exact hA2.2.1.2 | exact hA2.2.2.2)) Br
   replace Bo := G3.chg.keep ((by first | exact hA2.1.2 | exact hA2.2.1.2 | exact hA2.2.2.2)) Bo
   replace E := E.step G3.chg (fun _ _ _ => trivial)
   have hA3 : Apq F3 pb s2 f2 v3 bo ∧ Apq F3 pb s2 f2 v3 br ∧ Apq F3 pb s2 f2 v3 bb := ⟨G3.apart hA2.1 hbl2.1,G3.apart hA2.2.1 hbl2.2.1,G3.apart hA2.2.2 hbl2.2.2.1⟩
   replace G3 := G2.comp G3
   refine s_storeAgg (b := bo) (o := 0) (c' := #[(.bool ((catP o (orP p (decide (x.mn ≤ (k : Int))))).nul)),(.slice ca ((catP o (orP p (decide (x.mn ≤ (k : Int))))).fst.length) cc),(.slice ca2 ((catP o (orP p (decide (x.mn ≤ (k : Int))))).lst.length) cc2)]) rfl rfl (by simp [Value.oneCell']) siz67 rfl Bo (by first | (simp; done) | exact Nat.le_of_ble_eq_true rfl) rfl ?_
   intro w13 S13
   replace G3 := G3.other S13.chg (fun y e => by rw [show y = bo from e]; exact ⟨by omega,hA3.1⟩)
   replace hc1 := hc1.chg S13.chg (fun y hy e => by rw [show y = bo from e] at hy; exact hA3.1.1 hy)
   replace hc2 := hc2.chg S13.chg (fun y hy e => by rw [show y = bo from e] at hy; exact hA3.1.1 hy)
   replace Bb := S13.keep (by omega) Bb
   replace Br := S13.keep (by omega) Br
   replace E := S13.step E (by first | exact Or.inl (by omega) | exact Or.inr rfl | exact Or.inr (by assumption) | exact Or.inr (by simp) | exact Or.inr (by omega) | exact Or.inr (by dsimp only; omega))
   replace Bo := S13.blk
   refine WpL_nil (inB_normal (thn_normal (Wp_region ?_)))
   refine qV (r_add (k := .i64) (a := (k : Int)) (b := 1) (c := (k : Int) + 1) rfl rfl (wI64 (by omega))) ?_
   refine qM (I6 ((k : Int) + 1)) rfl ?_
   refine WpL_nil (thn_normal ?_)
   exact ⟨x.mx.toNat - (k + 1),by omega,k + 1,_,catP o (orP p (decide (x.mn ≤ ((k : Nat) : Int)))),F3,s2,f2,v3,ca,cc,ca2,cc2,Fits.out ⟨rfl,rfl,rfl,rfl,rfl,rfl,trivial⟩,E,Bb,Br,Bo,(by omega),(by rw [repGs,hQ,Option.bind_some]; dsimp only; rw [h2]; rfl),G3,hc1,hc2,hA3,rfl⟩
  ·have khlt := hlt
   replace hlt := of_decide_eq_false hlt
   have hkk : x.mx.toNat = k := by omega
   refine Wp_exit (thn_exit (thn_exit (inB_here (thn_normal (Wp_seq_region ?_)))))
   refine qV (r_loadAgg (vs := [(.bool o.nul),(.slice oa o.fst.length oc),(.slice oa2 o.lst.length oc2)]) rfl agg67 siz67 rfl (Bo.cells rfl)) ?_
   refine s_storeAgg (b := br) (o := 0) (c' := #[(.bool o.nul),(.slice oa o.fst.length oc),(.slice oa2 o.lst.length oc2)]) rfl rfl (by simp [Value.oneCell']) siz67 rfl Br (by first | (simp; done) | exact Nat.le_of_ble_eq_true rfl) rfl ?_
   intro w14 S14
   replace hGk := hGk.other S14.chg (fun y e => by rw [show y = br from e]; exact ⟨by omega,hA.2.1⟩)
   replace ho1 := ho1.chg S14.chg (fun y hy e => by rw [show y = br from e] at hy; exact hA.2.1.1 hy)
   replace ho2 := ho2.chg S14.chg (fun y hy e => by rw [show y = br from e] at hy; exact hA.2.1.1 hy)
   replace Bb := S14.keep (by omega) Bb
   replace Bo := S14.keep (by omega) Bo
   replace E := S14.step E (by first | exact Or.inl (by omega) | exact Or.inr rfl | exact Or.inr (by assumption) | exact Or.inr (by simp) | exact Or.inr (by omega) | exact Or.inr (by dsimp only; omega))
   replace Br := S14.blk
   refine WpL_nil (Wp_ret (inB_ret (thn_ret (finX_ret ?_))))
   refine fin_agg Tryz.results24 (vs := [(.bool o.nul),(.slice oa o.fst.length oc),(.slice oa2 o.lst.length oc2)]) (b := br) rfl agg67 siz67 rfl (Br.cells rfl) ?_
   exact ⟨_,o,_,_,_,_,by rw [gk_6 hk hy,hkk]; exact hQ,⟨_,_,_,_,rfl,ho1,ho2⟩,hGk⟩
def ofF (F : Nat → Prop) (w0 : World) (base pb : Nat) (sv fv : Value) (vs : List Value) (f : GF) (g : GS) : Fct := fun v w => ∃ g' p F' sv' fv' vs',f g = some (g',p) ∧ PtAt F' w p v ∧ GrG F w0 base pb sv fv vs F' sv' fv' vs' g' w
theorem ofF_ext {F : Nat → Prop} {w0 : World} {base pb : Nat} {sv fv : Value} {vs : List Value} {f : GF} {g : GS} : ∀ v w w',Ext w w' → ofF F w0 base pb sv fv vs f g v w → ofF F w0 base pb sv fv vs f g v w' := by
 rintro v w w' e ⟨g',p,F',sv',fv',vs',h1,h2,h3⟩
 exact ⟨g',p,F',sv',fv',vs',h1,h2.ext e,h3.ext e⟩
theorem of_of {F : Nat → Prop} {w0 w1 w : World} {base pb : Nat} {sv fv v : Value} {vs : List Value} {f : GF} {g g0 : GS} (h : GkSt F w0 base pb sv fv vs g0) (e : Ext w0 w1) (k : ofF F w1 base pb sv fv vs f g v w) : ofF F w0 base pb sv fv vs f g v w := by
 obtain ⟨g',p,F',sv',fv',vs',h1,h2,h3⟩ := k
 exact ⟨g',p,F',sv',fv',vs',h1,h2,((GrG.start h).ext e).comp h3⟩
theorem gof3_c (wb : World) (x : Re) (hk : x.kind = 3) (hsz : x.size ≤ 44) (hof : ∀ y ∈ x.args,GkOf wb y) : GkOf wb x := by
 intro base pb F w0 sv fv vs g us hxt hE hF hP hI hR
 obtain ⟨sa,sc,aa,ac,rfl,hset,hlen,hargs⟩ := hxt.form
 have hla := len_lt_size x
 have hok3 := gkL_ok x.args
 have hss : Re.sizes x.args + 1 ≤ 44 := by have h9 := Re.size_eq x; omega
 refine RetX_of Tryz.func24 rfl Tryz.ntmps24 (Nat.le_of_ble_eq_true rfl) ?_
 have E : Chg (fun _ => True) w0 w0 := Chg.refl _ _
 have hG := GrG.start hP
 refine Wp_seq_region ?_
 refine s_box (v := (.agg (R6 x sa sc aa ac))) (c := (R6 x sa sc aa ac)) (by decide) rfl rfl ?_
 intro bb wb Nb
 have Fb := Nb.ge E
 replace hG := hG.ext Nb.ext
 replace E := E.ext Nb.ext
 have Bb := Nb.blk
 refine s_alloc (c := #[(.bool false),(.slice none 0 0),(.slice none 0 0)]) (by decide) zer67 rfl ?_
 intro br wr Nr
 have Fr := Nr.ge E
 have Or_bb := Nr.lt Bb
 replace Bb := Nr.keep Bb
 replace hG := hG.ext Nr.ext
 replace E := E.ext Nr.ext
 have Br := Nr.blk
 refine WpL_nil (Wp_seq (Wp_seq_region ?_))
 refine qF bb 0 0 rfl Tryz.underlying27 rfl siz3 rfl ?_
 refine qV (r_load (v := (I6 x.kind)) rfl flat3 (Bb.cell rfl)) ?_
 refine WpL_nil (Wp_block (Wp_seq_region ?_))
 refine qV (r_eql (k := .i64) (a := x.kind) (b := 1) rfl rfl) ?_
 refine qA (.bool (decide ((x.kind : Int) = 1))) rfl ?_
 refine WpL_nil ?_
 have hc1 : (decide ((x.kind : Int) = 1)) = false := decide_eq_false (by omega)
 refine Wp_cond_false (congrArg Value.bool hc1) ?_
 refine Wp_seq_region ?_
 refine qV (r_eql (k := .i64) (a := x.kind) (b := 2) rfl rfl) ?_
 refine qA (.bool (decide ((x.kind : Int) = 2))) rfl ?_
 refine WpL_nil ?_
 have hc2 : (decide ((x.kind : Int) = 2)) = false := decide_eq_false (by omega)
 refine Wp_cond_false (congrArg Value.bool hc2) ?_
 refine Wp_seq_region ?_
 refine qV (r_eql (k := .i64) (a := x.kind) (b := 3) rfl rfl) ?_
 refine qA (.bool (decide ((x.kind : Int) = 3))) rfl ?_
 refine WpL_nil ?_
 have hc3 : (decide ((x.kind : Int) = 3)) = true := decide_eq_true hk
 refine Wp_cond_true (congrArg Value.bool hc3) ?_
 refine Wp_seq_region ?_
 refine qV (r_build (ps := [(0,(.bool true))]) (v := (.agg #[(.bool true),(.slice none 0 0),(.slice none 0 0)])) rfl (by kernel_rfl)) ?_
 refine s_allocStore (v := (.agg #[(.bool true),(.slice none 0 0),(.slice none 0 0)])) (c := #[(.bool true),(.slice none 0 0),(.slice none 0 0)]) (n := 3) (by decide) zer67 rfl siz67 rfl rfl rfl (by simp [Value.oneCell']) ?_
 intro bo wo No
 have Fo := No.ge E
 have Oo_bb := No.lt Bb
 have Oo_br := No.lt Br
 replace Bb := No.keep Bb
 replace Br := No.keep Br
 replace hG := hG.ext No.ext
 replace E := E.ext No.ext
 have Bo := No.blk
 refine WpL_nil (Wp_seq (Wp_seq_region ?_))
 refine qF bb 0 2 rfl Tryz.underlying27 rfl siz25 rfl ?_
 refine qV (r_load (v := (.slice aa x.args.length ac)) rfl flat25 (Bb.cell rfl)) ?_
 refine qV (r_lenSlice (ad := aa) (n := x.args.length) (cap := ac) Tryz.underlying25 rfl) ?_
 refine qM (I6 0) rfl ?_
 refine WpL_nil (Wp_block ?_)
 refine Wp_loop (fun nn_ σ W4 => ∃ (k : Nat) (gk : GS) (o : Pt) (Fk : Nat → Prop) (sk : Value) (fk : Value) (vk : List Value) (oa : Option Addr) (oc : Nat) (oa2 : Option Addr) (oc2 : Nat),(∃ jj_,σ = upds jj_ [(0,(P6 pb 0)),(4,(P6 br 0)),(6,(P6 bo 0)),(66,(.slice aa x.args.length ac)),(67,(I6 (x.args.length : Int))),(68,(I6 (k : Int)))]) ∧ Chg (fun _ => True) w0 W4 ∧ Blk W4 br #[(.bool false),(.slice none 0 0),(.slice none 0 0)] 67 ∧ Blk W4 bo (#[Value.bool o.nul,.slice oa o.fst.length oc,.slice oa2 o.lst.length oc2]) 67 ∧ (k ≤ x.args.length) ∧ (catGs (gkL x.args) g ⟨true,[],[]⟩ = catGs (gkL (x.args.drop k)) gk o) ∧ (GSt1 (Re.sizes x.args + 1) g gk o) ∧ (GrG F w0 base pb sv fv vs Fk sk fk vk gk W4) ∧ (FrI Fk W4 (.slice oa o.fst.length oc) o.fst) ∧ (FrI Fk W4 (.slice oa2 o.lst.length oc2) o.lst) ∧ (Apq Fk pb sk fk vk bo ∧ Apq Fk pb sk fk vk br) ∧ nn_ = x.args.length - k) (n := x.args.length - 0) ?_ ?_
 ·exact ⟨0,g,⟨true,[],[]⟩,F,sv,fv,vs,none,0,none,0,Fits.out ⟨rfl,rfl,rfl,rfl,rfl,rfl,trivial⟩,E,Br,Bo,Nat.zero_le _,(by rw [List.drop_zero]),GSt1.refl _ hI true,hG,FrI.nil _ _,FrI.nil _ _,⟨hP.fresh (by omega),hP.fresh (by omega)⟩,rfl⟩
 ·clear E Br Bo
  rintro _ _ W4 ⟨k,gk,o,Fk,sk,fk,vk,oa,oc,oa2,oc2,⟨j4,rfl⟩,E,Br,Bo,hk2,hQ,hS,hGk,ho1,ho2,hA,rfl⟩
  refine Wp_seq_region ?_
  refine qV (r_lss (k := .i64) (a := (k : Int)) (b := (x.args.length : Int)) rfl rfl) ?_
  refine WpL_nil (Wp_seq ?_)
  refine Wp_cond (b := decide (((k : Int) : Int) < (x.args.length : Int))) rfl (fun hlt => ?_) (fun hlt => ?_)
  ·have khlt := hlt
   replace hlt := of_decide_eq_true hlt
   obtain ⟨y,hy⟩ := get_of_lt (l := x.args) (i := k) (by omega)
   have hym := List.mem_of_getElem? hy
   obtain ⟨ab,ao,rfl,hres⟩ := args_at hargs (by omega)
   obtain ⟨us,hus,hyt⟩ := hres.get hy
   have hyt0 := hyt
   obtain ⟨ysa,ysc,yaa,yac,rfl,_,_,_⟩ := hyt.form
   rw [drop_at hy,gkL,catGs] at hQ
   have hRk := hS.rows hR (by omega)
   have hbl : bo < (W4).heap.size ∧ br < (W4).heap.size := ⟨Bo.lt,Br.lt⟩
   have hGo := hGk
   refine Wp_skip (thn_normal (Wp_seq (Wp_block (Wp_seq_region ?_))))
   refine qV (r_indexSlice (b := ab) (o := ao) (len := x.args.length) (cap := ac) (i := k) (o' := ao + k * 6) rfl rfl rfl Tryz.underlying25 siz27 (by omega) (by omega)) ?_
   refine qV (r_loadAgg (vs := [(I6 y.kind),(.slice ysa y.set.length ysc),(.slice yaa y.args.length yac),(I6 y.mn),(I6 y.mx),(.bool y.neg)]) rfl agg27 siz27 rfl (hus.ext (hGk.base' hP hF hE))) ?_
   have E7 : Chg none1 W4 W4 := Chg.refl _ _
   refine s_allocStore (v := (.agg (R6 y ysa ysc yaa yac))) (c := (R6 y ysa ysc yaa yac)) (n := 6) (by decide) zer27 rfl siz27 rfl rfl rfl (by simp [Value.oneCell']) ?_
   intro bu wu Nu
   have Fu := Nu.ge E
   have Fu_E7 := Nu.ge E7
   have Ou_br := Nu.lt Br
   have Ou_bo := Nu.lt Bo
   replace Br := Nu.keep Br
   replace Bo := Nu.keep Bo
   replace E := E.ext Nu.ext
   have Bu := Nu.blk
   replace E7 := E7.ext Nu.ext
   refine WpL_nil ?_
   have hAu : Apq Fk pb sk fk vk bu := hGo.st.fresh (by omega)
   replace hGk := hGk.ext E7
   replace ho1 := ho1.ext E7
   replace ho2 := ho2.ext E7
   have hbl2 : bo < (wu).heap.size ∧ br < (wu).heap.size := ⟨Bo.lt,Br.lt⟩
   have hz_6 : w0.heap.size ≤ wu.heap.size := E.size
   have lz_6_br : br < wu.heap.size := Br.lt
   have lz_6_bo : bo < wu.heap.size := Bo.lt
   have lz_6_bu : bu < wu.heap.size := Bu.lt
   obtain ⟨Fs6,hFs6⟩ : ∃ Fs : List FctS,Fs = [(eF (P6 pb 0)),(eF (.agg #[(.bool o.nul),(.slice oa o.fst.length oc),(.slice oa2 o.lst.length oc2)])),(eF (P6 pb 0)),(eF (.agg (R6 y ysa ysc yaa yac))),(fun _ _ => ofF Fk wu base pb sk fk vk (gkO y) gk),(eF undef),(eF undef)] := ⟨_,rfl⟩
   refine Wp_dagG (MsL [(4,(fun q => GM pb sk fk vk q))]) (RsL []) (lgN) ((fun _ => gkO y gk = none)) [true,true,true,true,true,false,false] [5,6] [72,73,74,75,76,172,173] [[],[],[],[],[2,3],[],[]] [[],[],[],[],[2,3],[],[]] Fs6 hFs6 (by kernel_rfl) mixed (by kernel_rfl) (by kernel_rfl) (by kernel_rfl) (by kernel_rfl) ?_ ((fun σ' w1 w' X0 X hx => And.intro rfl ⟨by rw [gk_3 hk,hQ,hx]; rfl,hGk.pan ((Ext.chg X0).trans (X.mono fun q _ h => by obtain ⟨j,h⟩ := h; rcases h with h | h; exact h.2; exact h.elim))⟩)) ?_
   ·intro wd X0
    refine DagStepsG.cons (StabG.eq) (LocS.const) (fun S s' w' hi hN X U V H => Or.inl ⟨Guarded_none rfl,?_⟩) ?_
    ·replace X := xM1 X
     exact gX0 (DoesT_pure (r_move (v := (.pointer (some ⟨pb,0,none⟩))) (U 0 rfl)) rfl)
    refine DagStepsG.cons (StabG.eq) (LocS.const) (fun S s' w' hi hN X U V H => Or.inl ⟨Guarded_none rfl,?_⟩) ?_
    ·replace X := xM1 X
     exact gX0 (DoesT_pure (r_loadAgg (vs := [(.bool o.nul),(.slice oa o.fst.length oc),(.slice oa2 o.lst.length oc2)]) (U 6 rfl) agg67 siz67 rfl ((Chg.keep X (fun h => hA.1.2 h) (X0.keep Bo)).cells rfl)) rfl)
    refine DagStepsG.cons (StabG.eq) (LocS.const) (fun S s' w' hi hN X U V H => Or.inl ⟨Guarded_none rfl,?_⟩) ?_
    ·replace X := xN1 (hN 4 rfl) X
     exact gX0 (DoesT_pure (r_move (v := (.pointer (some ⟨pb,0,none⟩))) (U 0 rfl)) rfl)
    refine DagStepsG.cons (StabG.eq) (LocS.const) (fun S s' w' hi hN X U V H => Or.inl ⟨Guarded_none rfl,?_⟩) ?_
    ·replace X := xN1 (hN 4 rfl) X
     exact gX0 (DoesT_pure (r_loadAgg (vs := [(.int .i64 y.kind),(.slice ysa y.set.length ysc),(.slice yaa y.args.length yac),(.int .i64 y.mn),(.int .i64 y.mx),(.bool y.neg)]) (U 8 rfl) agg27 siz27 rfl (((X0.trans X).keep Bu).cells rfl)) rfl)
    refine DagStepsG.cons (StabG.chg (U := none1) (ofF_ext) (fun p y hp hw h => by
       rcases MsL_or h with ⟨rfl,h0⟩ | h0
       ·exact absurd rfl hp
       exact h0.elim)) (LocS.const) (fun S s' w' hi hN X U V H => Or.inl ⟨Guarded_none rfl,?_⟩) ?_
    ·replace X := xN1 hi X
     have e74 := (H 2 rfl).2 74 _ rfl (by rw [hFs6]; rfl)
     have e75 := (H 3 rfl).2 75 _ rfl (by rw [hFs6]; rfl)
     exact gX0x (DoesX_enter (r_callF (vs := [(.pointer (some ⟨pb,0,none⟩)),(.agg #[(.int .i64 y.kind),(.slice ysa y.set.length ysc),(.slice yaa y.args.length yac),(.int .i64 y.mn),(.int .i64 y.mx),(.bool y.neg)])]) Tryz.func24 kQ kQ (lst2 e74 e75)) ((hof y hym base pb _ _ _ _ _ gk _ hyt0 (Ext.trans (hGk.base' hP hF hE) (X0.trans X)) (fun q hq => hGk.sub q (hF q hq)) (hGk.st.ext (X0.trans X)) hS.inv hRk).mono (fun v w h => ⟨of_of hGk.st (X0.trans X) h,by obtain ⟨_,_,_,_,_,_,_,_,g⟩ := h; exact g.chg.mono fun q _ h => .inl ⟨rfl,h⟩⟩) (fun w h => ⟨h.1,h.2.mono fun q _ h => .inl ⟨rfl,h⟩⟩)))
    refine DagStepsG.tail (DagStepsG.tail ?_)
    exact DagStepsG.nil
   ·intro s' wd6 w6 X0 X6 U H
    replace X6 := X6.mono (M' := (fun y => (fun q => GM pb sk fk vk q) y)) (fun y _ h => by
      obtain ⟨j,hj,h⟩ := h
      rcases MsL_or h with ⟨rfl,h0⟩ | h0
      ·exact h0
      exact h0.elim)
    have e72 := H 0 rfl 72 _ rfl (by rw [hFs6]; rfl)
    have e73 := H 1 rfl 73 _ rfl (by rw [hFs6]; rfl)
    obtain ⟨g76,p76,F76,s76,f76,v76,h76,⟨pa76,pc76,pd76,pe76,e76,hp76,hq76⟩,G76⟩ := (show ((fun _ _ => ofF Fk wu base pb sk fk vk (gkO y) gk) : FctS) (allS [true,true,true,true,true,false,false]) s' (s' 76) w6 from H 4 rfl 76 (fun _ _ => ofF Fk wu base pb sk fk vk (gkO y) gk) rfl (by rw [hFs6]; rfl))
    obtain ⟨j6,rfl⟩ := Fits.out (σ := s') (l := [(0,(.pointer (some ⟨pb,0,none⟩))),(4,(.pointer (some ⟨br,0,none⟩))),(6,(.pointer (some ⟨bo,0,none⟩))),(66,(.slice (some ⟨ab,ao,none⟩) x.args.length ac)),(67,(.int .i64 ((x.args.length : Nat) : Int))),(68,(.int .i64 ((k : Nat) : Int))),(72,(.pointer (some ⟨pb,0,none⟩))),(73,(.agg #[(.bool o.nul),(.slice oa o.fst.length oc),(.slice oa2 o.lst.length oc2)])),(76,(.agg #[(.bool p76.nul),(.slice pa76 p76.fst.length pc76),(.slice pd76 p76.lst.length pe76)]))]) ⟨U 0 rfl,U 4 rfl,U 6 rfl,U 66 rfl,U 67 rfl,U 68 rfl,e72,e73,e76,trivial⟩
    clear U H
    replace Br := Chg.keep X6 (fun h => hA.2.2 h) (X0.keep Br)
    replace Bo := Chg.keep X6 (fun h => hA.1.2 h) (X0.keep Bo)
    replace Bu := Chg.keep X6 (fun h => hAu.2 h) (X0.keep Bu)
    have hXm := Chg.trans (Ext.chg X0) X6
    replace E := (E.ext X0).step X6 (fun q hq h => trivial)
    have hok := gkO_ok y gk g76 p76 hS.inv h76
    have hsy : y.size ≤ Re.sizes x.args := Re.sizes_get hy
    have hch := cat_hyp hS hok (hok.rows hRk (by omega))
    have hA2 : Apq F76 pb s76 f76 v76 bo ∧ Apq F76 pb s76 f76 v76 br := ⟨G76.apart hA.1 hbl2.1,G76.apart hA.2 hbl2.2⟩
    replace ho1 := (ho1.chg hXm fun y hy => hGk.st.kept hy).mono G76.sub
    replace ho2 := (ho2.chg hXm fun y hy => hGk.st.kept hy).mono G76.sub
    replace G76 := hGk.comp G76
    have hbl3 : bo < (w6).heap.size ∧ br < (w6).heap.size := ⟨Bo.lt,Br.lt⟩
    refine WpL_enter rfl rfl (by decide) (r_callF (vs := [(P6 pb 0),(.agg #[(.bool o.nul),(.slice oa o.fst.length oc),(.slice oa2 o.lst.length oc2)]),(.agg #[(.bool p76.nul),(.slice pa76 p76.fst.length pc76),(.slice pd76 p76.lst.length pe76)])]) Tryz.func56 kQ kQ rfl) (gcat_c F76 _ base pb s76 f76 v76 g76 G76.st o p76 _ _ ⟨_,_,_,_,rfl,ho1,ho2⟩ ⟨_,_,_,_,rfl,hp76,hq76⟩ hch.1 hch.2.1 hch.2.2.1 hch.2.2.2.1 hch.2.2.2.2) ?_
    rintro _ w29 ⟨F3,v3,G3,ca,cc,ca2,cc2,rfl,hc1,hc2⟩
    replace Br := G3.chg.keep ((by first | exact hA2.1.2 | exact hA2.2.2)) Br
    replace Bo := G3.chg.keep ((by first | exact hA2.1.2 | exact hA2.2.2)) Bo
    replace E := E.step G3.chg (fun _ _ _ => trivial)
    have hA3 : Apq F3 pb s76 f76 v3 bo ∧ Apq F3 pb s76 f76 v3 br := ⟨G3.apart hA2.1 hbl3.1,G3.apart hA2.2 hbl3.2⟩
    replace G3 := G76.comp G3
    refine s_storeAgg (b := bo) (o := 0) (c' := #[(.bool ((catP o p76).nul)),(.slice ca ((catP o p76).fst.length) cc),(.slice ca2 ((catP o p76).lst.length) cc2)]) rfl rfl (by simp [Value.oneCell']) siz67 rfl Bo (by first | (simp; done) | exact Nat.le_of_ble_eq_true rfl) rfl ?_
    intro w7 S7
    replace G3 := G3.other S7.chg (fun y e => by rw [show y = bo from e]; exact ⟨by omega,hA3.1⟩)
    replace hc1 := hc1.chg S7.chg (fun y hy e => by rw [show y = bo from e] at hy; exact hA3.1.1 hy)
    replace hc2 := hc2.chg S7.chg (fun y hy e => by rw [show y = bo from e] at hy; exact hA3.1.1 hy)
    replace Br := S7.keep (by omega) Br
    replace E := S7.step E (by first | exact Or.inl (by omega) | exact Or.inr rfl | exact Or.inr (by assumption) | exact Or.inr (by simp) | exact Or.inr (by omega) | exact Or.inr (by dsimp only; omega))
    replace Bo := S7.blk
    refine WpL_nil (inB_normal (thn_normal (Wp_region ?_)))
    refine qV (r_add (k := .i64) (a := (k : Int)) (b := 1) (c := (k : Int) + 1) rfl rfl (wI64 (by omega))) ?_
    refine qM (I6 ((k : Int) + 1)) rfl ?_
    refine WpL_nil (thn_normal ?_)
    exact ⟨x.args.length - (k + 1),by omega,k + 1,catK g76 o p76,catP o p76,F3,s76,f76,v3,ca,cc,ca2,cc2,Fits.out ⟨rfl,rfl,rfl,rfl,rfl,rfl,trivial⟩,E,Br,Bo,(by omega),(by rw [hQ,h76]; rfl),hS.cat hok (by omega),G3,hc1,hc2,hA3,rfl⟩
  ·have khlt := hlt
   replace hlt := of_decide_eq_false hlt
   have hkk : k = x.args.length := by omega
   refine Wp_exit (thn_exit (thn_exit (inB_here (thn_normal (Wp_seq_region ?_)))))
   refine qV (r_loadAgg (vs := [(.bool o.nul),(.slice oa o.fst.length oc),(.slice oa2 o.lst.length oc2)]) rfl agg67 siz67 rfl (Bo.cells rfl)) ?_
   refine s_storeAgg (b := br) (o := 0) (c' := #[(.bool o.nul),(.slice oa o.fst.length oc),(.slice oa2 o.lst.length oc2)]) rfl rfl (by simp [Value.oneCell']) siz67 rfl Br (by first | (simp; done) | exact Nat.le_of_ble_eq_true rfl) rfl ?_
   intro w8 S8
   replace hGk := hGk.other S8.chg (fun y e => by rw [show y = br from e]; exact ⟨by omega,hA.2⟩)
   replace ho1 := ho1.chg S8.chg (fun y hy e => by rw [show y = br from e] at hy; exact hA.2.1 hy)
   replace ho2 := ho2.chg S8.chg (fun y hy e => by rw [show y = br from e] at hy; exact hA.2.1 hy)
   replace Bo := S8.keep (by omega) Bo
   replace E := S8.step E (by first | exact Or.inl (by omega) | exact Or.inr rfl | exact Or.inr (by assumption) | exact Or.inr (by simp) | exact Or.inr (by omega) | exact Or.inr (by dsimp only; omega))
   replace Br := S8.blk
   refine WpL_nil (Wp_ret (inB_ret (thn_ret (finX_ret ?_))))
   refine fin_agg Tryz.results24 (vs := [(.bool o.nul),(.slice oa o.fst.length oc),(.slice oa2 o.lst.length oc2)]) (b := br) rfl agg67 siz67 rfl (Br.cells rfl) ?_
   exact ⟨_,o,_,_,_,_,by rw [gk_3 hk,hQ,hkk,List.drop_length]; rfl,⟨_,_,_,_,rfl,ho1,ho2⟩,hGk⟩
section
variable {F F' M : Nat → Prop} {w0 w w' w2 : World} {base pb : Nat} {sv fv sv' fv' : Value} {vs vs' : List Value} {g g' : GS}
/-- Blocks that were made now are not written again. -/
theorem GrG.frzS (h : GrG F w0 base pb sv fv vs F' sv' fv' vs' g' w) (e : Ext w w2) {S : Nat → Prop} (hv : ∀ k,S k → w.heap.size ≤ k ∧ k < w2.heap.size) : GrG F w0 base pb sv fv vs (fun y => F' y ∨ S y) sv' fv' vs' g' w2 := by
 have hs := h.st
 have hlow := hs.low
 have hsz := h.chg.size
 have he := e.size
 obtain ⟨us,h3,h4⟩ := hs.sets
 refine ⟨fun y hy => .inl (h.sub y hy),fun y hy => ?_,⟨e.keep hs.blk,⟨us,own_ext h3 e,(h4.chg e (fun _ _ f => f)).mono fun y hy => .inl hy⟩,hs.fol.ext e,fun q hq hf => ?_,fun q hq hf => ?_,hs.apt,fun hf => ?_,hs.aps,Nat.le_trans hs.bs he,fun y hy => ?_⟩,h.chg.ext e,h.os,h.of⟩
 ·rcases hy with hy | hy
  ·exact h.new y hy
  ·have := hv y hy; exact .inr (by omega)
 ·have := hlow q (.inr (.inl hq))
  rcases hf with hf | hf
  ·exact hs.hsF q hq hf
  ·have := hv q hf; omega
 ·have := hlow q (.inr (.inr hq))
  rcases hf with hf | hf
  ·exact hs.hfF q hq hf
  ·have := hv q hf; omega
 ·have := hlow pb (.inl rfl)
  rcases hf with hf | hf
  ·exact hs.hp hf
  ·have := hv pb hf; omega
 ·rcases hy with hy | hy
  ·have := hs.fl y hy; omega
  ·exact (hv y hy).2
theorem Apq.frzS {y n m : Nat} {S : Nat → Prop} (h : Apq F pb sv fv vs y) (hy : y < n) (hv : ∀ k,S k → n ≤ k ∧ k < m) : Apq (fun y => F y ∨ S y) pb sv fv vs y :=
 ⟨fun hf => hf.elim h.1 fun h1 => by have := hv y h1; omega,h.2⟩
/-- A set has been appended. -/
theorem GrG.setPut {z : List Sp} {u : Value} {us : List Value} (h : GkSt F w base pb sv fv vs g) (hus : SetF F w g.sets us) (hu : SpansAt w u z) (huF : z = [] ∨ ∃ b,u.ownBlock = some b ∧ F b) (c : Chg (fun y => sv.ownBlock = some y) w w') (ho : w'.ownsRow base TSl 1 sv' (g.sets.length + 1) (us ++ [u])) (hd : ∀ k,sv'.ownBlock = some k → sv.ownBlock = some k ∨ w.heap.size ≤ k) (p : Put w' w2 pb #[sv',fv] TGk) :
  GrG F w base pb sv fv vs F sv' fv vs ⟨g.sets ++ [z],g.fol⟩ w2 := by
 have hlow := h.low
 have hS := (hus.snoc hu huF).chg c fun y hy e => h.hsF y e hy
 have hC : Chg (GM pb sv fv vs) w w2 := (c.mono fun y _ hy => .inr (.inl hy)).step p.chg fun x hx e => .inl e
 have hspb : ∀ k,sv'.ownBlock = some k → k ≠ pb := fun k hk e => by
  rcases hd k hk with h1 | h1
  ·exact h.aps.1 (e ▸ h1)
  ·have := hlow pb (.inl rfl); omega
 refine ⟨fun _ h => h,fun _ h => .inl h,⟨p.blk,⟨us ++ [u],by rw [List.length_append]; exact own_chg ho p.chg fun k hk e => hspb k hk e,hS.chg p.chg fun y hy e => h.hp (by have e' : y = pb := e; exact e' ▸ hy)⟩,?_,fun b hb hf => ?_,h.hfF,fun b hb hq => ?_,h.hp,⟨fun e => hspb pb e rfl,h.aps.2⟩,Nat.le_trans h.bs hC.size,fun y hy => Nat.lt_of_lt_of_le (h.fl y hy) hC.size⟩,hC,hd,fun _ h => .inl h⟩
 ·exact (h.fol.chgQ c fun b hb e => h.apt b e hb).chgQ p.chg fun b hb e => h.aps.2 (by have e' : b = pb := e; exact e' ▸ hb)
 ·rcases hd b hb with h1 | h1
  ·exact h.hsF b h1 hf
  ·have := h.fl b hf; omega
 ·rcases hd b hb with h1 | h1
  ·exact h.apt b h1 hq
  ·have := hlow b (.inr (.inr hq)); omega
/-- An empty row has been appended. -/
theorem GrG.folPut (h : GkSt F w base pb sv fv vs g) (c : Chg (fun y => fv.ownBlock = some y) w w') (ho : w'.ownsRow base TDIs 1 fv' (g.fol.length + 1) (vs ++ [.slice none 0 0])) (hd : ∀ k,fv'.ownBlock = some k → fv.ownBlock = some k ∨ w.heap.size ≤ k) (p : Put w' w2 pb #[sv,fv'] TGk) :
  GrG F w base pb sv fv vs F sv fv' (vs ++ [.slice none 0 0]) ⟨g.sets,g.fol ++ [[]]⟩ w2 := by
 have hlow := h.low
 obtain ⟨us,h3,h4⟩ := h.sets
 have hQ : ∀ k,LsQ fv' (vs ++ [.slice none 0 0]) k → LsQ fv vs k ∨ w.heap.size ≤ k := fun k hk => by
  rcases hk with h1 | ⟨i,v,h1,h2⟩
  ·exact (hd k h1).imp (fun h => .inl h) id
  ·rcases Nat.lt_or_ge i vs.length with h5 | h5
   ·rw [List.getElem?_append_left h5] at h1
    exact .inl (.inr ⟨i,v,h1,h2⟩)
   ·rw [List.getElem?_append_right h5] at h1
    have := List.mem_of_getElem? h1
    rw [List.mem_singleton.1 this] at h2
    cases h2
 have hC : Chg (GM pb sv fv vs) w w2 := (c.mono fun y _ hy => .inr (.inr (.inl hy))).step p.chg fun x hx e => .inl e
 have hlen : (g.fol.map nRow).length = g.fol.length := List.length_map _
 have hL := h.fol.l.push (bu := w.heap.size) (u := .slice none 0 0) (us := []) (m := 0) (n := g.fol.length) hlen.symm (World.ownsRow_nil _ _ _ _) h.bs (fun k hk => (h.fol.l.o.lt k hk).2) ho c hd
 have hG : GSt TDIs TDI 1 w' base fv' (vs ++ [.slice none 0 0]) (g.fol.map nRow ++ [(0,[])]) := by
  refine ⟨hL,fun i j v u b hv hu hb hb' => ?_⟩
  have hold : ∀ (i : Nat) v b,(vs ++ [Value.slice none 0 0])[i]? = some v → v.ownBlock = some b → vs[i]? = some v := fun i v b hv hb => by
   rcases Nat.lt_or_ge i vs.length with h5 | h5
   ·rwa [List.getElem?_append_left h5] at hv
   ·rw [List.getElem?_append_right h5] at hv
    have := List.mem_of_getElem? hv
    rw [List.mem_singleton.1 this] at hb
    cases hb
  exact h.fol.ap i j v u b (hold i v b hv hb) (hold j u b hu hb') hb hb'
 have hfpb : ¬ LsQ fv' (vs ++ [.slice none 0 0]) pb := fun hk => by
  rcases hQ pb hk with h1 | h1
  ·exact h.aps.2 h1
  ·have := hlow pb (.inl rfl); omega
 refine ⟨fun _ h => h,fun _ h => .inl h,⟨p.blk,⟨us,own_chg (own_chg h3 c fun k hk e => h.apt k hk (.inl e)) p.chg fun k hk e => h.aps.1 (by have e' : k = pb := e; exact e' ▸ hk),(h4.chg c fun y hy e => h.hfF y (.inl e) hy).chg p.chg fun y hy e => h.hp (by have e' : y = pb := e; exact e' ▸ hy)⟩,?_,h.hsF,fun b hb hf => ?_,fun b hb hq => ?_,h.hp,⟨h.aps.1,hfpb⟩,Nat.le_trans h.bs hC.size,fun y hy => Nat.lt_of_lt_of_le (h.fl y hy) hC.size⟩,hC,fun _ h => .inl h,hQ⟩
 ·have := hG.chgQ p.chg fun b hb e => hfpb (by have e' : b = pb := e; exact e' ▸ hb)
  simpa [nRow,nZ] using this
 ·rcases hQ b hb with h1 | h1
  ·exact h.hfF b h1 hf
  ·have := h.fl b hf; omega
 ·rcases hQ b hq with h1 | h1
  ·exact h.apt b hb h1
  ·have := (h3.lt b hb).2; omega
end
theorem slAt_own {w : World} {k : Nat} {v : Value} {rows : List (List Value)} (h : SlAt w k v rows) (hk : ∀ r ∈ rows,0 < r.length) : rows = [] ∨ ∃ b,v.ownBlock = some b ∧ b < w.heap.size := by
  obtain ⟨a,cap,hv,hl,hc,h⟩ := h
  rcases h with h | ⟨b,o,ha,h⟩
  · exact .inl h
  · cases rows with
    | nil => exact .inl rfl
    | cons r rows =>
      have h0 := h 0 r rfl
      obtain ⟨u,hu⟩ := get_of_lt (l := r) (i := 0) (hk r List.mem_cons_self)
      have h1 := h0 0 u hu
      refine .inr ⟨b,by rw [hv,ha]; rfl,?_⟩
      unfold World.cell? at h1
      refine Classical.byContradiction fun hn => ?_
      rw [show w.heap[b]? = none from Array.getElem?_eq_none (by omega)] at h1
      simp at h1
theorem litF_chgQ {U : Nat → Prop} {e hs : Nat} {c : Array Value} (h : ∀ y,U y → y < hs) : ∀ v w w',Chg U w w' → litF e c hs v w → litF e c hs v w' := by
 rintro v w w' x ⟨b,h1,h2,h3⟩
 exact ⟨b,h1,x.keep (fun hu => by have := h b hu; omega) h2,h3⟩
theorem gof2_c (wb : World) (x : Re) (hk : x.kind = 2) : GkOf wb x := by
 intro base pb F w0 sv fv vs g us hxt hE hF hP hI hR
 obtain ⟨sa,sc,aa,ac,rfl,hset,hlen,hargs⟩ := hxt.form
 obtain ⟨us0,hown,hsF⟩ := hP.sets
 obtain ⟨va,vc,rfl⟩ := own_form hown
 have hfl : (g.fol.map nRow).length = g.fol.length := List.length_map _
 obtain ⟨fa,fc,rfl⟩ := own_form hP.fol.l.o
 rw [hfl] at hP ⊢
 have hg1 := hI.1
 have hg2 := hI.2
 have hblk := hP.blk
 have hown0 := hown.lt
 have huF : x.set = [] ∨ ∃ b,(Value.slice sa x.set.length sc).ownBlock = some b ∧ F b := by
  rcases slAt_own hset (by intro r hr; obtain ⟨p,_,rfl⟩ := List.mem_map.1 hr; exact Nat.zero_lt_succ 1) with h | ⟨b,h1,h2⟩
  ·exact .inl (by simpa using h)
  ·exact .inr ⟨b,h1,hF b h2⟩
 refine RetX_of Tryz.func24 rfl Tryz.ntmps24 (Nat.le_of_ble_eq_true rfl) ?_
 have E : Chg (fun _ => True) w0 w0 := Chg.refl _ _
 have hG := GrG.start hP
 refine Wp_seq_region ?_
 refine s_box (v := (.agg (R6 x sa sc aa ac))) (c := (R6 x sa sc aa ac)) (by decide) rfl rfl ?_
 intro bb wb Nb
 have Fb := Nb.ge E
 have Ob_pb := Nb.lt hblk
 replace hblk := Nb.keep hblk
 replace hG := hG.ext Nb.ext
 replace E := E.ext Nb.ext
 have Bb := Nb.blk
 refine s_alloc (c := #[(.bool false),(.slice none 0 0),(.slice none 0 0)]) (by decide) zer67 rfl ?_
 intro br wr Nr
 have Fr := Nr.ge E
 have Or_pb := Nr.lt hblk
 have Or_bb := Nr.lt Bb
 replace hblk := Nr.keep hblk
 replace Bb := Nr.keep Bb
 replace hG := hG.ext Nr.ext
 replace E := E.ext Nr.ext
 have Br := Nr.blk
 refine WpL_nil (Wp_seq (Wp_seq_region ?_))
 refine qF bb 0 0 rfl Tryz.underlying27 rfl siz3 rfl ?_
 refine qV (r_load (v := (I6 x.kind)) rfl flat3 (Bb.cell rfl)) ?_
 refine WpL_nil (Wp_block (Wp_seq_region ?_))
 refine qV (r_eql (k := .i64) (a := x.kind) (b := 1) rfl rfl) ?_
 refine qA (.bool (decide ((x.kind : Int) = 1))) rfl ?_
 refine WpL_nil ?_
 have hc1 : (decide ((x.kind : Int) = 1)) = false := decide_eq_false (by omega)
 refine Wp_cond_false (congrArg Value.bool hc1) ?_
 refine Wp_seq_region ?_
 refine qV (r_eql (k := .i64) (a := x.kind) (b := 2) rfl rfl) ?_
 refine qA (.bool (decide ((x.kind : Int) = 2))) rfl ?_
 refine WpL_nil ?_
 have hc2 : (decide ((x.kind : Int) = 2)) = true := decide_eq_true hk
 refine Wp_cond_true (congrArg Value.bool hc2) ?_
 refine Wp_seq ?_
 have hrn : pb < br := by have := hP.low pb (.inl rfl); omega
 obtain ⟨z0,hz0⟩ : ∃ z0,z0 = (wr).heap.size := ⟨_,rfl⟩
 have hAr : Apq F pb (.slice va g.sets.length vc) (.slice fa g.fol.length fc) vs br := hP.fresh (by omega)
 have hst := hG.st
 obtain ⟨us1,hownW,hsW⟩ := hst.sets
 have hownl := hownW.lt
 have hsetW := SlAt.ext hset (hG.base' hP hF hE)
 have hpl := hst.blk.lt
 have hbrl : br < (wr).heap.size := Br.lt
 have hbs := hst.bs
 have hz_3 : w0.heap.size ≤ wr.heap.size := E.size
 have lz_3_pb : pb < wr.heap.size := hblk.lt
 have lz_3_bb : bb < wr.heap.size := Bb.lt
 have lz_3_br : br < wr.heap.size := Br.lt
 refine Wp_seq ?_
 obtain ⟨Fs3,hFs3⟩ : ∃ Fs : List FctS,Fs = [(eF (P6 pb 0)),(eF (P6 pb 0)),(eF (P6 pb 0)),(eF (P6 pb 0)),(eF (.slice va g.sets.length vc)),(eF (P6 bb 1)),(eF (.slice sa x.set.length sc)),(fun _ _ => litF TSl #[.slice sa x.set.length sc] z0),(fun _ _ => appF base TSl 1 (g.sets.length + 1) (us1 ++ [.slice sa x.set.length sc]) (.slice va g.sets.length vc) z0),(eF undef),(eF undef),(eF undef)] := ⟨_,rfl⟩
 refine Wp_dagS (MsL [(8,(fun q => (Value.slice va g.sets.length vc).ownBlock = some q))]) [true,true,true,true,true,true,true,true,true,false,false,false] [9,10,11] [24,25,26,27,28,29,30,31,32,176,177,178] [[],[],[1],[2],[3],[],[5],[6],[4,7],[],[],[]] [[],[],[1],[2,1],[3,2,1],[],[5],[6,5],[4,3,2,1,7,6,5],[],[],[]] Fs3 hFs3 (by kernel_rfl) mixed (by kernel_rfl) (by kernel_rfl) (by kernel_rfl) (by kernel_rfl) ?_ ?_
 ·intro wd X0
  refine qZ (fun S s' w' hi hN X U V H => ?_) ?_
  ·replace X := xM1 X
   exact DoesT_pure (r_move (v := (P6 pb 0)) (U 0 rfl)) rfl
  refine qZ (fun S s' w' hi hN X U V H => ?_) ?_
  ·replace X := xN1 (hN 8 rfl) X
   exact DoesT_pure (r_move (v := (P6 pb 0)) (U 0 rfl)) rfl
  refine qZ (fun S s' w' hi hN X U V H => ?_) ?_
  ·replace X := xN1 (hN 8 rfl) X
   have e25 := (H 1 rfl).2 25 _ rfl (by rw [hFs3]; rfl)
   exact DoesT_pure (r_nilCheck (a := ⟨pb,0,none⟩) e25) rfl
  refine qZ (fun S s' w' hi hN X U V H => ?_) ?_
  ·replace X := xN1 (hN 8 rfl) X
   have e26 := (H 2 rfl).2 26 _ rfl (by rw [hFs3]; rfl)
   exact DoesT_pure (r_fieldAddr (b := pb) (o := 0) (o' := 0) e26 Tryz.underlying65 rfl siz63 rfl) rfl
  refine qZ (fun S s' w' hi hN X U V H => ?_) ?_
  ·replace X := xN1 (hN 8 rfl) X
   have e27 := (H 3 rfl).2 27 _ rfl (by rw [hFs3]; rfl)
   exact DoesT_pure (r_load (v := (.slice va g.sets.length vc)) e27 flat63 (((X0.trans X).keep hblk).cell rfl)) rfl
  refine qZ (fun S s' w' hi hN X U V H => ?_) ?_
  ·replace X := xN1 (hN 8 rfl) X
   exact DoesT_pure (r_fieldAddr (b := bb) (o := 0) (o' := 1) (U 3 rfl) Tryz.underlying27 rfl siz24 rfl) rfl
  refine qZ (fun S s' w' hi hN X U V H => ?_) ?_
  ·replace X := xN1 (hN 8 rfl) X
   have e29 := (H 5 rfl).2 29 _ rfl (by rw [hFs3]; rfl)
   exact DoesT_pure (r_load (v := (.slice sa x.set.length sc)) e29 flat24 (((X0.trans X).keep Bb).cell rfl)) rfl
  refine DagStepsS.cons (StabS.chg (U := (fun y => (fun q => (Value.slice va g.sets.length vc).ownBlock = some q) y)) (litF_chgQ (fun q h => by have := (hownl q h).2; omega)) (fun p y hp hw h => by
     rcases MsL_or h with ⟨rfl,h0⟩ | h0
     ·exact h0
     exact h0.elim)) (LocS.const) (fun S s' w' hi hN X U V H => Or.inl ⟨Guarded_none rfl,?_⟩) ?_
  ·replace X := xN1 (hN 8 rfl) X
   have e30 := (H 6 rfl).2 30 _ rfl (by rw [hFs3]; rfl)
   exact DoesT_lit (hs := z0) Tryz.underlying63 siz24 zer24 e30 (by decide) (by decide) (by kernel_rfl) (by have := X0.size; have := X.size; omega)
  refine DagStepsS.cons (StabS.chg (U := none1) (appF_ext _ _ _ _ _ _ _) (fun p y hp hw h => by
     rcases MsL_or h with ⟨rfl,h0⟩ | h0
     ·exact absurd rfl hp
     exact h0.elim)) (LocS.const) (fun S s' w' hi hN X U V H => Or.inl ⟨Guarded_none rfl,?_⟩) ?_
  ·replace X := xN1 hi X
   have e28 := (H 4 rfl).2 28 _ rfl (by rw [hFs3]; rfl)
   obtain ⟨b31,e31,B31,g31⟩ := (show ((fun _ _ => litF TSl #[.slice sa x.set.length sc] z0) : FctS) S s' (s' 31) w' from (H 7 rfl).2 31 (fun _ _ => litF TSl #[.slice sa x.set.length sc] z0) rfl (by rw [hFs3]; rfl))
   exact DoesT_append (hs := z0) Tryz.underlying63 siz24 byt24 zer24 rfl (by decide) e28 (own_ext (own_ext hownW X0) X) e31 rfl (B31.cells rfl) (by simp [Value.oneCell']) (by unfold maxLen; omega) (by omega) (by have := X0.size; have := X.size; omega) (fun y h => .inl ⟨rfl,h⟩) (by have := X0.size; have := X.size; omega)
  refine DagStepsS.tail (DagStepsS.tail (DagStepsS.tail ?_))
  exact DagStepsS.nil
 ·intro s' wd3 w3 X0 X3 U H
  replace X3 := X3.mono (M' := (fun y => (fun q => (Value.slice va g.sets.length vc).ownBlock = some q) y)) (fun y _ h => by
    obtain ⟨j,hj,h⟩ := h
    rcases MsL_or h with ⟨rfl,h0⟩ | h0
    ·exact h0
    exact h0.elim)
  have e24 := H 0 rfl 24 _ rfl (by rw [hFs3]; rfl)
  obtain ⟨⟨a32,c32,e32⟩,O32,D32⟩ := (show ((fun _ _ => appF base TSl 1 (g.sets.length + 1) (us1 ++ [.slice sa x.set.length sc]) (.slice va g.sets.length vc) z0) : FctS) (allS [true,true,true,true,true,true,true,true,true,false,false,false]) s' (s' 32) w3 from H 8 rfl 32 (fun _ _ => appF base TSl 1 (g.sets.length + 1) (us1 ++ [.slice sa x.set.length sc]) (.slice va g.sets.length vc) z0) rfl (by rw [hFs3]; rfl))
  obtain ⟨j3,rfl⟩ := Fits.out (σ := s') (l := [(0,(.pointer (some ⟨pb,0,none⟩))),(4,(.pointer (some ⟨br,0,none⟩))),(24,(.pointer (some ⟨pb,0,none⟩))),(32,(.slice a32 (g.sets.length + 1) c32))]) ⟨U 0 rfl,U 4 rfl,e24,e32,trivial⟩
  clear U H
  replace hblk := Chg.keep X3 (fun h => hst.aps.1 h) (X0.keep hblk)
  replace Bb := Chg.keep X3 (fun h => by have := (hown0 _ h).2; omega) (X0.keep Bb)
  replace Br := Chg.keep X3 (fun h => by have := (hown0 _ h).2; omega) (X0.keep Br)
  have hXm := Chg.trans (Ext.chg X0) X3
  replace E := (E.ext X0).step X3 (fun q hq h => trivial)
  rw [e32] at O32 D32
  have hPx : True := trivial
  refine qV (r_nilCheck (a := ⟨pb,0,none⟩) rfl) ?_
  refine qF pb 0 0 rfl Tryz.underlying65 rfl siz63 rfl ?_
  refine s_store (b := pb) (o := 0) (c' := #[(.slice a32 (g.sets.length + 1) c32),(.slice fa g.fol.length fc)]) (v := (.slice a32 (g.sets.length + 1) c32)) rfl rfl rfl siz63 hblk (by simp) rfl ?_
  intro w4 S4
  replace hPx := GrG.setPut hst hsW hsetW huF hXm O32 (by rw [← hz0]; exact D32) S4
  replace Br := S4.keep (by omega) Br
  replace E := S4.step E (by first | exact Or.inl (by omega) | exact Or.inr rfl | exact Or.inr (by assumption) | exact Or.inr (by simp) | exact Or.inr (by omega) | exact Or.inr (by dsimp only; omega))
  replace hblk := S4.blk
  refine WpL_nil (thn_normal (Wp_seq_region ?_))
  refine qM (P6 pb 0) rfl ?_
  refine qV (r_nilCheck (a := ⟨pb,0,none⟩) rfl) ?_
  refine qF pb 0 0 rfl Tryz.underlying65 rfl siz63 rfl ?_
  refine qV (r_load (v := (.slice a32 (g.sets.length + 1) c32)) rfl flat63 (hblk.cell rfl)) ?_
  refine qV (r_lenSlice (ad := a32) (n := (g.sets.length + 1)) (cap := c32) Tryz.underlying63 rfl) ?_
  refine qV (r_gtr (k := .i64) (a := (((g.sets.length + 1) : Nat) : Int)) (b := 499) rfl rfl) ?_
  refine WpL_nil ?_
  refine Wp_cond (b := decide ((499 : Int) < (((g.sets.length + 1) : Nat) : Int))) rfl (fun hc5 => ?_) (fun hc5 => ?_)
  ·have khc5 := hc5
   replace hc5 := of_decide_eq_true hc5
   refine Wp_region ?_
   refine qV (r_build (ps := []) (v := (.agg #[])) rfl (by kernel_rfl)) ?_
   refine qV (r_makeIface (t := 59) (v := (.agg #[])) Tryz.underlying59 rfl) ?_
   refine WpL_panic rfl (r_panic (u := 59) (v := (.agg #[])) rfl) (And.intro rfl ⟨by rw [gk_2 hk]; unfold setK; rw [if_pos (by omega)],(hG.comp hPx).chg⟩)
  ·have khc5 := hc5
   replace hc5 := of_decide_eq_false hc5
   have hG6 := hG.comp hPx
   have hAr6 := hPx.apart hAr hbrl
   have hof6 : (w4).ownsRow base TDIs 1 (.slice fa g.fol.length fc) g.fol.length vs := hG6.st.fol.l.on hfl.symm
   have hbs6 := hG6.st.bs
   refine Wp_skip (thn_normal (Wp_seq_region ?_))
   refine qM (P6 pb 0) rfl ?_
   refine qV (r_nilCheck (a := ⟨pb,0,none⟩) rfl) ?_
   refine qF pb 0 0 rfl Tryz.underlying65 rfl siz63 rfl ?_
   refine qV (r_load (v := (.slice a32 (g.sets.length + 1) c32)) rfl flat63 (hblk.cell rfl)) ?_
   refine qV (r_lenSlice (ad := a32) (n := (g.sets.length + 1)) (cap := c32) Tryz.underlying63 rfl) ?_
   refine qA (I6 (((g.sets.length + 1) : Nat) : Int)) rfl ?_
   refine WpL_nil (Wp_seq_region ?_)
   refine qM (P6 pb 0) rfl ?_
   refine qM (P6 pb 0) rfl ?_
   refine qV (r_nilCheck (a := ⟨pb,0,none⟩) rfl) ?_
   refine qF pb 0 1 rfl Tryz.underlying65 rfl siz62 rfl ?_
   refine qV (r_load (v := (.slice fa g.fol.length fc)) rfl flat62 (hblk.cell rfl)) ?_
   refine s_buildSlice (ps := [(0,(.slice none 0 0))]) (c := #[(.slice none 0 0)]) (by decide) rfl Tryz.underlying62 siz22 zer22 (by decide) (by decide) (by kernel_rfl) ?_
   intro b6 w6 N6
   have F6 := N6.ge E
   have O6_pb := N6.lt hblk
   have O6_br := N6.lt Br
   replace hblk := N6.keep hblk
   replace Br := N6.keep Br
   replace hG6 := hG6.ext N6.ext
   replace hof6 := own_ext hof6 N6.ext
   replace hbs6 := Nat.le_trans hbs6 N6.ext.size
   replace E := E.ext N6.ext
   have B6 := N6.blk
   have hbrl6 : br < (w6).heap.size := Br.lt
   refine s_append (base := base) (n := g.fol.length) (m := 1) (xs := vs) (news := [(.slice none 0 0)]) (size := 1) (bytes := 24) (v := (.slice fa g.fol.length fc)) (by decide) Tryz.underlying62 siz22 byt22 zer22 rfl (by decide) rfl hof6 rfl (rfl) (B6.cells rfl) (by simp [Value.oneCell']) (by unfold maxLen; omega) (by omega) (hbs6) ?_
   intro v9 w39 Ov9 Cv9 Dv9
   replace hblk := Cv9.keep (fun h => (hG6.st.aps.2 (.inl h))) hblk
   replace Br := Cv9.keep (fun h => (hAr6.2 (.inr (.inr (.inl h))))) Br
   replace E := E.step Cv9 (fun _ _ _ => trivial)
   obtain ⟨fa2,fc2,rfl⟩ := own_form Ov9
   refine qV (r_nilCheck (a := ⟨pb,0,none⟩) rfl) ?_
   refine qF pb 0 1 rfl Tryz.underlying65 rfl siz62 rfl ?_
   refine s_store (b := pb) (o := 1) (c' := #[(.slice a32 (g.sets.length + 1) c32),(.slice fa2 (g.fol.length + 1) fc2)]) (v := (.slice fa2 (g.fol.length + 1) fc2)) rfl rfl rfl siz62 hblk (by simp) rfl ?_
   intro w7 S7
   replace Br := S7.keep (by omega) Br
   replace E := S7.step E (by first | exact Or.inl (by omega) | exact Or.inr rfl | exact Or.inr (by assumption) | exact Or.inr (by simp) | exact Or.inr (by omega) | exact Or.inr (by dsimp only; omega))
   replace hblk := S7.blk
   refine WpL_nil (Wp_seq_region ?_)
   refine qM (I6 (((g.sets.length + 1) : Nat) : Int)) rfl ?_
   refine s_buildSlice (ps := [(0,(I6 (((g.sets.length + 1) : Nat) : Int)))]) (c := #[(I6 (((g.sets.length + 1) : Nat) : Int))]) (by decide) rfl Tryz.underlying22 siz3 zer3 (by decide) (by decide) (by kernel_rfl) ?_
   intro bi wi Ni
   have Fi := Ni.ge E
   have Oi_pb := Ni.lt hblk
   have Oi_br := Ni.lt Br
   replace hblk := Ni.keep hblk
   replace Br := Ni.keep Br
   replace E := E.ext Ni.ext
   have Bi := Ni.blk
   refine qM (I6 (((g.sets.length + 1) : Nat) : Int)) rfl ?_
   refine s_buildSlice (ps := [(0,(I6 (((g.sets.length + 1) : Nat) : Int)))]) (c := #[(I6 (((g.sets.length + 1) : Nat) : Int))]) (by decide) rfl Tryz.underlying22 siz3 zer3 (by decide) (by decide) (by kernel_rfl) ?_
   intro bj wj Nj
   have Fj := Nj.ge E
   have Oj_pb := Nj.lt hblk
   have Oj_br := Nj.lt Br
   have Oj_bi := Nj.lt Bi
   replace hblk := Nj.keep hblk
   replace Br := Nj.keep Br
   replace Bi := Nj.keep Bi
   replace E := E.ext Nj.ext
   have Bj := Nj.blk
   refine qV (r_build (ps := [(1,(.slice (some ⟨bi,0,none⟩) 1 1)),(2,(.slice (some ⟨bj,0,none⟩) 1 1))]) (v := (.agg #[(.bool false),(.slice (some ⟨bi,0,none⟩) 1 1),(.slice (some ⟨bj,0,none⟩) 1 1)])) rfl (by kernel_rfl)) ?_
   refine s_storeAgg (b := br) (o := 0) (c' := #[(.bool false),(.slice (some ⟨bi,0,none⟩) 1 1),(.slice (some ⟨bj,0,none⟩) 1 1)]) rfl rfl (by simp [Value.oneCell']) siz67 rfl Br (by first | (simp; done) | exact Nat.le_of_ble_eq_true rfl) rfl ?_
   intro w8 S8
   replace hblk := S8.keep (by omega) hblk
   replace Bi := S8.keep (by omega) Bi
   replace Bj := S8.keep (by omega) Bj
   replace E := S8.step E (by first | exact Or.inl (by omega) | exact Or.inr rfl | exact Or.inr (by assumption) | exact Or.inr (by simp) | exact Or.inr (by omega) | exact Or.inr (by dsimp only; omega))
   replace Br := S8.blk
   refine WpL_nil (Wp_ret (inB_ret (thn_ret (finX_ret ?_))))
   refine fin_agg Tryz.results24 (vs := [(.bool false),(.slice (some ⟨bi,0,none⟩) 1 1),(.slice (some ⟨bj,0,none⟩) 1 1)]) (b := br) rfl agg67 siz67 rfl (Br.cells rfl) ?_
   have hR0 := GrG.folPut hG6.st Cv9 Ov9 Dv9 S7
   have hPz := hG6.comp hR0
   have hEz := Ext.trans Ni.ext Nj.ext
   have hAr7 := hR0.apart hAr6 hbrl6
   have hS : ∀ k,(k = bi ∨ k = bj) → w7.heap.size ≤ k ∧ k < wj.heap.size := by
    have h1 := Ni.eq; have h2 := Nj.eq; have h3 := Ni.size; have h4 := Nj.size
    rintro k (rfl | rfl) <;> omega
   have hG8 := hPz.frzS hEz hS
   have hAr8 := hAr7.frzS (n := w7.heap.size) (m := wj.heap.size) (by have := hR0.chg.size; omega) hS
   have hG9 := hG8.other S8.chg (fun y e => by rw [show y = br from e]; exact ⟨by omega,hAr8⟩)
   exact ⟨_,⟨false,[g.sets.length + 1],[g.sets.length + 1]⟩,_,_,_,_,by rw [gk_2 hk]; unfold setK; rw [if_neg (by omega)],⟨_,_,_,_,rfl,⟨ints_of_blk [((g.sets.length + 1 : Nat) : Int)] Bi (by simp) (by simp),.inr ⟨bi,rfl,.inr (.inl rfl)⟩⟩,⟨ints_of_blk [((g.sets.length + 1 : Nat) : Int)] Bj (by simp) (by simp),.inr ⟨bj,rfl,.inr (.inr rfl)⟩⟩⟩,hG9⟩
def litQ (e : Nat) (u1 u2 : Value) : Fct := fun v w => ∃ b,v = .slice (some ⟨b,0,none⟩) 2 2 ∧ Blk w b #[u1,u2] e
theorem litQ_ext (e : Nat) (u1 u2 : Value) : ∀ v w w',Ext w w' → litQ e u1 u2 v w → litQ e u1 u2 v w' := by
 rintro v w w' x ⟨b,h1,h2⟩
 exact ⟨b,h1,Ext.keep x h2⟩
theorem DoesT_lit2q {P : Program} {N : Nat} {σ : Env} {w : World} {dst : Option Tmp} {ty : TypeId} {pos : String} {af : Array Edge} {g : Option (Nat × Bool)} {M : Nat → Prop} {t e n : Nat} {x y : Operand} {u v z : Value} (hu : P.underlying t = some (.slice e)) (hsz : Siz P e n) (hz : Zer P e z) (hx : ev σ x = u) (hy : ev σ y = v)
  (hl : ¬ (2 * n > 2 ^ 24)) (h0 : 2 * n ≠ 0) (hc : Instr.fill (fun i => some (i * n,n)) ((Array.range (2 * n)).map (z.cells[· % z.cells.size]!)) [(0,u),(1,v)] = some #[u,v]) :
  DoesT M P N ⟨dst,.buildSlice t 2 #[(0,x),(1,y)],ty,pos,af,g⟩ (litQ e u v) σ w := by
 have hn := New.mk' w #[u,v] e
 exact DoesT_val (run_buildSlice (parts := [(0,x),(1,y)]) (ps := [(0,u),(1,v)]) (by simp only [List.map,hx,hy]) hu hsz hz hl h0 hc) (Ext.chg hn.ext) ⟨_,rfl,hn.blk⟩
def catQn (L : List Nat) (z : Nat) : Fct := fun v w => (∃ a c,v = .slice a L.length c) ∧ w.ownsRow z TDI 1 v L.length ((nZ L).map (Value.int .i64))
theorem catQ_ext (L : List Nat) (z : Nat) : ∀ v w w',Ext w w' → catQn L z v w → catQn L z v w' := by
 rintro v w w' x ⟨h1,h2⟩
 exact ⟨h1,own_ext h2 x⟩
def altQ (b : Bool) (L1 L2 : List Nat) (z : Nat) : Fct := fun v w => ∃ a c a2 c2,v = .agg #[.bool b,.slice a L1.length c,.slice a2 L2.length c2] ∧ w.ownsRow z TDI 1 (.slice a L1.length c) L1.length ((nZ L1).map (Value.int .i64)) ∧ w.ownsRow z TDI 1 (.slice a2 L2.length c2) L2.length ((nZ L2).map (Value.int .i64))
theorem altQ_ext (b : Bool) (L1 L2 : List Nat) (z : Nat) : ∀ v w w',Ext w w' → altQ b L1 L2 z v w → altQ b L1 L2 z v w' := by
 rintro v w w' x ⟨a,c,a2,c2,h1,h2,h3⟩
 exact ⟨a,c,a2,c2,h1,own_ext h2 x,own_ext h3 x⟩
theorem concatQ_c (w0 : World) (z q : Nat) (va vb : Value) (la lb L : List Nat) (hL : L = la ++ lb) (hB : Blk w0 q #[va,vb] 22) (ha : IntsAt w0 va (nZ la)) (hb : IntsAt w0 vb (nZ lb)) (hl : la.length + lb.length ≤ 1000000) (hz : z ≤ w0.heap.size) :
  Ret Tryz.prog 57 #[.slice (some ⟨q,0,none⟩) 2 2] w0 fun r w => catQn L z r w ∧ Ext w0 w := by
 subst hL
 refine (ncat2_c w0 z _ [nZ la,nZ lb] (nZ (la ++ lb)) (intss_blk hB rfl rfl (Nat.le_of_ble_eq_true rfl) (two_lists ha hb)) (by simp [nZ_app]) (by rw [nZ_len,List.length_append]; omega) (.inr hz)).mono ?_
 rintro r w ⟨⟨a,c,rfl⟩,O,e⟩
 rw [nZ_len] at O ⊢
 exact ⟨⟨⟨a,c,rfl⟩,O⟩,e⟩
theorem frI_of {F S : Nat → Prop} {w : World} {z n : Nat} {v : Value} {l : List Nat} (h : w.ownsRow z TDI 1 v n ((nZ l).map (Value.int .i64))) (hS : ∀ k,v.ownBlock = some k → S k) (hn : n = l.length := by rfl) : FrI (fun y => F y ∨ S y) w v l :=
 ⟨own_intsD h (by rw [nZ_len]; exact hn),(own_some h).imp (fun h0 => List.eq_nil_of_length_eq_zero (by omega)) fun ⟨b,hb⟩ => ⟨b,hb,.inr (hS b hb)⟩⟩
theorem gof4_c (wb : World) (x : Re) (hk : x.kind = 4) (hsz : x.size ≤ 44) (hof : ∀ y ∈ x.args,GkOf wb y) : GkOf wb x := by
 intro base pb F w0 sv fv vs g us hxt hE hF hP hI hR
 obtain ⟨sa,sc,aa,ac,rfl,hset,hlen,hargs⟩ := hxt.form
 have hla := len_lt_size x
 have hok3 := gkL_ok x.args
 have hss : Re.sizes x.args + 1 ≤ 44 := by have h9 := Re.size_eq x; omega
 refine RetX_of Tryz.func24 rfl Tryz.ntmps24 (Nat.le_of_ble_eq_true rfl) ?_
 have E : Chg (fun _ => True) w0 w0 := Chg.refl _ _
 have hG := GrG.start hP
 refine Wp_seq_region ?_
 refine s_box (v := (.agg (R6 x sa sc aa ac))) (c := (R6 x sa sc aa ac)) (by decide) rfl rfl ?_
 intro bb wb Nb
 have Fb := Nb.ge E
 replace hG := hG.ext Nb.ext
 replace E := E.ext Nb.ext
 have Bb := Nb.blk
 refine s_alloc (c := #[(.bool false),(.slice none 0 0),(.slice none 0 0)]) (by decide) zer67 rfl ?_
 intro br wr Nr
 have Fr := Nr.ge E
 have Or_bb := Nr.lt Bb
 replace Bb := Nr.keep Bb
 replace hG := hG.ext Nr.ext
 replace E := E.ext Nr.ext
 have Br := Nr.blk
 refine WpL_nil (Wp_seq (Wp_seq_region ?_))
 refine qF bb 0 0 rfl Tryz.underlying27 rfl siz3 rfl ?_
 refine qV (r_load (v := (I6 x.kind)) rfl flat3 (Bb.cell rfl)) ?_
 refine WpL_nil (Wp_block (Wp_seq_region ?_))
 refine qV (r_eql (k := .i64) (a := x.kind) (b := 1) rfl rfl) ?_
 refine qA (.bool (decide ((x.kind : Int) = 1))) rfl ?_
 refine WpL_nil ?_
 have hc1 : (decide ((x.kind : Int) = 1)) = false := decide_eq_false (by omega)
 refine Wp_cond_false (congrArg Value.bool hc1) ?_
 refine Wp_seq_region ?_
 refine qV (r_eql (k := .i64) (a := x.kind) (b := 2) rfl rfl) ?_
 refine qA (.bool (decide ((x.kind : Int) = 2))) rfl ?_
 refine WpL_nil ?_
 have hc2 : (decide ((x.kind : Int) = 2)) = false := decide_eq_false (by omega)
 refine Wp_cond_false (congrArg Value.bool hc2) ?_
 refine Wp_seq_region ?_
 refine qV (r_eql (k := .i64) (a := x.kind) (b := 3) rfl rfl) ?_
 refine qA (.bool (decide ((x.kind : Int) = 3))) rfl ?_
 refine WpL_nil ?_
 have hc3 : (decide ((x.kind : Int) = 3)) = false := decide_eq_false (by omega)
 refine Wp_cond_false (congrArg Value.bool hc3) ?_
 refine Wp_seq_region ?_
 refine qV (r_eql (k := .i64) (a := x.kind) (b := 4) rfl rfl) ?_
 refine qA (.bool (decide ((x.kind : Int) = 4))) rfl ?_
 refine WpL_nil ?_
 have hc4 : (decide ((x.kind : Int) = 4)) = true := decide_eq_true hk
 refine Wp_cond_true (congrArg Value.bool hc4) ?_
 refine Wp_seq_region ?_
 refine s_alloc (c := #[(.bool false),(.slice none 0 0),(.slice none 0 0)]) (by decide) zer67 rfl ?_
 intro bo wo No
 have Fo := No.ge E
 have Oo_bb := No.lt Bb
 have Oo_br := No.lt Br
 replace Bb := No.keep Bb
 replace Br := No.keep Br
 replace hG := hG.ext No.ext
 replace E := E.ext No.ext
 have Bo := No.blk
 refine WpL_nil (Wp_seq (Wp_seq_region ?_))
 refine qF bb 0 2 rfl Tryz.underlying27 rfl siz25 rfl ?_
 refine qV (r_load (v := (.slice aa x.args.length ac)) rfl flat25 (Bb.cell rfl)) ?_
 refine qV (r_lenSlice (ad := aa) (n := x.args.length) (cap := ac) Tryz.underlying25 rfl) ?_
 refine qM (I6 0) rfl ?_
 refine WpL_nil (Wp_block ?_)
 refine Wp_loop (fun nn_ σ W5 => ∃ (k : Nat) (gk : GS) (o : Pt) (Fk : Nat → Prop) (sk : Value) (fk : Value) (vk : List Value) (oa : Option Addr) (oc : Nat) (oa2 : Option Addr) (oc2 : Nat),(∃ jj_,σ = upds jj_ [(0,(P6 pb 0)),(4,(P6 br 0)),(9,(P6 bo 0)),(83,(.slice aa x.args.length ac)),(84,(I6 (x.args.length : Int))),(85,(I6 (k : Int)))]) ∧ Chg (fun _ => True) w0 W5 ∧ Blk W5 br #[(.bool false),(.slice none 0 0),(.slice none 0 0)] 67 ∧ Blk W5 bo (#[Value.bool o.nul,.slice oa o.fst.length oc,.slice oa2 o.lst.length oc2]) 67 ∧ (k ≤ x.args.length) ∧ (altGs (gkL x.args) g ⟨false,[],[]⟩ = altGs (gkL (x.args.drop k)) gk o) ∧ (GSt1 (Re.sizes x.args + 1) g gk o) ∧ (GrG F w0 base pb sv fv vs Fk sk fk vk gk W5) ∧ (FrI Fk W5 (.slice oa o.fst.length oc) o.fst) ∧ (FrI Fk W5 (.slice oa2 o.lst.length oc2) o.lst) ∧ (Apq Fk pb sk fk vk bo ∧ Apq Fk pb sk fk vk br) ∧ nn_ = x.args.length - k) (n := x.args.length - 0) ?_ ?_
 ·exact ⟨0,g,⟨false,[],[]⟩,F,sv,fv,vs,none,0,none,0,Fits.out ⟨rfl,rfl,rfl,rfl,rfl,rfl,trivial⟩,E,Br,Bo,Nat.zero_le _,(by rw [List.drop_zero]),GSt1.refl _ hI false,hG,FrI.nil _ _,FrI.nil _ _,⟨hP.fresh (by omega),hP.fresh (by omega)⟩,rfl⟩
 ·clear E Br Bo
  rintro _ _ W5 ⟨k,gk,o,Fk,sk,fk,vk,oa,oc,oa2,oc2,⟨j5,rfl⟩,E,Br,Bo,hk2,hQ,hS,hGk,ho1,ho2,hA,rfl⟩
  refine Wp_seq_region ?_
  refine qV (r_lss (k := .i64) (a := (k : Int)) (b := (x.args.length : Int)) rfl rfl) ?_
  refine WpL_nil (Wp_seq ?_)
  refine Wp_cond (b := decide (((k : Int) : Int) < (x.args.length : Int))) rfl (fun hlt => ?_) (fun hlt => ?_)
  ·have khlt := hlt
   replace hlt := of_decide_eq_true hlt
   obtain ⟨y,hy⟩ := get_of_lt (l := x.args) (i := k) (by omega)
   have hym := List.mem_of_getElem? hy
   obtain ⟨ab,ao,rfl,hres⟩ := args_at hargs (by omega)
   obtain ⟨us,hus,hyt⟩ := hres.get hy
   have hyt0 := hyt
   obtain ⟨ysa,ysc,yaa,yac,rfl,_,_,_⟩ := hyt.form
   rw [drop_at hy,gkL,altGs] at hQ
   have hRk := hS.rows hR (by omega)
   have hGo := hGk
   refine Wp_skip (thn_normal (Wp_seq (Wp_block (Wp_seq_region ?_))))
   refine qV (r_indexSlice (b := ab) (o := ao) (len := x.args.length) (cap := ac) (i := k) (o' := ao + k * 6) rfl rfl rfl Tryz.underlying25 siz27 (by omega) (by omega)) ?_
   refine qV (r_loadAgg (vs := [(I6 y.kind),(.slice ysa y.set.length ysc),(.slice yaa y.args.length yac),(I6 y.mn),(I6 y.mx),(.bool y.neg)]) rfl agg27 siz27 rfl (hus.ext (hGk.base' hP hF hE))) ?_
   have E7 : Chg none1 W5 W5 := Chg.refl _ _
   refine s_allocStore (v := (.agg (R6 y ysa ysc yaa yac))) (c := (R6 y ysa ysc yaa yac)) (n := 6) (by decide) zer27 rfl siz27 rfl rfl rfl (by simp [Value.oneCell']) ?_
   intro bu wu Nu
   have Fu := Nu.ge E
   have Fu_E7 := Nu.ge E7
   have Ou_br := Nu.lt Br
   have Ou_bo := Nu.lt Bo
   replace Br := Nu.keep Br
   replace Bo := Nu.keep Bo
   replace E := E.ext Nu.ext
   have Bu := Nu.blk
   replace E7 := E7.ext Nu.ext
   refine WpL_nil (Wp_seq_region ?_)
   refine qM (P6 pb 0) rfl ?_
   refine qV (r_loadAgg (vs := [(I6 y.kind),(.slice ysa y.set.length ysc),(.slice yaa y.args.length yac),(I6 y.mn),(I6 y.mx),(.bool y.neg)]) rfl agg27 siz27 rfl (Bu.cells rfl)) ?_
   replace hGk := hGk.ext E7
   replace ho1 := ho1.ext E7
   replace ho2 := ho2.ext E7
   have hbl : bo < (wu).heap.size ∧ br < (wu).heap.size := ⟨Bo.lt,Br.lt⟩
   refine WpL_enterX rfl rfl (by decide) (r_callF (vs := [(P6 pb 0),(.agg (R6 y ysa ysc yaa yac))]) Tryz.func24 kQ kQ rfl) (hof y hym base pb _ _ _ _ _ gk _ hyt0 (hGk.base' hP hF hE) (fun q hq => hGk.sub q (hF q hq)) hGk.st hS.inv hRk) (fun w' h => And.intro rfl ⟨by rw [gk_4 hk,hQ,h.1]; rfl,hGk.pan h.2⟩) ?_
   rintro _ w19 ⟨g2,p,F2,s2,f2,v2,h2,⟨pa,pc,pa2,pc2,rfl,hp1,hp2⟩,G2⟩
   replace Br := G2.chg.keep ((by first | exact hA.1.2 | exact hA.2.2)) Br
   replace Bo := G2.chg.keep ((by first | exact hA.1.2 | exact hA.2.2)) Bo
   replace E := E.step G2.chg (fun _ _ _ => trivial)
   have hok := gkO_ok y gk g2 p hS.inv h2
   have hsy : y.size ≤ Re.sizes x.args := Re.sizes_get hy
   have hch := cat_hyp hS hok (hok.rows hRk (by omega))
   have hA2 : Apq F2 pb s2 f2 v2 bo ∧ Apq F2 pb s2 f2 v2 br := ⟨G2.apart hA.1 hbl.1,G2.apart hA.2 hbl.2⟩
   replace ho1 := (ho1.chg G2.chg fun y hy => hGk.st.kept hy).mono G2.sub
   replace ho2 := (ho2.chg G2.chg fun y hy => hGk.st.kept hy).mono G2.sub
   replace G2 := hGk.comp G2
   have E8 : Chg none1 w19 w19 := Chg.refl _ _
   refine s_allocStore (v := (.agg #[(.bool p.nul),(.slice pa p.fst.length pc),(.slice pa2 p.lst.length pc2)])) (c := #[(.bool p.nul),(.slice pa p.fst.length pc),(.slice pa2 p.lst.length pc2)]) (n := 3) (by decide) zer67 rfl siz67 rfl rfl rfl (by simp [Value.oneCell']) ?_
   intro bp wp Np
   have Fp := Np.ge E
   have Fp_E8 := Np.ge E8
   have Op_br := Np.lt Br
   have Op_bo := Np.lt Bo
   replace Br := Np.keep Br
   replace Bo := Np.keep Bo
   replace E := E.ext Np.ext
   have Bp := Np.blk
   replace E8 := E8.ext Np.ext
   refine WpL_nil ?_
   replace G2 := G2.ext E8
   replace ho1 := ho1.ext E8
   replace ho2 := ho2.ext E8
   replace hp1 := hp1.ext E8
   replace hp2 := hp2.ext E8
   have hbl2 : bo < (wp).heap.size ∧ br < (wp).heap.size := ⟨Bo.lt,Br.lt⟩
   obtain ⟨z0,hz0⟩ : ∃ z0,z0 = (wp).heap.size := ⟨_,rfl⟩
   rcases Bool.eq_false_or_eq_true (o.nul) with hon | hon
   ·have khon := hon
    have Bo2 := Bo
    rw [hon] at Bo2
    have hnu : (altP o p).nul = true := by simp [altP,hon]
    have hz_7 : w0.heap.size ≤ wp.heap.size := E.size
    have lz_7_br : br < wp.heap.size := Br.lt
    have lz_7_bo : bo < wp.heap.size := Bo2.lt
    have lz_7_bp : bp < wp.heap.size := Bp.lt
    obtain ⟨Fs7,hFs7⟩ : ∃ Fs : List FctS,Fs = [(eF (P6 bo 0)),(eF (.bool true)),(eF (.bool true)),(eF undef),(eF undef),(eF (.bool true)),(eF (P6 bo 1)),(eF (.slice oa o.fst.length oc)),(eF (P6 bp 1)),(eF (.slice pa p.fst.length pc)),(fun _ _ => litQ 22 (.slice oa o.fst.length oc) (.slice pa p.fst.length pc)),(fun _ _ => catQn (altP o p).fst z0),(eF (P6 bo 2)),(eF (.slice oa2 o.lst.length oc2)),(eF (P6 bp 2)),(eF (.slice pa2 p.lst.length pc2)),(fun _ _ => litQ 22 (.slice oa2 o.lst.length oc2) (.slice pa2 p.lst.length pc2)),(fun _ _ => catQn (altP o p).lst z0),(fun _ _ => altQ (altP o p).nul (altP o p).fst (altP o p).lst z0),(eF undef)] := ⟨_,rfl⟩
    refine Wp_dagS (MsL []) [true,true,true,true,true,true,true,true,true,true,true,true,true,true,true,true,true,true,true,false] [19] [92,93,94,95,96,97,98,99,100,101,102,103,104,105,106,107,108,109,110,186] [[],[0],[1],[2],[2,3],[2,4],[],[6],[],[8],[7,9],[2,10],[],[12],[],[14],[13,15],[11,16],[5,11,17],[]] [[],[0],[1,0],[2,1,0],[2,1,0,3],[2,1,0,4,3],[],[6],[],[8],[7,6,9,8],[2,1,0,10,7,6,9,8],[],[12],[],[14],[13,12,15,14],[11,2,1,0,10,7,6,9,8,16,13,12,15,14],[5,2,1,0,4,3,11,10,7,6,9,8,17,16,13,12,15,14],[]] Fs7 hFs7 (by kernel_rfl) mixed (by kernel_rfl) (by kernel_rfl) (by kernel_rfl) (by kernel_rfl) ?_ ?_
    ·intro wd X0
     refine qZ (fun S s' w' hi hN X U V H => ?_) ?_
     ·replace X := xN0 X
      exact DoesT_pure (r_fieldAddr (b := bo) (o := 0) (o' := 0) (U 9 rfl) Tryz.underlying67 rfl siz4 rfl) rfl
     refine qZ (fun S s' w' hi hN X U V H => ?_) ?_
     ·replace X := xN0 X
      have e92 := (H 0 rfl).2 92 _ rfl (by rw [hFs7]; rfl)
      exact DoesT_pure (r_load (v := (.bool true)) e92 flat4 (((X0.trans X).keep Bo2).cell rfl)) rfl
     refine qZ (fun S s' w' hi hN X U V H => ?_) ?_
     ·replace X := xN0 X
      have e93 := (H 1 rfl).2 93 _ rfl (by rw [hFs7]; rfl)
      exact DoesT_pure (r_move (v := (.bool true)) e93) rfl
     refine DagStepsS.cons (StabS.eq) (LocS.const) (fun S s' w' hi hN X U V H => Or.inr ⟨Unmet_mk rfl rfl (d := 94) (Or.inl ((H 2 rfl).2 94 (eF (.bool true)) rfl (by rw [hFs7]; rfl))),?_⟩) ?_
     ·exact rfl
     refine DagStepsS.cons (StabS.eq) (LocS.const) (fun S s' w' hi hN X U V H => Or.inr ⟨Unmet_mk rfl rfl (d := 94) (Or.inl ((H 2 rfl).2 94 (eF (.bool true)) rfl (by rw [hFs7]; rfl))),?_⟩) ?_
     ·exact rfl
     refine qZ (fun S s' w' hi hN X U V H => ?_) ?_
     ·replace X := xN0 X
      have e94 := (H 2 rfl).2 94 _ rfl (by rw [hFs7]; rfl)
      exact DoesT_pure (r_pick (b := true) (v := (.bool true)) e94 rfl) rfl
     refine qZ (fun S s' w' hi hN X U V H => ?_) ?_
     ·replace X := xN0 X
      exact DoesT_pure (r_fieldAddr (b := bo) (o := 0) (o' := 1) (U 9 rfl) Tryz.underlying67 rfl siz22 rfl) rfl
     refine qZ (fun S s' w' hi hN X U V H => ?_) ?_
     ·replace X := xN0 X
      have e98 := (H 6 rfl).2 98 _ rfl (by rw [hFs7]; rfl)
      exact DoesT_pure (r_load (v := (.slice oa o.fst.length oc)) e98 flat22 (((X0.trans X).keep Bo2).cell rfl)) rfl
     refine qZ (fun S s' w' hi hN X U V H => ?_) ?_
     ·replace X := xN0 X
      exact DoesT_pure (r_fieldAddr (b := bp) (o := 0) (o' := 1) (U 12 rfl) Tryz.underlying67 rfl siz22 rfl) rfl
     refine qZ (fun S s' w' hi hN X U V H => ?_) ?_
     ·replace X := xN0 X
      have e100 := (H 8 rfl).2 100 _ rfl (by rw [hFs7]; rfl)
      exact DoesT_pure (r_load (v := (.slice pa p.fst.length pc)) e100 flat22 (((X0.trans X).keep Bp).cell rfl)) rfl
     refine DagStepsS.cons (StabS.chg (U := none1) (litQ_ext _ _ _) (fun p y hp hw h => by
        exact h.elim)) (LocS.const) (fun S s' w' hi hN X U V H => Or.inl ⟨Guarded_none rfl,?_⟩) ?_
     ·replace X := xN0 X
      have e99 := (H 7 rfl).2 99 _ rfl (by rw [hFs7]; rfl)
      have e101 := (H 9 rfl).2 101 _ rfl (by rw [hFs7]; rfl)
      exact DoesT_lit2q Tryz.underlying62 siz22 zer22 e99 e101 (by decide) (by decide) (by kernel_rfl)
     refine DagStepsS.cons (StabS.chg (U := none1) (catQ_ext _ _) (fun p y hp hw h => by
        exact h.elim)) (LocS.const) (fun S s' w' hi hN X U V H => Or.inl ⟨Guarded_none rfl,?_⟩) ?_
     ·replace X := xN0 X
      obtain ⟨b102,e102,B102⟩ := (show ((fun _ _ => litQ 22 (.slice oa o.fst.length oc) (.slice pa p.fst.length pc)) : FctS) S s' (s' 102) w' from (H 10 rfl).2 102 (fun _ _ => litQ 22 (.slice oa o.fst.length oc) (.slice pa p.fst.length pc)) rfl (by rw [hFs7]; rfl))
      exact DoesT_callE (r_callF (vs := [(.slice (some ⟨b102,0,none⟩) 2 2)]) Tryz.func57 kQ kQ (lst1 e102)) (concatQ_c _ z0 b102 _ _ o.fst p.fst (altP o p).fst rfl B102 (ho1.1.ext (X0.trans X)) (hp1.1.ext (X0.trans X)) (by have := hch.2.2.1; have := hch.2.2.2.1; omega) (by have := X0.size; have := X.size; omega))
     refine qZ (fun S s' w' hi hN X U V H => ?_) ?_
     ·replace X := xN0 X
      exact DoesT_pure (r_fieldAddr (b := bo) (o := 0) (o' := 2) (U 9 rfl) Tryz.underlying67 rfl siz22 rfl) rfl
     refine qZ (fun S s' w' hi hN X U V H => ?_) ?_
     ·replace X := xN0 X
      have e104 := (H 12 rfl).2 104 _ rfl (by rw [hFs7]; rfl)
      exact DoesT_pure (r_load (v := (.slice oa2 o.lst.length oc2)) e104 flat22 (((X0.trans X).keep Bo2).cell rfl)) rfl
     refine qZ (fun S s' w' hi hN X U V H => ?_) ?_
     ·replace X := xN0 X
      exact DoesT_pure (r_fieldAddr (b := bp) (o := 0) (o' := 2) (U 12 rfl) Tryz.underlying67 rfl siz22 rfl) rfl
     refine qZ (fun S s' w' hi hN X U V H => ?_) ?_
     ·replace X := xN0 X
      have e106 := (H 14 rfl).2 106 _ rfl (by rw [hFs7]; rfl)
      exact DoesT_pure (r_load (v := (.slice pa2 p.lst.length pc2)) e106 flat22 (((X0.trans X).keep Bp).cell rfl)) rfl
     refine DagStepsS.cons (StabS.chg (U := none1) (litQ_ext _ _ _) (fun p y hp hw h => by
        exact h.elim)) (LocS.const) (fun S s' w' hi hN X U V H => Or.inl ⟨Guarded_none rfl,?_⟩) ?_
     ·replace X := xN0 X
      have e105 := (H 13 rfl).2 105 _ rfl (by rw [hFs7]; rfl)
      have e107 := (H 15 rfl).2 107 _ rfl (by rw [hFs7]; rfl)
      exact DoesT_lit2q Tryz.underlying62 siz22 zer22 e105 e107 (by decide) (by decide) (by kernel_rfl)
     refine DagStepsS.cons (StabS.chg (U := none1) (catQ_ext _ _) (fun p y hp hw h => by
        exact h.elim)) (LocS.const) (fun S s' w' hi hN X U V H => Or.inl ⟨Guarded_none rfl,?_⟩) ?_
     ·replace X := xN0 X
      obtain ⟨b108,e108,B108⟩ := (show ((fun _ _ => litQ 22 (.slice oa2 o.lst.length oc2) (.slice pa2 p.lst.length pc2)) : FctS) S s' (s' 108) w' from (H 16 rfl).2 108 (fun _ _ => litQ 22 (.slice oa2 o.lst.length oc2) (.slice pa2 p.lst.length pc2)) rfl (by rw [hFs7]; rfl))
      exact DoesT_callE (r_callF (vs := [(.slice (some ⟨b108,0,none⟩) 2 2)]) Tryz.func57 kQ kQ (lst1 e108)) (concatQ_c _ z0 b108 _ _ o.lst p.lst (altP o p).lst rfl B108 (ho2.1.ext (X0.trans X)) (hp2.1.ext (X0.trans X)) (by have := hch.2.2.1; have := hch.2.2.2.1; omega) (by have := X0.size; have := X.size; omega))
     refine DagStepsS.cons (StabS.chg (U := none1) (altQ_ext _ _ _ _) (fun p y hp hw h => by
        exact h.elim)) (LocS.const) (fun S s' w' hi hN X U V H => Or.inl ⟨Guarded_none rfl,?_⟩) ?_
     ·replace X := xN0 X
      have e97 := (H 5 rfl).2 97 _ rfl (by rw [hFs7]; rfl)
      obtain ⟨⟨a103,c103,e103⟩,O103⟩ := (show ((fun _ _ => catQn (altP o p).fst z0) : FctS) S s' (s' 103) w' from (H 11 rfl).2 103 (fun _ _ => catQn (altP o p).fst z0) rfl (by rw [hFs7]; rfl))
      obtain ⟨⟨a109,c109,e109⟩,O109⟩ := (show ((fun _ _ => catQn (altP o p).lst z0) : FctS) S s' (s' 109) w' from (H 17 rfl).2 109 (fun _ _ => catQn (altP o p).lst z0) rfl (by rw [hFs7]; rfl))
      exact DoesT_pure (r_build (ps := [(0,.bool true),(1,.slice a103 (altP o p).fst.length c103),(2,.slice a109 (altP o p).lst.length c109)]) (v := .agg #[.bool true,.slice a103 (altP o p).fst.length c103,.slice a109 (altP o p).lst.length c109]) (bld3 e97 e103 e109) (by kernel_rfl)) ⟨_,_,_,_,by rw [hnu]; rfl,e103 ▸ O103,e109 ▸ O109⟩
     refine DagStepsS.tail ?_
     exact DagStepsS.nil
    ·intro s' wd7 w7 X0 X7 U H
     replace X7 := X7.mono (M' := none1) (fun y _ h => by
       obtain ⟨j,hj,h⟩ := h
       exact h.elim)
     obtain ⟨a110,c110,d110,f110,e110,O110,Q110⟩ := (show ((fun _ _ => altQ (altP o p).nul (altP o p).fst (altP o p).lst z0) : FctS) (allS [true,true,true,true,true,true,true,true,true,true,true,true,true,true,true,true,true,true,true,false]) s' (s' 110) w7 from H 18 rfl 110 (fun _ _ => altQ (altP o p).nul (altP o p).fst (altP o p).lst z0) rfl (by rw [hFs7]; rfl))
     obtain ⟨j7,rfl⟩ := Fits.out (σ := s') (l := [(0,(.pointer (some ⟨pb,0,none⟩))),(4,(.pointer (some ⟨br,0,none⟩))),(9,(.pointer (some ⟨bo,0,none⟩))),(83,(.slice (some ⟨ab,ao,none⟩) x.args.length ac)),(84,(.int .i64 ((x.args.length : Nat) : Int))),(85,(.int .i64 ((k : Nat) : Int))),(110,(.agg #[(.bool ((altP o p).nul)),(.slice a110 ((altP o p).fst.length) c110),(.slice d110 ((altP o p).lst.length) f110)]))]) ⟨U 0 rfl,U 4 rfl,U 9 rfl,U 83 rfl,U 84 rfl,U 85 rfl,e110,trivial⟩
     clear U H
     replace Br := (X0.trans X7).keep Br
     replace Bo2 := (X0.trans X7).keep Bo2
     replace Bp := (X0.trans X7).keep Bp
     replace X7 := X0.trans X7
     have hXe := X7
     replace E := E.ext X7
     have hv : ∀ k,((Value.slice a110 (altP o p).fst.length c110).ownBlock = some k ∨ (Value.slice d110 (altP o p).lst.length f110).ownBlock = some k) → wp.heap.size ≤ k ∧ k < (w7).heap.size := fun k h => by rw [← hz0]; exact h.elim (fun h => O110.lt k h) (fun h => Q110.lt k h)
     have hG4 := G2.frzS hXe hv
     have hA4 := And.intro (hA2.1.frzS hbl2.1 hv) (hA2.2.frzS hbl2.2 hv)
     have hq1 := frI_of (F := F2) O110 (fun k h => (.inl h : _ ∨ (Value.slice d110 (altP o p).lst.length f110).ownBlock = some k))
     have hq2 := frI_of (F := F2) Q110 (fun k h => (.inr h : (Value.slice a110 (altP o p).fst.length c110).ownBlock = some k ∨ _))
     refine s_storeAgg (b := bo) (o := 0) (c' := #[(.bool ((altP o p).nul)),(.slice a110 ((altP o p).fst.length) c110),(.slice d110 ((altP o p).lst.length) f110)]) rfl rfl (by simp [Value.oneCell']) siz67 rfl Bo2 (by first | (simp; done) | exact Nat.le_of_ble_eq_true rfl) rfl ?_
     intro w8 S8
     replace hG4 := hG4.other S8.chg (fun y e => by rw [show y = bo from e]; exact ⟨by omega,hA4.1⟩)
     replace hq1 := hq1.chg S8.chg (fun y hy e => by rw [show y = bo from e] at hy; exact hA4.1.1 hy)
     replace hq2 := hq2.chg S8.chg (fun y hy e => by rw [show y = bo from e] at hy; exact hA4.1.1 hy)
     replace Br := S8.keep (by omega) Br
     replace Bp := S8.keep (by omega) Bp
     replace E := S8.step E (by first | exact Or.inl (by omega) | exact Or.inr rfl | exact Or.inr (by assumption) | exact Or.inr (by simp) | exact Or.inr (by omega) | exact Or.inr (by dsimp only; omega))
     replace Bo2 := S8.blk
     refine WpL_nil (inB_normal (thn_normal (Wp_region ?_)))
     refine qV (r_add (k := .i64) (a := (k : Int)) (b := 1) (c := (k : Int) + 1) rfl rfl (wI64 (by omega))) ?_
     refine qM (I6 ((k : Int) + 1)) rfl ?_
     refine WpL_nil (thn_normal ?_)
     exact ⟨x.args.length - (k + 1),by omega,k + 1,g2,altP o p,_,s2,f2,v2,a110,c110,d110,f110,Fits.out ⟨rfl,rfl,rfl,rfl,rfl,rfl,trivial⟩,E,Br,Bo2,(by omega),(by rw [hQ,h2]; rfl),hS.alt hok (by omega),hG4,hq1,hq2,hA4,rfl⟩
   ·have khon := hon
    have Bo2 := Bo
    rw [hon] at Bo2
    have hnu : (altP o p).nul = p.nul := by simp [altP,hon]
    have hz_9 : w0.heap.size ≤ wp.heap.size := E.size
    have lz_9_br : br < wp.heap.size := Br.lt
    have lz_9_bo : bo < wp.heap.size := Bo2.lt
    have lz_9_bp : bp < wp.heap.size := Bp.lt
    obtain ⟨Fs9,hFs9⟩ : ∃ Fs : List FctS,Fs = [(eF (P6 bo 0)),(eF (.bool false)),(eF (.bool false)),(eF (P6 bp 0)),(eF (.bool p.nul)),(eF (.bool p.nul)),(eF (P6 bo 1)),(eF (.slice oa o.fst.length oc)),(eF (P6 bp 1)),(eF (.slice pa p.fst.length pc)),(fun _ _ => litQ 22 (.slice oa o.fst.length oc) (.slice pa p.fst.length pc)),(fun _ _ => catQn (altP o p).fst z0),(eF (P6 bo 2)),(eF (.slice oa2 o.lst.length oc2)),(eF (P6 bp 2)),(eF (.slice pa2 p.lst.length pc2)),(fun _ _ => litQ 22 (.slice oa2 o.lst.length oc2) (.slice pa2 p.lst.length pc2)),(fun _ _ => catQn (altP o p).lst z0),(fun _ _ => altQ (altP o p).nul (altP o p).fst (altP o p).lst z0),(eF undef)] := ⟨_,rfl⟩
    refine Wp_dagS (MsL []) [true,true,true,true,true,true,true,true,true,true,true,true,true,true,true,true,true,true,true,false] [19] [92,93,94,95,96,97,98,99,100,101,102,103,104,105,106,107,108,109,110,186] [[],[0],[1],[2],[2,3],[2,4],[],[6],[],[8],[7,9],[2,10],[],[12],[],[14],[13,15],[11,16],[5,11,17],[]] [[],[0],[1,0],[2,1,0],[2,1,0,3],[2,1,0,4,3],[],[6],[],[8],[7,6,9,8],[2,1,0,10,7,6,9,8],[],[12],[],[14],[13,12,15,14],[11,2,1,0,10,7,6,9,8,16,13,12,15,14],[5,2,1,0,4,3,11,10,7,6,9,8,17,16,13,12,15,14],[]] Fs9 hFs9 (by kernel_rfl) mixed (by kernel_rfl) (by kernel_rfl) (by kernel_rfl) (by kernel_rfl) ?_ ?_
    ·intro wd X0
     refine qZ (fun S s' w' hi hN X U V H => ?_) ?_
     ·replace X := xN0 X
      exact DoesT_pure (r_fieldAddr (b := bo) (o := 0) (o' := 0) (U 9 rfl) Tryz.underlying67 rfl siz4 rfl) rfl
     refine qZ (fun S s' w' hi hN X U V H => ?_) ?_
     ·replace X := xN0 X
      have e92 := (H 0 rfl).2 92 _ rfl (by rw [hFs9]; rfl)
      exact DoesT_pure (r_load (v := (.bool false)) e92 flat4 (((X0.trans X).keep Bo2).cell rfl)) rfl
     refine qZ (fun S s' w' hi hN X U V H => ?_) ?_
     ·replace X := xN0 X
      have e93 := (H 1 rfl).2 93 _ rfl (by rw [hFs9]; rfl)
      exact DoesT_pure (r_move (v := (.bool false)) e93) rfl
     refine DagStepsS.cons (StabS.eq) (LocS.const) (fun S s' w' hi hN X U V H => Or.inl ⟨Guarded_some rfl rfl (d := 94) ((H 2 rfl).2 94 (eF (.bool false)) rfl (by rw [hFs9]; rfl)),?_⟩) ?_
     ·replace X := xN0 X
      exact DoesT_pure (r_fieldAddr (b := bp) (o := 0) (o' := 0) (U 12 rfl) Tryz.underlying67 rfl siz4 rfl) rfl
     refine DagStepsS.cons (StabS.eq) (LocS.const) (fun S s' w' hi hN X U V H => Or.inl ⟨Guarded_some rfl rfl (d := 94) ((H 2 rfl).2 94 (eF (.bool false)) rfl (by rw [hFs9]; rfl)),?_⟩) ?_
     ·replace X := xN0 X
      have e95 := (H 3 rfl).2 95 _ rfl (by rw [hFs9]; rfl)
      exact DoesT_pure (r_load (v := (.bool p.nul)) e95 flat4 (((X0.trans X).keep Bp).cell rfl)) rfl
     refine qZ (fun S s' w' hi hN X U V H => ?_) ?_
     ·replace X := xN0 X
      have e94 := (H 2 rfl).2 94 _ rfl (by rw [hFs9]; rfl)
      have e96 := (H 4 rfl).2 96 _ rfl (by rw [hFs9]; rfl)
      exact DoesT_pure (r_pick (b := false) (v := (.bool p.nul)) e94 e96) rfl
     refine qZ (fun S s' w' hi hN X U V H => ?_) ?_
     ·replace X := xN0 X
      exact DoesT_pure (r_fieldAddr (b := bo) (o := 0) (o' := 1) (U 9 rfl) Tryz.underlying67 rfl siz22 rfl) rfl
     refine qZ (fun S s' w' hi hN X U V H => ?_) ?_
     ·replace X := xN0 X
      have e98 := (H 6 rfl).2 98 _ rfl (by rw [hFs9]; rfl)
      exact DoesT_pure (r_load (v := (.slice oa o.fst.length oc)) e98 flat22 (((X0.trans X).keep Bo2).cell rfl)) rfl
     refine qZ (fun S s' w' hi hN X U V H => ?_) ?_
     ·replace X := xN0 X
      exact DoesT_pure (r_fieldAddr (b := bp) (o := 0) (o' := 1) (U 12 rfl) Tryz.underlying67 rfl siz22 rfl) rfl
     refine qZ (fun S s' w' hi hN X U V H => ?_) ?_
     ·replace X := xN0 X
      have e100 := (H 8 rfl).2 100 _ rfl (by rw [hFs9]; rfl)
      exact DoesT_pure (r_load (v := (.slice pa p.fst.length pc)) e100 flat22 (((X0.trans X).keep Bp).cell rfl)) rfl
     refine DagStepsS.cons (StabS.chg (U := none1) (litQ_ext _ _ _) (fun p y hp hw h => by
        exact h.elim)) (LocS.const) (fun S s' w' hi hN X U V H => Or.inl ⟨Guarded_none rfl,?_⟩) ?_
     ·replace X := xN0 X
      have e99 := (H 7 rfl).2 99 _ rfl (by rw [hFs9]; rfl)
      have e101 := (H 9 rfl).2 101 _ rfl (by rw [hFs9]; rfl)
      exact DoesT_lit2q Tryz.underlying62 siz22 zer22 e99 e101 (by decide) (by decide) (by kernel_rfl)
     refine DagStepsS.cons (StabS.chg (U := none1) (catQ_ext _ _) (fun p y hp hw h => by
        exact h.elim)) (LocS.const) (fun S s' w' hi hN X U V H => Or.inl ⟨Guarded_none rfl,?_⟩) ?_
     ·replace X := xN0 X
      obtain ⟨b102,e102,B102⟩ := (show ((fun _ _ => litQ 22 (.slice oa o.fst.length oc) (.slice pa p.fst.length pc)) : FctS) S s' (s' 102) w' from (H 10 rfl).2 102 (fun _ _ => litQ 22 (.slice oa o.fst.length oc) (.slice pa p.fst.length pc)) rfl (by rw [hFs9]; rfl))
      exact DoesT_callE (r_callF (vs := [(.slice (some ⟨b102,0,none⟩) 2 2)]) Tryz.func57 kQ kQ (lst1 e102)) (concatQ_c _ z0 b102 _ _ o.fst p.fst (altP o p).fst rfl B102 (ho1.1.ext (X0.trans X)) (hp1.1.ext (X0.trans X)) (by have := hch.2.2.1; have := hch.2.2.2.1; omega) (by have := X0.size; have := X.size; omega))
     refine qZ (fun S s' w' hi hN X U V H => ?_) ?_
     ·replace X := xN0 X
      exact DoesT_pure (r_fieldAddr (b := bo) (o := 0) (o' := 2) (U 9 rfl) Tryz.underlying67 rfl siz22 rfl) rfl
     refine qZ (fun S s' w' hi hN X U V H => ?_) ?_
     ·replace X := xN0 X
      have e104 := (H 12 rfl).2 104 _ rfl (by rw [hFs9]; rfl)
      exact DoesT_pure (r_load (v := (.slice oa2 o.lst.length oc2)) e104 flat22 (((X0.trans X).keep Bo2).cell rfl)) rfl
     refine qZ (fun S s' w' hi hN X U V H => ?_) ?_
     ·replace X := xN0 X
      exact DoesT_pure (r_fieldAddr (b := bp) (o := 0) (o' := 2) (U 12 rfl) Tryz.underlying67 rfl siz22 rfl) rfl
     refine qZ (fun S s' w' hi hN X U V H => ?_) ?_
     ·replace X := xN0 X
      have e106 := (H 14 rfl).2 106 _ rfl (by rw [hFs9]; rfl)
      exact DoesT_pure (r_load (v := (.slice pa2 p.lst.length pc2)) e106 flat22 (((X0.trans X).keep Bp).cell rfl)) rfl
     refine DagStepsS.cons (StabS.chg (U := none1) (litQ_ext _ _ _) (fun p y hp hw h => by
        exact h.elim)) (LocS.const) (fun S s' w' hi hN X U V H => Or.inl ⟨Guarded_none rfl,?_⟩) ?_
     ·replace X := xN0 X
      have e105 := (H 13 rfl).2 105 _ rfl (by rw [hFs9]; rfl)
      have e107 := (H 15 rfl).2 107 _ rfl (by rw [hFs9]; rfl)
      exact DoesT_lit2q Tryz.underlying62 siz22 zer22 e105 e107 (by decide) (by decide) (by kernel_rfl)
     refine DagStepsS.cons (StabS.chg (U := none1) (catQ_ext _ _) (fun p y hp hw h => by
        exact h.elim)) (LocS.const) (fun S s' w' hi hN X U V H => Or.inl ⟨Guarded_none rfl,?_⟩) ?_
     ·replace X := xN0 X
      obtain ⟨b108,e108,B108⟩ := (show ((fun _ _ => litQ 22 (.slice oa2 o.lst.length oc2) (.slice pa2 p.lst.length pc2)) : FctS) S s' (s' 108) w' from (H 16 rfl).2 108 (fun _ _ => litQ 22 (.slice oa2 o.lst.length oc2) (.slice pa2 p.lst.length pc2)) rfl (by rw [hFs9]; rfl))
      exact DoesT_callE (r_callF (vs := [(.slice (some ⟨b108,0,none⟩) 2 2)]) Tryz.func57 kQ kQ (lst1 e108)) (concatQ_c _ z0 b108 _ _ o.lst p.lst (altP o p).lst rfl B108 (ho2.1.ext (X0.trans X)) (hp2.1.ext (X0.trans X)) (by have := hch.2.2.1; have := hch.2.2.2.1; omega) (by have := X0.size; have := X.size; omega))
     refine DagStepsS.cons (StabS.chg (U := none1) (altQ_ext _ _ _ _) (fun p y hp hw h => by
        exact h.elim)) (LocS.const) (fun S s' w' hi hN X U V H => Or.inl ⟨Guarded_none rfl,?_⟩) ?_
     ·replace X := xN0 X
      have e97 := (H 5 rfl).2 97 _ rfl (by rw [hFs9]; rfl)
      obtain ⟨⟨a103,c103,e103⟩,O103⟩ := (show ((fun _ _ => catQn (altP o p).fst z0) : FctS) S s' (s' 103) w' from (H 11 rfl).2 103 (fun _ _ => catQn (altP o p).fst z0) rfl (by rw [hFs9]; rfl))
      obtain ⟨⟨a109,c109,e109⟩,O109⟩ := (show ((fun _ _ => catQn (altP o p).lst z0) : FctS) S s' (s' 109) w' from (H 17 rfl).2 109 (fun _ _ => catQn (altP o p).lst z0) rfl (by rw [hFs9]; rfl))
      exact DoesT_pure (r_build (ps := [(0,.bool p.nul),(1,.slice a103 (altP o p).fst.length c103),(2,.slice a109 (altP o p).lst.length c109)]) (v := .agg #[.bool p.nul,.slice a103 (altP o p).fst.length c103,.slice a109 (altP o p).lst.length c109]) (bld3 e97 e103 e109) (by kernel_rfl)) ⟨_,_,_,_,by rw [hnu]; rfl,e103 ▸ O103,e109 ▸ O109⟩
     refine DagStepsS.tail ?_
     exact DagStepsS.nil
    ·intro s' wd9 w9 X0 X9 U H
     replace X9 := X9.mono (M' := none1) (fun y _ h => by
       obtain ⟨j,hj,h⟩ := h
       exact h.elim)
     obtain ⟨a110,c110,d110,f110,e110,O110,Q110⟩ := (show ((fun _ _ => altQ (altP o p).nul (altP o p).fst (altP o p).lst z0) : FctS) (allS [true,true,true,true,true,true,true,true,true,true,true,true,true,true,true,true,true,true,true,false]) s' (s' 110) w9 from H 18 rfl 110 (fun _ _ => altQ (altP o p).nul (altP o p).fst (altP o p).lst z0) rfl (by rw [hFs9]; rfl))
     obtain ⟨j9,rfl⟩ := Fits.out (σ := s') (l := [(0,(.pointer (some ⟨pb,0,none⟩))),(4,(.pointer (some ⟨br,0,none⟩))),(9,(.pointer (some ⟨bo,0,none⟩))),(83,(.slice (some ⟨ab,ao,none⟩) x.args.length ac)),(84,(.int .i64 ((x.args.length : Nat) : Int))),(85,(.int .i64 ((k : Nat) : Int))),(110,(.agg #[(.bool ((altP o p).nul)),(.slice a110 ((altP o p).fst.length) c110),(.slice d110 ((altP o p).lst.length) f110)]))]) ⟨U 0 rfl,U 4 rfl,U 9 rfl,U 83 rfl,U 84 rfl,U 85 rfl,e110,trivial⟩
     clear U H
     replace Br := (X0.trans X9).keep Br
     replace Bo2 := (X0.trans X9).keep Bo2
     replace Bp := (X0.trans X9).keep Bp
     replace X9 := X0.trans X9
     have hXe := X9
     replace E := E.ext X9
     have hv : ∀ k,((Value.slice a110 (altP o p).fst.length c110).ownBlock = some k ∨ (Value.slice d110 (altP o p).lst.length f110).ownBlock = some k) → wp.heap.size ≤ k ∧ k < (w9).heap.size := fun k h => by rw [← hz0]; exact h.elim (fun h => O110.lt k h) (fun h => Q110.lt k h)
     have hG4 := G2.frzS hXe hv
     have hA4 := And.intro (hA2.1.frzS hbl2.1 hv) (hA2.2.frzS hbl2.2 hv)
     have hq1 := frI_of (F := F2) O110 (fun k h => (.inl h : _ ∨ (Value.slice d110 (altP o p).lst.length f110).ownBlock = some k))
     have hq2 := frI_of (F := F2) Q110 (fun k h => (.inr h : (Value.slice a110 (altP o p).fst.length c110).ownBlock = some k ∨ _))
     refine s_storeAgg (b := bo) (o := 0) (c' := #[(.bool ((altP o p).nul)),(.slice a110 ((altP o p).fst.length) c110),(.slice d110 ((altP o p).lst.length) f110)]) rfl rfl (by simp [Value.oneCell']) siz67 rfl Bo2 (by first | (simp; done) | exact Nat.le_of_ble_eq_true rfl) rfl ?_
     intro w10 S10
     replace hG4 := hG4.other S10.chg (fun y e => by rw [show y = bo from e]; exact ⟨by omega,hA4.1⟩)
     replace hq1 := hq1.chg S10.chg (fun y hy e => by rw [show y = bo from e] at hy; exact hA4.1.1 hy)
     replace hq2 := hq2.chg S10.chg (fun y hy e => by rw [show y = bo from e] at hy; exact hA4.1.1 hy)
     replace Br := S10.keep (by omega) Br
     replace Bp := S10.keep (by omega) Bp
     replace E := S10.step E (by first | exact Or.inl (by omega) | exact Or.inr rfl | exact Or.inr (by assumption) | exact Or.inr (by simp) | exact Or.inr (by omega) | exact Or.inr (by dsimp only; omega))
     replace Bo2 := S10.blk
     refine WpL_nil (inB_normal (thn_normal (Wp_region ?_)))
     refine qV (r_add (k := .i64) (a := (k : Int)) (b := 1) (c := (k : Int) + 1) rfl rfl (wI64 (by omega))) ?_
     refine qM (I6 ((k : Int) + 1)) rfl ?_
     refine WpL_nil (thn_normal ?_)
     exact ⟨x.args.length - (k + 1),by omega,k + 1,g2,altP o p,_,s2,f2,v2,a110,c110,d110,f110,Fits.out ⟨rfl,rfl,rfl,rfl,rfl,rfl,trivial⟩,E,Br,Bo2,(by omega),(by rw [hQ,h2]; rfl),hS.alt hok (by omega),hG4,hq1,hq2,hA4,rfl⟩
  ·have khlt := hlt
   replace hlt := of_decide_eq_false hlt
   have hkk : k = x.args.length := by omega
   refine Wp_exit (thn_exit (thn_exit (inB_here (thn_normal (Wp_seq_region ?_)))))
   refine qV (r_loadAgg (vs := [(.bool o.nul),(.slice oa o.fst.length oc),(.slice oa2 o.lst.length oc2)]) rfl agg67 siz67 rfl (Bo.cells rfl)) ?_
   refine s_storeAgg (b := br) (o := 0) (c' := #[(.bool o.nul),(.slice oa o.fst.length oc),(.slice oa2 o.lst.length oc2)]) rfl rfl (by simp [Value.oneCell']) siz67 rfl Br (by first | (simp; done) | exact Nat.le_of_ble_eq_true rfl) rfl ?_
   intro w11 S11
   replace hGk := hGk.other S11.chg (fun y e => by rw [show y = br from e]; exact ⟨by omega,hA.2⟩)
   replace ho1 := ho1.chg S11.chg (fun y hy e => by rw [show y = br from e] at hy; exact hA.2.1 hy)
   replace ho2 := ho2.chg S11.chg (fun y hy e => by rw [show y = br from e] at hy; exact hA.2.1 hy)
   replace Bo := S11.keep (by omega) Bo
   replace E := S11.step E (by first | exact Or.inl (by omega) | exact Or.inr rfl | exact Or.inr (by assumption) | exact Or.inr (by simp) | exact Or.inr (by omega) | exact Or.inr (by dsimp only; omega))
   replace Br := S11.blk
   refine WpL_nil (Wp_ret (inB_ret (thn_ret (finX_ret ?_))))
   refine fin_agg Tryz.results24 (vs := [(.bool o.nul),(.slice oa o.fst.length oc),(.slice oa2 o.lst.length oc2)]) (b := br) rfl agg67 siz67 rfl (Br.cells rfl) ?_
   exact ⟨_,o,_,_,_,_,by rw [gk_4 hk,hQ,hkk,List.drop_length]; rfl,⟨_,_,_,_,rfl,ho1,ho2⟩,hGk⟩
end Go.Proofs
namespace Go.Proofs
open Go.Shelf
def Tryz.sortEd_ren : Go.Shelf.Ren := ⟨fun | 6 => 39 | 15 => 60 | 14 => 73 | 28 => 91 | 29 => 92 | 20 => 95 | 21 => 96 | 22 => 97 | 23 => 98 | 24 => 99 | 25 => 100 | 26 => 101 | 27 => 102 | 46 => 112 | 47 => 108 | 48 => 109 | 49 => 113 | 50 => 114 | 57 => 116 | n => n,fun | 22 => 35 | 24 => 74 | 25 => 91 | 3 => 3 | 39 => 115 | 0 => 0 | 53 => 55 | 55 => 142 | 4 => 4 | 46 => 134 | 45 => 133 | 50 => 139 | 5 => 5 | 9 => 9 | 66 => 151 | 70 => 155 | 76 => 159 | 77 => 86 | n => n,fun | n => n⟩
theorem Tryz.sortEd : Go.Proofs.SlLaysF0.n6 Tryz.prog Tryz.sortEd_ren := {
 mixed := by kernel_rfl
 f6 := ⟨Tryz.f39.name,by decide,Tryz.func39.trans (congrArg some (by kernel_rfl))⟩
 f14 := ⟨Tryz.f73.name,by decide,Tryz.func73.trans (congrArg some (by kernel_rfl))⟩
 f15 := Tryz.func60.trans (congrArg some (by kernel_rfl))
 f20 := ⟨Tryz.f95.name,by decide,Tryz.func95.trans (congrArg some (by kernel_rfl))⟩
 f21 := ⟨Tryz.f96.name,by decide,Tryz.func96.trans (congrArg some (by kernel_rfl))⟩
 f22 := ⟨Tryz.f97.name,by decide,Tryz.func97.trans (congrArg some (by kernel_rfl))⟩
 f23 := ⟨Tryz.f98.name,by decide,Tryz.func98.trans (congrArg some (by kernel_rfl))⟩
 f24 := ⟨Tryz.f99.name,by decide,Tryz.func99.trans (congrArg some (by kernel_rfl))⟩
 f25 := ⟨Tryz.f100.name,by decide,Tryz.func100.trans (congrArg some (by kernel_rfl))⟩
 f26 := ⟨Tryz.f101.name,by decide,Tryz.func101.trans (congrArg some (by kernel_rfl))⟩
 f27 := ⟨Tryz.f102.name,by decide,Tryz.func102.trans (congrArg some (by kernel_rfl))⟩
 f28 := Tryz.func91.trans (congrArg some (by kernel_rfl))
 f29 := Tryz.func92.trans (congrArg some (by kernel_rfl))
 f46 := ⟨Tryz.f112.name,by decide,Tryz.func112.trans (congrArg some (by kernel_rfl))⟩
 f47 := Tryz.func108.trans (congrArg some (by kernel_rfl))
 f48 := Tryz.func109.trans (congrArg some (by kernel_rfl))
 f49 := ⟨Tryz.f113.name,by decide,Tryz.func113.trans (congrArg some (by kernel_rfl))⟩
 f50 := ⟨Tryz.f114.name,by decide,Tryz.func114.trans (congrArg some (by kernel_rfl))⟩
 f57 := ⟨Tryz.f116.name,by decide,Tryz.func116.trans (congrArg some (by kernel_rfl))⟩
 t0 := Tryz.underlying0
 a0 := Tryz.isAgg0
 z0 := Tryz.sizeOf0
 v0 := Tryz.zeroValue0
 t3 := Tryz.underlying3
 a3 := Tryz.isAgg3
 z3 := Tryz.sizeOf3
 v3 := Tryz.zeroValue3
 t4 := Tryz.underlying4
 a4 := Tryz.isAgg4
 z4 := Tryz.sizeOf4
 v4 := Tryz.zeroValue4
 t5 := Tryz.underlying5
 a5 := Tryz.isAgg5
 z5 := Tryz.sizeOf5
 v5 := Tryz.zeroValue5
 t9 := Tryz.underlying9
 a9 := Tryz.isAgg9
 z9 := Tryz.sizeOf9
 v9 := Tryz.zeroValue9
 t22 := Tryz.underlying35
 a22 := Tryz.isAgg35
 z22 := Tryz.sizeOf35
 v22 := Tryz.zeroValue35
 t25 := Tryz.underlying91
 a25 := Tryz.isAgg91
 z25 := Tryz.sizeOf91
 v25 := Tryz.zeroValue91
 t39 := Tryz.underlying115
 a39 := Tryz.isAgg115
 z39 := Tryz.sizeOf115
 v39 := Tryz.zeroValue115
 t45 := Tryz.underlying133
 a45 := Tryz.isAgg133
 z45 := Tryz.sizeOf133
 v45 := Tryz.zeroValue133
 t46 := Tryz.underlying134
 a46 := Tryz.isAgg134
 z46 := Tryz.sizeOf134
 v46 := Tryz.zeroValue134
 t50 := Tryz.underlying139
 a50 := Tryz.isAgg139
 z50 := Tryz.sizeOf139
 v50 := Tryz.zeroValue139
 t53 := Tryz.underlying55
 a53 := Tryz.isAgg55
 z53 := Tryz.sizeOf55
 v53 := Tryz.zeroValue55
 t55 := Tryz.underlying142
 a55 := Tryz.isAgg142
 z55 := Tryz.sizeOf142
 v55 := Tryz.zeroValue142
 t66 := Tryz.underlying151
 a66 := Tryz.isAgg151
 z66 := Tryz.sizeOf151
 v66 := Tryz.zeroValue151
 t70 := Tryz.underlying155
 a70 := Tryz.isAgg155
 z70 := Tryz.sizeOf155
 v70 := Tryz.zeroValue155
 t76 := Tryz.underlying159
 a76 := Tryz.isAgg159
 z76 := Tryz.sizeOf159
 v76 := Tryz.zeroValue159
 t77 := Tryz.underlying86
 a77 := Tryz.isAgg86
 z77 := Tryz.sizeOf86
 v77 := Tryz.zeroValue86 }
def Tryz.sortI_ren : Go.Shelf.Ren := ⟨fun | 189 => 25 | 125 => 60 | 257 => 59 | 128 => 91 | 129 => 92 | 294 => 82 | 295 => 83 | 296 => 84 | 297 => 85 | 298 => 86 | 299 => 87 | 216 => 88 | 300 => 89 | 301 => 90 | 328 => 107 | 329 => 108 | 330 => 109 | 331 => 110 | 332 => 111 | 215 => 103 | 343 => 115 | n => n,fun | 28 => 22 | 3 => 3 | 46 => 115 | 0 => 0 | 51 => 55 | 53 => 142 | 4 => 4 | 183 => 134 | 182 => 133 | 131 => 139 | 5 => 5 | 9 => 9 | 218 => 151 | 222 => 155 | 228 => 159 | 229 => 86 | n => n,fun | n => n⟩
theorem Tryz.sortI : Go.Proofs.Lays.n189 Tryz.prog Tryz.sortI_ren := {
 mixed := by kernel_rfl
 f125 := Tryz.func60.trans (congrArg some (by kernel_rfl))
 f128 := Tryz.func91.trans (congrArg some (by kernel_rfl))
 f129 := Tryz.func92.trans (congrArg some (by kernel_rfl))
 f189 := Tryz.func25.trans (congrArg some (by kernel_rfl))
 f215 := Tryz.func103.trans (congrArg some (by kernel_rfl))
 f216 := Tryz.func88.trans (congrArg some (by kernel_rfl))
 f257 := Tryz.func59.trans (congrArg some (by kernel_rfl))
 f294 := Tryz.func82.trans (congrArg some (by kernel_rfl))
 f295 := Tryz.func83.trans (congrArg some (by kernel_rfl))
 f296 := Tryz.func84.trans (congrArg some (by kernel_rfl))
 f297 := Tryz.func85.trans (congrArg some (by kernel_rfl))
 f298 := Tryz.func86.trans (congrArg some (by kernel_rfl))
 f299 := Tryz.func87.trans (congrArg some (by kernel_rfl))
 f300 := Tryz.func89.trans (congrArg some (by kernel_rfl))
 f301 := Tryz.func90.trans (congrArg some (by kernel_rfl))
 f328 := Tryz.func107.trans (congrArg some (by kernel_rfl))
 f329 := Tryz.func108.trans (congrArg some (by kernel_rfl))
 f330 := Tryz.func109.trans (congrArg some (by kernel_rfl))
 f331 := Tryz.func110.trans (congrArg some (by kernel_rfl))
 f332 := Tryz.func111.trans (congrArg some (by kernel_rfl))
 f343 := Tryz.func115.trans (congrArg some (by kernel_rfl))
 t0 := Tryz.underlying0
 a0 := Tryz.isAgg0
 z0 := Tryz.sizeOf0
 v0 := Tryz.zeroValue0
 t3 := Tryz.underlying3
 a3 := Tryz.isAgg3
 z3 := Tryz.sizeOf3
 v3 := Tryz.zeroValue3
 t4 := Tryz.underlying4
 a4 := Tryz.isAgg4
 z4 := Tryz.sizeOf4
 v4 := Tryz.zeroValue4
 t5 := Tryz.underlying5
 a5 := Tryz.isAgg5
 z5 := Tryz.sizeOf5
 v5 := Tryz.zeroValue5
 t9 := Tryz.underlying9
 a9 := Tryz.isAgg9
 z9 := Tryz.sizeOf9
 v9 := Tryz.zeroValue9
 t28 := Tryz.underlying22
 a28 := Tryz.isAgg22
 z28 := Tryz.sizeOf22
 v28 := Tryz.zeroValue22
 t46 := Tryz.underlying115
 a46 := Tryz.isAgg115
 z46 := Tryz.sizeOf115
 v46 := Tryz.zeroValue115
 t51 := Tryz.underlying55
 a51 := Tryz.isAgg55
 z51 := Tryz.sizeOf55
 v51 := Tryz.zeroValue55
 t53 := Tryz.underlying142
 a53 := Tryz.isAgg142
 z53 := Tryz.sizeOf142
 v53 := Tryz.zeroValue142
 t131 := Tryz.underlying139
 a131 := Tryz.isAgg139
 z131 := Tryz.sizeOf139
 v131 := Tryz.zeroValue139
 t182 := Tryz.underlying133
 a182 := Tryz.isAgg133
 z182 := Tryz.sizeOf133
 v182 := Tryz.zeroValue133
 t183 := Tryz.underlying134
 a183 := Tryz.isAgg134
 z183 := Tryz.sizeOf134
 v183 := Tryz.zeroValue134
 t218 := Tryz.underlying151
 a218 := Tryz.isAgg151
 z218 := Tryz.sizeOf151
 v218 := Tryz.zeroValue151
 t222 := Tryz.underlying155
 a222 := Tryz.isAgg155
 z222 := Tryz.sizeOf155
 v222 := Tryz.zeroValue155
 t228 := Tryz.underlying159
 a228 := Tryz.isAgg159
 z228 := Tryz.sizeOf159
 v228 := Tryz.zeroValue159
 t229 := Tryz.underlying86
 a229 := Tryz.isAgg86
 z229 := Tryz.sizeOf86
 v229 := Tryz.zeroValue86 }
def Tryz.compI_ren : Go.Shelf.Ren := ⟨fun | 20 => 26 | n => n,fun | 22 => 22 | 3 => 3 | 4 => 4 | 0 => 0 | n => n,fun | n => n⟩
theorem Tryz.compI : Go.Proofs.Lays2.n20 Tryz.prog Tryz.compI_ren := {
 mixed := by kernel_rfl
 f20 := Tryz.func26.trans (congrArg some (by kernel_rfl))
 t0 := Tryz.underlying0
 a0 := Tryz.isAgg0
 z0 := Tryz.sizeOf0
 v0 := Tryz.zeroValue0
 t3 := Tryz.underlying3
 a3 := Tryz.isAgg3
 z3 := Tryz.sizeOf3
 v3 := Tryz.zeroValue3
 t4 := Tryz.underlying4
 a4 := Tryz.isAgg4
 z4 := Tryz.sizeOf4
 v4 := Tryz.zeroValue4
 t22 := Tryz.underlying22
 a22 := Tryz.isAgg22
 z22 := Tryz.sizeOf22
 v22 := Tryz.zeroValue22
 i3 := by kernel_rfl }
end Go.Proofs
namespace Go.Proofs
open Go Go.Eng Go.Sort
abbrev TInt : Nat := 3
theorem ownI_holds {w : World} {base g n c : Nat} {l : List Int} (h : w.ownsRow base TInt 1 (.slice (some ⟨g,0,none⟩) n c) n (l.map (Value.int .i64))) : Sort.Holds (Value.int .i64) w g 0 l.toArray := by
 intro j hj
 simp only [List.size_toArray] at hj
 have hx : l[j]? = some l[j] := List.getElem?_eq_getElem hj
 have h1 := h.cells (g := g) rfl j (.int .i64 l[j]) (by simp [hx])
 rw [Addr.add_lit] at h1
 have he : l.toArray[j]! = l[j] := by rw [getElem!_pos l.toArray j (by simpa using hj)]; simp
 rw [he]
 refine ⟨h1,?_⟩
 rcases h.2 with ⟨h1,_⟩ | ⟨g',cap,cur,hv,_,hg,_⟩
 ·simp at h1
 ·simp only [Value.slice.injEq,Option.some.injEq,Addr.mk.injEq,and_true] at hv
  obtain ⟨rfl,_⟩ := hv
  simp [World.frozen?,hg]
theorem holds_ints {w : World} {g n c : Nat} {l : List Int} (h : Sort.Holds (Value.int .i64) w g 0 l.toArray) (hn : l.length = n) (hc : n ≤ c) (hl : n ≤ 9223372036854775807) : IntsAt w (.slice (some ⟨g,0,none⟩) n c) l := by
 refine ⟨_,c,by simp [hn],by simp; omega,by simp; omega,.inr ⟨g,0,rfl,fun i r hr j u hu => ?_⟩⟩
 simp only [List.getElem?_map,Option.map_eq_some_iff] at hr
 obtain ⟨x,hx,rfl⟩ := hr
 have hi := lt_of_get hx
 have hj : j < 1 := by have := lt_of_get hu; simpa [intV] using this
 obtain rfl : j = 0 := by omega
 have h1 := (h i (by simpa using hi)).1
 have he : l.toArray[i]! = x := by
  rw [getElem!_pos l.toArray i (by simpa using hi)]
  rw [List.getElem?_eq_getElem hi] at hx
  simpa using hx
 rw [he] at h1
 simp [intV] at hu
 subst hu
 simpa using h1
theorem putRowS_chg {α : Type} [Inhabited α] (enc : α → Value) (w : World) (g off m : Nat) (dk : Array α) (os : Array Obj) : Chg (fun x => x = g) w (grow (putRow enc (Sort.ahead w m) g off dk) os) := by
 refine ⟨rfl,rfl,rfl,Nat.le_add_right _ _,?_,fun b hb hne => ?_⟩
 ·simp [grow,putRow,mapBlock,Sort.ahead]
 ·simp only [grow,putRow,mapBlock,Sort.ahead]
  rw [Array.getElem?_append_left (by simpa using hb),Array.getElem?_modify,if_neg (fun h => hne h.symm)]
def leB (x y : Int) : Bool := decide (x ≤ y)
theorem sorti_h (w0 : World) (base g c : Nat) (l : List Int) (h : w0.ownsRow base TInt 1 (.slice (some ⟨g,0,none⟩) l.length c) l.length (l.map (Value.int .i64))) (hl : l.length ≤ 17592186044416) :
  Ret Tryz.prog 25 #[.slice (some ⟨g,0,none⟩) l.length c] w0 fun r w => r = .tuple #[] ∧ Sort.Holds (Value.int .i64) w g 0 (l.mergeSort leB).toArray ∧ Chg (fun x => x = g) w0 w := by
 have hH := ownI_holds h
 have hblk : g < w0.heap.size := (h.lt g rfl).2
 refine Calls.mono (Any.slices_Sort_int Tryz.sortI g 0 c l w0 hH hblk (by omega)) ?_
 rintro e w' ⟨rfl,n,os,rfl⟩
 refine ⟨_,rfl,rfl,?_,putRowS_chg _ w0 g 0 n _ os⟩
 exact holds_grow _ _ os g 0 _ (by simpa [putRow,mapBlock,Sort.ahead] using hblk) (holds_putRow _ (Sort.ahead w0 n) g 0 l.toArray _ hH (by simp))
theorem compi_c (w0 : World) (g c : Nat) (l : List Int) (hH : Sort.Holds (Value.int .i64) w0 g 0 l.toArray) (hc : l.length ≤ c ∧ c ≤ 9223372036854775807) :
  Ret Tryz.prog 26 #[.slice (some ⟨g,0,none⟩) l.length c] w0 fun r w => r = .slice (some ⟨g,0,none⟩) (Lib.compact l).length c ∧ IntsAt w r (Lib.compact l) ∧ Chg (fun x => x = g) w0 w := by
 refine Calls.mono (Any.slices_Compact_int Tryz.compI g 0 c l w0 hH (by omega) hc.1) ?_
 rintro e w' ⟨rfl,q,rfl⟩
 have hlen : (Lib.compact l).length ≤ l.length := by
  unfold Lib.compact Lib.compactUpTo
  rw [List.length_map]
  exact Nat.le_trans (List.length_filter_le _ _) (by simp)
 have hcg := putRowS_chg (Value.int .i64) w0 g 0 q (Lib.compact l ++ List.replicate (l.length - (Lib.compact l).length) 0).toArray #[]
 have hgr : ∀ w : World,grow w #[] = w := fun w => by simp [grow]
 rw [hgr] at hcg
 refine ⟨_,rfl,rfl,?_,hcg⟩
 have hh : Sort.Holds (Value.int .i64) (putRow (Value.int .i64) (Sort.ahead w0 q) g 0 (Lib.compact l ++ List.replicate (l.length - (Lib.compact l).length) 0).toArray) g 0 (Lib.compact l ++ List.replicate (l.length - (Lib.compact l).length) 0).toArray :=
  holds_putRow _ (Sort.ahead w0 q) g 0 l.toArray _ hH (by simp; omega)
 have hh2 : Sort.Holds (Value.int .i64) (putRow (Value.int .i64) (Sort.ahead w0 q) g 0 (Lib.compact l ++ List.replicate (l.length - (Lib.compact l).length) 0).toArray) g 0 (Lib.compact l).toArray := by
  intro j hj
  simp only [List.size_toArray] at hj
  have h1 := hh j (by simp; omega)
  rw [getElem!_pos _ j (by simp; omega)] at h1
  rw [getElem!_pos _ j (by simpa using hj)]
  simpa [List.getElem_append_left hj] using h1
 exact holds_ints (l := Lib.compact l) hh2 rfl (by omega) (by omega)
theorem compact_step {l : List Int} (hs : l.Pairwise (· ≤ ·)) : ∀ m,m ≤ l.length → (Lib.compactUpTo l.toArray m).Pairwise (· < ·) ∧ ∀ x,x ∈ Lib.compactUpTo l.toArray m ↔ x ∈ l.take m := by
  intro m
  induction m with
  | zero => intro _; simp [Lib.compactUpTo]
  | succ m ih =>
    intro hm
    obtain ⟨h1,h2⟩ := ih (by omega)
    have hx : l[m]? = some l[m] := List.getElem?_eq_getElem (by omega)
    have hg : l.toArray[m]! = l[m] := by rw [getElem!_pos _ m (by simp; omega)]; simp
    rw [Lib.compactUpTo_succ,(show l.take (m + 1) = l.take m ++ [l[m]] by rw [List.take_add_one,hx]; rfl)]
    have hle : ∀ x ∈ l.take m,∃ j,j < m ∧ ∃ hj : j < l.length,l[j] = x := fun x hx => by
      obtain ⟨j,hj⟩ := List.mem_iff_getElem?.1 hx
      have h3 := lt_of_get hj
      rw [List.length_take] at h3
      have h31 : j < m := by omega
      have h32 : j < l.length := by omega
      rw [List.getElem?_take,if_pos h31,List.getElem?_eq_getElem h32] at hj
      exact ⟨j,h31,h32,Option.some.inj hj⟩
    have hmono : ∀ (i j : Nat) (hi : i < l.length) (hj : j < l.length),i ≤ j → l[i] ≤ l[j] := fun i j hi hj hij => by
      rcases Nat.eq_or_lt_of_le hij with h3 | h3
      · subst h3; exact Int.le_refl _
      · exact List.pairwise_iff_getElem.1 hs i j hi hj h3
    by_cases hk : Lib.keeps l.toArray m = true
    · rw [if_pos hk,hg]
      have hlt : ∀ x ∈ l.take m,x < l[m] := fun x hx => by
        obtain ⟨j,hjm,hj,rfl⟩ := hle x hx
        have h4 : l[j] ≤ l[m - 1] := hmono j (m - 1) hj (by omega) (by omega)
        have h5 : l[m - 1] ≤ l[m] := hmono (m - 1) m (by omega) (by omega) (by omega)
        have h6 : l[m] ≠ l[m - 1] := by
          unfold Lib.keeps at hk
          rw [decide_eq_true_eq] at hk
          rcases hk with h7 | h7
          · omega
          · rw [hg,getElem!_pos _ (m - 1) (by simp; omega)] at h7; simpa using h7
        omega
      refine ⟨?_,fun x => by rw [List.mem_append,List.mem_append,h2 x]⟩
      rw [List.pairwise_append]
      exact ⟨h1,by simp,fun x hx y hy => by rw [List.mem_singleton] at hy; subst hy; exact hlt x ((h2 x).1 hx)⟩
    · rw [if_neg hk,List.append_nil]
      refine ⟨h1,fun x => ?_⟩
      rw [h2 x,List.mem_append,List.mem_singleton]
      constructor
      · exact .inl
      · rintro (h3 | h3)
        · exact h3
        · have h4 : m ≠ 0 ∧ l.toArray[m]! = l.toArray[m - 1]! := by
            unfold Lib.keeps at hk
            simp only [decide_eq_true_eq,not_or,Decidable.not_not] at hk
            exact hk
          rw [hg,getElem!_pos _ (m - 1) (by simp; omega)] at h4
          have h5 : l[m] = l[m - 1] := by simpa using h4.2
          rw [h3,h5]
          exact List.mem_iff_getElem?.2 ⟨m - 1,by rw [List.getElem?_take,if_pos (by omega),List.getElem?_eq_getElem (by omega)]⟩
theorem compact_sorted (l : List Int) : (Lib.compact (l.mergeSort leB)).Pairwise (· < ·) ∧ ∀ x,x ∈ Lib.compact (l.mergeSort leB) ↔ x ∈ l := by
 have hs : (l.mergeSort leB).Pairwise (· ≤ ·) := by
  have := List.pairwise_mergeSort (le := leB) (fun a b c h1 h2 => by simp [leB] at *; omega) (fun a b => by simp [leB]; omega) l
  exact this.imp fun h => by simpa [leB] using h
 have h := compact_step hs (l.mergeSort leB).length (Nat.le_refl _)
 refine ⟨h.1,fun x => ?_⟩
 have h2 := h.2 x
 rw [List.take_length,List.mem_mergeSort] at h2
 exact h2
theorem bitsLenI_c (w0 : World) : Ret Tryz.prog 60 #[.int .u64 0] w0 fun v w => v = .int .i64 (Lib.bitLen 0 : Nat) ∧ Ext w0 w :=
 (Any.bits_Len (P := Tryz.prog) (ρ := Tryz.sortI_ren) { Tryz.sortI with } 0 w0 (by omega) (by omega)).mono fun _ _ ⟨he,hw⟩ => ⟨_,he,rfl,by rw [hw]; exact Ext.refl _⟩
theorem ins0I_c (w0 : World) (a : Option Addr) (c : Nat) : Ret Tryz.prog 82 #[.slice a 0 c,.int .i64 0,.int .i64 0] w0 fun v w => v = .tuple #[] ∧ Ext w0 w := by
 refine Ret_of Tryz.func82 rfl Tryz.ntmps82 (Nat.le_of_ble_eq_true rfl) ?_
 have E : Chg none1 w0 w0 := Chg.refl _ _
 refine Wp_seq_region ?_
 refine qM (I6 0) rfl ?_
 refine qV (r_add (k := .i64) (a := 0) (b := 1) (c := 1) rfl rfl (by decide)) ?_
 refine qA (I6 1) rfl ?_
 refine WpL_nil (Wp_block ?_)
 refine Wp_loop (fun nn_ σ W1 => (∃ jj_,σ = upds jj_ [(0,(.slice a 0 c)),(1,(I6 0)),(2,(I6 0)),(6,(I6 1))]) ∧ Chg none1 w0 W1 ∧ nn_ = (0 : Nat)) (n := (0 : Nat)) ?_ ?_
 ·exact ⟨Fits.out ⟨rfl,rfl,rfl,rfl,trivial⟩,E,rfl⟩
 ·clear E
  rintro _ _ W1 ⟨⟨j1,rfl⟩,E,rfl⟩
  refine Wp_seq (Wp_seq_region ?_)
  refine qM (I6 1) rfl ?_
  refine qM (I6 0) rfl ?_
  refine qV (r_lss (k := .i64) (a := 1) (b := 0) rfl rfl) ?_
  refine WpL_nil ?_
  refine Wp_cond_false rfl ?_
  refine Wp_exit (thn_exit (thn_exit (inB_here ?_)))
  refine fin_none Tryz.results82 ?_
  exact ⟨rfl,E⟩
theorem pdq0I_c (w0 : World) (a : Option Addr) (c : Nat) (n : Int) : Ret Tryz.prog 59 #[.slice a 0 c,.int .i64 0,.int .i64 0,.int .i64 n] w0 fun v w => v = .tuple #[] ∧ Ext w0 w := by
 refine Ret_of Tryz.func59 rfl Tryz.ntmps59 (Nat.le_of_ble_eq_true rfl) ?_
 have E : Chg none1 w0 w0 := Chg.refl _ _
 refine Wp_seq_region ?_
 refine qA (.bool true) rfl ?_
 refine WpL_nil (Wp_seq_region ?_)
 refine qA (.bool true) rfl ?_
 refine WpL_nil (Wp_block ?_)
 refine Wp_loop (fun nn_ σ W1 => (∃ jj_,σ = upds jj_ [(0,(.slice a 0 c)),(1,(I6 0)),(2,(I6 0))]) ∧ Chg none1 w0 W1 ∧ nn_ = (0 : Nat)) (n := (0 : Nat)) ?_ ?_
 ·exact ⟨Fits.out ⟨rfl,rfl,rfl,trivial⟩,E,rfl⟩
 ·clear E
  rintro _ _ W1 ⟨⟨j1,rfl⟩,E,rfl⟩
  refine Wp_block (Wp_seq_region ?_)
  refine qM (I6 0) rfl ?_
  refine qM (I6 0) rfl ?_
  refine qV (r_sub (k := .i64) (a := 0) (b := 0) (c := 0) rfl rfl (by decide)) ?_
  refine qA (I6 0) rfl ?_
  refine WpL_nil (Wp_seq (Wp_seq_region ?_))
  refine qM (I6 0) rfl ?_
  refine qV (r_leq (k := .i64) (a := 0) (b := 12) rfl rfl) ?_
  refine WpL_nil ?_
  refine Wp_cond_true rfl ?_
  refine Wp_seq_region ?_
  refine qM (.slice a 0 c) rfl ?_
  refine qM (I6 0) rfl ?_
  refine qM (I6 0) rfl ?_
  refine WpL_enter rfl rfl (by decide) (r_callF (vs := [(.slice a 0 c),(I6 0),(I6 0)]) Tryz.func82 kQ kQ rfl) (ins0I_c _ a c) ?_
  rintro _ w9 ⟨rfl,X9⟩
  replace E := E.ext X9
  refine WpL_nil (Wp_ret (thn_ret (inB_ret (thn_ret (inB_ret ?_)))))
  refine fin_noneR Tryz.results59 ?_
  exact ⟨rfl,E⟩
theorem sort0I_c (w0 : World) (a : Option Addr) (c : Nat) : Ret Tryz.prog 25 #[.slice a 0 c] w0 fun v w => v = .tuple #[] ∧ Ext w0 w := by
 refine Ret_of Tryz.func25 rfl Tryz.ntmps25 (Nat.le_of_ble_eq_true rfl) ?_
 have E : Chg none1 w0 w0 := Chg.refl _ _
 refine Wp_seq_region ?_
 refine qM (.slice a 0 c) rfl ?_
 refine qV (r_lenSlice (ad := a) (n := 0) (cap := c) Tryz.underlying22 rfl) ?_
 refine qA (I6 0) rfl ?_
 refine WpL_nil (Wp_region ?_)
 refine qM (.slice a 0 c) rfl ?_
 refine qM (I6 0) rfl ?_
 refine qM (I6 0) rfl ?_
 refine qV (r_convInt (k := .i64) (k' := .u64) (n := 0) (c := 0) ⟨_,Tryz.underlying3⟩ Tryz.underlying115 rfl (wU64 (by omega))) ?_
 refine WpL_enter rfl rfl (by decide) (r_callF (vs := [(.int .u64 0)]) Tryz.func60 kQ kQ rfl) (bitsLenI_c _) ?_
 rintro _ w8 ⟨rfl,X8⟩
 replace E := E.ext X8
 refine WpL_enter rfl rfl (by decide) (r_callF (vs := [(.slice a 0 c),(I6 0),(I6 0),(I6 (Lib.bitLen 0 : Nat))]) Tryz.func59 kQ kQ rfl) (pdq0I_c _ a c _) ?_
 rintro _ w9 ⟨rfl,X9⟩
 replace E := E.ext X9
 refine WpL_nil ?_
 refine fin_none Tryz.results25 ?_
 exact ⟨rfl,E⟩
theorem comp0I_c (w0 : World) (a : Option Addr) (c : Nat) : Ret Tryz.prog 26 #[.slice a 0 c] w0 fun v w => v = .slice a 0 c ∧ Ext w0 w := by
 refine Ret_of Tryz.func26 rfl Tryz.ntmps26 (Nat.le_of_ble_eq_true rfl) ?_
 have E : Chg none1 w0 w0 := Chg.refl _ _
 refine Wp_seq_region ?_
 refine qA (.slice none 0 0) rfl ?_
 refine WpL_nil (Wp_seq (Wp_seq_region ?_))
 refine qM (.slice a 0 c) rfl ?_
 refine qV (r_lenSlice (ad := a) (n := 0) (cap := c) Tryz.underlying22 rfl) ?_
 refine qV (r_lss (k := .i64) (a := 0) (b := 2) rfl rfl) ?_
 refine WpL_nil ?_
 refine Wp_cond_true rfl ?_
 refine Wp_seq_region ?_
 refine qM (.slice a 0 c) rfl ?_
 refine qA (.slice a 0 c) rfl ?_
 refine WpL_nil (Wp_ret (thn_ret ?_))
 refine fin_tmp Tryz.results26 (v := (.slice a 0 c)) rfl ?_
 exact ⟨rfl,E⟩
/-- Sorted numbers in memory of one's own, or none. -/
def SrtAt (base : Nat) (w : World) (v : Value) (l : List Int) : Prop := ∃ a c,v = .slice a l.length c ∧ (l = [] ∨ ∃ g,a = some ⟨g,0,none⟩ ∧ base ≤ g ∧ g < w.heap.size ∧ Sort.Holds (Value.int .i64) w g 0 l.toArray ∧ l.length ≤ c ∧ c ≤ 9223372036854775807)
theorem sortW_c (w0 : World) (base n : Nat) (a : Option Addr) (c : Nat) (l : List Int) (hn : n = l.length) (h : l = [] ∨ w0.ownsRow base TDI 1 (.slice a n c) n (l.map (Value.int .i64))) (hl : n ≤ 17592186044416) :
  Ret Tryz.prog 25 #[.slice a n c] w0 fun r w => r = .tuple #[] ∧ SrtAt base w (.slice a n c) (l.mergeSort leB) ∧ Chg (fun x => l ≠ [] ∧ (Value.slice a n c).ownBlock = some x) w0 w := by
 subst hn
 have hlen : (l.mergeSort leB).length = l.length := List.length_mergeSort _
 rcases Classical.em (l = []) with h0 | h0
 ·subst h0
  exact (sort0I_c w0 a c).mono fun v w ⟨h1,h2⟩ => ⟨h1,⟨a,c,by rw [hlen],.inl (by simp)⟩,Ext.chg h2⟩
 ·have h := h.resolve_left h0
  rcases h.2 with ⟨_,h1⟩ | ⟨g,cap,cur,hv,hbg,hg,hnc,hcm,hcs,htake⟩
  ·exact absurd (List.eq_nil_of_length_eq_zero (by simpa using h1)) h0
  ·simp only [Value.slice.injEq] at hv
   obtain ⟨rfl,_,rfl⟩ := hv
   have hgl := (h.lt g rfl).2
   refine (sorti_h w0 base g c l h hl).mono ?_
   rintro r w ⟨rfl,hH,hC⟩
   refine ⟨rfl,⟨_,_,by rw [hlen],.inr ⟨g,rfl,hbg,Nat.lt_of_lt_of_le hgl hC.size,hH,by rw [hlen]; exact hnc,by unfold maxLen at hcm; omega⟩⟩,hC.mono fun x _ hx => ⟨h0,by have e : x = g := hx; rw [e]; rfl⟩⟩
theorem compW_c (w0 : World) (base : Nat) (v : Value) (l : List Int) (h : SrtAt base w0 v l) :
  Ret Tryz.prog 26 #[v] w0 fun r w => (∃ a c,r = .slice a (Lib.compact l).length c ∧ IntsAt w (.slice a (Lib.compact l).length c) (Lib.compact l) ∧ (Lib.compact l = [] ∨ ∃ b,(Value.slice a (Lib.compact l).length c).ownBlock = some b ∧ base ≤ b ∧ b < w.heap.size)) ∧ Chg (fun x => l ≠ [] ∧ v.ownBlock = some x) w0 w := by
 obtain ⟨a,c,rfl,h⟩ := h
 rcases Classical.em (l = []) with h0 | h0
 ·subst h0
  refine (comp0I_c w0 a c).mono ?_
  rintro r w ⟨rfl,x⟩
  exact ⟨⟨a,c,rfl,SlAt.nil w 1 _ _,.inl rfl⟩,Ext.chg x⟩
 ·obtain ⟨g,rfl,hb,hg,hH,hc⟩ := h.resolve_left h0
  refine (compi_c w0 g c l hH hc).mono ?_
  rintro r w ⟨rfl,hI,hC⟩
  exact ⟨⟨_,c,rfl,hI,.inr ⟨g,rfl,hb,Nat.lt_of_lt_of_le hg hC.size⟩⟩,hC.mono fun x _ hx => ⟨h0,by have e : x = g := hx; rw [e]; rfl⟩⟩
theorem cloneX_c (w0 : World) (base b o c : Nat) (l : List Int) (hbase : base = w0.heap.size) (h1 : 0 < l.length) (hl : l.length ≤ 2000000) (hcl : ∀ (i : Nat) x,l[i]? = some x → w0.cell? ⟨b,o + i,none⟩ = some (.int .i64 x)) :
  Ret Tryz.prog 27 #[.slice (some ⟨b,o,none⟩) l.length c] w0 fun r w => (∃ a c,r = .slice a l.length c ∧ (l = [] ∨ w.ownsRow base TDI 1 (.slice a l.length c) l.length (l.map (Value.int .i64)))) ∧ Ext w0 w := by
 refine Ret_of Tryz.func27 rfl Tryz.ntmps27 (Nat.le_of_ble_eq_true rfl) ?_
 have E : Chg none1 w0 w0 := Chg.refl _ _
 refine Wp_seq_region ?_
 refine qA (.slice none 0 0) rfl ?_
 refine WpL_nil (Wp_seq (Wp_seq_region ?_))
 refine qM (.slice (some ⟨b,o,none⟩) l.length c) rfl ?_
 refine WpL_val (v := (.bool ((some (⟨b,o,none⟩ : Addr)).isNone))) rfl rfl (by decide) (r_eqlNil Tryz.underlying22 rfl rfl) ?_
 refine WpL_nil ?_
 have hc1 : ((some (⟨b,o,none⟩ : Addr)).isNone) = false := rfl
 refine Wp_cond_false (congrArg Value.bool hc1) ?_
 refine Wp_skip (thn_normal (Wp_seq_region ?_))
 refine s_build0 (by decide) Tryz.underlying22 siz3 ?_
 intro bq wq Nq
 have Fq := Nq.ge E
 replace E := E.ext Nq.ext
 have Bq := Nq.blk
 refine qM (.slice (some ⟨b,o,none⟩) l.length c) rfl ?_
 have hown := own_empty (base := base) (size := 1) Bq (by omega)
 have hbs : base ≤ wq.heap.size := by have := Nq.ext.size; omega
 refine s_append (base := base) (n := 0) (m := l.length) (xs := []) (news := l.map (Value.int .i64)) (size := 1) (bytes := 8) (v := (.slice (some ⟨bq,0,none⟩) 0 0)) (by decide) Tryz.underlying22 siz3 byt3 zer3 rfl (by decide) rfl hown rfl (by simp) (fun i u hu => by rw [List.getElem?_map,Option.map_eq_some_iff] at hu; obtain ⟨x,hx,rfl⟩ := hu; exact Nq.ext.cell (hcl i x hx)) (by simp [Value.oneCell']) (by unfold maxLen; omega) (by omega) (hbs) ?_
 intro v9 w29 Ov9 Cv9 Dv9
 replace E := E.step Cv9 (fun x hx h => absurd (hown.lt x h).1 (by omega))
 obtain ⟨la,lc,rfl⟩ := own_form Ov9
 refine qA (.slice la (0 + l.length) lc) rfl ?_
 refine WpL_nil (Wp_ret ?_)
 refine fin_tmp Tryz.results27 (v := (.slice la (0 + l.length) lc)) rfl ?_
 simp only [Nat.zero_add,List.nil_append] at Ov9 ⊢
 exact ⟨⟨la,lc,rfl,.inr Ov9⟩,E⟩
/-- A copy. -/
theorem cloneW_c (w0 : World) (v : Value) (l : List Int) (h : IntsAt w0 v l) (hl : l.length ≤ 2000000) :
  Ret Tryz.prog 27 #[v] w0 fun r w => (∃ a c,r = .slice a l.length c ∧ (l = [] ∨ w.ownsRow w0.heap.size TDI 1 (.slice a l.length c) l.length (l.map (Value.int .i64)))) ∧ Ext w0 w := by
 rcases Classical.em (l = []) with h0 | h0
 ·refine (clonei_c w0 v l h hl).mono ?_
  rintro r w ⟨a,c,rfl,_,_,x⟩
  exact ⟨⟨a,c,rfl,.inl h0⟩,x⟩
 ·have h1 := List.length_pos_iff.2 h0
  obtain ⟨a,c,rfl⟩ := SlAt.form h
  rw [List.length_map] at h ⊢
  obtain ⟨base,hbase⟩ : ∃ base,base = w0.heap.size := ⟨_,rfl⟩
  rw [← hbase]
  obtain ⟨b,o,rfl,hcl⟩ := ints_cells h h1
  exact cloneX_c w0 base b o c l hbase h1 hl hcl
def cpF (F : Nat → Prop) (w0 : World) (base pb : Nat) (pv xv : Value) (f : TF) (s : ThS) (a : Nat) (out : Bool) : Fct := fun v w => ∃ s' e F' pv' xv',copyT f s a out = some (s',e) ∧ v = nI e ∧ GrT F w0 base pb pv xv F' pv' xv' s' w
theorem cpF_ext {F : Nat → Prop} {w0 : World} {base pb : Nat} {pv xv : Value} {f : TF} {s : ThS} {a : Nat} {out : Bool} : ∀ v w w',Ext w w' → cpF F w0 base pb pv xv f s a out v w → cpF F w0 base pb pv xv f s a out v w' := by
 rintro v w w' e ⟨s',e',F',pv',xv',h1,h2,h3⟩
 exact ⟨s',e',F',pv',xv',h1,h2,h3.ext e⟩
theorem cp_of {F : Nat → Prop} {w0 w1 w : World} {base pb : Nat} {pv xv v : Value} {f : TF} {s s0 : ThS} {a : Nat} {out : Bool} (h : TSt F w0 base pb pv xv s0) (e : Ext w0 w1) (g : cpF F w1 base pb pv xv f s a out v w) : cpF F w0 base pb pv xv f s a out v w := by
 obtain ⟨s',e',F',pv',xv',h1,h2,h3⟩ := g
 exact ⟨s',e',F',pv',xv',h1,h2,((GrT.start h).ext e).comp h3⟩
theorem tof6_c (wb : World) (x : Re) (hk : x.kind = 6) (ha : x.args.length = 1) (hmx : x.mx ≤ 1000) (hof : ∀ y ∈ x.args,ThOf wb y) : ThOf wb x := by
 intro base pb F w0 pv xv s vs hxt hE hF hP hL
 have hxt0 := hxt
 obtain ⟨sa,sc,aa,ac,rfl,hset,hlen,hargs⟩ := hxt.form
 obtain ⟨y,hy⟩ := args_one9 ha
 have hym : y ∈ x.args := by rw [hy]; exact List.mem_singleton_self y
 obtain ⟨ab,ao,rfl,hres⟩ := args_at hargs (by omega)
 obtain ⟨us,hus,hyt⟩ := hres.get (i := 0) (t := y) (by rw [hy]; rfl)
 have hyt0 := hyt
 obtain ⟨ysa,ysc,yaa,yac,rfl,_,_,_⟩ := hyt.form
 refine RetX_of Tryz.func37 rfl Tryz.ntmps37 (Nat.le_of_ble_eq_true rfl) ?_
 have E : Chg (fun _ => True) w0 w0 := Chg.refl _ _
 refine Wp_seq_region ?_
 refine s_box (v := (.agg (R6 x sa sc (some ⟨ab,ao,none⟩) ac))) (c := (R6 x sa sc (some ⟨ab,ao,none⟩) ac)) (by decide) rfl rfl ?_
 intro br wr Nr
 have Fr := Nr.ge E
 replace E := E.ext Nr.ext
 have Br := Nr.blk
 refine qA (I6 0) rfl ?_
 refine qA (I6 0) rfl ?_
 refine WpL_nil (Wp_seq_region ?_)
 refine qM (P6 pb 0) rfl ?_
 have G1 := (GrT.start hP).frz Nr.ext (b := br) (by rw [Nr.eq]; exact Nat.le_refl _) Br.lt
 refine WpL_enterX rfl rfl (by decide) (r_callF (vs := [(P6 pb 0)]) Tryz.func68 kQ kQ rfl) (tstate_c _ _ base pb _ _ s G1.st hL.2.2) (fun w' h => And.intro rfl ⟨tm_no h.1,G1.pan h.2⟩) ?_
 rintro _ w19 ⟨s1,h1,rfl,G2⟩
 replace Br := G2.chg.keep (G1.st.kept (.inr rfl)) Br
 replace E := E.step G2.chg (fun _ _ _ => trivial)
 have hL1 := hL.new h1
 replace G2 := G1.comp G2
 refine qA (I6 (s.n : Int)) rfl ?_
 refine WpL_nil (Wp_seq (Wp_seq_region ?_))
 refine qF br 0 0 rfl Tryz.underlying27 rfl siz3 rfl ?_
 refine qV (r_load (v := (I6 x.kind)) rfl flat3 (Br.cell rfl)) ?_
 refine WpL_nil (Wp_block (Wp_seq_region ?_))
 refine qV (r_eql (k := .i64) (a := x.kind) (b := 0) rfl rfl) ?_
 refine qA (.bool (decide ((x.kind : Int) = 0))) rfl ?_
 refine WpL_nil ?_
 have hc1 : (decide ((x.kind : Int) = 0)) = false := decide_eq_false (by omega)
 refine Wp_cond_false (congrArg Value.bool hc1) ?_
 refine Wp_seq_region ?_
 refine qV (r_eql (k := .i64) (a := x.kind) (b := 1) rfl rfl) ?_
 refine qA (.bool (decide ((x.kind : Int) = 1))) rfl ?_
 refine WpL_nil ?_
 have hc2 : (decide ((x.kind : Int) = 1)) = false := decide_eq_false (by omega)
 refine Wp_cond_false (congrArg Value.bool hc2) ?_
 refine Wp_seq_region ?_
 refine qV (r_eql (k := .i64) (a := x.kind) (b := 2) rfl rfl) ?_
 refine qA (.bool (decide ((x.kind : Int) = 2))) rfl ?_
 refine WpL_nil ?_
 have hc3 : (decide ((x.kind : Int) = 2)) = false := decide_eq_false (by omega)
 refine Wp_cond_false (congrArg Value.bool hc3) ?_
 refine Wp_seq_region ?_
 refine qV (r_eql (k := .i64) (a := x.kind) (b := 3) rfl rfl) ?_
 refine qA (.bool (decide ((x.kind : Int) = 3))) rfl ?_
 refine WpL_nil ?_
 have hc4 : (decide ((x.kind : Int) = 3)) = false := decide_eq_false (by omega)
 refine Wp_cond_false (congrArg Value.bool hc4) ?_
 refine Wp_seq_region ?_
 refine qV (r_eql (k := .i64) (a := x.kind) (b := 4) rfl rfl) ?_
 refine qA (.bool (decide ((x.kind : Int) = 4))) rfl ?_
 refine WpL_nil ?_
 have hc5 : (decide ((x.kind : Int) = 4)) = false := decide_eq_false (by omega)
 refine Wp_cond_false (congrArg Value.bool hc5) ?_
 refine Wp_seq_region ?_
 refine qV (r_eql (k := .i64) (a := x.kind) (b := 9) rfl rfl) ?_
 refine qA (.bool (decide ((x.kind : Int) = 9))) rfl ?_
 refine WpL_nil ?_
 have hc6 : (decide ((x.kind : Int) = 9)) = false := decide_eq_false (by omega)
 refine Wp_cond_false (congrArg Value.bool hc6) ?_
 refine Wp_seq_region ?_
 refine qV (r_eql (k := .i64) (a := x.kind) (b := 5) rfl rfl) ?_
 refine qA (.bool (decide ((x.kind : Int) = 5))) rfl ?_
 refine WpL_nil ?_
 have hc7 : (decide ((x.kind : Int) = 5)) = false := decide_eq_false (by omega)
 refine Wp_cond_false (congrArg Value.bool hc7) ?_
 refine Wp_skip (inB_normal (thn_normal (Wp_seq_region ?_)))
 refine qM (I6 (s.n : Int)) rfl ?_
 refine qA (I6 (s.n : Int)) rfl ?_
 refine WpL_nil (Wp_seq (Wp_seq_region ?_))
 refine qF br 0 4 rfl Tryz.underlying27 rfl siz3 rfl ?_
 refine qV (r_load (v := (I6 x.mx)) rfl flat3 (Br.cell rfl)) ?_
 refine qM (I6 0) rfl ?_
 refine WpL_nil (Wp_block ?_)
 refine Wp_loop (fun nn_ σ W8 => ∃ (k : Nat) (sk : ThS) (ak : Nat) (Fk : Nat → Prop) (pk : Value) (xk : Value),(∃ jj_,σ = upds jj_ [(0,(P6 pb 0)),(3,(P6 br 0)),(6,(I6 (s.n : Int))),(114,(I6 x.mx)),(115,(I6 (k : Int))),(15,(I6 (ak : Int)))]) ∧ Chg (fun _ => True) w0 W8 ∧ Blk W8 br (R6 x sa sc (some ⟨ab,ao,none⟩) ac) 27 ∧ (k ≤ x.mx.toNat) ∧ (repT (tmO y) x.mn s1 s.n k = some (sk,ak)) ∧ (GrT F w0 base pb pv xv Fk pk xk sk W8) ∧ (LimT sk 0) ∧ (Fk br) ∧ nn_ = x.mx.toNat - k) (n := x.mx.toNat - 0) ?_ ?_
 ·exact ⟨0,s1,s.n,_,pv,xv,Fits.out ⟨rfl,rfl,rfl,rfl,rfl,rfl,trivial⟩,E,Br,Nat.zero_le _,rfl,G2,hL1.le (Nat.zero_le _),.inr rfl,rfl⟩
 ·clear E Br
  rintro _ _ W8 ⟨k,sk,ak,Fk,pk,xk,⟨j8,rfl⟩,E,Br,hk2,hQ,hG,hLk,hbr,rfl⟩
  refine Wp_seq_region ?_
  refine qV (r_lss (k := .i64) (a := (k : Int)) (b := x.mx) rfl rfl) ?_
  refine WpL_nil (Wp_seq ?_)
  refine Wp_cond (b := decide (((k : Int) : Int) < x.mx)) rfl (fun hlt => ?_) (fun hlt => ?_)
  ·have khlt := hlt
   replace hlt := of_decide_eq_true hlt
   have hus2 := hus.ext (hG.base' hP hF hE)
   refine Wp_skip (thn_normal (Wp_seq (Wp_block (Wp_seq_region ?_))))
   refine qM (I6 (k : Int)) rfl ?_
   refine qA (I6 (k : Int)) rfl ?_
   refine WpL_nil ?_
   have hz_10 : w0.heap.size ≤ W8.heap.size := E.size
   have lz_10_br : br < W8.heap.size := Br.lt
   obtain ⟨Fs10,hFs10⟩ : ∃ Fs : List FctS,Fs = [(eF (P6 pb 0)),(eF (I6 (ak : Int))),(eF (P6 br 2)),(eF (.slice (some ⟨ab,ao,none⟩) x.args.length ac)),(eF (.pointer (some ⟨ab,ao + 0 * 6,none⟩))),(eF (.agg (R6 y ysa ysc yaa yac))),(eF (I6 (k : Int))),(eF (P6 br 3)),(eF (I6 x.mn)),(eF (.bool (decide ((x.mn : Int) ≤ (k : Int))))),(fun _ _ => cpF Fk W8 base pb pk xk (tmO y) sk ak (decide (x.mn ≤ (k : Int)))),(eF undef)] := ⟨_,rfl⟩
   refine Wp_dagG (MsL [(10,(fun q => q = pb ∨ pk.ownBlock = some q ∨ xk.ownBlock = some q))]) (RsL []) (lgN) ((fun _ => copyT (tmO y) sk ak (decide (x.mn ≤ (k : Int))) = none)) [true,true,true,true,true,true,true,true,true,true,true,false] [11] [118,119,120,121,122,123,124,125,126,127,128,143] [[],[],[],[2],[3],[4],[],[],[7],[6,8],[0,1,5,9],[]] [[],[],[],[2],[3,2],[4,3,2],[],[],[7],[6,8,7],[0,1,5,4,3,2,9,6,8,7],[]] Fs10 hFs10 (by kernel_rfl) mixed (by kernel_rfl) (by kernel_rfl) (by kernel_rfl) (by kernel_rfl) ?_ ((fun σ' w1 w' X0 X hx => And.intro rfl ⟨by rw [tm_6 h1 hk hy,repT_none (k := k + 1) (by rw [repT,hQ]; exact hx) _ (by omega)]; rfl,hG.pan ((Ext.chg X0).trans (X.mono fun q _ h => by obtain ⟨j,h⟩ := h; rcases h with h | h; exact h.2; exact h.elim))⟩)) ?_
   ·intro wd X0
    refine DagStepsG.cons (StabG.eq) (LocS.const) (fun S s' w' hi hN X U V H => Or.inl ⟨Guarded_none rfl,?_⟩) ?_
    ·replace X := xN1 (hN 10 rfl) X
     exact gX0 (DoesT_pure (r_move (v := (.pointer (some ⟨pb,0,none⟩))) (U 0 rfl)) rfl)
    refine DagStepsG.cons (StabG.eq) (LocS.const) (fun S s' w' hi hN X U V H => Or.inl ⟨Guarded_none rfl,?_⟩) ?_
    ·replace X := xN1 (hN 10 rfl) X
     exact gX0 (DoesT_pure (r_move (v := (.int .i64 ((ak : Nat) : Int))) (U 15 rfl)) rfl)
    refine DagStepsG.cons (StabG.eq) (LocS.const) (fun S s' w' hi hN X U V H => Or.inl ⟨Guarded_none rfl,?_⟩) ?_
    ·replace X := xN1 (hN 10 rfl) X
     exact gX0 (DoesT_pure (r_fieldAddr (b := br) (o := 0) (o' := 2) (U 3 rfl) Tryz.underlying27 rfl siz25 rfl) rfl)
    refine DagStepsG.cons (StabG.eq) (LocS.const) (fun S s' w' hi hN X U V H => Or.inl ⟨Guarded_none rfl,?_⟩) ?_
    ·replace X := xN1 (hN 10 rfl) X
     have e120 := (H 2 rfl).2 120 _ rfl (by rw [hFs10]; rfl)
     exact gX0 (DoesT_pure (r_load (v := (.slice (some ⟨ab,ao,none⟩) x.args.length ac)) e120 flat25 (((X0.trans X).keep Br).cell rfl)) rfl)
    refine DagStepsG.cons (StabG.eq) (LocS.const) (fun S s' w' hi hN X U V H => Or.inl ⟨Guarded_none rfl,?_⟩) ?_
    ·replace X := xN1 (hN 10 rfl) X
     have e121 := (H 3 rfl).2 121 _ rfl (by rw [hFs10]; rfl)
     exact gX0 (DoesT_pure (r_indexSlice (b := ab) (o := ao) (len := x.args.length) (cap := ac) (i := 0) (o' := ao + 0 * 6) e121 rfl rfl Tryz.underlying25 siz27 (by omega) (by omega)) rfl)
    refine DagStepsG.cons (StabG.eq) (LocS.const) (fun S s' w' hi hN X U V H => Or.inl ⟨Guarded_none rfl,?_⟩) ?_
    ·replace X := xN1 (hN 10 rfl) X
     have e122 := (H 4 rfl).2 122 _ rfl (by rw [hFs10]; rfl)
     exact gX0 (DoesT_pure (r_loadAgg (vs := [(.int .i64 y.kind),(.slice ysa y.set.length ysc),(.slice yaa y.args.length yac),(.int .i64 y.mn),(.int .i64 y.mx),(.bool y.neg)]) e122 agg27 siz27 rfl (by simpa using hus2.ext (X0.trans X))) rfl)
    refine DagStepsG.cons (StabG.eq) (LocS.const) (fun S s' w' hi hN X U V H => Or.inl ⟨Guarded_none rfl,?_⟩) ?_
    ·replace X := xN1 (hN 10 rfl) X
     exact gX0 (DoesT_pure (r_move (v := (.int .i64 ((k : Nat) : Int))) (U 16 rfl)) rfl)
    refine DagStepsG.cons (StabG.eq) (LocS.const) (fun S s' w' hi hN X U V H => Or.inl ⟨Guarded_none rfl,?_⟩) ?_
    ·replace X := xN1 (hN 10 rfl) X
     exact gX0 (DoesT_pure (r_fieldAddr (b := br) (o := 0) (o' := 3) (U 3 rfl) Tryz.underlying27 rfl siz3 rfl) rfl)
    refine DagStepsG.cons (StabG.eq) (LocS.const) (fun S s' w' hi hN X U V H => Or.inl ⟨Guarded_none rfl,?_⟩) ?_
    ·replace X := xN1 (hN 10 rfl) X
     have e125 := (H 7 rfl).2 125 _ rfl (by rw [hFs10]; rfl)
     exact gX0 (DoesT_pure (r_load (v := (.int .i64 x.mn)) e125 flat3 (((X0.trans X).keep Br).cell rfl)) rfl)
    refine DagStepsG.cons (StabG.eq) (LocS.const) (fun S s' w' hi hN X U V H => Or.inl ⟨Guarded_none rfl,?_⟩) ?_
    ·replace X := xN1 (hN 10 rfl) X
     have e124 := (H 6 rfl).2 124 _ rfl (by rw [hFs10]; rfl)
     have e126 := (H 8 rfl).2 126 _ rfl (by rw [hFs10]; rfl)
     exact gX0 (DoesT_pure (r_geq (k := .i64) (a := ((k : Nat) : Int)) (b := x.mn) e124 e126) rfl)
    refine DagStepsG.cons (StabG.chg (U := none1) (cpF_ext) (fun p y hp hw h => by
       rcases MsL_or h with ⟨rfl,h0⟩ | h0
       ·exact absurd rfl hp
       exact h0.elim)) (LocS.const) (fun S s' w' hi hN X U V H => Or.inl ⟨Guarded_none rfl,?_⟩) ?_
    ·replace X := xN1 hi X
     have e118 := (H 0 rfl).2 118 _ rfl (by rw [hFs10]; rfl)
     have e119 := (H 1 rfl).2 119 _ rfl (by rw [hFs10]; rfl)
     have e123 := (H 5 rfl).2 123 _ rfl (by rw [hFs10]; rfl)
     have e127 := (H 9 rfl).2 127 _ rfl (by rw [hFs10]; rfl)
     exact gX0x (DoesX_enter (r_callF (vs := [(.pointer (some ⟨pb,0,none⟩)),(.int .i64 ((ak : Nat) : Int)),(.agg #[(.int .i64 y.kind),(.slice ysa y.set.length ysc),(.slice yaa y.args.length yac),(.int .i64 y.mn),(.int .i64 y.mx),(.bool y.neg)]),(.bool (decide ((x.mn : Int) ≤ ((k : Nat) : Int))))]) Tryz.func72 kQ kQ (lst4 e118 e119 e123 e127)) ((tcopy_c wb y (hof y hym) base pb _ _ _ _ sk ak (decide (x.mn ≤ ((k : Nat) : Int))) _ hyt0 (Ext.trans (hG.base' hP hF hE) (X0.trans X)) (fun q hq => hG.sub q (hF q hq)) (hG.st.ext (X0.trans X)) hLk).mono (fun v w h => ⟨cp_of hG.st (X0.trans X) h,by obtain ⟨_,_,_,_,_,_,_,g⟩ := h; exact g.chg.mono fun q _ h => .inl ⟨rfl,h⟩⟩) (fun w h => ⟨h.1,h.2.mono fun q _ h => .inl ⟨rfl,h⟩⟩)))
    refine DagStepsG.tail ?_
    exact DagStepsG.nil
   ·intro s' wd10 w10 X0 X10 U H
    replace X10 := X10.mono (M' := (fun y => (fun q => q = pb ∨ pk.ownBlock = some q ∨ xk.ownBlock = some q) y)) (fun y _ h => by
      obtain ⟨j,hj,h⟩ := h
      rcases MsL_or h with ⟨rfl,h0⟩ | h0
      ·exact h0
      exact h0.elim)
    obtain ⟨s128,f128,F128,p128,x128,h128,e128,g128⟩ := (show ((fun _ _ => cpF Fk W8 base pb pk xk (tmO y) sk ak (decide (x.mn ≤ ((k : Nat) : Int)))) : FctS) (allS [true,true,true,true,true,true,true,true,true,true,true,false]) s' (s' 128) w10 from H 10 rfl 128 (fun _ _ => cpF Fk W8 base pb pk xk (tmO y) sk ak (decide (x.mn ≤ ((k : Nat) : Int)))) rfl (by rw [hFs10]; rfl))
    obtain ⟨j10,rfl⟩ := Fits.out (σ := s') (l := [(0,(.pointer (some ⟨pb,0,none⟩))),(3,(.pointer (some ⟨br,0,none⟩))),(6,(.int .i64 ((s.n : Nat) : Int))),(114,(.int .i64 x.mx)),(115,(.int .i64 ((k : Nat) : Int))),(128,(.int .i64 ((f128 : Nat) : Int)))]) ⟨U 0 rfl,U 3 rfl,U 6 rfl,U 114 rfl,U 115 rfl,e128,trivial⟩
    clear U H
    replace Br := Chg.keep X10 (fun h => hG.st.kept hbr h) (X0.keep Br)
    replace E := (E.ext X0).step X10 (fun q hq h => trivial)
    have hL2 := hLk.step (copy_lim (lim_all y) h128)
    refine qA (I6 (f128 : Int)) rfl ?_
    refine WpL_nil (inB_normal (thn_normal (Wp_region ?_)))
    refine qV (r_add (k := .i64) (a := (k : Int)) (b := 1) (c := (k : Int) + 1) rfl rfl (wI64 (by omega))) ?_
    refine qM (I6 ((k : Int) + 1)) rfl ?_
    refine WpL_nil (thn_normal ?_)
    exact ⟨x.mx.toNat - (k + 1),by omega,k + 1,s128,f128,F128,p128,x128,Fits.out ⟨rfl,rfl,rfl,rfl,rfl,rfl,trivial⟩,E,Br,(by omega),(by rw [repT,hQ]; exact h128),hG.comp g128,hL2,g128.sub _ hbr,rfl⟩
  ·have khlt := hlt
   replace hlt := of_decide_eq_false hlt
   have hkk : x.mx.toNat = k := by omega
   refine Wp_exit (thn_exit (thn_exit (inB_here (thn_normal (Wp_seq_region ?_)))))
   refine qM (I6 (s.n : Int)) rfl ?_
   refine qM (I6 (ak : Int)) rfl ?_
   refine qA (I6 (s.n : Int)) rfl ?_
   refine qA (I6 (ak : Int)) rfl ?_
   refine WpL_nil (Wp_ret (finX_ret ?_))
   refine fin_tmp2 Tryz.results37 (v := (.int .i64 ((s.n : Nat) : Int))) (v' := (.int .i64 ((ak : Nat) : Int))) rfl rfl ?_
   exact ⟨_,_,_,_,_,_,by rw [tm_6 h1 hk hy,hkk,hQ]; rfl,rfl,hG⟩
theorem tof2_c (wb : World) (x : Re) (hk : x.kind = 2) (hsl : x.set.length ≤ 1000000) : ThOf wb x := by
 intro base pb F w0 pv xv s vs hxt hE hF hP hL
 have hxt0 := hxt
 obtain ⟨sa,sc,aa,ac,rfl,hset,hlen,hargs⟩ := hxt.form
 refine RetX_of Tryz.func37 rfl Tryz.ntmps37 (Nat.le_of_ble_eq_true rfl) ?_
 have E : Chg (fun _ => True) w0 w0 := Chg.refl _ _
 refine Wp_seq_region ?_
 refine s_box (v := (.agg (R6 x sa sc aa ac))) (c := (R6 x sa sc aa ac)) (by decide) rfl rfl ?_
 intro br wr Nr
 have Fr := Nr.ge E
 replace E := E.ext Nr.ext
 have Br := Nr.blk
 refine qA (I6 0) rfl ?_
 refine qA (I6 0) rfl ?_
 refine WpL_nil (Wp_seq_region ?_)
 refine qM (P6 pb 0) rfl ?_
 have G1 := (GrT.start hP).frz Nr.ext (b := br) (by rw [Nr.eq]; exact Nat.le_refl _) Br.lt
 have hbrp : pb < br := by have := hP.blk.lt; have := Nr.eq; omega
 refine WpL_enterX rfl rfl (by decide) (r_callF (vs := [(P6 pb 0)]) Tryz.func68 kQ kQ rfl) (tstate_c _ _ base pb _ _ s G1.st hL.2.2) (fun w' h => And.intro rfl ⟨tm_no h.1,G1.pan h.2⟩) ?_
 rintro _ w19 ⟨s1,h1,rfl,G2⟩
 replace Br := G2.chg.keep (G1.st.kept (.inr rfl)) Br
 replace E := E.step G2.chg (fun _ _ _ => trivial)
 have hL1 := hL.new h1
 replace G2 := G1.comp G2
 refine qA (I6 (s.n : Int)) rfl ?_
 refine WpL_nil (Wp_seq (Wp_seq_region ?_))
 refine qF br 0 0 rfl Tryz.underlying27 rfl siz3 rfl ?_
 refine qV (r_load (v := (I6 x.kind)) rfl flat3 (Br.cell rfl)) ?_
 refine WpL_nil (Wp_block (Wp_seq_region ?_))
 refine qV (r_eql (k := .i64) (a := x.kind) (b := 0) rfl rfl) ?_
 refine qA (.bool (decide ((x.kind : Int) = 0))) rfl ?_
 refine WpL_nil ?_
 have hc1 : (decide ((x.kind : Int) = 0)) = false := decide_eq_false (by omega)
 refine Wp_cond_false (congrArg Value.bool hc1) ?_
 refine Wp_seq_region ?_
 refine qV (r_eql (k := .i64) (a := x.kind) (b := 1) rfl rfl) ?_
 refine qA (.bool (decide ((x.kind : Int) = 1))) rfl ?_
 refine WpL_nil ?_
 have hc2 : (decide ((x.kind : Int) = 1)) = false := decide_eq_false (by omega)
 refine Wp_cond_false (congrArg Value.bool hc2) ?_
 refine Wp_seq_region ?_
 refine qV (r_eql (k := .i64) (a := x.kind) (b := 2) rfl rfl) ?_
 refine qA (.bool (decide ((x.kind : Int) = 2))) rfl ?_
 refine WpL_nil ?_
 have hc3 : (decide ((x.kind : Int) = 2)) = true := decide_eq_true hk
 refine Wp_cond_true (congrArg Value.bool hc3) ?_
 refine Wp_seq_region ?_
 refine qM (P6 pb 0) rfl ?_
 refine WpL_enterX rfl rfl (by decide) (r_callF (vs := [(P6 pb 0)]) Tryz.func68 kQ kQ rfl) (tstate_c _ _ base pb _ _ s1 G2.st hL1.2.2) (fun w' h => And.intro rfl ⟨by rw [tm_2 h1 hk,h.1]; rfl,G2.pan h.2⟩) ?_
 rintro _ w29 ⟨s2,h2,rfl,G3⟩
 replace Br := G3.chg.keep (G2.st.kept (.inr rfl)) Br
 replace E := E.step G3.chg (fun _ _ _ => trivial)
 have htm : tmO x s = some (edgeT s2 s.n s1.n x.set,s.n,s1.n) := by rw [tm_2 h1 hk,h2]; rfl
 have hL2 := hL1.new h2
 replace G3 := G2.comp G3
 obtain ⟨⟨pa,pc,rfl⟩,xa,xc,rfl⟩ := G3.st.form
 obtain ⟨rows,hown,hrows⟩ := G3.st.edg
 have hblk := G3.st.blk
 have hpb := G3.st.pb
 have hbs := G3.st.bs
 obtain ⟨z0,hz0⟩ : ∃ z0,z0 = (w29).heap.size := ⟨_,rfl⟩
 have hset2 := SlAt.ext hset (G3.base' hP hF hE)
 have hel := hL2.small.2
 refine qA (I6 (s1.n : Int)) rfl ?_
 refine WpL_nil ?_
 have hz_4 : w0.heap.size ≤ w29.heap.size := E.size
 have lz_4_br : br < w29.heap.size := Br.lt
 have lz_4_pb : pb < w29.heap.size := hblk.lt
 refine Wp_seq ?_
 obtain ⟨Fs4,hFs4⟩ : ∃ Fs : List FctS,Fs = [(eF (P6 pb 0)),(eF (P6 pb 0)),(eF (P6 pb 0)),(eF (P6 pb 0)),(eF (P6 pb 4)),(eF (.slice xa s2.edges.length xc)),(eF (I6 (s.n : Int))),(eF (I6 (s1.n : Int))),(eF (P6 br 1)),(eF (.slice sa x.set.length sc)),(fun _ _ => cloG x.set z0),(fun _ _ => edG (s.n : Int) (s1.n : Int) x.set z0),(fun _ _ => elG (s.n : Int) (s1.n : Int) x.set z0),(fun _ _ => apG base s2.edges.length rows.flatten (.slice xa s2.edges.length xc) z0 (s.n : Int) (s1.n : Int) x.set),(eF undef),(eF undef),(eF undef),(eF undef)] := ⟨_,rfl⟩
 refine Wp_dagS (MsL [(13,(fun q => (Value.slice xa s2.edges.length xc).ownBlock = some q))]) [true,true,true,true,true,true,true,true,true,true,true,true,true,true,false,false,false,false] [14,15,16,17] [34,35,36,37,38,39,40,41,42,43,44,45,46,47,146,147,148,149] [[],[],[1],[2],[3],[4],[],[],[],[8],[9],[6,7,10],[11],[5,10,12],[],[],[],[]] [[],[],[1],[2,1],[3,2,1],[4,3,2,1],[],[],[],[8],[9,8],[6,7,10,9,8],[11,6,7,10,9,8],[5,4,3,2,1,10,9,8,12,11,6,7],[],[],[],[]] Fs4 hFs4 (by kernel_rfl) mixed (by kernel_rfl) (by kernel_rfl) (by kernel_rfl) (by kernel_rfl) ?_ ?_
 ·intro wd X0
  refine qZ (fun S s' w' hi hN X U V H => ?_) ?_
  ·replace X := xM1 X
   exact DoesT_pure (r_move (v := (P6 pb 0)) (U 0 rfl)) rfl
  refine qZ (fun S s' w' hi hN X U V H => ?_) ?_
  ·replace X := xN1 (hN 13 rfl) X
   exact DoesT_pure (r_move (v := (P6 pb 0)) (U 0 rfl)) rfl
  refine qZ (fun S s' w' hi hN X U V H => ?_) ?_
  ·replace X := xN1 (hN 13 rfl) X
   have e35 := (H 1 rfl).2 35 _ rfl (by rw [hFs4]; rfl)
   exact DoesT_pure (r_nilCheck (a := ⟨pb,0,none⟩) e35) rfl
  refine qZ (fun S s' w' hi hN X U V H => ?_) ?_
  ·replace X := xN1 (hN 13 rfl) X
   have e36 := (H 2 rfl).2 36 _ rfl (by rw [hFs4]; rfl)
   exact DoesT_pure (r_fieldAddr (b := pb) (o := 0) (o' := 0) e36 Tryz.underlying85 rfl siz37 rfl) rfl
  refine qZ (fun S s' w' hi hN X U V H => ?_) ?_
  ·replace X := xN1 (hN 13 rfl) X
   have e37 := (H 3 rfl).2 37 _ rfl (by rw [hFs4]; rfl)
   exact DoesT_pure (r_fieldAddr (b := pb) (o := 0) (o' := 4) e37 Tryz.underlying37 rfl siz35 rfl) rfl
  refine qZ (fun S s' w' hi hN X U V H => ?_) ?_
  ·replace X := xN1 (hN 13 rfl) X
   have e38 := (H 4 rfl).2 38 _ rfl (by rw [hFs4]; rfl)
   exact DoesT_pure (r_load (v := (.slice xa s2.edges.length xc)) e38 flat35 (((X0.trans X).keep hblk).cell rfl)) rfl
  refine qZ (fun S s' w' hi hN X U V H => ?_) ?_
  ·replace X := xN1 (hN 13 rfl) X
   exact DoesT_pure (r_move (v := (I6 (s.n : Int))) (U 6 rfl)) rfl
  refine qZ (fun S s' w' hi hN X U V H => ?_) ?_
  ·replace X := xN1 (hN 13 rfl) X
   exact DoesT_pure (r_move (v := (I6 (s1.n : Int))) (U 7 rfl)) rfl
  refine qZ (fun S s' w' hi hN X U V H => ?_) ?_
  ·replace X := xN1 (hN 13 rfl) X
   exact DoesT_pure (r_fieldAddr (b := br) (o := 0) (o' := 1) (U 3 rfl) Tryz.underlying27 rfl siz24 rfl) rfl
  refine qZ (fun S s' w' hi hN X U V H => ?_) ?_
  ·replace X := xN1 (hN 13 rfl) X
   have e42 := (H 8 rfl).2 42 _ rfl (by rw [hFs4]; rfl)
   exact DoesT_pure (r_load (v := (.slice sa x.set.length sc)) e42 flat24 (((X0.trans X).keep Br).cell rfl)) rfl
  refine DagStepsS.cons (StabS.chg (U := (fun y => (fun q => (Value.slice xa s2.edges.length xc).ownBlock = some q) y)) (cloG_chg (fun q h => by have := (hown.lt q h).2; omega)) (fun p y hp hw h => by
     rcases MsL_or h with ⟨rfl,h0⟩ | h0
     ·exact h0
     exact h0.elim)) (LocS.const) (fun S s' w' hi hN X U V H => Or.inl ⟨Guarded_none rfl,?_⟩) ?_
  ·replace X := xN1 (hN 13 rfl) X
   have e43 := (H 9 rfl).2 43 _ rfl (by rw [hFs4]; rfl)
   exact DoesT_callE (r_callF (vs := [(.slice sa x.set.length sc)]) Tryz.func28 kQ kQ (lst1 e43)) ((clones_c _ _ x.set (SlAt.ext hset2 (X0.trans X)) (by omega)).mono (fun v w h => ⟨(⟨h.1.1,own_low h.1.2 (by have := X0.size; have := X.size; omega)⟩ : cloG x.set z0 v w),h.2⟩))
  refine DagStepsS.cons (StabS.chg (U := (fun y => (fun q => (Value.slice xa s2.edges.length xc).ownBlock = some q) y)) (edG_chg (fun q h => by have := (hown.lt q h).2; omega)) (fun p y hp hw h => by
     rcases MsL_or h with ⟨rfl,h0⟩ | h0
     ·exact h0
     exact h0.elim)) (LocS.const) (fun S s' w' hi hN X U V H => Or.inl ⟨Guarded_none rfl,?_⟩) ?_
  ·replace X := xN1 (hN 13 rfl) X
   have e40 := (H 6 rfl).2 40 _ rfl (by rw [hFs4]; rfl)
   have e41 := (H 7 rfl).2 41 _ rfl (by rw [hFs4]; rfl)
   obtain ⟨⟨a44,c44,e44⟩,O44⟩ := (show ((fun _ _ => cloG x.set z0) : FctS) S s' (s' 44) w' from (H 10 rfl).2 44 (fun _ _ => cloG x.set z0) rfl (by rw [hFs4]; rfl))
   exact DoesT_pure (r_build (ps := [(0,.int .i64 (s.n : Int)),(1,.int .i64 (s1.n : Int)),(2,.slice a44 x.set.length c44)]) (v := .agg #[.int .i64 (s.n : Int),.int .i64 (s1.n : Int),.slice a44 x.set.length c44]) (bld3 e40 e41 e44) (by kernel_rfl)) ⟨a44,c44,rfl,⟨a44,c44,rfl⟩,e44 ▸ O44⟩
  refine DagStepsS.cons (StabS.chg (U := (fun y => (fun q => (Value.slice xa s2.edges.length xc).ownBlock = some q) y)) (elG_chg (fun q h => by have := (hown.lt q h).2; omega)) (fun p y hp hw h => by
     rcases MsL_or h with ⟨rfl,h0⟩ | h0
     ·exact h0
     exact h0.elim)) (LocS.const) (fun S s' w' hi hN X U V H => Or.inl ⟨Guarded_none rfl,?_⟩) ?_
  ·replace X := xN1 (hN 13 rfl) X
   obtain ⟨a45,c45,e45,O45⟩ := (show ((fun _ _ => edG ((s.n : Nat) : Int) ((s1.n : Nat) : Int) x.set z0) : FctS) S s' (s' 45) w' from (H 11 rfl).2 45 (fun _ _ => edG ((s.n : Nat) : Int) ((s1.n : Nat) : Int) x.set z0) rfl (by rw [hFs4]; rfl))
   exact DoesT_litE e45 (by have := X0.size; have := X.size; omega) O45
  refine DagStepsS.cons (StabS.chg (U := none1) (apG_ext _ _ _ _ _ _ _ _) (fun p y hp hw h => by
     rcases MsL_or h with ⟨rfl,h0⟩ | h0
     ·exact absurd rfl hp
     exact h0.elim)) (LocS.const) (fun S s' w' hi hN X U V H => Or.inl ⟨Guarded_none rfl,?_⟩) ?_
  ·replace X := xN1 hi X
   have e39 := (H 5 rfl).2 39 _ rfl (by rw [hFs4]; rfl)
   obtain ⟨b46,a46,c46,e46,B46,g46,O46⟩ := (show ((fun _ _ => elG ((s.n : Nat) : Int) ((s1.n : Nat) : Int) x.set z0) : FctS) S s' (s' 46) w' from (H 12 rfl).2 46 (fun _ _ => elG ((s.n : Nat) : Int) ((s1.n : Nat) : Int) x.set z0) rfl (by rw [hFs4]; rfl))
   exact DoesT_appE e39 (own_ext (own_ext hown X0) X) e46 B46 O46 (by omega) (by have := X0.size; have := X.size; omega) (fun q h => .inl ⟨rfl,h⟩) (fun q h => by rcases h with h | h; exact (by have := (hown.lt q h.2).2; omega); exact h.elim) (by have := X0.size; have := X.size; omega)
  refine DagStepsS.tail (DagStepsS.tail (DagStepsS.tail (DagStepsS.tail ?_)))
  exact DagStepsS.nil
 ·intro s' wd4 w4 X0 X4 U H
  replace X4 := X4.mono (M' := (fun y => (fun q => (Value.slice xa s2.edges.length xc).ownBlock = some q) y)) (fun y _ h => by
    obtain ⟨j,hj,h⟩ := h
    rcases MsL_or h with ⟨rfl,h0⟩ | h0
    ·exact h0
    exact h0.elim)
  have e34 := H 0 rfl 34 _ rfl (by rw [hFs4]; rfl)
  obtain ⟨a47,c47,⟨⟨u47,v47,e47⟩,O47,D47⟩,K47⟩ := (show ((fun _ _ => apG base s2.edges.length rows.flatten (.slice xa s2.edges.length xc) z0 ((s.n : Nat) : Int) ((s1.n : Nat) : Int) x.set) : FctS) (allS [true,true,true,true,true,true,true,true,true,true,true,true,true,true,false,false,false,false]) s' (s' 47) w4 from H 13 rfl 47 (fun _ _ => apG base s2.edges.length rows.flatten (.slice xa s2.edges.length xc) z0 ((s.n : Nat) : Int) ((s1.n : Nat) : Int) x.set) rfl (by rw [hFs4]; rfl))
  obtain ⟨j4,rfl⟩ := Fits.out (σ := s') (l := [(6,(.int .i64 ((s.n : Nat) : Int))),(7,(.int .i64 ((s1.n : Nat) : Int))),(34,(.pointer (some ⟨pb,0,none⟩))),(47,(.slice u47 (s2.edges.length + 1) v47))]) ⟨U 6 rfl,U 7 rfl,e34,e47,trivial⟩
  clear U H
  replace Br := Chg.keep X4 (fun h => G3.st.hxF br h (.inr rfl)) (X0.keep Br)
  replace hblk := Chg.keep X4 (fun h => by have := (hown.lt _ h).1; omega) (X0.keep hblk)
  have hXm := Chg.trans (Ext.chg X0) X4
  replace E := (E.ext X0).step X4 (fun q hq h => trivial)
  rw [e47] at O47 D47
  have hK := K47
  have hPx : True := trivial
  refine qV (r_nilCheck (a := ⟨pb,0,none⟩) rfl) ?_
  refine qF pb 0 0 rfl Tryz.underlying85 rfl siz37 rfl ?_
  refine qF pb 0 4 rfl Tryz.underlying37 rfl siz35 rfl ?_
  refine s_store (b := pb) (o := 4) (c' := #[(I6 (s2.n : Int)),(I6 0),(.slice none 0 0),(.slice pa s2.eps.length pc),(.slice u47 (s2.edges.length + 1) v47)]) (v := (.slice u47 (s2.edges.length + 1) v47)) rfl rfl rfl siz35 hblk (by simp) rfl ?_
  intro w5 S5
  replace hPx := G3.comp (G3.st.addEdge hXm hz0 hrows O47 D47 hK S5)
  replace Br := S5.keep (by omega) Br
  replace E := S5.step E (by first | exact Or.inl (by omega) | exact Or.inr rfl | exact Or.inr (by assumption) | exact Or.inr (by simp) | exact Or.inr (by omega) | exact Or.inr (by dsimp only; omega))
  replace hblk := S5.blk
  refine WpL_nil (thn_normal (Wp_seq_region ?_))
  refine qM (I6 (s.n : Int)) rfl ?_
  refine qM (I6 (s1.n : Int)) rfl ?_
  refine qA (I6 (s.n : Int)) rfl ?_
  refine qA (I6 (s1.n : Int)) rfl ?_
  refine WpL_nil (Wp_ret (inB_ret (thn_ret (finX_ret ?_))))
  refine fin_tmp2 Tryz.results37 (v := (.int .i64 ((s.n : Nat) : Int))) (v' := (.int .i64 ((s1.n : Nat) : Int))) rfl rfl ?_
  exact ⟨_,_,_,_,_,_,htm,rfl,hPx⟩
end Go.Proofs
namespace Go.Eng
open Go
section
variable {P : Program} {N : Nat} {σ : Env} {w : World} {y : Code}
/-- Where the body ends with no deferred call. -/
def finE (P : Program) (fn : Func) (R : Ending → World → Prop) : Post
  | .ret,σ,w => ∀ a : Act,env a = σ → Leaves P fn a.tmps R [] .returning w
  | _,_,_ => False
theorem WpA_assoc {QA : Exit → Act → World → Prop} {x : Code} (h : WpA P N x (Exit.then (y.wp P QA) QA) σ w) : WpA P N (.seq x y) QA σ w := fun a ha he => wp_seq (h a ha he)
theorem WpA_cond {fn : Func} {R : Ending → World → Prop} {x : Operand} {c1 : Code} {b : Bool} (hx : ev σ x = .bool b) (ht : b = true → Wp P N c1 (finE P fn R) σ w) (hf : b = false → WpA P N y (bodyPostD P fn R) σ w) : WpA P N (.cond x c1 .skip) (Exit.then (y.wp P (bodyPostD P fn R)) (bodyPostD P fn R)) σ w := by
 intro a ha he
 refine wp_cond_split (t := b) (by rw [eval_env,he]; exact hx) (fun h => ?_) (fun h => wp_skip (hf h a ha he))
 refine Code.wp_mono ?_ (ht h [] a ha he)
 rintro e a' w' ⟨o',q⟩
 have ho := o'.defers
 cases e <;> simp only [finE] at q
 show Leaves P fn a'.tmps R a'.defers .returning w'
 rw [ho]
 exact q a' rfl
end
end Go.Eng
namespace Go.Proofs
open Go Go.Eng Go.Sort
theorem usesB_arg {ks : List Int} {x : Re} (h : usesB ks x = false) : ks.contains x.kind = false ∧ ∀ y ∈ x.args,usesB ks y = false := by
  have hs : ∀ l : List Re,usesBs ks l = false → ∀ y ∈ l,usesB ks y = false := by
    intro l
    induction l with
    | nil => intro _ y hy; cases hy
    | cons z l ih =>
      intro h y hy
      simp only [usesBs,Bool.or_eq_false_iff] at h
      rcases List.mem_cons.1 hy with rfl | h1
      · exact h.1
      · exact ih h.2 y h1
  cases x
  simp only [usesB,Bool.or_eq_false_iff] at h
  exact ⟨h.1,hs _ h.2⟩
theorem thOf_c (wb : World) : ∀ (n : Nat) (x : Re),x.size ≤ n → n ≤ 1000000 → okRe x → usesB [7,8,10] x = false → ThOf wb x := by
  intro n
  induction n with
  | zero => intro x h; have := x.size_pos; omega
  | succ n ih =>
  intro x hn hb hok hu
  have hN := node_inv (okRe_node hok)
  have hla := len_lt_size x
  obtain ⟨hk0,hua⟩ := usesB_arg hu
  have hof : ∀ y ∈ x.args,ThOf wb y := fun y hy => by
    obtain ⟨i,hi⟩ := List.getElem?_of_mem hy
    have h1 := Re.size_arg hi
    exact ih y (by omega) (by omega) (okRes_get (okRe_args hok) hi) (hua y hy)
  have hk := hN.k
  have hk7 : x.kind ≠ 7 ∧ x.kind ≠ 8 ∧ x.kind ≠ 10 := by
    simp at hk0
    exact ⟨hk0.1,hk0.2.1,hk0.2.2⟩
  by_cases h0 : x.kind = 0
  · exact tof0_c wb x h0
  by_cases h1 : x.kind = 1
  · exact tof1_c wb x h1
  by_cases h2 : x.kind = 2
  · refine tof2_c wb x h2 ?_
    have := node_chk (okRe_node hok) h2
    unfold checkE at this
    split at this
    · cases this
    · omega
  by_cases h3 : x.kind = 3
  · exact tof3_c wb x h3 hof
  by_cases h4 : x.kind = 4
  · exact tof4_c wb x h4 hof (by omega)
  by_cases h5 : x.kind = 5
  · exact tof5_c wb x h5 (hN.one (by omega)) hof
  by_cases h6 : x.kind = 6
  · exact tof6_c wb x h6 (hN.one (by omega)) (by have := (hN.rep h6).2.2; omega) hof
  · exact tof9_c wb x (by omega) (hN.one (by omega)) hof
/-- What Simple says. -/
def simE (t : Re) : Int := if fitsE t 40 ≠ 0 then fitsE t 40 else if usesB [7,8,10] t then 3 else 0
theorem simE_zero {t : Re} : simE t = 0 ↔ okRe t ∧ (t.size : Int) ≤ 40 ∧ usesB [7,8,10] t = false := by
 unfold simE
 have h := fitsE_zero (t := t) (most := 40) (by decide) (by decide)
 constructor
 ·intro h1
  split at h1
  ·rename_i h2; exact absurd h1 h2
  ·rename_i h2
   have h3 := h.1 (Classical.not_not.1 h2)
   split at h1
   ·cases h1
   ·rename_i h4
    exact ⟨h3.1,h3.2,by simpa using h4⟩
 ·rintro ⟨h1,h2,h3⟩
  rw [if_neg (fun h4 => h4 (h.2 ⟨h1,h2⟩)),h3]; rfl
theorem simple_c (w0 : World) (t : Re) (vs : List Value) (ht : ReAt w0 t vs) : Ret Tryz.prog 8 #[.agg vs.toArray] w0 fun r w => r = .int .i64 (simE t) ∧ Ext w0 w := by
 have ht0 := ht
 obtain ⟨sa,sc,aa,ac,rfl,_,_,_⟩ := ht.form
 refine Ret_of Tryz.func8 rfl Tryz.ntmps8 (Nat.le_of_ble_eq_true rfl) ?_
 have E : Chg none1 w0 w0 := Chg.refl _ _
 refine Wp_seq_region ?_
 refine s_box (v := (.agg (R6 t sa sc aa ac))) (c := (R6 t sa sc aa ac)) (by decide) rfl rfl ?_
 intro br wr Nr
 have Fr := Nr.ge E
 replace E := E.ext Nr.ext
 have Br := Nr.blk
 refine qA (I6 0) rfl ?_
 refine WpL_nil (Wp_seq (Wp_seq_region ?_))
 refine qV (r_loadAgg (vs := [(I6 t.kind),(.slice sa t.set.length sc),(.slice aa t.args.length ac),(I6 t.mn),(I6 t.mx),(.bool t.neg)]) rfl agg27 siz27 rfl (Br.cells rfl)) ?_
 refine WpL_enter rfl rfl (by decide) (r_callF (vs := [(.agg (R6 t sa sc aa ac))]) Tryz.func19 kQ kQ rfl) (check_c _ t _ (ReAt.ext E t ht0)) ?_
 rintro _ w9 ⟨rfl,X9⟩
 replace Br := X9.keep Br
 replace E := E.ext X9
 refine qA (I6 (fitsE t 40)) rfl ?_
 refine WpL_nil (Wp_seq_region ?_)
 refine qM (I6 (fitsE t 40)) rfl ?_
 refine qV (r_neq (k := .i64) (a := fitsE t 40) (b := 0) rfl rfl) ?_
 refine WpL_nil ?_
 refine Wp_cond (b := decide ((fitsE t 40 : Int) ≠ 0)) rfl (fun h0 => ?_) (fun h0 => ?_)
 ·have kh0 := h0
  replace h0 := of_decide_eq_true h0
  refine Wp_seq_region ?_
  refine qM (I6 (fitsE t 40)) rfl ?_
  refine qA (I6 (fitsE t 40)) rfl ?_
  refine WpL_nil (Wp_ret (thn_ret ?_))
  refine fin_tmp Tryz.results8 (v := (.int .i64 (fitsE t 40))) rfl ?_
  exact ⟨by unfold simE; rw [if_pos h0],E⟩
 ·have kh0 := h0
  replace h0 := of_decide_eq_false h0
  refine Wp_skip (thn_normal (Wp_seq (Wp_seq_region ?_)))
  refine qV (r_loadAgg (vs := [(I6 t.kind),(.slice sa t.set.length sc),(.slice aa t.args.length ac),(I6 t.mn),(I6 t.mx),(.bool t.neg)]) rfl agg27 siz27 rfl (Br.cells rfl)) ?_
  refine s_buildSlice (ps := [(0,(I6 7)),(1,(I6 8)),(2,(I6 10))]) (c := #[(I6 7),(I6 8),(I6 10)]) (by decide) rfl Tryz.underlying22 siz3 zer3 (by decide) (by decide) (by kernel_rfl) ?_
  intro bk wk Nk
  have Fk := Nk.ge E
  have Ok_br := Nk.lt Br
  replace Br := Nk.keep Br
  replace E := E.ext Nk.ext
  have Bk := Nk.blk
  refine WpL_enter rfl rfl (by decide) (r_callF (vs := [(.agg (R6 t sa sc aa ac)),(.slice (some ⟨bk,0,none⟩) 3 3)]) Tryz.func20 kQ kQ rfl) (uses_c _ t _ [7,8,10] _ (ReAt.ext E t ht0) (ints_of_blk [7,8,10] Bk (by simp) (by simp))) ?_
  rintro _ w19 ⟨rfl,X19⟩
  replace Br := X19.keep Br
  replace Bk := X19.keep Bk
  replace E := E.ext X19
  refine WpL_nil ?_
  refine Wp_cond (b := usesB [7,8,10] t) rfl (fun hu => ?_) (fun hu => ?_)
  ·have khu := hu
   refine Wp_seq_region ?_
   refine qA (I6 3) rfl ?_
   refine WpL_nil (Wp_ret (thn_ret ?_))
   refine fin_tmp Tryz.results8 (v := (.int .i64 3)) rfl ?_
   exact ⟨by unfold simE; rw [if_neg h0,hu]; rfl,E⟩
  ·have khu := hu
   refine Wp_skip (thn_normal (Wp_seq_region ?_))
   refine qA (I6 0) rfl ?_
   refine WpL_nil (Wp_ret ?_)
   refine fin_tmp Tryz.results8 (v := (.int .i64 0)) rfl ?_
   exact ⟨by unfold simE; rw [if_neg h0,hu]; rfl,E⟩
def nf0 : Nf := ⟨0,0,[],[],[]⟩
def ThP (t : Re) (n : Nf) (e : Int) : Prop := (simE t ≠ 0 ∧ n = nf0 ∧ e = simE t) ∨ (simE t = 0 ∧ tmO t ⟨0,[],[]⟩ = none ∧ n = nf0 ∧ e = 2) ∨ (simE t = 0 ∧ e = 0 ∧ ∃ s a b,tmO t ⟨0,[],[]⟩ = some (s,a,b) ∧ n = nfT s a b)
/-- An automaton and an error. -/
def NfNew (m : Nat) (w : World) (n : Nf) (vs : List Value) : Prop := ∀ (M : Nat → Prop) w',Chg M w w' → (∀ y,M y → y < m) → NfAt w' n vs
theorem NfNew.at {m : Nat} {w : World} {n : Nf} {vs : List Value} (h : NfNew m w n vs) : NfAt w n vs := h none1 w (Chg.refl _ _) fun _ f => f.elim
theorem NfNew.chg {m : Nat} {M : Nat → Prop} {w w' : World} {n : Nf} {vs : List Value} (h : NfNew m w n vs) (c : Chg M w w') (hM : ∀ y,M y → y < m) : NfNew m w' n vs := fun M2 w2 c2 h2 =>
 h (fun b => M b ∨ M2 b) w2 (Chg.trans (c.mono fun b _ hb => .inl hb) (c2.mono fun b _ hb => .inr hb)) fun b hb => hb.elim (hM b) (h2 b)
theorem NfNew.ext {m : Nat} {w w' : World} {n : Nf} {vs : List Value} (h : NfNew m w n vs) (e : Ext w w') : NfNew m w' n vs := h.chg e fun _ f => f.elim
def NfR (m : Nat) (R : Nf → Int → Prop) (r : Value) (w : World) : Prop := ∃ (n : Nf) (ea : Option Addr) (ec : Nat) (pa : Option Addr) (pc : Nat) (xa : Option Addr) (xc : Nat) (e : Int),r = .tuple #[.agg #[.int .i64 n.states,.int .i64 n.start,.slice ea n.ends.length ec,.slice pa n.eps.length pc,.slice xa n.edges.length xc],.int .i64 e] ∧ NfNew m w n [.int .i64 n.states,.int .i64 n.start,.slice ea n.ends.length ec,.slice pa n.eps.length pc,.slice xa n.edges.length xc] ∧ R n e
theorem nf0_at (w : World) : NfAt w nf0 [.int .i64 0,.int .i64 0,.slice none 0 0,.slice none 0 0,.slice none 0 0] :=
 ⟨none,0,none,0,none,0,rfl,SlAt.nil w 1 _ _,SlAt.nil w 2 _ _,[],SlAt.nil w 3 _ _,rfl,fun i e row h => by simp [nf0] at h⟩
theorem nfR_zero {m : Nat} {R : Nf → Int → Prop} {w : World} {e : Int} (h : R nf0 e) : NfR m R (.tuple #[.agg #[.int .i64 0,.int .i64 0,.slice none 0 0,.slice none 0 0,.slice none 0 0],.int .i64 e]) w := ⟨nf0,none,0,none,0,none,0,e,rfl,fun _ w' _ _ => nf0_at w',h⟩
/-- Edges in a slice of one's own, with sets in blocks of F. -/
def EdB (F : Nat → Prop) (w : World) (base : Nat) (xv : Value) (es : List Ed) : Prop := (∃ rows,w.ownsRow base TEd 3 xv es.length rows.flatten ∧ EdsF F w es rows) ∧ (∀ b,xv.ownBlock = some b → ¬ F b) ∧ ∀ y,F y → base ≤ y ∧ y < w.heap.size
theorem EdB.chg {F M : Nat → Prop} {w w' : World} {base : Nat} {xv : Value} {es : List Ed} (h : EdB F w base xv es) (c : Chg M w w') (hM : ∀ y,M y → y < base) : EdB F w' base xv es := by
 obtain ⟨⟨rows,h1,h2⟩,h3,h4⟩ := h
 exact ⟨⟨rows,own_chg h1 c fun k hk hm => by have := (h1.lt k hk).1; have := hM k hm; omega,h2.chg c fun y hy hm => by have := (h4 y hy).1; have := hM y hm; omega⟩,h3,fun y hy => ⟨(h4 y hy).1,Nat.lt_of_lt_of_le (h4 y hy).2 c.size⟩⟩
theorem EdB.ext {F : Nat → Prop} {w w' : World} {base : Nat} {xv : Value} {es : List Ed} (h : EdB F w base xv es) (c : Ext w w') : EdB F w' base xv es := h.chg c fun _ f => f.elim
theorem EdB.start (w : World) (base : Nat) : EdB (fun _ => False) w base (.slice none 0 0) [] := ⟨⟨[],World.ownsRow_nil _ _ _ _,rfl,fun i e row h => by simp at h⟩,fun b h => (by cases h),fun y h => h.elim⟩
theorem EdB.push {F : Nat → Prop} {w0 w : World} {base z rc m : Nat} {xv xv' : Value} {ra : Option Addr} {es : List Ed} {rows : List (List Value)} {a b : Int} {l : List Sp} (hown : w0.ownsRow base TEd 3 xv m rows.flatten) (hm : m = es.length) (hrows : EdsF F w0 es rows) (h3 : ∀ b,xv.ownBlock = some b → ¬ F b) (h4 : ∀ y,F y → base ≤ y ∧ y < w0.heap.size) (c : Chg (fun q => xv.ownBlock = some q) w0 w) (hz : z = w0.heap.size) (hbz : base ≤ z)
  (ho : w.ownsRow base TEd 3 xv' (m + 1) (rows.flatten ++ [.int .i64 a,.int .i64 b,.slice ra l.length rc])) (hd : ∀ k,xv'.ownBlock = some k → xv.ownBlock = some k ∨ z ≤ k) (hK : cloG l z (.slice ra l.length rc) w) : EdB (fun y => F y ∨ (Value.slice ra l.length rc).ownBlock = some y) w base xv' (es ++ [(a,b,l)]) := by
 subst hz; subst hm
 have hlk := hK.2.lt
 refine ⟨⟨rows ++ [edRow (a,b,l) (.slice ra l.length rc)],by simpa [edRow,List.flatten_append] using ho,?_⟩,fun k hk hf => ?_,fun y hy => ?_⟩
 ·refine ((hrows.chg c fun y hy e => h3 y e hy).mono fun y hy => .inl hy).snoc ⟨_,rfl,OwnS.at hK,?_⟩
  rcases own_some hK.2 with h1 | ⟨k,hk⟩
  ·exact .inl (List.eq_nil_of_length_eq_zero h1)
  ·exact .inr ⟨k,hk,.inr hk⟩
 ·rcases hf with hf | hf
  ·rcases hd k hk with h1 | h1
   ·exact h3 k h1 hf
   ·have := (h4 k hf).2; omega
  ·exact own_other hK.2 ho (by decide) hf hk
 ·rcases hy with hy | hy
  ·exact ⟨(h4 y hy).1,Nat.lt_of_lt_of_le (h4 y hy).2 c.size⟩
  ·have := hlk y hy; exact ⟨by omega,this.2⟩
theorem EdB.at {F : Nat → Prop} {w : World} {base : Nat} {xv : Value} {es : List Ed} (h : EdB F w base xv es) : EdgesAt w xv es := by
 obtain ⟨⟨rows,h1,h2⟩,_⟩ := h
 have h8 : ∀ r ∈ rows,r.length = 3 := fun r hr => by
  obtain ⟨i,hi⟩ := List.getElem?_of_mem hr
  obtain ⟨e,he⟩ := get_of_lt (l := es) (i := i) (by have := h2.1; have := lt_of_get hi; omega)
  obtain ⟨u,rfl,_⟩ := h2.2 i e r he hi
  rfl
 refine ⟨rows,own_slat h1 h8 h2.1 (by decide),h2.1,fun i e row h5 h6 => ?_⟩
 obtain ⟨u,h7,h9,_⟩ := h2.2 i e row h5 h6
 exact ⟨u,h7,h9⟩
theorem map_take {α β : Type} (f : α → β) {l : List α} {k : Nat} {x : α} (h : l[k]? = some x) : (l.take (k + 1)).map f = (l.take k).map f ++ [f x] := by rw [List.take_add_one,h]; simp
theorem gkOf_c (wb : World) : ∀ (n : Nat) (x : Re),x.size ≤ n → n ≤ 44 → okRe x → usesB [7,8,10] x = false → GkOf wb x := by
  intro n
  induction n with
  | zero => intro x h; have := x.size_pos; omega
  | succ n ih =>
  intro x hn hb hok hu
  have hN := node_inv (okRe_node hok)
  have hla := len_lt_size x
  obtain ⟨hk0,hua⟩ := usesB_arg hu
  have hof : ∀ y ∈ x.args,GkOf wb y := fun y hy => by
    obtain ⟨i,hi⟩ := List.getElem?_of_mem hy
    have h1 := Re.size_arg hi
    exact ih y (by omega) (by omega) (okRes_get (okRe_args hok) hi) (hua y hy)
  have hk := hN.k
  have hk7 : x.kind ≠ 7 ∧ x.kind ≠ 8 ∧ x.kind ≠ 10 := by
    simp at hk0
    exact ⟨hk0.1,hk0.2.1,hk0.2.2⟩
  by_cases h0 : x.kind = 0
  · exact gof0_c wb x h0
  by_cases h1 : x.kind = 1
  · exact gof1_c wb x h1
  by_cases h2 : x.kind = 2
  · exact gof2_c wb x h2
  by_cases h3 : x.kind = 3
  · exact gof3_c wb x h3 (by omega) hof
  by_cases h4 : x.kind = 4
  · exact gof4_c wb x h4 (by omega) hof
  by_cases h5 : x.kind = 5
  · exact gof5_c wb x h5 (hN.one (by omega)) (by omega) hof
  by_cases h6 : x.kind = 6
  · exact gof6_c wb x h6 (hN.one (by omega)) (by omega) (by have := (hN.rep h6).2.2; omega) hof
  · exact gof9_c wb x (by omega) (hN.one (by omega)) hof
/-- Sorted, without repeats. -/
def upS (l : List Int) : List Int := Lib.compact (l.mergeSort leB)
theorem upS_mem {l : List Int} {x : Int} : x ∈ upS l ↔ x ∈ l := (compact_sorted l).2 x
theorem upS_inc (l : List Int) : (upS l).Pairwise (· < ·) := (compact_sorted l).1
def gs0 : GS := ⟨[],[[]]⟩
theorem gi0 : GI gs0 := ⟨rfl,by decide⟩
theorem rowB0 : RowB 25000 gs0.fol := fun i l h => by
 have := List.mem_of_getElem? h
 rw [List.mem_singleton.1 (show l ∈ [[]] from this)]; exact Nat.zero_le _
def folG (g : GS) (p : Pt) : List (List Nat) := g.fol.set 0 p.fst
def ends0 (p : Pt) : List Int := if p.nul then [0] else []
def endsG (p : Pt) : List Int := upS (ends0 p ++ nZ p.lst)
def edgO (g : GS) (s : Nat) (t : Int) : Ed := ((s : Int),t,g.sets.getD (t.toNat - 1) [])
def rowE (g : GS) (p : Pt) (s : Nat) : List Ed := (upS (nZ ((folG g p).getD s []))).map (edgO g s)
def edgU (g : GS) (p : Pt) : Nat → List Ed
  | 0 => []
  | s + 1 => edgU g p s ++ rowE g p s
def edgG (g : GS) (p : Pt) : List Ed := edgU g p g.fol.length
def nfG (g : GS) (p : Pt) : Nf := ⟨((g.sets.length + 1 : Nat) : Int),0,endsG p,[],edgG g p⟩
theorem edgU_le (g : GS) (p : Pt) : ∀ {s m : Nat},s ≤ m → (edgU g p s).length ≤ (edgU g p m).length
  | s,0,h => by obtain rfl : s = 0 := (by omega); exact Nat.le_refl _
  | s,m + 1,h => by
    rcases Nat.lt_or_ge m s with h1 | h1
    · obtain rfl : s = m + 1 := (by omega); exact Nat.le_refl _
    · have := edgU_le g p h1
      rw [edgU,List.length_append]; omega
/-- What Glushkov returns. -/
def GkP (t : Re) (n : Nf) (e : Int) : Prop := (simE t ≠ 0 ∧ n = nf0 ∧ e = simE t) ∨ (simE t = 0 ∧ gkO t gs0 = none ∧ n = nf0 ∧ e = 2) ∨
 (simE t = 0 ∧ ∃ g p,gkO t gs0 = some (g,p) ∧ GSt1 t.size gs0 g p ∧ ((e = 0 ∧ n = nfG g p ∧ (edgG g p).length ≤ 20000) ∨ (e = 2 ∧ n = nf0 ∧ 20000 < (edgG g p).length)))
/-- The positions in the rows are there. -/
theorem fol_in {c : Nat} {g : GS} {p : Pt} (h : GSt1 c gs0 g p) {s : Nat} {l : List Nat} (hl : (folG g p)[s]? = some l) : l.length ≤ c * 499 + 499 ∧ ∀ t ∈ l,0 < t ∧ t ≤ g.sets.length := by
 unfold folG at hl
 rw [List.getElem?_set] at hl
 have h9 := h.inv.2
 have hz : gs0.sets.length = 0 := rfl
 split at hl
 ·split at hl
  ·cases hl
   have h1 := h.fst
   rw [hz] at h1
   exact ⟨by have := h1.2.2; omega,fun t ht => h1.2.1 t ht⟩
  ·cases hl
 ·have h1 := h.new s l (by rw [hz]; omega) hl
  rw [hz] at h1
  refine ⟨?_,h1.2⟩
  have : c * (g.sets.length - 0) ≤ c * 499 := Nat.mul_le_mul_left _ (by omega)
  omega
theorem gkst0 {w : World} {base bl pb : Nat} (hb : base ≤ bl) (hlt : bl < pb) (hB : Blk w bl #[.slice none 0 0] TDIs) (hP : Blk w pb #[.slice none 0 0,.slice (some ⟨bl,0,none⟩) 1 1] TGk) :
  GkSt (fun y => y < bl) w base pb (.slice none 0 0) (.slice (some ⟨bl,0,none⟩) 1 1) [.slice none 0 0] gs0 := by
 have hl := hB.lt
 have hq : ∀ y,LsQ (.slice (some ⟨bl,0,none⟩) 1 1) [.slice none 0 0] y → y = bl := fun y hy => by
  rcases hy with h1 | ⟨i,v,h1,h2⟩
  ·cases h1; rfl
  ·have := List.mem_of_getElem? h1
   rw [List.mem_singleton.1 this] at h2
   cases h2
 have hG := GSt.made (To := TDIs) (e := TDI) (sz := 1) (base := base) (b := bl) (n := 1) (w := w) hB hb (by decide) hb
 exact ⟨hP,⟨[],World.ownsRow_nil _ _ _ _,rfl,fun i u z hu => by simp at hu⟩,hG,fun b h => (by cases h),fun b h hf => by have := hq b h; omega,fun b h => (by cases h),fun hf => by omega,⟨fun h => (by cases h),fun h => by have := hq pb h; omega⟩,by omega,fun y hy => by omega⟩
/-- The first row is put in: from here on all is only read. -/
theorem fol_end {F : Nat → Prop} {w w2 : World} {base pb gb n cap : Nat} {sv v0 : Value} {vs : List Value} {g : GS} {l0 : List Nat} {cur : Array Value} (h : GkSt F w base pb sv (.slice (some ⟨gb,0,none⟩) n cap) vs g) (hn : n = g.fol.length) (hn0 : 0 < n) (hB : Blk w gb cur TDIs) (hp : FrI F w v0 l0) (P : Put w w2 gb (cur.setIfInBounds 0 v0) TDIs) :
  (∀ (s : Nat) l,(g.fol.set 0 l0)[s]? = some l → ∃ v,w2.cell? ⟨gb,0 + s,none⟩ = some v ∧ IntsAt w2 v (nZ l)) ∧ (∃ us,w2.ownsRow base TSl 1 sv g.sets.length us ∧ SetF F w2 g.sets us) := by
 have hgb : LsQ (.slice (some ⟨gb,0,none⟩) n cap) vs gb := .inl rfl
 obtain ⟨us,h3,h4⟩ := h.sets
 refine ⟨fun s l hl => ?_,us,own_chg h3 P.chg fun k hk e => h.apt k hk (by have e' : k = gb := e; rw [e']; exact hgb),h4.chg P.chg fun y hy e => h.hfF y (by have e' : y = gb := e; rw [e']; exact hgb) hy⟩
 have hlen : (g.fol.map nRow).length = g.fol.length := List.length_map _
 have hvl : vs.length = g.fol.length := by have := h.fol.l.len; omega
 have ho := own_writeG (h.fol.l.on (n := n) (by omega)) hB (i := 0) (v := v0) (by omega) P.blk
 obtain ⟨gg,hgg,_,hc⟩ := own_cells ho hn0
 simp only [Option.some.injEq,Addr.mk.injEq,and_true] at hgg
 subst hgg
 have hsl := lt_of_get hl
 rw [List.length_set] at hsl
 rw [List.getElem?_set] at hl
 split at hl
 ·rename_i e
  subst e
  split at hl
  ·cases hl
   exact ⟨v0,hc 0 v0 (by rw [List.getElem?_set,if_pos rfl,if_pos (by omega)]),(hp.chg P.chg fun y hy e => h.hfF y (by have e' : y = gb := e; rw [e']; exact hgb) hy).1⟩
  ·omega
 ·rename_i e
  obtain ⟨v,hv⟩ := get_of_lt (l := vs) (i := s) (by omega)
  have hin := h.fol.l.inn s v _ hv (by rw [List.getElem?_map,hl]; rfl)
  refine ⟨v,hc s v (by rw [List.getElem?_set,if_neg e]; exact hv),own_intsD (own_chg hin P.chg fun b hb e2 => h.fol.l.apo s v b hv hb (by have e' : b = gb := e2; rw [e']; rfl)) (nZ_len l).symm⟩
--BEGIN
def TAg (T : Sat) (n : Nat) (S : List (List Sp)) : Prop := ∀ c q,n < q → q ≤ S.length → (T c q ↔ satS S c q)
theorem TAg.pre {T : Sat} {n : Nat} {S S' zs : List (List Sp)} (h : TAg T n S') (e : S' = S ++ zs) : TAg T n S := fun c q h1 h2 => by
 rw [h c q h1 (by rw [e,List.length_append]; omega)]
 unfold satS
 rw [e,List.getElem?_append_left (by omega)]
theorem TAg.mono {T : Sat} {n m : Nat} {S : List (List Sp)} (h : TAg T n S) (hm : n ≤ m) : TAg T m S := fun c q h1 h2 => h c q (by omega) h2
def LgOk (f : GF) (L : Lg) : Prop := ∀ g g' p,GI g → f g = some (g',p) → ∀ T,TAg T g.sets.length g'.sets → ∀ w,LgJ T (folR g'.fol) p w ↔ L w
theorem GSt1.inJ {c : Nat} {g g' : GS} {p : Pt} (h : GSt1 c g g' p) : InJ g.sets.length g'.sets.length p := ⟨h.fst.2.1,h.lst.2.1⟩
theorem GSt1.cloJ {c : Nat} {g g' : GS} {p : Pt} (h : GSt1 c g g' p) : CloJ g.sets.length g'.sets.length (folR g'.fol) := fun i j h1 h2 h3 => by
 obtain ⟨l,h4,h5⟩ := h3
 exact (h.new i l h1 h4).2 j h5
theorem folR_lnk {f : List (List Nat)} {src to : List Nat} (hn : src.Nodup) {i j : Nat} (hi : i < f.length) : folR (lnk f src to) i j ↔ folR f i j ∨ (i ∈ src ∧ j ∈ to) := by
 unfold folR
 rw [lnk_get src f to i hn,List.getElem?_eq_getElem hi]
 simp only [Option.map_some,Option.some.injEq]
 constructor
 ·rintro ⟨l,rfl,h⟩
  split at h
  ·rename_i hs
   rcases List.mem_append.1 h with h | h
   ·exact .inl ⟨_,rfl,h⟩
   ·exact .inr ⟨hs,h⟩
  ·exact .inl ⟨_,rfl,h⟩
 ·rintro (⟨l,rfl,h⟩ | ⟨h1,h2⟩)
  ·refine ⟨_,rfl,?_⟩
   split
   ·exact List.mem_append_left _ h
   ·exact h
  ·exact ⟨_,rfl,by rw [if_pos h1]; exact List.mem_append_right _ h2⟩
theorem lg_cat {c C : Nat} {g0 g g1 : GS} {o p : Pt} {T : Sat} (h : GSt1 c g0 g o) (k : GSt1 C g g1 p) (w : List Int) :
  LgJ T (folR (catK g1 o p).fol) (catP o p) w ↔ catG (LgJ T (folR g.fol) o) (LgJ T (folR g1.fol) p) w := by
 have hl := h.le
 have kl := k.le
 have i1 := h.inv.1
 have i2 := k.inv.1
 refine lgJ_cat h.inJ k.inJ h.cloJ k.cloJ (fun i j h1 h2 => ?_) (fun i j h1 h2 => ?_) w
 ·show folR (lnk g1.fol o.lst p.fst) i j ↔ _
  rw [folR_lnk h.lst.nodup (by omega)]
  refine or_congr ?_ Iff.rfl
  unfold folR
  rw [k.old i h2]
 ·show folR (lnk g1.fol o.lst p.fst) i j ↔ _
  rw [folR_lnk h.lst.nodup (by omega)]
  exact ⟨fun h9 => h9.resolve_right fun h8 => by have := (h.lst.2.1 i h8.1).2; omega,.inl⟩
theorem lg_alt {c C : Nat} {g0 g g1 : GS} {o p : Pt} {T : Sat} (h : GSt1 c g0 g o) (k : GSt1 C g g1 p) (w : List Int) : LgJ T (folR g1.fol) (altP o p) w ↔ LgJ T (folR g.fol) o w ∨ LgJ T (folR g1.fol) p w :=
 lgJ_alt h.inJ k.inJ h.cloJ k.cloJ (fun i j h1 h2 => by unfold folR; rw [k.old i h2]) (fun i j h1 h2 => Iff.rfl) w
theorem lg_star {C : Nat} {g g1 : GS} {p : Pt} {T : Sat} (k : GSt1 C g g1 p) (w : List Int) : LgJ T (folR (catK g1 p p).fol) ⟨true,p.fst,p.lst⟩ w ↔ starG (LgJ T (folR g1.fol) p) w := by
 have i2 := k.inv.1
 exact lgJ_star k.inJ k.cloJ (fun i j h1 h2 => folR_lnk k.lst.nodup (by omega)) w
theorem catG_iff {A B C D : Lg} (h : ∀ w,A w ↔ C w) (k : ∀ w,B w ↔ D w) (w : List Int) : catG A B w ↔ catG C D w :=
 ⟨fun ⟨u,v,e,a,b⟩ => ⟨u,v,e,(h u).1 a,(k v).1 b⟩,fun ⟨u,v,e,a,b⟩ => ⟨u,v,e,(h u).2 a,(k v).2 b⟩⟩
theorem catG_as (A B C : Lg) (w : List Int) : catG (catG A B) C w ↔ catG A (catG B C) w := by
 constructor
 ·rintro ⟨_,z,rfl,⟨x,y,rfl,h1,h2⟩,h3⟩
  exact ⟨x,y ++ z,by simp,h1,y,z,rfl,h2,h3⟩
 ·rintro ⟨x,_,rfl,h1,y,z,rfl,h2,h3⟩
  exact ⟨x ++ y,z,by simp,⟨x,y,rfl,h1,h2⟩,h3⟩
theorem nil_catG (A : Lg) (w : List Int) : catG nilL A w ↔ A w := ⟨fun ⟨u,v,e,h1,h2⟩ => by rw [e,show u = [] from h1]; exact h2,fun h => ⟨[],w,rfl,rfl,h⟩⟩
theorem catG_nl (A : Lg) (w : List Int) : catG A nilL w ↔ A w := ⟨fun ⟨u,v,e,h1,h2⟩ => by rw [e,show v = [] from h2,List.append_nil]; exact h1,fun h => ⟨w,[],by simp,h,rfl⟩⟩
theorem starG_iff {A B : Lg} (h : ∀ w,A w ↔ B w) (w : List Int) : starG A w ↔ starG B w := by
 have e : A = B := funext fun w => propext (h w)
 rw [e]
theorem lg_refl {T : Sat} {F : Nat → Nat → Prop} (b : Bool) (w : List Int) : LgJ T F ⟨b,[],[]⟩ w ↔ w = [] ∧ b = true :=
 ⟨fun h => h.elim id fun ⟨c,v,q,r,_,h1,_⟩ => (by cases h1),.inl⟩
theorem catGs_lg {c C : Nat} (hc : C + 1 ≤ c) {g0 : GS} : ∀ (fs : List GF) (Ls : List Lg),All3 LgOk fs Ls → (∀ f ∈ fs,GOk C f) → ∀ (g g' : GS) (o p : Pt),GSt1 c g0 g o → catGs fs g o = some (g',p) → ∀ (T : Sat) (A : Lg),TAg T g0.sets.length g'.sets → (∀ w,LgJ T (folR g.fol) o w ↔ A w) → ∀ w,LgJ T (folR g'.fol) p w ↔ catG A (catsG Ls) w
  | [],_,.nil,_,g,g',o,p,h,e,T,A,hT,hA,w => by
    simp only [catGs,Option.some.injEq,Prod.mk.injEq] at e
    obtain ⟨rfl,rfl⟩ := e
    rw [hA]; exact (catG_nl A w).symm
  | f :: fs,_,.cons (b := B) (m := Ls) h0 hs,hf,g,g',o,p,h,e,T,A,hT,hA,w => by
    rw [catGs] at e
    obtain ⟨⟨g1,p1⟩,e1,e2⟩ := Option.bind_eq_some_iff.1 e
    have k := hf f List.mem_cons_self _ _ _ h.inv e1
    have hk := h.cat k hc
    have k2 := catGs_ok hc fs (fun f' h' => hf f' (List.mem_cons_of_mem _ h')) _ _ _ _ hk e2
    obtain ⟨zs,hz⟩ := catGs_pre fs (fun f' h' => hf f' (List.mem_cons_of_mem _ h')) (catK g1 o p1) g' _ _ hk.inv e2
    have hz : g'.sets = g1.sets ++ zs := hz
    have hT1 := (hT.pre hz).mono h.le
    rw [catGs_lg hc fs Ls hs (fun f' h' => hf f' (List.mem_cons_of_mem _ h')) _ _ _ _ hk e2 T (catG A B) hT (fun w => (lg_cat h k w).trans (catG_iff hA (h0 g g1 p1 h.inv e1 T hT1) w)) w]
    exact catG_as A B (catsG Ls) w
where
  catGs_pre {C : Nat} : ∀ (fs : List GF),(∀ f ∈ fs,GOk C f) → ∀ (g g' : GS) (o p : Pt),GI g → catGs fs g o = some (g',p) → ∃ zs,g'.sets = g.sets ++ zs
    | [],_,g,g',o,p,_,e => by
      simp only [catGs,Option.some.injEq,Prod.mk.injEq] at e
      exact ⟨[],by rw [e.1]; simp⟩
    | f :: fs,hf,g,g',o,p,hg,e => by
      rw [catGs] at e
      obtain ⟨⟨g1,p1⟩,e1,e2⟩ := Option.bind_eq_some_iff.1 e
      have k := hf f List.mem_cons_self _ _ _ hg e1
      obtain ⟨z1,h1⟩ := k.pre
      obtain ⟨z2,h2⟩ := catGs_pre fs (fun f' h' => hf f' (List.mem_cons_of_mem _ h')) (catK g1 o p1) g' _ _ ⟨by show (lnk g1.fol o.lst p1.fst).length = _; rw [lnk_len]; exact k.inv.1,k.inv.2⟩ e2
      exact ⟨z1 ++ z2,by rw [h2]; show g1.sets ++ z2 = _; rw [h1,List.append_assoc]⟩
theorem altGs_lg {c C : Nat} (hc : C ≤ c) {g0 : GS} : ∀ (fs : List GF) (Ls : List Lg),All3 LgOk fs Ls → (∀ f ∈ fs,GOk C f) → ∀ (g g' : GS) (o p : Pt),GSt1 c g0 g o → altGs fs g o = some (g',p) → ∀ (T : Sat) (A : Lg),TAg T g0.sets.length g'.sets → (∀ w,LgJ T (folR g.fol) o w ↔ A w) → (∃ zs,g'.sets = g.sets ++ zs) ∧ ∀ w,LgJ T (folR g'.fol) p w ↔ A w ∨ anyG Ls w
  | [],_,.nil,_,g,g',o,p,h,e,T,A,hT,hA => by
    simp only [altGs,Option.some.injEq,Prod.mk.injEq] at e
    obtain ⟨rfl,rfl⟩ := e
    exact ⟨⟨[],by simp⟩,fun w => by rw [hA]; exact ⟨.inl,fun h => h.resolve_right fun ⟨_,h1,_⟩ => by cases h1⟩⟩
  | f :: fs,_,.cons (b := B) (m := Ls) h0 hs,hf,g,g',o,p,h,e,T,A,hT,hA => by
    rw [altGs] at e
    obtain ⟨⟨g1,p1⟩,e1,e2⟩ := Option.bind_eq_some_iff.1 e
    have k := hf f List.mem_cons_self _ _ _ h.inv e1
    have hk := h.alt k hc
    obtain ⟨zs,hz⟩ := (altGs_pre fs (fun f' h' => hf f' (List.mem_cons_of_mem _ h')) _ _ _ _ k.inv e2)
    have hT1 := (hT.pre hz).mono h.le
    have ih := altGs_lg hc fs Ls hs (fun f' h' => hf f' (List.mem_cons_of_mem _ h')) _ _ _ _ hk e2 T (fun w => A w ∨ B w) hT (fun w => (lg_alt h k w).trans (or_congr (hA w) (h0 g g1 p1 h.inv e1 T hT1 w)))
    obtain ⟨z1,h1⟩ := k.pre
    refine ⟨⟨z1 ++ zs,by rw [hz,h1,List.append_assoc]⟩,fun w => ?_⟩
    rw [ih.2 w,or_assoc]
    refine or_congr Iff.rfl ?_
    unfold anyG
    simp
where
  altGs_pre {C : Nat} : ∀ (fs : List GF),(∀ f ∈ fs,GOk C f) → ∀ (g g' : GS) (o p : Pt),GI g → altGs fs g o = some (g',p) → ∃ zs,g'.sets = g.sets ++ zs
    | [],_,g,g',o,p,_,e => by
      simp only [altGs,Option.some.injEq,Prod.mk.injEq] at e
      exact ⟨[],by rw [e.1]; simp⟩
    | f :: fs,hf,g,g',o,p,hg,e => by
      rw [altGs] at e
      obtain ⟨⟨g1,p1⟩,e1,e2⟩ := Option.bind_eq_some_iff.1 e
      have k := hf f List.mem_cons_self _ _ _ hg e1
      obtain ⟨z1,h1⟩ := k.pre
      obtain ⟨z2,h2⟩ := altGs_pre fs (fun f' h' => hf f' (List.mem_cons_of_mem _ h')) g1 g' _ _ k.inv e2
      exact ⟨z1 ++ z2,by rw [h2,h1,List.append_assoc]⟩
/-- k copies, of which those from mn on may be left out. -/
def optJ (A : Lg) (mn : Int) : Nat → Lg
  | 0 => nilL
  | k + 1 => catG (optJ A mn k) (fun w => A w ∨ (w = [] ∧ mn ≤ (k : Int)))
theorem powG_snoc (A : Lg) : ∀ (n : Nat) (w : List Int),catG (powG A n) A w ↔ powG A (n + 1) w
  | 0,w => (nil_catG A w).trans (catG_nl A w).symm
  | n + 1,w => by
    show catG (catG A (powG A n)) A w ↔ catG A (powG A (n + 1)) w
    rw [catG_as]
    exact catG_iff (fun _ => Iff.rfl) (powG_snoc A n) w
theorem optJ_iff (A : Lg) (mn : Int) : ∀ (k : Nat) (w : List Int),optJ A mn k w ↔ ∃ n : Nat,n ≤ k ∧ (mn ≤ (n : Int) ∨ n = k) ∧ powG A n w
  | 0,w => ⟨fun h => ⟨0,Nat.le_refl _,.inr rfl,h⟩,fun ⟨n,h1,_,h3⟩ => by obtain rfl : n = 0 := (by omega); exact h3⟩
  | k + 1,w => by
    have ih := optJ_iff A mn k
    constructor
    · rintro ⟨u,v,rfl,h1,h2⟩
      obtain ⟨n,g1,g2,g3⟩ := (ih u).1 h1
      rcases h2 with h2 | ⟨rfl,h2⟩
      · exact ⟨n + 1,by omega,by omega,(powG_snoc A n _).1 ⟨u,v,rfl,g3,h2⟩⟩
      · rw [List.append_nil]
        exact ⟨n,by omega,by omega,g3⟩
    · rintro ⟨n,g1,g2,g3⟩
      rcases Nat.lt_or_ge k n with h | h
      · obtain rfl : n = k + 1 := by omega
        obtain ⟨u,v,e,h1,h2⟩ := (powG_snoc A k w).2 g3
        exact ⟨u,v,e,(ih u).2 ⟨k,Nat.le_refl _,.inr rfl,h1⟩,.inl h2⟩
      · exact ⟨w,[],by simp,(ih w).2 ⟨n,h,by omega,g3⟩,.inr ⟨rfl,by omega⟩⟩
theorem optJ_rep {A : Lg} {mn mx : Int} (h : 0 ≤ mn ∧ mn ≤ mx) (w : List Int) : optJ A mn mx.toNat w ↔ repG A mn mx w := by
 rw [optJ_iff]
 exact ⟨fun ⟨n,h1,h2,h3⟩ => ⟨n,by omega,by omega,h3⟩,fun ⟨n,h1,h2,h3⟩ => ⟨n,by omega,by omega,h3⟩⟩
theorem lg_orP {T : Sat} {F : Nat → Nat → Prop} (p : Pt) (b : Bool) (w : List Int) : LgJ T F (orP p b) w ↔ LgJ T F p w ∨ (w = [] ∧ b = true) := by
 show (w = [] ∧ (p.nul || b) = true) ∨ _ ↔ ((w = [] ∧ p.nul = true) ∨ _) ∨ _
 rw [Bool.or_eq_true]
 constructor
 ·rintro (⟨h,h1 | h1⟩ | h)
  ·exact .inl (.inl ⟨h,h1⟩)
  ·exact .inr ⟨h,h1⟩
  ·exact .inl (.inr h)
 ·rintro ((⟨h,h1⟩ | h) | ⟨h,h1⟩)
  ·exact .inl ⟨h,.inl h1⟩
  ·exact .inr h
  ·exact .inl ⟨h,.inr h1⟩
theorem repGs_lg {C : Nat} {f : GF} {A : Lg} (hf : GOk C f) (hA : LgOk f A) {mn : Int} {g : GS} (hg : GI g) : ∀ (k : Nat) (g' : GS) (p : Pt),repGs f mn g k = some (g',p) → ∀ T,TAg T g.sets.length g'.sets → ∀ w,LgJ T (folR g'.fol) p w ↔ optJ A mn k w
  | 0,g',p,e,T,hT,w => by
    simp only [repGs,Option.some.injEq,Prod.mk.injEq] at e
    obtain ⟨rfl,rfl⟩ := e
    rw [lg_refl]
    exact ⟨fun h => h.1,fun h => ⟨h,rfl⟩⟩
  | k + 1,g',p,e,T,hT,w => by
    rw [repGs] at e
    obtain ⟨⟨g1,o⟩,e1,e2⟩ := Option.bind_eq_some_iff.1 e
    obtain ⟨⟨g2,q⟩,e3,e4⟩ := Option.bind_eq_some_iff.1 e2
    simp only [Option.some.injEq,Prod.mk.injEq] at e4
    obtain ⟨rfl,rfl⟩ := e4
    have h1 := repGs_ok (Nat.le_refl _) hf hg k g1 o e1
    have h2 := hf _ _ _ h1.inv e3
    obtain ⟨zs,hz⟩ := h2.pre
    have hT2 : TAg T g.sets.length g2.sets := hT
    rw [lg_cat h1 (h2.orP _)]
    refine catG_iff (repGs_lg hf hA hg k g1 o e1 T (hT2.pre hz)) (fun w => ?_) w
    rw [lg_orP,hA g1 g2 q h1.inv e3 T (hT2.mono h1.le)]
    simp
theorem setK_lg (z : List Sp) : LgOk (setK z) (setG z) := by
  intro g g' p hg e T hT w
  unfold setK at e
  split at e
  · cases e
  · simp only [Option.some.injEq,Prod.mk.injEq] at e
    obtain ⟨rfl,rfl⟩ := e
    have hl : (g.sets ++ [z]).length = g.sets.length + 1 := by simp
    have ht : ∀ c,T c (g.sets.length + 1) ↔ inS z c = true := fun c => by
      rw [hT c _ (by omega) (by show _ ≤ (g.sets ++ [z]).length; omega)]
      unfold satS
      show (∃ z',_ ∧ (g.sets ++ [z])[g.sets.length + 1 - 1]? = some z' ∧ _) ↔ _
      rw [Nat.add_sub_cancel,List.getElem?_append_right (Nat.le_refl _),Nat.sub_self]
      simp
    constructor
    · rintro (⟨_,h⟩ | ⟨c,v,q,r,rfl,h1,h2,h3,h4⟩)
      · cases h
      · obtain rfl := List.mem_singleton.1 h1
        refine ⟨c,?_,(ht c).1 h2⟩
        cases h3 with
        | nil => rfl
        | cons h5 _ _ =>
          obtain ⟨l,h6,h7⟩ := h5
          have h8 : (g.fol ++ [[]])[g.sets.length + 1]? = some l := h6
          rw [List.getElem?_append_right (by have := hg.1; omega)] at h8
          rw [List.mem_singleton.1 (List.mem_of_getElem? h8)] at h7
          cases h7
    · rintro ⟨c,rfl,h⟩
      exact .inr ⟨c,[],_,_,rfl,List.mem_singleton.2 rfl,(ht c).2 h,.nil _,List.mem_singleton.2 rfl⟩
theorem gnode_lg {k : Int} {z : List Sp} {mn mx : Int} {fs : List GF} {Ls : List Lg} {C : Nat} (hf : ∀ f ∈ fs,GOk C f) (hL : All3 LgOk fs Ls) (hk : k ≠ 7 ∧ k ≠ 8) (hr : k = 6 → 0 ≤ mn ∧ mn ≤ mx) : LgOk (gnode k z mn mx fs) (langK k z Ls mn mx) := by
  intro g g' p hg e T hT w
  unfold gnode at e
  unfold langK
  split at e
  · rename_i h
    simp only [Option.some.injEq,Prod.mk.injEq] at e
    obtain ⟨rfl,rfl⟩ := e
    rw [if_pos h,lg_refl]
    exact ⟨fun h => h.1,fun h => ⟨h,rfl⟩⟩
  rename_i n1
  rw [if_neg n1]
  split at e
  · rename_i h
    rw [if_pos h]
    exact setK_lg z g g' p hg e T hT w
  rename_i n2
  rw [if_neg n2]
  split at e
  · rename_i h
    rw [if_pos h]
    exact (catGs_lg (Nat.le_refl _) fs Ls hL hf _ _ _ _ (GSt1.refl _ hg true) e T nilL hT (fun w => (lg_refl true w).trans ⟨fun h => h.1,fun h => ⟨h,rfl⟩⟩) w).trans (nil_catG _ w)
  rename_i n3
  rw [if_neg n3]
  split at e
  · rename_i h
    rw [if_pos h]
    exact ((altGs_lg (Nat.le_refl _) fs Ls hL hf _ _ _ _ (GSt1.refl _ hg false) e T noL hT (fun w => (lg_refl false w).trans ⟨fun h => (by cases h.2),fun h => h.elim⟩)).2 w).trans ⟨fun h => h.resolve_left fun f => f,.inr⟩
  rename_i n4
  rw [if_neg n4,if_neg hk.1,if_neg hk.2]
  split at e
  · rename_i h
    rw [if_pos h]
    cases hL with
    | nil => cases e
    | @cons f B fs Ls h0 hs =>
      simp only at e
      obtain ⟨⟨g1,p1⟩,e1,e2⟩ := Option.bind_eq_some_iff.1 e
      simp only [Option.some.injEq,Prod.mk.injEq] at e2
      obtain ⟨rfl,rfl⟩ := e2
      rw [lg_star (hf f List.mem_cons_self _ _ _ hg e1)]
      exact starG_iff (h0 g g1 p1 hg e1 T hT) w
  rename_i n5
  rw [if_neg n5]
  split at e
  · rename_i h
    rw [if_pos h]
    cases hL with
    | nil => cases e
    | @cons f B fs Ls h0 hs =>
      rw [repGs_lg (hf f List.mem_cons_self) h0 hg _ _ _ e T hT w]
      exact optJ_rep (hr h) w
  rename_i n6
  rw [if_neg n6]
  split at e
  · rename_i h
    rw [if_pos h]
    cases hL with
    | nil => cases e
    | @cons f B fs Ls h0 hs => exact h0 g g' p hg e T hT w
  · rename_i n9
    simp only [Option.some.injEq,Prod.mk.injEq] at e
    obtain ⟨rfl,rfl⟩ := e
    rw [if_neg n9,lg_refl]
    exact ⟨fun h => (by cases h.2),fun h => h.elim⟩
mutual
theorem gkO_lg : ∀ t : Re,okRe t → usesB [7,8,10] t = false → LgOk (gkO t) (Lang t)
  | .mk k z a mn mx b,hok,hu => by
    obtain ⟨hk0,hua⟩ := usesB_arg hu
    have hk0' : ([7,8,10] : List Int).contains k = false := hk0
    simp at hk0'
    rw [gkO,Lang]
    exact gnode_lg (gkL_ok a) (gkL_lg a (okRe_args hok) hua) ⟨hk0'.1,hk0'.2.1⟩ fun h => by have := okRe_rep hok h; exact ⟨this.1,this.2.1⟩
theorem gkL_lg : ∀ l : List Re,okRes l → (∀ y ∈ l,usesB [7,8,10] y = false) → All3 LgOk (gkL l) (Langs l)
  | [],_,_ => .nil
  | x :: l,hok,hu => by
    simp only [okRes] at hok
    exact .cons (gkO_lg x hok.1 (hu x List.mem_cons_self)) (gkL_lg l hok.2 fun y hy => hu y (List.mem_cons_of_mem _ hy))
end
--END
def orL : List Int → Int
  | [] => 0
  | x :: r => if x ≠ 0 then x else orL r
theorem sor_c (w0 : World) (v : Value) (l : List Int) (h : IntsAt w0 v l) : Ret Tryz.prog 74 #[v] w0 fun r w => r = .int .i64 (orL l) ∧ Ext w0 w := by
 obtain ⟨a,c,rfl⟩ := SlAt.form h
 have hlen : l.length ≤ 9223372036854775807 := by simpa using SlAt.le h
 simp only [List.length_map] at h ⊢
 refine Ret_of Tryz.func74 rfl Tryz.ntmps74 (Nat.le_of_ble_eq_true rfl) ?_
 have E : Chg none1 w0 w0 := Chg.refl _ _
 refine Wp_seq_region ?_
 refine qA (I6 0) rfl ?_
 refine WpL_nil (Wp_seq_region ?_)
 refine qA (I6 0) rfl ?_
 refine WpL_nil (Wp_seq (Wp_seq_region ?_))
 refine qM (.slice a l.length c) rfl ?_
 refine qV (r_lenSlice (ad := a) (n := l.length) (cap := c) Tryz.underlying22 rfl) ?_
 refine qM (I6 0) rfl ?_
 refine WpL_nil (Wp_block ?_)
 refine Wp_loop (fun nn_ σ W1 => ∃ (k : Nat),(∃ jj_,σ = upds jj_ [(3,(I6 0)),(6,(.slice a l.length c)),(7,(I6 (l.length : Int))),(8,(I6 (k : Int)))]) ∧ Chg none1 w0 W1 ∧ (k ≤ l.length) ∧ (orL (l.drop k) = orL l) ∧ nn_ = l.length - k) (n := l.length - 0) ?_ ?_
 ·exact ⟨0,Fits.out ⟨rfl,rfl,rfl,rfl,trivial⟩,E,Nat.zero_le _,rfl,rfl⟩
 ·clear E
  rintro _ _ W1 ⟨k,⟨j1,rfl⟩,E,hk,ho,rfl⟩
  refine Wp_seq_region ?_
  refine qV (r_lss (k := .i64) (a := (k : Int)) (b := (l.length : Int)) rfl rfl) ?_
  refine WpL_nil (Wp_seq ?_)
  refine Wp_cond (b := decide (((k : Int) : Int) < (l.length : Int))) rfl (fun hlt => ?_) (fun hlt => ?_)
  ·have khlt := hlt
   replace hlt := of_decide_eq_true hlt
   obtain ⟨x,hx⟩ := get_of_lt (l := l) (i := k) (by omega)
   obtain ⟨b,o,rfl,hcl⟩ := ints_cells h (by omega)
   rw [drop_cons hx] at ho
   refine Wp_skip (thn_normal (Wp_seq (Wp_block (Wp_seq_region ?_))))
   refine qV (r_indexSlice (b := b) (o := o) (len := l.length) (cap := c) (i := k) (o' := o + k) rfl rfl rfl Tryz.underlying22 siz3 (by omega) (by omega)) ?_
   refine qV (r_load (v := (I6 x)) rfl flat3 (E.cell (fun f => f) (hcl k x hx))) ?_
   refine qA (I6 x) rfl ?_
   refine WpL_nil (Wp_seq_region ?_)
   refine qM (I6 x) rfl ?_
   refine qM (I6 0) rfl ?_
   refine qV (r_neq (k := .i64) (a := x) (b := 0) rfl rfl) ?_
   refine WpL_nil ?_
   refine Wp_cond (b := decide ((x : Int) ≠ 0)) rfl (fun hne => ?_) (fun hne => ?_)
   ·have khne := hne
    replace hne := of_decide_eq_true hne
    refine Wp_seq_region ?_
    refine qM (I6 x) rfl ?_
    refine qA (I6 x) rfl ?_
    refine WpL_nil (Wp_ret (inB_ret (thn_ret (thn_ret (inB_ret (thn_ret ?_))))))
    refine fin_tmp Tryz.results74 (v := (.int .i64 x)) rfl ?_
    exact ⟨int_eq (by rw [← ho,orL,if_pos hne]),E⟩
   ·have khne := hne
    replace hne := of_decide_eq_false hne
    refine Wp_skip (inB_normal (thn_normal (Wp_region ?_)))
    refine qV (r_add (k := .i64) (a := (k : Int)) (b := 1) (c := (k : Int) + 1) rfl rfl (wI64 (by omega))) ?_
    refine qM (I6 ((k : Int) + 1)) rfl ?_
    refine WpL_nil (thn_normal ?_)
    exact ⟨l.length - (k + 1),by omega,k + 1,Fits.out ⟨rfl,rfl,rfl,rfl,trivial⟩,E,(by omega),(by rw [← ho,orL,if_neg hne]),rfl⟩
  ·have khlt := hlt
   replace hlt := of_decide_eq_false hlt
   have hkk : k = l.length := by omega
   refine Wp_exit (thn_exit (thn_exit (inB_here (thn_normal (Wp_seq_region ?_)))))
   refine qM (I6 0) rfl ?_
   refine qA (I6 0) rfl ?_
   refine WpL_nil (Wp_ret ?_)
   refine fin_tmp Tryz.results74 (v := (.int .i64 0)) rfl ?_
   exact ⟨int_eq (by rw [← ho,hkk,List.drop_length]; rfl),E⟩
def ints2F (a b : Int) : Fct := fun v w => ∃ bb,v = .slice (some ⟨bb,0,none⟩) 2 2 ∧ IntsAt w v [a,b]
theorem ints2F_ext (a b : Int) : Stable (ints2F a b) := by
 rintro v w w' e ⟨bb,h1,h2⟩
 exact ⟨bb,h1,h2.ext e⟩
theorem Does_ints2 {N : Nat} {σ : Env} {w : World} {dst : Option Tmp} {ty : TypeId} {pos : String} {af : Array Edge} {g : Option (Nat × Bool)} {x y : Operand} {a b : Int} (hx : ev σ x = .int .i64 a) (hy : ev σ y = .int .i64 b) :
  Does Tryz.prog N ⟨dst,.buildSlice 22 2 #[(0,x),(1,y)],ty,pos,af,g⟩ (ints2F a b) σ w := by
 have hn := New.mk' w #[.int .i64 a,.int .i64 b] 3
 refine Does_val (run_buildSlice (parts := [(0,x),(1,y)]) (ps := [(0,.int .i64 a),(1,.int .i64 b)]) (by simp only [List.map,hx,hy]) Tryz.underlying22 siz3 zer3 (by decide) (by decide) (by kernel_rfl)) hn.ext ?_
 exact ⟨_,rfl,ints_of_blk [a,b] hn.blk (by simp) (by simp)⟩
def lexI (p q : Int) : Int := if p ≠ 0 then p else q
/-- Two comparisons, there and back. -/
def Sy (p p' : Int) : Prop := (p < 0 ↔ 0 < p') ∧ (0 < p ↔ p' < 0)
/-- Comparisons of one with another, of this with a third, and of the first with the third. -/
def Tr3 (p q r : Int) : Prop := (p ≤ 0 → q ≤ 0 → r ≤ 0) ∧ (p < 0 → q ≤ 0 → r < 0) ∧ (p ≤ 0 → q < 0 → r < 0)
theorem lexI_sg (p q : Int) : (lexI p q < 0 ↔ p < 0 ∨ (p = 0 ∧ q < 0)) ∧ (0 < lexI p q ↔ 0 < p ∨ (p = 0 ∧ 0 < q)) := by unfold lexI; split <;> omega
theorem Sy.lex {p p' P P' : Int} (h : Sy p p') (k : Sy P P') : Sy (lexI p P) (lexI p' P') := by
 unfold Sy at *
 have h1 := lexI_sg p P
 have h2 := lexI_sg p' P'
 omega
theorem Tr3.lex {p q r P Q R : Int} (h : Tr3 p q r) (k : Tr3 P Q R) : Tr3 (lexI p P) (lexI q Q) (lexI r R) := by
 unfold Tr3 at *
 have h1 := lexI_sg p P
 have h2 := lexI_sg q Q
 have h3 := lexI_sg r R
 refine ⟨fun a b => ?_,fun a b => ?_,fun a b => ?_⟩ <;> omega
theorem cmpI_sg (a b : Int) : (cmpI a b < 0 ↔ a < b) ∧ (0 < cmpI a b ↔ b < a) := by unfold cmpI; (repeat' split) <;> omega
theorem sy_cmp (a b : Int) : Sy (cmpI a b) (cmpI b a) := by
 have h1 := cmpI_sg a b
 have h2 := cmpI_sg b a
 unfold Sy
 omega
theorem tr_cmp (a b c : Int) : Tr3 (cmpI a b) (cmpI b c) (cmpI a c) := by
 have h1 := cmpI_sg a b
 have h2 := cmpI_sg b c
 have h3 := cmpI_sg a c
 unfold Tr3
 omega
theorem sy_zero : Sy 0 0 := by unfold Sy; omega
theorem tr_zero : Tr3 0 0 0 := by unfold Tr3; omega
def cmpSp (s t : Int × Int) : Int := orL [cmpI s.1 t.1,cmpI s.2 t.2]
theorem orL_cons (x : Int) (r : List Int) : orL (x :: r) = lexI x (orL r) := rfl
theorem orL_nil : orL [] = 0 := rfl
theorem sy_sp (a b : Int × Int) : Sy (cmpSp a b) (cmpSp b a) := by
 simp only [cmpSp,orL_cons,orL_nil]
 exact (sy_cmp _ _).lex ((sy_cmp _ _).lex sy_zero)
theorem tr_sp (a b c : Int × Int) : Tr3 (cmpSp a b) (cmpSp b c) (cmpSp a c) := by
 simp only [cmpSp,orL_cons,orL_nil]
 exact (tr_cmp _ _ _).lex ((tr_cmp _ _ _).lex tr_zero)
/-- Lists compared one by one; what ends earlier is less. -/
def cmpL {α : Type} (f : α → α → Int) : List α → List α → Int
  | [],[] => 0
  | [],_ :: _ => -1
  | _ :: _,[] => 1
  | x :: l,y :: m => lexI (f x y) (cmpL f l m)
theorem sy_list {α : Type} {f : α → α → Int} (hf : ∀ a b,Sy (f a b) (f b a)) : ∀ a b : List α,Sy (cmpL f a b) (cmpL f b a)
  | x :: a,y :: b => (hf x y).lex (sy_list hf a b)
  | [],[] => sy_zero
  | [],_ :: _ => by simp only [cmpL]; unfold Sy; omega
  | _ :: _,[] => by simp only [cmpL]; unfold Sy; omega
theorem tr_list {α : Type} {f : α → α → Int} (hf : ∀ a b c,Tr3 (f a b) (f b c) (f a c)) : ∀ a b c : List α,Tr3 (cmpL f a b) (cmpL f b c) (cmpL f a c)
  | x :: a,y :: b,z :: c => (hf x y z).lex (tr_list hf a b c)
  | [],[],[] => tr_zero
  | [],[],_ :: _ => by simp only [cmpL]; unfold Tr3; omega
  | [],_ :: _,[] => by simp only [cmpL]; unfold Tr3; omega
  | [],_ :: _,_ :: _ => by simp only [cmpL]; unfold Tr3; omega
  | _ :: _,[],[] => by simp only [cmpL]; unfold Tr3; omega
  | _ :: _,[],_ :: _ => by simp only [cmpL]; unfold Tr3; omega
  | _ :: _,_ :: _,[] => by simp only [cmpL]; unfold Tr3; omega
theorem lexI_zero {p q : Int} : lexI p q = 0 ↔ p = 0 ∧ q = 0 := by unfold lexI; split <;> omega
theorem cmpI_zero {a b : Int} : cmpI a b = 0 ↔ a = b := by unfold cmpI; (repeat' split) <;> omega
theorem cmpSp_zero {a b : Int × Int} : cmpSp a b = 0 ↔ a = b := by
 simp only [cmpSp,orL_cons,orL_nil,lexI_zero,cmpI_zero,and_true,Prod.ext_iff]
theorem cmpL_zero {α : Type} {f : α → α → Int} (hf : ∀ a b,f a b = 0 ↔ a = b) : ∀ {a b : List α},cmpL f a b = 0 ↔ a = b
  | [],[] => by simp [cmpL]
  | [],_ :: _ => by simp [cmpL]
  | _ :: _,[] => by simp [cmpL]
  | x :: l,y :: m => by simp only [cmpL,lexI_zero,hf,cmpL_zero hf,List.cons.injEq]
end Go.Proofs
namespace Go.Eng
open Go
theorem rows_cells {rows : List (List Value)} {rest : List Value} {k : Nat} (hk : ∀ r ∈ rows,r.length = k) : ∀ {i : Nat} {r : List Value},rows[i]? = some r → ∀ (j : Nat) (u : Value),r[j]? = some u → (rows.flatten ++ rest)[i * k + j]? = some u := by
  induction rows with
  | nil => intro i r h; simp at h
  | cons x rs ih =>
    intro i r hr j u hu
    have hx : x.length = k := hk x (by simp)
    cases i with
    | zero =>
      simp at hr; subst hr
      have hj := lt_of_get hu
      simp only [List.flatten_cons,Nat.zero_mul,Nat.zero_add,List.append_assoc]
      rw [List.getElem?_append_left hj]; exact hu
    | succ i =>
      simp at hr
      simp only [List.flatten_cons,List.append_assoc]
      rw [List.getElem?_append_right (by rw [hx,Nat.succ_mul]; omega)]
      rw [show (i + 1) * k + j - x.length = i * k + j from by rw [hx,Nat.succ_mul]; omega]
      exact ih (fun r hr => hk r (by simp [hr])) hr j u hu
theorem rows_at {w : World} {b T k : Nat} {rows : List (List Value)} {rest : List Value} (h : Blk w b (rows.flatten ++ rest).toArray T) (hk : ∀ r ∈ rows,r.length = k) {i : Nat} {r : List Value} (hr : rows[i]? = some r) : CellsAt w b (i * k) r := by
 intro j u hu
 exact h.cell (by simpa using rows_cells hk hr j u hu)
theorem rows_set {k : Nat} {v : List Value} (hv : v.length = k) : ∀ {rows : List (List Value)} {rest : List Value} {i : Nat},(∀ r ∈ rows,r.length = k) → i < rows.length → (rows.flatten ++ rest).take (i * k) ++ v ++ (rows.flatten ++ rest).drop (i * k + k) = (rows.set i v).flatten ++ rest
  | [],_,_,_,hi => by simp at hi
  | x :: rs,rest,0,hk,hi => by
    have hx : x.length = k := hk x (by simp)
    simp only [List.flatten_cons,Nat.zero_mul,List.take_zero,Nat.zero_add,List.set_cons_zero,List.nil_append,List.append_assoc]
    rw [List.drop_append_of_le_length (by omega),List.drop_of_length_le (by omega)]; simp
  | x :: rs,rest,i + 1,hk,hi => by
    have hx : x.length = k := hk x (by simp)
    have ih := rows_set hv (rows := rs) (rest := rest) (i := i) (fun r hr => hk r (by simp [hr])) (by simpa using hi)
    simp only [List.flatten_cons,List.set_cons_succ,List.append_assoc] at ih ⊢
    rw [← ih,Nat.succ_mul]
    have e1 : ∀ (A : List Value) (m : Nat),(x ++ A).take (x.length + m) = x ++ A.take m := fun A m => by rw [List.take_append,List.take_of_length_le (by omega),Nat.add_sub_cancel_left]
    have e2 : ∀ (A : List Value) (m : Nat),(x ++ A).drop (x.length + m) = A.drop m := fun A m => by rw [List.drop_append,List.drop_of_length_le (by omega),Nat.add_sub_cancel_left,List.nil_append]
    rw [show i * k + k = x.length + i * k from by omega,e1,show x.length + i * k + k = x.length + (i * k + k) from by omega,e2]
    rw [List.append_assoc,show x.length + i * k = i * k + k from by omega]
theorem rows_len {k : Nat} : ∀ {rows : List (List Value)},(∀ r ∈ rows,r.length = k) → rows.flatten.length = rows.length * k
  | [],_ => by simp
  | x :: rs,h => by
    have := rows_len (rows := rs) (fun r hr => h r (by simp [hr]))
    have hx : x.length = k := h x (by simp)
    simp only [List.flatten_cons,List.length_append,List.length_cons,this,hx,Nat.succ_mul]; omega
end Go.Eng
namespace Go.Proofs
open Go Go.Eng Go.Sort
theorem cmpsp_c (w0 : World) (x y : Int × Int) : Ret Tryz.prog 105 #[.agg #[.int .i64 x.1,.int .i64 x.2],.agg #[.int .i64 y.1,.int .i64 y.2]] w0 fun v w => v = .int .i64 (cmpSp x y) ∧ Ext w0 w := by
 refine Ret_of Tryz.func105 rfl Tryz.ntmps105 (Nat.le_of_ble_eq_true rfl) ?_
 have E : Chg none1 w0 w0 := Chg.refl _ _
 refine Wp_seq_region ?_
 refine s_box (v := (.agg #[(I6 x.1),(I6 x.2)])) (c := #[(I6 x.1),(I6 x.2)]) (by decide) rfl rfl ?_
 intro b1 w1 N1
 have F1 := N1.ge E
 replace E := E.ext N1.ext
 have B1 := N1.blk
 refine s_box (v := (.agg #[(I6 y.1),(I6 y.2)])) (c := #[(I6 y.1),(I6 y.2)]) (by decide) rfl rfl ?_
 intro b2 w2 N2
 have F2 := N2.ge E
 have O2_b1 := N2.lt B1
 replace B1 := N2.keep B1
 replace E := E.ext N2.ext
 have B2 := N2.blk
 refine qA (I6 0) rfl ?_
 refine WpL_nil (Wp_seq ?_)
 obtain ⟨Fs3,hFs3⟩ : ∃ Fs : List Fact,Fs = [.eq (P6 b1 0),.eq (I6 x.1),.eq (P6 b2 0),.eq (I6 y.1),.eq (I6 (cmpI x.1 y.1)),.eq (P6 b1 1),.eq (I6 x.2),.eq (P6 b2 1),.eq (I6 y.2),.eq (I6 (cmpI x.2 y.2)),.gen (ints2F (cmpI x.1 y.1) (cmpI x.2 y.2)) (ints2F_ext _ _),.eq (I6 (cmpSp x y)),.eq (I6 (cmpSp x y))] := ⟨_,rfl⟩
 refine Wp_dag [5,6,7,8,9,10,11,12,13,14,15,16,4] [[],[0],[],[2],[1,3],[],[5],[],[7],[4,6,8],[4,9],[9,10],[0,1,2,3,4,5,6,7,8,9,10,11]] Fs3 hFs3 mixed (by kernel_rfl) (by kernel_rfl) ?_ ?_
 ·intro wd X0
  refine DagSteps.cons (fun s' w' X U H => Or.inl ⟨?_,?_⟩) ?_
  ·exact Guarded_none rfl
  ·exact Does_val (r_fieldAddr (b := b1) (o := 0) (o' := 0) (U 2 rfl) Tryz.underlying72 rfl siz3 rfl) (Ext.refl _) rfl
  refine DagSteps.cons (fun s' w' X U H => Or.inl ⟨?_,?_⟩) ?_
  ·exact Guarded_none rfl
  ·have e5 : s' 5 = (.pointer (some ⟨b1,0,none⟩)) := H 0 rfl 5 (.eq (.pointer (some ⟨b1,0,none⟩))) rfl (by rw [hFs3]; rfl)
   exact Does_val (r_load (v := (I6 x.1)) e5 flat3 (((X0.trans X).keep B1).cell rfl)) (Ext.refl _) rfl
  refine DagSteps.cons (fun s' w' X U H => Or.inl ⟨?_,?_⟩) ?_
  ·exact Guarded_none rfl
  ·exact Does_val (r_fieldAddr (b := b2) (o := 0) (o' := 0) (U 3 rfl) Tryz.underlying72 rfl siz3 rfl) (Ext.refl _) rfl
  refine DagSteps.cons (fun s' w' X U H => Or.inl ⟨?_,?_⟩) ?_
  ·exact Guarded_none rfl
  ·have e7 : s' 7 = (.pointer (some ⟨b2,0,none⟩)) := H 2 rfl 7 (.eq (.pointer (some ⟨b2,0,none⟩))) rfl (by rw [hFs3]; rfl)
   exact Does_val (r_load (v := (I6 y.1)) e7 flat3 (((X0.trans X).keep B2).cell rfl)) (Ext.refl _) rfl
  refine DagSteps.cons (fun s' w' X U H => Or.inl ⟨?_,?_⟩) ?_
  ·exact Guarded_none rfl
  ·have e6 : s' 6 = (.int .i64 x.1) := H 1 rfl 6 (.eq (.int .i64 x.1)) rfl (by rw [hFs3]; rfl)
   have e8 : s' 8 = (.int .i64 y.1) := H 3 rfl 8 (.eq (.int .i64 y.1)) rfl (by rw [hFs3]; rfl)
   exact Does_enter (r_callF (vs := [(I6 x.1),(I6 y.1)]) Tryz.func75 kQ kQ (lst2 e6 e8)) (compare_c _ _ _)
  refine DagSteps.cons (fun s' w' X U H => Or.inl ⟨?_,?_⟩) ?_
  ·exact Guarded_none rfl
  ·exact Does_val (r_fieldAddr (b := b1) (o := 0) (o' := 1) (U 2 rfl) Tryz.underlying72 rfl siz3 rfl) (Ext.refl _) rfl
  refine DagSteps.cons (fun s' w' X U H => Or.inl ⟨?_,?_⟩) ?_
  ·exact Guarded_none rfl
  ·have e10 : s' 10 = (.pointer (some ⟨b1,1,none⟩)) := H 5 rfl 10 (.eq (.pointer (some ⟨b1,1,none⟩))) rfl (by rw [hFs3]; rfl)
   exact Does_val (r_load (v := (I6 x.2)) e10 flat3 (((X0.trans X).keep B1).cell rfl)) (Ext.refl _) rfl
  refine DagSteps.cons (fun s' w' X U H => Or.inl ⟨?_,?_⟩) ?_
  ·exact Guarded_none rfl
  ·exact Does_val (r_fieldAddr (b := b2) (o := 0) (o' := 1) (U 3 rfl) Tryz.underlying72 rfl siz3 rfl) (Ext.refl _) rfl
  refine DagSteps.cons (fun s' w' X U H => Or.inl ⟨?_,?_⟩) ?_
  ·exact Guarded_none rfl
  ·have e12 : s' 12 = (.pointer (some ⟨b2,1,none⟩)) := H 7 rfl 12 (.eq (.pointer (some ⟨b2,1,none⟩))) rfl (by rw [hFs3]; rfl)
   exact Does_val (r_load (v := (I6 y.2)) e12 flat3 (((X0.trans X).keep B2).cell rfl)) (Ext.refl _) rfl
  refine DagSteps.cons (fun s' w' X U H => Or.inl ⟨?_,?_⟩) ?_
  ·exact Guarded_none rfl
  ·have e11 : s' 11 = (.int .i64 x.2) := H 6 rfl 11 (.eq (.int .i64 x.2)) rfl (by rw [hFs3]; rfl)
   have e13 : s' 13 = (.int .i64 y.2) := H 8 rfl 13 (.eq (.int .i64 y.2)) rfl (by rw [hFs3]; rfl)
   exact Does_enter (r_callF (vs := [(I6 x.2),(I6 y.2)]) Tryz.func75 kQ kQ (lst2 e11 e13)) (compare_c _ _ _)
  refine DagSteps.cons (fun s' w' X U H => Or.inl ⟨?_,?_⟩) ?_
  ·exact Guarded_none rfl
  ·have e9 : s' 9 = (.int .i64 (cmpI x.1 y.1)) := H 4 rfl 9 (.eq (.int .i64 (cmpI x.1 y.1))) rfl (by rw [hFs3]; rfl)
   have e14 : s' 14 = (.int .i64 (cmpI x.2 y.2)) := H 9 rfl 14 (.eq (.int .i64 (cmpI x.2 y.2))) rfl (by rw [hFs3]; rfl)
   exact Does_ints2 e9 e14
  refine DagSteps.cons (fun s' w' X U H => Or.inl ⟨?_,?_⟩) ?_
  ·exact Guarded_none rfl
  ·obtain ⟨b15,e15,i15⟩ := H 10 rfl 15 (.gen (ints2F (cmpI x.1 y.1) (cmpI x.2 y.2)) (ints2F_ext _ _)) rfl (by rw [hFs3]; rfl)
   exact Does_enter (r_callF (vs := [(.slice (some ⟨b15,0,none⟩) 2 2)]) Tryz.func74 kQ kQ (lst1 e15)) (sor_c _ _ _ (e15 ▸ i15))
  refine DagSteps.cons (fun s' w' X U H => Or.inl ⟨?_,?_⟩) ?_
  ·exact Guarded_none rfl
  ·have e16 : s' 16 = (.int .i64 (cmpSp x y)) := H 11 rfl 16 (.eq (.int .i64 (cmpSp x y))) rfl (by rw [hFs3]; rfl)
   exact Does_val (r_assign (v := (I6 (cmpSp x y))) e16) (Ext.refl _) rfl
  exact DagSteps.nil
 ·intro s' w3 X3 U H
  obtain ⟨j3,rfl⟩ := Fits.out (σ := s') (l := [(4,(.int .i64 (cmpSp x y)))]) ⟨(show s' 4 = (.int .i64 (cmpSp x y)) from H 12 4 (.eq (.int .i64 (cmpSp x y))) rfl (by rw [hFs3]; rfl)),trivial⟩
  clear U H
  replace B1 := X3.keep B1
  replace B2 := X3.keep B2
  replace E := E.ext X3
  refine thn_normal (Wp_ret ?_)
  refine fin_tmp Tryz.results105 (v := (.int .i64 (cmpSp x y))) rfl ?_
  exact ⟨rfl,E⟩
theorem cmpfs_c (w0 : World) (v1 v2 fv : Value) (l1 l2 : List (Int × Int)) (f : Int × Int → Int × Int → Int) (h1 : SpansAt w0 v1 l1) (h2 : SpansAt w0 v2 l2)
  (hf : ∀ (w : World) (x y : Int × Int),Ext w0 w → CallV Tryz.prog fv #[.agg #[.int .i64 x.1,.int .i64 x.2],.agg #[.int .i64 y.1,.int .i64 y.2]] w fun r w' => r = .int .i64 (f x y) ∧ Ext w w') :
  Ret Tryz.prog 104 #[v1,v2,fv] w0 fun v w => v = .int .i64 (cmpL f l1 l2) ∧ Ext w0 w := by
 obtain ⟨a1,c1,rfl⟩ := SlAt.form h1
 obtain ⟨a2,c2,rfl⟩ := SlAt.form h2
 have hle1 := SlAt.le h1
 have hle2 := SlAt.le h2
 simp only [List.length_map] at h1 h2 hle1 hle2 ⊢
 refine Ret_of Tryz.func104 rfl Tryz.ntmps104 (Nat.le_of_ble_eq_true rfl) ?_
 have E : Chg none1 w0 w0 := Chg.refl _ _
 refine Wp_seq_region ?_
 refine qA (I6 0) rfl ?_
 refine WpL_nil (Wp_seq (Wp_seq_region ?_))
 refine qM (.slice a1 l1.length c1) rfl ?_
 refine qV (r_lenSlice (ad := a1) (n := l1.length) (cap := c1) Tryz.underlying24 rfl) ?_
 refine qM (I6 0) rfl ?_
 refine WpL_nil (Wp_block ?_)
 refine Wp_loop (fun nn_ σ W1 => ∃ (k : Nat),(∃ jj_,σ = upds jj_ [(0,(.slice a1 l1.length c1)),(1,(.slice a2 l2.length c2)),(2,fv),(11,(.slice a1 l1.length c1)),(12,(I6 (l1.length : Int))),(13,(I6 (k : Int)))]) ∧ Chg none1 w0 W1 ∧ (k ≤ l1.length) ∧ (k ≤ l2.length) ∧ (cmpL f l1 l2 = cmpL f (l1.drop k) (l2.drop k)) ∧ nn_ = l1.length - k) (n := l1.length - 0) ?_ ?_
 ·exact ⟨0,Fits.out ⟨rfl,rfl,rfl,rfl,rfl,rfl,trivial⟩,E,Nat.zero_le _,Nat.zero_le _,rfl,rfl⟩
 ·clear E
  rintro _ _ W1 ⟨k,⟨j1,rfl⟩,E,hk,hk2,heq,rfl⟩
  refine Wp_seq_region ?_
  refine qV (r_lss (k := .i64) (a := (k : Int)) (b := (l1.length : Int)) rfl rfl) ?_
  refine WpL_nil (Wp_seq ?_)
  refine Wp_cond (b := decide (((k : Int) : Int) < (l1.length : Int))) rfl (fun hlt => ?_) (fun hlt => ?_)
  ·have khlt := hlt
   replace hlt := of_decide_eq_true hlt
   obtain ⟨p,hp⟩ := get_of_lt (l := l1) (i := k) (by omega)
   obtain ⟨b1,o1,rfl,hc1⟩ := spans_cells h1 (by omega)
   rw [drop_cons hp] at heq
   refine Wp_skip (thn_normal (Wp_seq (Wp_block (Wp_seq_region ?_))))
   refine qM (I6 (k : Int)) rfl ?_
   refine qV (r_indexSlice (b := b1) (o := o1) (len := l1.length) (cap := c1) (i := k) (o' := o1 + k * 2) rfl rfl rfl Tryz.underlying24 siz72 (by omega) (by omega)) ?_
   refine qV (r_loadAgg (vs := [(I6 p.1),(I6 p.2)]) rfl agg72 siz72 rfl ((hc1 k p hp).ext E)) ?_
   refine s_alloc (c := #[(I6 0),(I6 0)]) (by decide) zer72 rfl ?_
   intro bp wp Np
   have Fp := Np.ge E
   replace E := E.ext Np.ext
   have Bp := Np.blk
   refine qA (I6 (k : Int)) rfl ?_
   refine s_storeAgg (b := bp) (o := 0) (c' := #[(I6 p.1),(I6 p.2)]) rfl rfl (by simp [Value.oneCell']) siz72 rfl Bp (by first | (simp; done) | exact Nat.le_of_ble_eq_true rfl) rfl ?_
   intro w3 S3
   replace E := S3.step E (by first | exact Or.inl (by omega) | exact Or.inr rfl | exact Or.inr (by assumption) | exact Or.inr (by simp) | exact Or.inr (by omega) | exact Or.inr (by dsimp only; omega))
   replace Bp := S3.blk
   refine WpL_nil (Wp_seq (Wp_seq_region ?_))
   refine qM (I6 (k : Int)) rfl ?_
   refine qM (.slice a2 l2.length c2) rfl ?_
   refine qV (r_lenSlice (ad := a2) (n := l2.length) (cap := c2) Tryz.underlying24 rfl) ?_
   refine qV (r_geq (k := .i64) (a := (k : Int)) (b := (l2.length : Int)) rfl rfl) ?_
   refine WpL_nil ?_
   refine Wp_cond (b := decide (((l2.length : Int) : Int) ≤ (k : Int))) rfl (fun hge => ?_) (fun hge => ?_)
   ·have khge := hge
    replace hge := of_decide_eq_true hge
    refine Wp_seq_region ?_
    refine qA (I6 1) rfl ?_
    refine WpL_nil (Wp_ret (thn_ret (inB_ret (thn_ret (thn_ret (inB_ret (thn_ret ?_)))))))
    refine fin_tmp Tryz.results104 (v := (.int .i64 1)) rfl ?_
    exact ⟨int_eq (by rw [heq,List.drop_eq_nil_of_le (show l2.length ≤ k by omega)]; rfl),E⟩
   ·have khge := hge
    replace hge := of_decide_eq_false hge
    obtain ⟨q,hq⟩ := get_of_lt (l := l2) (i := k) (by omega)
    obtain ⟨b2,o2,rfl,hc2⟩ := spans_cells h2 (by omega)
    rw [drop_cons hq] at heq
    refine Wp_skip (thn_normal (Wp_seq_region ?_))
    refine qM (.slice (some ⟨b2,o2,none⟩) l2.length c2) rfl ?_
    refine qM (I6 (k : Int)) rfl ?_
    refine qV (r_indexSlice (b := b2) (o := o2) (len := l2.length) (cap := c2) (i := k) (o' := o2 + k * 2) rfl rfl rfl Tryz.underlying24 siz72 (by omega) (by omega)) ?_
    refine qV (r_loadAgg (vs := [(I6 q.1),(I6 q.2)]) rfl agg72 siz72 rfl ((hc2 k q hq).ext E)) ?_
    refine s_allocStore (v := (.agg #[(I6 q.1),(I6 q.2)])) (c := #[(I6 q.1),(I6 q.2)]) (n := 2) (by decide) zer72 rfl siz72 rfl rfl rfl (by simp [Value.oneCell']) ?_
    intro bq wq Nq
    have Fq := Nq.ge E
    have Oq_bp := Nq.lt Bp
    replace Bp := Nq.keep Bp
    replace E := E.ext Nq.ext
    have Bq := Nq.blk
    refine WpL_nil (Wp_seq_region ?_)
    refine qM fv rfl ?_
    refine qV (r_loadAgg (vs := [(I6 p.1),(I6 p.2)]) rfl agg72 siz72 rfl (Bp.cells rfl)) ?_
    refine qV (r_loadAgg (vs := [(I6 q.1),(I6 q.2)]) rfl agg72 siz72 rfl (Bq.cells rfl)) ?_
    refine WpL_callV (fv := fv) (vs := [(.agg #[(I6 p.1),(I6 p.2)]),(.agg #[(I6 q.1),(I6 q.2)])]) (by decide) rfl rfl (hf _ p q E) ?_
    rintro _ w9 ⟨rfl,X9⟩
    replace Bp := X9.keep Bp
    replace Bq := X9.keep Bq
    replace E := E.ext X9
    refine qA (I6 (f p q)) rfl ?_
    refine WpL_nil (Wp_seq_region ?_)
    refine qM (I6 (f p q)) rfl ?_
    refine qV (r_neq (k := .i64) (a := f p q) (b := 0) rfl rfl) ?_
    refine WpL_nil ?_
    refine Wp_cond (b := decide ((f p q : Int) ≠ 0)) rfl (fun hne => ?_) (fun hne => ?_)
    ·have khne := hne
     replace hne := of_decide_eq_true hne
     refine Wp_seq_region ?_
     refine qM (I6 (f p q)) rfl ?_
     refine qA (I6 (f p q)) rfl ?_
     refine WpL_nil (Wp_ret (inB_ret (thn_ret (thn_ret (inB_ret (thn_ret ?_))))))
     refine fin_tmp Tryz.results104 (v := (.int .i64 (f p q))) rfl ?_
     exact ⟨int_eq (by rw [heq,cmpL,lexI,if_pos hne]),E⟩
    ·have khne := hne
     replace hne := of_decide_eq_false hne
     refine Wp_skip (inB_normal (thn_normal (Wp_region ?_)))
     refine qV (r_add (k := .i64) (a := (k : Int)) (b := 1) (c := (k : Int) + 1) rfl rfl (wI64 (by omega))) ?_
     refine qM (I6 ((k : Int) + 1)) rfl ?_
     refine WpL_nil (thn_normal ?_)
     exact ⟨l1.length - (k + 1),by omega,k + 1,Fits.out ⟨rfl,rfl,rfl,rfl,rfl,rfl,trivial⟩,E,(by omega),(by omega),(by rw [heq,cmpL,lexI,if_neg hne]),rfl⟩
  ·have khlt := hlt
   replace hlt := of_decide_eq_false hlt
   have hkk : k = l1.length := by omega
   rw [hkk,List.drop_length] at heq
   refine Wp_exit (thn_exit (thn_exit (inB_here (thn_normal (Wp_seq (Wp_seq_region ?_))))))
   refine qM (.slice a1 l1.length c1) rfl ?_
   refine qV (r_lenSlice (ad := a1) (n := l1.length) (cap := c1) Tryz.underlying24 rfl) ?_
   refine qM (.slice a2 l2.length c2) rfl ?_
   refine qV (r_lenSlice (ad := a2) (n := l2.length) (cap := c2) Tryz.underlying24 rfl) ?_
   refine qV (r_lss (k := .i64) (a := (l1.length : Int)) (b := (l2.length : Int)) rfl rfl) ?_
   refine WpL_nil ?_
   refine Wp_cond (b := decide (((l1.length : Int) : Int) < (l2.length : Int))) rfl (fun hl => ?_) (fun hl => ?_)
   ·have khl := hl
    replace hl := of_decide_eq_true hl
    obtain ⟨q,hq⟩ := get_of_lt (l := l2) (i := l1.length) (by omega)
    refine Wp_seq_region ?_
    refine qA (I6 (-1)) rfl ?_
    refine WpL_nil (Wp_ret (thn_ret ?_))
    refine fin_tmp Tryz.results104 (v := (.int .i64 (-1))) rfl ?_
    exact ⟨int_eq (by rw [heq,drop_cons hq]; rfl),E⟩
   ·have khl := hl
    replace hl := of_decide_eq_false hl
    refine Wp_skip (thn_normal (Wp_seq_region ?_))
    refine qA (I6 0) rfl ?_
    refine WpL_nil (Wp_ret ?_)
    refine fin_tmp Tryz.results104 (v := (.int .i64 0)) rfl ?_
    exact ⟨int_eq (by rw [heq,List.drop_eq_nil_of_le (by omega)]; rfl),E⟩
theorem spord_c (w0 : World) (v1 v2 : Value) (l1 l2 : List (Int × Int)) (h1 : SpansAt w0 v1 l1) (h2 : SpansAt w0 v2 l2) :
  Ret Tryz.prog 76 #[v1,v2] w0 fun v w => v = .int .i64 (cmpL cmpSp l1 l2) ∧ Ext w0 w := by
 refine Ret_of Tryz.func76 rfl Tryz.ntmps76 (Nat.le_of_ble_eq_true rfl) ?_
 have E : Chg none1 w0 w0 := Chg.refl _ _
 refine Wp_seq_region ?_
 refine qA (I6 0) rfl ?_
 refine WpL_nil (Wp_seq_region ?_)
 refine qM v1 rfl ?_
 refine qM v2 rfl ?_
 refine WpL_enter rfl rfl (by decide) (r_callF (vs := [v1,v2,(.func (.func 105) #[] #[])]) Tryz.func104 kQ kQ rfl) (cmpfs_c _ v1 v2 _ l1 l2 cmpSp h1 h2 (fun w x y _ => CallV.mk (first := #[]) (cap := #[]) Tryz.func105 kQ kQ rfl (cmpsp_c w x y))) ?_
 rintro _ w9 ⟨rfl,X9⟩
 replace E := E.ext X9
 refine qA (I6 (cmpL cmpSp l1 l2)) rfl ?_
 refine WpL_nil (Wp_ret ?_)
 refine fin_tmp Tryz.results76 (v := (.int .i64 (cmpL cmpSp l1 l2))) rfl ?_
 exact ⟨rfl,E⟩
end Go.Proofs
