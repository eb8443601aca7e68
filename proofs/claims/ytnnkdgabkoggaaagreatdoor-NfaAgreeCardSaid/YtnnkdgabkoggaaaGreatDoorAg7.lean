/- Contracts and plain lemmas, part 7. -/
import Derived.Tactics
import Derived.Deep.Quiet
import Derived.Laws.AppendOwn
import Derived.KernelRfl
import Derived.Laws.Entries
import Derived.Laws.Build
import Derived.Below
import Derived.RowKit3
import Derived.StillTail
import Derived.Sort.Grow
import Derived.Deep.Draws
import Derived.Test.YtnnkdgabkoggaaaGreatDoorChecked
import Derived.Laws.StructEq
import Derived.MapKept
import Derived.Laws.BytesArg
import Derived.Defers
import Derived.Recover
import Derived.Shelf.SlSortCmp.WholeK
import Derived.Shelf.Sort.Plain
import Derived.Shelf.Slices.CompactI
import Derived.Test.YtnnkdgabkoggaaaGreatDoorProg
import Derived.Shelf.Small.Bits
import Derived.DeepKeys3
import Derived.Test.YtnnkdgabkoggaaaGreatDoorAg6
set_option maxHeartbeats 16000000
set_option maxRecDepth 100000
namespace Go.Proofs
open Go Go.Eng Go.Sort
abbrev TEs : Nat := 35
theorem edges_zip {w : World} {v : Value} {es : List Ed} (h : EdgesAt w v es) : ∃ Z : List EdR,Z.map (·.1) = es ∧ Z.length = es.length ∧ (∀ (i : Nat) z,Z[i]? = some z → es[i]? = some z.1 ∧ ∃ a c,z.2 = [.int .i64 z.1.1,.int .i64 z.1.2.1,.slice a z.1.2.2.length c] ∧ SpansAt w (.slice a z.1.2.2.length c) z.1.2.2) ∧
  ∀ a n c,v = .slice a n c → 0 < n → ∃ b o,a = some ⟨b,o,none⟩ ∧ ∀ (i : Nat) z,Z[i]? = some z → CellsAt w b (o + i * 3) z.2 := by
 obtain ⟨rows,h1,h2,h3⟩ := h
 have hl : (es.zip rows).length = es.length := by rw [List.length_zip]; omega
 refine ⟨es.zip rows,List.map_fst_zip (by omega),hl,fun i z hz => ?_,fun a n c e hn => ?_⟩
 ·have := List.getElem?_zip_eq_some.1 hz
  obtain ⟨u,h4,h5⟩ := h3 i z.1 z.2 this.1 this.2
  obtain ⟨a,c,rfl⟩ := SlAt.form h5
  rw [List.length_map] at h4 h5
  exact ⟨this.1,a,c,h4,h5⟩
 ·subst e
  obtain ⟨b,o,h4,h5⟩ := SlAt.at h1 hn
  exact ⟨b,o,h4,fun i z hz => h5 i z.2 (List.getElem?_zip_eq_some.1 hz).2⟩
theorem bare_any {n : Nf} {N : Nat} {M : List Bool} {s : Int} (ok : OkN n) (hN : n.states = (N : Int)) (hl : M.length = N) (hM : MarkOf M (cloP n.eps fun t => t ∈ [s])) : (n.ends.any fun t => M.getD t.toNat false) = true ↔ ∃ e ∈ n.ends,cloP n.eps (fun t => t = s) e := by
 rw [List.any_eq_true]
 have hiff : ∀ e ∈ n.ends,M.getD e.toNat false = true ↔ cloP n.eps (fun t => t = s) e := fun e he => by
  obtain ⟨a,ha,haN⟩ := int_nat (x := e) (N := N) (by have := ok.en e he; omega)
  have h8 := (hM a (by omega)).trans (cloP_congr (fun y => List.mem_singleton) _)
  rw [ha,Int.toNat_natCast,← h8,List.getD_eq_getElem?_getD]
  obtain ⟨q,hq⟩ := get_of_lt (l := M) (i := a) (by omega)
  rw [hq]; simp
 exact ⟨fun ⟨e,he,h⟩ => ⟨e,he,(hiff e he).1 h⟩,fun ⟨e,he,h⟩ => ⟨e,he,(hiff e he).2 h⟩⟩
theorem bare_c (w0 : World) (n : Nf) (vs0 : List Value) (h : NfAt w0 n vs0) : Ret Tryz.prog 13 #[.agg vs0.toArray] w0 fun r w => NfR w0.heap.size (BareR n) r w ∧ Ext w0 w := by
 have h0 := h
 obtain ⟨ea,ec,pa,pc,xa,xc,rfl,hen,hep,hed⟩ := h
 obtain ⟨Z,hZ,hZl,hZg,hZc⟩ := edges_zip hed
 refine Ret_of Tryz.func13 rfl Tryz.ntmps13 (Nat.le_of_ble_eq_true rfl) ?_
 have E : Chg none1 w0 w0 := Chg.refl _ _
 refine Wp_seq_region ?_
 refine s_box (v := (.agg #[(I6 n.states),(I6 n.start),(.slice ea n.ends.length ec),(.slice pa n.eps.length pc),(.slice xa n.edges.length xc)])) (c := #[(I6 n.states),(I6 n.start),(.slice ea n.ends.length ec),(.slice pa n.eps.length pc),(.slice xa n.edges.length xc)]) (by decide) rfl rfl ?_
 intro bn wn Nn
 have Fn := Nn.ge E
 replace E := E.ext Nn.ext
 have Bn := Nn.blk
 refine s_alloc (c := #[(I6 0),(I6 0),(.slice none 0 0),(.slice none 0 0),(.slice none 0 0)]) (by decide) zer37 rfl ?_
 intro br wr Nr
 have Fr := Nr.ge E
 have Or_bn := Nr.lt Bn
 replace Bn := Nr.keep Bn
 replace E := E.ext Nr.ext
 have Br := Nr.blk
 refine qA (I6 0) rfl ?_
 refine WpL_nil (Wp_seq (Wp_seq_region ?_))
 refine qV (r_loadAgg (vs := [(I6 n.states),(I6 n.start),(.slice ea n.ends.length ec),(.slice pa n.eps.length pc),(.slice xa n.edges.length xc)]) rfl agg37 siz37 rfl (Bn.cells rfl)) ?_
 refine WpL_enter rfl rfl (by decide) (r_callF (vs := [(.agg #[(I6 n.states),(I6 n.start),(.slice ea n.ends.length ec),(.slice pa n.eps.length pc),(.slice xa n.edges.length xc)])]) Tryz.func29 kQ kQ rfl) (ncheck_c _ n _ (h0.ext E)) ?_
 rintro _ w9 ⟨rfl,X9⟩
 replace Bn := X9.keep Bn
 replace Br := X9.keep Br
 replace E := E.ext X9
 refine qA (I6 (chkN n)) rfl ?_
 refine WpL_nil (Wp_seq_region ?_)
 refine qM (I6 (chkN n)) rfl ?_
 refine qV (r_neq (k := .i64) (a := chkN n) (b := 0) rfl rfl) ?_
 refine WpL_nil ?_
 refine Wp_cond (b := decide ((chkN n : Int) ≠ 0)) rfl (fun hc0 => ?_) (fun hc0 => ?_)
 ·have khc0 := hc0
  replace hc0 := of_decide_eq_true hc0
  refine Wp_seq_region ?_
  refine qV (r_build (ps := []) (v := (.agg #[(I6 0),(I6 0),(.slice none 0 0),(.slice none 0 0),(.slice none 0 0)])) rfl (by kernel_rfl)) ?_
  refine qM (I6 (chkN n)) rfl ?_
  refine s_storeAgg (b := br) (o := 0) (c' := #[(I6 0),(I6 0),(.slice none 0 0),(.slice none 0 0),(.slice none 0 0)]) rfl rfl (by simp [Value.oneCell']) siz37 rfl Br (by first | (simp; done) | exact Nat.le_of_ble_eq_true rfl) rfl ?_
  intro w2 S2
  replace Bn := S2.keep (by omega) Bn
  replace E := S2.step E (by first | exact Or.inl (by omega) | exact Or.inr rfl | exact Or.inr (by assumption) | exact Or.inr (by simp) | exact Or.inr (by omega) | exact Or.inr (by dsimp only; omega))
  replace Br := S2.blk
  refine qA (I6 (chkN n)) rfl ?_
  refine WpL_nil (Wp_ret (thn_ret ?_))
  refine fin_agg_tmp Tryz.results13 (vs := [(.int .i64 0),(.int .i64 0),(.slice none 0 0),(.slice none 0 0),(.slice none 0 0)]) (b := br) (v' := (.int .i64 (chkN n))) rfl agg37 siz37 rfl (Br.cells rfl) rfl ?_
  exact ⟨nfR_zero (.inl ⟨hc0,rfl,rfl⟩),E⟩
 ·have khc0 := hc0
  replace hc0 := of_decide_eq_false hc0
  have hc1 : chkN n = 0 := by omega
  have ok := chkN_zero.1 hc1
  obtain ⟨N,hN⟩ : ∃ N : Nat,n.states = (N : Int) := by have := ok.s0; obtain ⟨a,ha⟩ := Int.eq_ofNat_of_zero_le (show 0 ≤ n.states by omega); exact ⟨a,ha⟩
  have hst := ok.st
  have hxl := ok.xl
  have hel := ok.el
  have hN5 : N ≤ 500 := by omega
  have h0N := h0
  rw [hN] at h0N
  have Bn2 := Bn
  rw [hN] at Bn2
  have hwn : bn < (w9).heap.size ∧ br < (w9).heap.size ∧ w0.heap.size ≤ (w9).heap.size := ⟨Bn2.lt,Br.lt,E.size⟩
  obtain ⟨n1,hn1e⟩ : ∃ n1,n1 = (w9).heap.size := ⟨_,rfl⟩
  refine Wp_skip (thn_normal (Wp_seq_region ?_))
  refine qF bn 0 0 rfl Tryz.underlying37 rfl siz3 rfl ?_
  refine qV (r_load (v := (I6 (N : Int))) rfl flat3 (Bn2.cell rfl)) ?_
  refine s_make (n := N) (z := (.slice none 0 0)) (bytes := 24) (by decide) Tryz.underlying88 siz35 byt35 zer35 rfl rfl rfl (by omega) (by omega) ?_
  intro bi wi Ni
  have Fi := Ni.ge E
  have Oi_bn := Ni.lt Bn2
  have Oi_br := Ni.lt Br
  replace Bn2 := Ni.keep Bn2
  replace Br := Ni.keep Br
  replace E := E.ext Ni.ext
  have Bi := Ni.blk
  refine qA (.slice (some ⟨bi,0,none⟩) N N) rfl ?_
  refine WpL_nil (Wp_seq (Wp_seq_region ?_))
  refine qF bn 0 4 rfl Tryz.underlying37 rfl siz35 rfl ?_
  refine qV (r_load (v := (.slice xa n.edges.length xc)) rfl flat35 (Bn2.cell rfl)) ?_
  refine qV (r_lenSlice (ad := xa) (n := n.edges.length) (cap := xc) Tryz.underlying35 rfl) ?_
  refine qM (I6 0) rfl ?_
  refine WpL_nil (Wp_block ?_)
  have hbi1 : n1 ≤ bi := by have := Ni.eq; omega
  have hG0 := GSt.made (To := TEs) (e := TEd) (sz := 3) (base := n1) (n := N) Bi hbi1 (by omega) hbi1
  have hs0 : n1 ≤ wi.heap.size := by have := Ni.ext.size; omega
  refine Wp_loop (fun nn_ σ W3 => ∃ (k : Nat) (into : List (List EdR)) (vs : List Value),(∃ jj_,σ = upds jj_ [(1,(P6 bn 0)),(2,(P6 br 0)),(5,(.slice (some ⟨bi,0,none⟩) N N)),(26,(.slice xa n.edges.length xc)),(27,(I6 (n.edges.length : Int))),(28,(I6 (k : Int)))]) ∧ Chg none1 w0 W3 ∧ Blk W3 bn #[(I6 (N : Int)),(I6 n.start),(.slice ea n.ends.length ec),(.slice pa n.eps.length pc),(.slice xa n.edges.length xc)] 37 ∧ Blk W3 br #[(I6 0),(I6 0),(.slice none 0 0),(.slice none 0 0),(.slice none 0 0)] 37 ∧ (k ≤ n.edges.length) ∧ (SelZ Z N k into) ∧ (GSt TEs TEd 3 W3 n1 (.slice (some ⟨bi,0,none⟩) N N) vs (into.map zRow)) ∧ (n1 ≤ W3.heap.size) ∧ nn_ = n.edges.length - k) (n := n.edges.length - 0) ?_ ?_
  ·exact ⟨0,List.replicate N [],List.replicate N (.slice none 0 0),Fits.out ⟨rfl,rfl,rfl,rfl,rfl,rfl,trivial⟩,E,Bn2,Br,Nat.zero_le _,SelZ.start _ _,(by rw [zrow_rep]; exact hG0),hs0,rfl⟩
  ·clear E Bn2 Br
   rintro _ _ W3 ⟨k,into,vs,⟨j3,rfl⟩,E,Bn2,Br,hk,hS,hG,hsz,rfl⟩
   refine Wp_seq_region ?_
   refine qV (r_lss (k := .i64) (a := (k : Int)) (b := (n.edges.length : Int)) rfl rfl) ?_
   refine WpL_nil (Wp_seq ?_)
   refine Wp_cond (b := decide (((k : Int) : Int) < (n.edges.length : Int))) rfl (fun hlt => ?_) (fun hlt => ?_)
   ·have khlt := hlt
    replace hlt := of_decide_eq_true hlt
    obtain ⟨z,hz⟩ := get_of_lt (l := Z) (i := k) (by omega)
    obtain ⟨hze,ra,rc,hz2,hspan⟩ := hZg k z hz
    have hem := ok.ed z.1 (List.mem_of_getElem? hze)
    obtain ⟨a,ha,haN⟩ := int_nat (x := z.1.1) (N := N) (by rw [← hN]; exact hem.1)
    obtain ⟨xb,xo,rfl,hxc⟩ := hZc xa _ _ rfl (by omega)
    have hcell := hxc k z hz
    rw [hz2,ha] at hcell
    obtain ⟨l0,hl0⟩ := get_of_lt (l := into) (i := a) (by have := hS.1; omega)
    have hlen := hS.len hl0
    have hGl : (into.map zRow).length = N := by rw [List.length_map]; exact hS.1
    obtain ⟨v1,hv1⟩ := get_of_lt (l := vs) (i := a) (by have := hG.l.len; omega)
    have hp1 : (into.map zRow)[a]? = some (l0.length,(l0.map (·.2)).flatten) := by rw [List.getElem?_map,hl0]; rfl
    have hinn := hG.l.inn a v1 _ hv1 hp1
    have hinl0 := hinn.lt
    obtain ⟨va,vc,rfl⟩ := own_form hinn
    refine Wp_skip (thn_normal (Wp_seq (Wp_block (Wp_seq_region ?_))))
    refine qV (r_indexSlice (b := xb) (o := xo) (len := n.edges.length) (cap := xc) (i := k) (o' := xo + k * 3) rfl rfl rfl Tryz.underlying35 siz74 (by omega) (by omega)) ?_
    refine qV (r_loadAgg (vs := [(I6 (a : Int)),(I6 z.1.2.1),(.slice ra z.1.2.2.length rc)]) rfl agg74 siz74 rfl (hcell.ext E)) ?_
    refine s_allocStore (v := (.agg #[(I6 (a : Int)),(I6 z.1.2.1),(.slice ra z.1.2.2.length rc)])) (c := #[(I6 (a : Int)),(I6 z.1.2.1),(.slice ra z.1.2.2.length rc)]) (n := 3) (by decide) zer74 rfl siz74 rfl rfl rfl (by simp [Value.oneCell']) ?_
    intro bx wx Nx
    have Fx := Nx.ge E
    have Ox_bn := Nx.lt Bn2
    have Ox_br := Nx.lt Br
    replace Bn2 := Nx.keep Bn2
    replace Br := Nx.keep Br
    replace hG := hG.ext Nx.ext
    replace hinn := own_ext hinn Nx.ext
    replace hsz := Nat.le_trans hsz Nx.ext.size
    replace E := E.ext Nx.ext
    have Bx := Nx.blk
    refine WpL_nil ?_
    obtain ⟨gg,hgg,_,hg2⟩ := own_cells (hG.l.on hGl.symm) (by omega)
    simp only [Option.some.injEq,Addr.mk.injEq,and_true] at hgg
    subst hgg
    have hbx := Nx.eq
    have hinl := hinn.lt
    obtain ⟨h0',hh0⟩ : ∃ h0,h0 = (wx).heap.size := ⟨_,rfl⟩
    obtain ⟨Fs5,hFs5⟩ : ∃ Fs : List (FactT ((fun y => (Value.slice va l0.length vc).ownBlock = some y))),Fs = [.eq (.slice (some ⟨bi,0,none⟩) N N),.eq (P6 bx 0),.eq (I6 (a : Int)),.eq (.slice (some ⟨bi,0,none⟩) N N),.eq (P6 bx 0),.eq (I6 (a : Int)),.eq (.pointer (some ⟨bi,0 + a,none⟩)),.eq (.slice va l0.length vc),.eq (.agg #[(I6 (a : Int)),(I6 z.1.2.1),(.slice ra z.1.2.2.length rc)]),.till (litF TEd #[.int .i64 (a : Int),.int .i64 z.1.2.1,.slice ra z.1.2.2.length rc] 0) (litF_ext _ _ _),.own (appF n1 TEd 3 (l0.length + 1) ((l0.map (·.2)).flatten ++ [Value.int .i64 (a : Int),Value.int .i64 z.1.2.1,Value.slice ra z.1.2.2.length rc]) (.slice va l0.length vc) h0') (appF_ext _ _ _ _ _ _ _)] := ⟨_,rfl⟩
    refine Wp_dagT ((fun y => (Value.slice va l0.length vc).ownBlock = some y)) 11 10 [32,33,34,35,36,37,38,39,40,41,42] [[],[],[1],[],[],[4],[3,5],[6],[],[8],[7,9]] Fs5 hFs5 rfl mixed (by kernel_rfl) (by kernel_rfl) (by kernel_rfl) ?_ ?_
    ·intro wd X0
     refine DagStepsT.cons (fun s' w' X U H => ?_) ?_
     ·exact DoesT_val (r_move (v := (.slice (some ⟨bi,0,none⟩) N N)) (U 5 rfl)) (Chg.refl _ _) rfl
     refine DagStepsT.cons (fun s' w' X U H => ?_) ?_
     ·exact DoesT_val (r_fieldAddr (b := bx) (o := 0) (o' := 0) (U 7 rfl) Tryz.underlying74 rfl siz3 rfl) (Chg.refl _ _) rfl
     refine DagStepsT.cons (fun s' w' X U H => ?_) ?_
     ·have e33 : s' 33 = (.pointer (some ⟨bx,0,none⟩)) := H 1 rfl 33 (.eq (.pointer (some ⟨bx,0,none⟩))) rfl (by rw [hFs5]; rfl)
      exact DoesT_val (r_load (v := (I6 (a : Int))) e33 flat3 ((Chg.keep X (fun h => by have := (hinl0 _ h).2; omega) (X0.keep Bx)).cell rfl)) (Chg.refl _ _) rfl
     refine DagStepsT.cons (fun s' w' X U H => ?_) ?_
     ·exact DoesT_val (r_move (v := (.slice (some ⟨bi,0,none⟩) N N)) (U 5 rfl)) (Chg.refl _ _) rfl
     refine DagStepsT.cons (fun s' w' X U H => ?_) ?_
     ·exact DoesT_val (r_fieldAddr (b := bx) (o := 0) (o' := 0) (U 7 rfl) Tryz.underlying74 rfl siz3 rfl) (Chg.refl _ _) rfl
     refine DagStepsT.cons (fun s' w' X U H => ?_) ?_
     ·have e36 : s' 36 = (.pointer (some ⟨bx,0,none⟩)) := H 4 rfl 36 (.eq (.pointer (some ⟨bx,0,none⟩))) rfl (by rw [hFs5]; rfl)
      exact DoesT_val (r_load (v := (I6 (a : Int))) e36 flat3 ((Chg.keep X (fun h => by have := (hinl0 _ h).2; omega) (X0.keep Bx)).cell rfl)) (Chg.refl _ _) rfl
     refine DagStepsT.cons (fun s' w' X U H => ?_) ?_
     ·have e35 : s' 35 = (.slice (some ⟨bi,0,none⟩) N N) := H 3 rfl 35 (.eq (.slice (some ⟨bi,0,none⟩) N N)) rfl (by rw [hFs5]; rfl)
      have e37 : s' 37 = (.int .i64 ((a : Nat) : Int)) := H 5 rfl 37 (.eq (.int .i64 ((a : Nat) : Int))) rfl (by rw [hFs5]; rfl)
      exact DoesT_val (r_indexSlice (b := bi) (o := 0) (len := N) (cap := N) (i := a) (o' := 0 + a) e35 e37 rfl Tryz.underlying88 siz35 (by omega) (by omega)) (Chg.refl _ _) rfl
     refine DagStepsT.cons (fun s' w' X U H => ?_) ?_
     ·have e38 : s' 38 = (.pointer (some ⟨bi,0 + a,none⟩)) := H 6 rfl 38 (.eq (.pointer (some ⟨bi,0 + a,none⟩))) rfl (by rw [hFs5]; rfl)
      exact DoesT_val (r_load (v := (.slice va l0.length vc)) e38 flat35 (by have h1 := hg2 a _ hv1; exact (Ext.cell X (X0.cell h1)))) (Chg.refl _ _) rfl
     refine DagStepsT.cons (fun s' w' X U H => ?_) ?_
     ·exact DoesT_val (r_loadAgg (vs := [(I6 (a : Int)),(I6 z.1.2.1),(.slice ra z.1.2.2.length rc)]) (U 7 rfl) agg74 siz74 rfl ((Chg.keep X (fun h => by have := (hinl0 _ h).2; omega) (X0.keep Bx)).cells rfl)) (Chg.refl _ _) rfl
     refine DagStepsT.cons (fun s' w' X U H => ?_) ?_
     ·have e40 : s' 40 = (.agg #[(.int .i64 ((a : Nat) : Int)),(.int .i64 z.1.2.1),(.slice ra z.1.2.2.length rc)]) := H 8 rfl 40 (.eq (.agg #[(.int .i64 ((a : Nat) : Int)),(.int .i64 z.1.2.1),(.slice ra z.1.2.2.length rc)])) rfl (by rw [hFs5]; rfl)
      exact DoesT_lit Tryz.underlying35 siz74 zer74 e40 (by decide) (by decide) (by kernel_rfl) (Nat.zero_le _)
     refine DagStepsT.cons (fun s' w' X U H => ?_) ?_
     ·have e39 : s' 39 = (.slice va l0.length vc) := H 7 rfl 39 (.eq (.slice va l0.length vc)) rfl (by rw [hFs5]; rfl)
      obtain ⟨b41,e41,B41,_⟩ := (show (.till (litF TEd #[.int .i64 ((a : Nat) : Int),.int .i64 z.1.2.1,.slice ra z.1.2.2.length rc] 0) (litF_ext _ _ _) : FactT ((fun y => (Value.slice va l0.length vc).ownBlock = some y))).In (s' 41) w' from FactT.at_false (H 9 rfl 41 (.till (litF TEd #[.int .i64 ((a : Nat) : Int),.int .i64 z.1.2.1,.slice ra z.1.2.2.length rc] 0) (litF_ext _ _ _)) rfl (by rw [hFs5]; rfl)))
      exact DoesT_append Tryz.underlying35 siz74 byt74 zer74 rfl (by decide) e39 (own_ext (own_ext hinn X0) X) e41 rfl (B41.cells rfl) (by simp [Value.oneCell']) (by unfold maxLen; omega) (by omega) (by have := X0.size; have := X.size; omega) (fun y h => h) (by have := X0.size; have := X.size; omega)
     exact DagStepsT.nil
    ·intro s' wd5 w5 X0 X5 U H
     have e32 : s' 32 = (.slice (some ⟨bi,0,none⟩) N N) := H 0 32 (.eq (.slice (some ⟨bi,0,none⟩) N N)) rfl (by rw [hFs5]; rfl)
     have e34 : s' 34 = (.int .i64 ((a : Nat) : Int)) := H 2 34 (.eq (.int .i64 ((a : Nat) : Int))) rfl (by rw [hFs5]; rfl)
     obtain ⟨⟨a42,c42,e42⟩,O42,D42⟩ := (show (.own (appF n1 TEd 3 (l0.length + 1) ((l0.map (·.2)).flatten ++ [Value.int .i64 ((a : Nat) : Int),Value.int .i64 z.1.2.1,Value.slice ra z.1.2.2.length rc]) (.slice va l0.length vc) h0') (appF_ext _ _ _ _ _ _ _) : FactT ((fun y => (Value.slice va l0.length vc).ownBlock = some y))).In (s' 42) w5 from H 10 42 (.own (appF n1 TEd 3 (l0.length + 1) ((l0.map (·.2)).flatten ++ [Value.int .i64 ((a : Nat) : Int),Value.int .i64 z.1.2.1,Value.slice ra z.1.2.2.length rc]) (.slice va l0.length vc) h0') (appF_ext _ _ _ _ _ _ _)) rfl (by rw [hFs5]; rfl))
     obtain ⟨j5,rfl⟩ := Fits.out (σ := s') (l := [(1,(.pointer (some ⟨bn,0,none⟩))),(2,(.pointer (some ⟨br,0,none⟩))),(5,(.slice (some ⟨bi,0,none⟩) N N)),(26,(.slice (some ⟨xb,xo,none⟩) n.edges.length xc)),(27,(.int .i64 ((n.edges.length : Nat) : Int))),(28,(.int .i64 ((k : Nat) : Int))),(32,(.slice (some ⟨bi,0,none⟩) N N)),(34,(.int .i64 ((a : Nat) : Int))),(42,(.slice a42 (l0.length + 1) c42))]) ⟨U 1 rfl,U 2 rfl,U 5 rfl,U 26 rfl,U 27 rfl,U 28 rfl,e32,e34,e42,trivial⟩
     clear U H
     replace Bn2 := Chg.keep X5 (fun h => by have := (hinl _ h).1; omega) (X0.keep Bn2)
     replace Br := Chg.keep X5 (fun h => by have := (hinl _ h).1; omega) (X0.keep Br)
     replace Bx := Chg.keep X5 (fun h => by have := (hinl0 _ h).2; omega) (X0.keep Bx)
     have hXm := Chg.trans (Ext.chg X0) X5
     replace E := (E.ext X0).step X5 (fun y hy h => by have := (hinl _ h).1; omega)
     obtain ⟨cur,hBo,hcs⟩ := own_blkG (own_chg (hG.l.on hGl.symm) hXm (fun b hb hm => hG.l.apo a _ _ hv1 hm hb))
     have hs9 := Nat.le_trans hsz hXm.size
     have hPx : True := trivial
     have hBo0 := hBo
     refine qV (r_indexSlice (b := bi) (o := 0) (len := N) (cap := N) (i := a) (o' := 0 + a) rfl rfl rfl Tryz.underlying88 siz35 (by omega) (by omega)) ?_
     refine s_store (b := bi) (o := 0 + a) (c' := cur.setIfInBounds (0 + a) (.slice a42 (l0.length + 1) c42)) (v := (.slice a42 (l0.length + 1) c42)) rfl rfl rfl siz35 hBo (by omega) (rfl) ?_
     intro w6 S6
     replace hPx := S6
     replace hs9 := Nat.le_trans hs9 S6.chg.size
     replace Bn2 := S6.keep (by omega) Bn2
     replace Br := S6.keep (by omega) Br
     replace E := S6.step E (by first | exact Or.inl (by omega) | exact Or.inr rfl | exact Or.inr (by assumption) | exact Or.inr (by simp) | exact Or.inr (by omega) | exact Or.inr (by dsimp only; omega))
     replace hBo := S6.blk
     have hz3 : z.2 = [.int .i64 ((a : Nat) : Int),.int .i64 z.1.2.1,.slice ra z.1.2.2.length rc] := by rw [hz2,ha]
     have hG9 := hG.grow hGl.symm hv1 hp1 (m' := l0.length + 1) (xs' := ((l0 ++ [z]).map (·.2)).flatten) (v' := .slice a42 (l0.length + 1) c42) (by rw [e42] at O42; rw [List.map_append,List.flatten_append]; simpa [hz3] using O42) hXm (by rw [e42,hh0] at D42; exact D42) hBo0 (by simpa using hPx)
     refine WpL_nil (inB_normal (thn_normal (Wp_region ?_)))
     refine qV (r_add (k := .i64) (a := (k : Int)) (b := 1) (c := (k : Int) + 1) rfl rfl (wI64 (by omega))) ?_
     refine qM (I6 ((k : Int) + 1)) rfl ?_
     refine WpL_nil (thn_normal ?_)
     exact ⟨n.edges.length - (k + 1),by omega,k + 1,into.set a (l0 ++ [z]),vs.set a (.slice a42 (l0.length + 1) c42),Fits.out ⟨rfl,rfl,rfl,rfl,rfl,rfl,trivial⟩,E,Bn2,Br,(by omega),hS.add hz ha hl0,(by rw [List.map_set]; simpa [zRow] using hG9),hs9,rfl⟩
   ·have khlt := hlt
    replace hlt := of_decide_eq_false hlt
    have hSk : Z.length ≤ k := by omega
    obtain ⟨n3,hn3e⟩ : ∃ n3,n3 = (W3).heap.size := ⟨_,rfl⟩
    have hn13 : n1 ≤ n3 := by omega
    have E9 : Chg none1 W3 W3 := Chg.refl _ _
    refine Wp_exit (thn_exit (thn_exit (inB_here (thn_normal (Wp_seq_region ?_)))))
    refine qF bn 0 0 rfl Tryz.underlying37 rfl siz3 rfl ?_
    refine qV (r_load (v := (I6 (N : Int))) rfl flat3 (Bn2.cell rfl)) ?_
    refine qF bn 0 1 rfl Tryz.underlying37 rfl siz3 rfl ?_
    refine qV (r_load (v := (I6 n.start)) rfl flat3 (Bn2.cell rfl)) ?_
    refine qV (r_build (ps := [(0,(I6 (N : Int))),(1,(I6 n.start))]) (v := (.agg #[(I6 (N : Int)),(I6 n.start),(.slice none 0 0),(.slice none 0 0),(.slice none 0 0)])) rfl (by kernel_rfl)) ?_
    refine s_allocStore (v := (.agg #[(I6 (N : Int)),(I6 n.start),(.slice none 0 0),(.slice none 0 0),(.slice none 0 0)])) (c := #[(I6 (N : Int)),(I6 n.start),(.slice none 0 0),(.slice none 0 0),(.slice none 0 0)]) (n := 5) (by decide) zer37 rfl siz37 rfl rfl rfl (by simp [Value.oneCell']) ?_
    intro bo wo No
    have Fo := No.ge E
    have Fo_E9 := No.ge E9
    have Oo_bn := No.lt Bn2
    have Oo_br := No.lt Br
    replace Bn2 := No.keep Bn2
    replace Br := No.keep Br
    replace E := E.ext No.ext
    have Bo := No.blk
    replace E9 := E9.ext No.ext
    refine WpL_nil (Wp_seq (Wp_seq_region ?_))
    refine qF bn 0 0 rfl Tryz.underlying37 rfl siz3 rfl ?_
    refine qV (r_load (v := (I6 (N : Int))) rfl flat3 (Bn2.cell rfl)) ?_
    refine qM (I6 0) rfl ?_
    refine WpL_nil (Wp_block ?_)
    obtain ⟨z4,hz4e⟩ : ∃ z4,z4 = (wo).heap.size := ⟨_,rfl⟩
    have hb4 : bn < z4 ∧ br < z4 ∧ bo < z4 ∧ n3 ≤ bo ∧ w0.heap.size ≤ z4 := ⟨by rw [hz4e]; exact Bn2.lt,by rw [hz4e]; exact Br.lt,by rw [hz4e]; exact Bo.lt,by have := No.eq; omega,by rw [hz4e]; exact E.size⟩
    refine Wp_loop (fun nn_ σ W7 => ∃ (s : Nat) (es : List Int) (xs : List Ed) (F : Nat → Prop) (ea2 : Option Addr) (ec2 m : Nat) (xa2 : Option Addr) (xc2 x : Nat),(∃ jj_,σ = upds jj_ [(1,(P6 bn 0)),(2,(P6 br 0)),(5,(.slice (some ⟨bi,0,none⟩) N N)),(8,(P6 bo 0)),(51,(I6 (N : Int))),(52,(I6 (s : Int)))]) ∧ Chg none1 w0 W7 ∧ Chg none1 W3 W7 ∧ Blk W7 bn #[(I6 (N : Int)),(I6 n.start),(.slice ea n.ends.length ec),(.slice pa n.eps.length pc),(.slice xa n.edges.length xc)] 37 ∧ Blk W7 br #[(I6 0),(I6 0),(.slice none 0 0),(.slice none 0 0),(.slice none 0 0)] 37 ∧ Blk W7 bo (#[Value.int .i64 (N : Int),.int .i64 n.start,.slice ea2 m ec2,.slice none 0 0,.slice xa2 x xc2]) 37 ∧ (s ≤ N) ∧ (m = es.length) ∧ (x = xs.length) ∧ (x ≤ 20000) ∧ (W7.ownsRow z4 TDI 1 (.slice ea2 m ec2) m (es.map (Value.int .i64))) ∧ (EdB F W7 z4 (.slice xa2 x xc2) xs) ∧ (∀ y,(Value.slice ea2 m ec2).ownBlock = some y → ¬ F y) ∧ (BareK n s es xs) ∧ (z4 ≤ W7.heap.size) ∧ nn_ = N - s) (n := N - 0) ?_ ?_
    ·exact ⟨0,[],[],_,none,0,0,none,0,0,Fits.out ⟨rfl,rfl,rfl,rfl,rfl,rfl,trivial⟩,E,E9,Bn2,Br,Bo,Nat.zero_le _,rfl,rfl,(by omega),World.ownsRow_nil _ _ _ _,EdB.start _ _,(fun _ _ f => f),.nil,(by omega),rfl⟩
    ·clear E E9 Bn2 Br Bo
     rintro _ _ W7 ⟨s,es,xs,F,ea2,ec2,m,xa2,xc2,x,⟨j7,rfl⟩,E,E9,Bn2,Br,Bo,hs,hm,hx,hxb,hE,hX,hEF,hK,hz,rfl⟩
     refine Wp_seq_region ?_
     refine qV (r_lss (k := .i64) (a := (s : Int)) (b := (N : Int)) rfl rfl) ?_
     refine WpL_nil (Wp_seq ?_)
     refine Wp_cond (b := decide (((s : Int) : Int) < (N : Int))) rfl (fun hlt2 => ?_) (fun hlt2 => ?_)
     ·have khlt2 := hlt2
      replace hlt2 := of_decide_eq_true hlt2
      have hml : m ≤ 500 := by have := hK.len; omega
      obtain ⟨zs,hzs⟩ : ∃ zs,zs = (W7).heap.size := ⟨_,rfl⟩
      have hz0 : z4 ≤ zs := by rw [hzs]; exact hz
      have hXl : ∀ k,(Value.slice xa2 x xc2).ownBlock = some k → k < zs := fun k hk => by obtain ⟨⟨rows,h1,_⟩,_⟩ := hX; rw [hzs]; exact (h1.lt k hk).2
      have hEl : ∀ k,(Value.slice ea2 m ec2).ownBlock = some k → k < zs := fun k hk => by rw [hzs]; exact (hE.lt k hk).2
      refine Wp_skip (thn_normal (Wp_seq (Wp_block (Wp_seq_region ?_))))
      refine qM (I6 (s : Int)) rfl ?_
      refine qA (I6 (s : Int)) rfl ?_
      refine WpL_nil (Wp_seq_region ?_)
      refine qV (r_loadAgg (vs := [(I6 (N : Int)),(I6 n.start),(.slice ea n.ends.length ec),(.slice pa n.eps.length pc),(.slice xa n.edges.length xc)]) rfl agg37 siz37 rfl (Bn2.cells rfl)) ?_
      refine qM (I6 (s : Int)) rfl ?_
      refine s_buildSlice (ps := [(0,(I6 (s : Int)))]) (c := #[(I6 (s : Int))]) (by decide) rfl Tryz.underlying22 siz3 zer3 (by decide) (by decide) (by kernel_rfl) ?_
      intro bq wq Nq
      have Fq := Nq.ge E
      have Fq_E9 := Nq.ge E9
      have Oq_bn := Nq.lt Bn2
      have Oq_br := Nq.lt Br
      have Oq_bo := Nq.lt Bo
      replace Bn2 := Nq.keep Bn2
      replace Br := Nq.keep Br
      replace Bo := Nq.keep Bo
      replace hE := own_ext hE Nq.ext
      replace hX := hX.ext Nq.ext
      replace hz := Nat.le_trans hz Nq.ext.size
      replace E := E.ext Nq.ext
      have Bq := Nq.blk
      replace E9 := E9.ext Nq.ext
      refine WpL_enter rfl rfl (by decide) (r_callF (vs := [(.agg #[(I6 (N : Int)),(I6 n.start),(.slice ea n.ends.length ec),(.slice pa n.eps.length pc),(.slice xa n.edges.length xc)]),(.slice (some ⟨bq,0,none⟩) 1 1)]) Tryz.func31 kQ kQ rfl) (nclosure_c _ n _ N _ [(s : Int)] ok hN (h0N.ext E) (ints_of_blk [(s : Int)] Bq (by simp) (by simp)) (fun t ht => by rw [List.mem_singleton.1 ht]; omega)) ?_
      rintro _ w29 ⟨⟨M0,g0,rfl,hg0,hM0l,hM0,hB0⟩,X29⟩
      replace Bn2 := X29.keep Bn2
      replace Br := X29.keep Br
      replace Bo := X29.keep Bo
      replace Bq := X29.keep Bq
      replace hE := own_ext hE X29
      replace hX := hX.ext X29
      replace hz := Nat.le_trans hz X29.size
      replace E := E.ext X29
      replace E9 := E9.ext X29
      have hgz : zs ≤ g0 := by have := Nq.ext.size; omega
      refine s_allocStore (v := (.slice (some ⟨g0,0,none⟩) N N)) (c := #[(.slice (some ⟨g0,0,none⟩) N N)]) (n := 1) (by decide) zer77 rfl siz77 rfl rfl rfl (by simp [Value.oneCell']) ?_
      intro bc wc Nc
      have Fc := Nc.ge E
      have Fc_E9 := Nc.ge E9
      have Oc_bn := Nc.lt Bn2
      have Oc_br := Nc.lt Br
      have Oc_bo := Nc.lt Bo
      have Oc_g0 := Nc.lt hB0
      replace Bn2 := Nc.keep Bn2
      replace Br := Nc.keep Br
      replace Bo := Nc.keep Bo
      replace hB0 := Nc.keep hB0
      replace hE := own_ext hE Nc.ext
      replace hX := hX.ext Nc.ext
      replace hz := Nat.le_trans hz Nc.ext.size
      replace E := E.ext Nc.ext
      have Bc := Nc.blk
      replace E9 := E9.ext Nc.ext
      refine WpL_nil (Wp_seq_region ?_)
      refine qA (.slice none 0 0) rfl ?_
      refine WpL_nil (Wp_seq (Wp_seq_region ?_))
      refine qV (r_load (v := (.slice (some ⟨g0,0,none⟩) N N)) rfl flat77 (Bc.cell rfl)) ?_
      refine WpL_enter rfl rfl (by decide) (r_callF (vs := [(.slice (some ⟨g0,0,none⟩) N N)]) Tryz.func38 kQ kQ rfl) (nlist_c _ g0 N M0 hB0 hM0l (by omega)) ?_
      rintro _ w39 ⟨⟨qa,qc,rfl,hQ⟩,X39⟩
      replace Bn2 := X39.keep Bn2
      replace Br := X39.keep Br
      replace Bo := X39.keep Bo
      replace hB0 := X39.keep hB0
      replace Bc := X39.keep Bc
      replace hE := own_ext hE X39
      replace hX := hX.ext X39
      replace hz := Nat.le_trans hz X39.size
      replace E := E.ext X39
      replace E9 := E9.ext X39
      have hbcz : zs ≤ bc := by have := Nc.eq; have := X29.size; have := Nq.ext.size; omega
      have hqlen := lstM_len M0 N
      have hqf := lstM_free hM0l hM0 (fun t ht => by have := cloP_rng ok (fun u hu => by rw [List.mem_singleton.1 hu]; omega) ht; omega)
      have hqm : ∀ t,t ∈ lstM M0 N ↔ cloP n.eps (fun t => t = ((s : Nat) : Int)) t := fun t => (hqf.2 t).trans (cloP_congr (fun y => by simp) t)
      have hqn : (lstM M0 N).Nodup := List.nodup_iff_pairwise_ne.2 ((lstM_lt M0 N).imp fun h => by omega)
      have hqI := own_intsD hQ rfl
      obtain ⟨zl,hzle⟩ : ∃ zl,zl = (w39).heap.size := ⟨_,rfl⟩
      have hbl : bc < zl ∧ g0 < zl ∧ z4 ≤ zl := ⟨by rw [hzle]; exact Bc.lt,by rw [hzle]; exact hB0.lt,by rw [hzle]; exact hz⟩
      have E5 : Chg none1 w39 w39 := Chg.refl _ _
      refine qV (r_lenSlice (ad := qa) (n := (lstM M0 N).length) (cap := qc) Tryz.underlying22 rfl) ?_
      refine qM (I6 0) rfl ?_
      refine WpL_nil (Wp_block ?_)
      refine Wp_loop (fun nn_ σ W9 => ∃ (i : Nat) (L : List Ed) (F2 : Nat → Prop) (la : Option Addr) (lc l : Nat),(∃ jj_,σ = upds jj_ [(1,(P6 bn 0)),(2,(P6 br 0)),(5,(.slice (some ⟨bi,0,none⟩) N N)),(8,(P6 bo 0)),(9,(I6 (s : Int))),(10,(P6 bc 0)),(51,(I6 (N : Int))),(52,(I6 (s : Int))),(60,(.slice qa ((lstM M0 N).length) qc)),(61,(I6 (((lstM M0 N).length : Nat) : Int))),(62,(I6 (i : Int))),(11,(.slice la l lc))]) ∧ Chg none1 w0 W9 ∧ Chg none1 W3 W9 ∧ Chg none1 w39 W9 ∧ Blk W9 bn #[(I6 (N : Int)),(I6 n.start),(.slice ea n.ends.length ec),(.slice pa n.eps.length pc),(.slice xa n.edges.length xc)] 37 ∧ Blk W9 br #[(I6 0),(I6 0),(.slice none 0 0),(.slice none 0 0),(.slice none 0 0)] 37 ∧ Blk W9 bo (#[Value.int .i64 (N : Int),.int .i64 n.start,.slice ea2 m ec2,.slice none 0 0,.slice xa2 x xc2]) 37 ∧ Blk W9 g0 ((M0.map Value.bool).toArray) 4 ∧ Blk W9 bc #[(.slice (some ⟨g0,0,none⟩) N N)] 77 ∧ (i ≤ (lstM M0 N).length) ∧ (l = L.length) ∧ (EdB F2 W9 zl (.slice la l lc) L) ∧ (GetE n (s : Int) ((lstM M0 N).take i) L) ∧ (zl ≤ W9.heap.size) ∧ nn_ = (lstM M0 N).length - i) (n := (lstM M0 N).length - 0) ?_ ?_
      ·exact ⟨0,[],_,none,0,0,Fits.out ⟨rfl,rfl,rfl,rfl,rfl,rfl,rfl,rfl,rfl,rfl,rfl,rfl,trivial⟩,E,E9,E5,Bn2,Br,Bo,hB0,Bc,Nat.zero_le _,rfl,EdB.start _ _,(by rw [List.take_zero]; exact GetE.start _ _),(by omega),rfl⟩
      ·clear E E9 E5 Bn2 Br Bo hB0 Bc
       rintro _ _ W9 ⟨i,L,F2,la,lc,l,⟨j9,rfl⟩,E,E9,E5,Bn2,Br,Bo,hB0,Bc,hi,hl,hL,hLg,hzl2,rfl⟩
       refine Wp_seq_region ?_
       refine qV (r_lss (k := .i64) (a := (i : Int)) (b := (((lstM M0 N).length : Nat) : Int)) rfl rfl) ?_
       refine WpL_nil (Wp_seq ?_)
       refine Wp_cond (b := decide (((i : Int) : Int) < (((lstM M0 N).length : Nat) : Int))) rfl (fun hlt3 => ?_) (fun hlt3 => ?_)
       ·have khlt3 := hlt3
        replace hlt3 := of_decide_eq_true hlt3
        obtain ⟨t,ht⟩ := get_of_lt (l := lstM M0 N) (i := i) (by omega)
        obtain ⟨c,rfl,hcN,_⟩ := lstM_mem.1 (List.mem_of_getElem? ht)
        obtain ⟨qb,qo,rfl,hqc⟩ := ints_cells hqI (by omega)
        obtain ⟨zt,hzt⟩ := get_of_lt (l := into) (i := c) (by have := hS.1; omega)
        have hzf := hS.full hSk hzt
        have hzlb := hS.len hzt
        have hGl : (into.map zRow).length = N := by rw [List.length_map]; exact hS.1
        obtain ⟨v1,hv1⟩ := get_of_lt (l := vs) (i := c) (by have := hG.l.len; omega)
        have hp1 : (into.map zRow)[c]? = some (zt.length,(zt.map (·.2)).flatten) := by rw [List.getElem?_map,hzt]; rfl
        have hinn := hG.l.inn c v1 _ hv1 hp1
        obtain ⟨va,vc,rfl⟩ := own_form hinn
        obtain ⟨gg,hgg,_,hg2⟩ := own_cells (hG.l.on hGl.symm) (by omega)
        simp only [Option.some.injEq,Addr.mk.injEq,and_true] at hgg
        subst hgg
        have hLadd := hLg.add hZ (c := c) (fun h9 => by have h8 := List.nodup_iff_pairwise_ne.1 hqn; obtain ⟨i9,hi9⟩ := List.getElem?_of_mem h9; have hlt9 := lt_of_get hi9; rw [List.length_take] at hlt9; rw [List.getElem?_take,if_pos (by omega)] at hi9; have := (List.getElem?_inj (by omega) hqn).1 (hi9.trans ht.symm); omega)
        have hLlen := hLadd.le
        rw [← hzf] at hLadd hLlen
        rw [List.length_append,List.length_map] at hLlen
        refine Wp_skip (thn_normal (Wp_seq (Wp_block (Wp_seq_region ?_))))
        refine qV (r_indexSlice (b := qb) (o := qo) (len := (lstM M0 N).length) (cap := qc) (i := i) (o' := qo + i) rfl rfl rfl Tryz.underlying22 siz3 (by omega) (by omega)) ?_
        refine qV (r_load (v := (I6 (c : Int))) rfl flat3 (E5.cell (fun f => f) (hqc i _ ht))) ?_
        refine qA (I6 (c : Int)) rfl ?_
        refine WpL_nil (Wp_seq_region ?_)
        refine qM (.slice (some ⟨bi,0,none⟩) N N) rfl ?_
        refine qM (I6 (c : Int)) rfl ?_
        refine qV (r_indexSlice (b := bi) (o := 0) (len := N) (cap := N) (i := c) (o' := 0 + c) rfl rfl (by omega) Tryz.underlying88 siz35 (by omega) (by omega)) ?_
        refine qV (r_load (v := (.slice va zt.length vc)) rfl flat35 (E9.cell (fun f => f) (hg2 c _ hv1))) ?_
        refine qV (r_lenSlice (ad := va) (n := zt.length) (cap := vc) Tryz.underlying35 rfl) ?_
        refine qM (I6 0) rfl ?_
        refine WpL_nil (Wp_block ?_)
        refine Wp_loop (fun nn_ σ W11 => ∃ (j : Nat) (L2 : List Ed) (F3 : Nat → Prop) (la3 : Option Addr) (lc3 l3 : Nat),(∃ jj_,σ = upds jj_ [(1,(P6 bn 0)),(2,(P6 br 0)),(5,(.slice (some ⟨bi,0,none⟩) N N)),(8,(P6 bo 0)),(9,(I6 (s : Int))),(10,(P6 bc 0)),(51,(I6 (N : Int))),(52,(I6 (s : Int))),(60,(.slice (some ⟨qb,qo,none⟩) ((lstM M0 N).length) qc)),(61,(I6 (((lstM M0 N).length : Nat) : Int))),(62,(I6 (i : Int))),(69,(.slice va zt.length vc)),(70,(I6 (zt.length : Int))),(71,(I6 (j : Int))),(11,(.slice la3 l3 lc3))]) ∧ Chg none1 w0 W11 ∧ Chg none1 W3 W11 ∧ Chg none1 w39 W11 ∧ Blk W11 bn #[(I6 (N : Int)),(I6 n.start),(.slice ea n.ends.length ec),(.slice pa n.eps.length pc),(.slice xa n.edges.length xc)] 37 ∧ Blk W11 br #[(I6 0),(I6 0),(.slice none 0 0),(.slice none 0 0),(.slice none 0 0)] 37 ∧ Blk W11 bo (#[Value.int .i64 (N : Int),.int .i64 n.start,.slice ea2 m ec2,.slice none 0 0,.slice xa2 x xc2]) 37 ∧ Blk W11 g0 ((M0.map Value.bool).toArray) 4 ∧ Blk W11 bc #[(.slice (some ⟨g0,0,none⟩) N N)] 77 ∧ (j ≤ zt.length) ∧ (l3 = L2.length) ∧ (EdB F3 W11 zl (.slice la3 l3 lc3) L2) ∧ (L2 = L ++ (zt.take j).map (getE (s : Int))) ∧ (zl ≤ W11.heap.size) ∧ nn_ = zt.length - j) (n := zt.length - 0) ?_ ?_
        ·exact ⟨0,L,F2,la,lc,l,Fits.out ⟨rfl,rfl,rfl,rfl,rfl,rfl,rfl,rfl,rfl,rfl,rfl,rfl,rfl,rfl,rfl,trivial⟩,E,E9,E5,Bn2,Br,Bo,hB0,Bc,Nat.zero_le _,hl,hL,(by simp),hzl2,rfl⟩
        ·clear E E9 E5 Bn2 Br Bo hB0 Bc
         rintro _ _ W11 ⟨j,L2,F3,la3,lc3,l3,⟨j11,rfl⟩,E,E9,E5,Bn2,Br,Bo,hB0,Bc,hj,hl3,hL3,hLe,hzl3,rfl⟩
         refine Wp_seq_region ?_
         refine qV (r_lss (k := .i64) (a := (j : Int)) (b := (zt.length : Int)) rfl rfl) ?_
         refine WpL_nil (Wp_seq ?_)
         refine Wp_cond (b := decide (((j : Int) : Int) < (zt.length : Int))) rfl (fun hlt4 => ?_) (fun hlt4 => ?_)
         ·have khlt4 := hlt4
          replace hlt4 := of_decide_eq_true hlt4
          obtain ⟨y,hy⟩ := get_of_lt (l := zt) (i := j) (by omega)
          have hl3b : l3 ≤ 20000 := by rw [hl3,hLe,List.length_append,List.length_map,List.length_take]; omega
          have hyZ : y ∈ Z := by have h9 := List.mem_of_getElem? hy; rw [hzf] at h9; exact (List.mem_filter.1 h9).1
          obtain ⟨iy,hiy⟩ := List.getElem?_of_mem hyZ
          obtain ⟨hye,ra,rc,hy2,hysp⟩ := hZg iy y hiy
          have hsl : y.1.2.2.length ≤ 16 := (set_lo (ok.ed _ (List.mem_of_getElem? hye)).2.2).1
          have h39 : ∀ r ∈ zt.map (·.2),r.length = 3 := fun r hr => by obtain ⟨u,hu,rfl⟩ := List.mem_map.1 hr; rw [hzf] at hu; obtain ⟨iu,hiu⟩ := List.getElem?_of_mem (List.mem_filter.1 hu).1; obtain ⟨_,_,_,h8,_⟩ := hZg iu u hiu; rw [h8]; rfl
          have hinE := own_ext hinn E9
          obtain ⟨vb,rfl,_,_⟩ := own_cells hinn (by omega)
          have hrow := own_row3 hinE h39 (by omega) (i := j) (r := y.2) (by rw [List.getElem?_map,hy]; rfl)
          rw [hy2] at hrow
          have hlt9 : ∀ k,(Value.slice la3 l3 lc3).ownBlock = some k → k < (W11).heap.size := fun k hk => by obtain ⟨⟨rows,h1,_⟩,_⟩ := hL3; exact (h1.lt k hk).2
          have E6 : Chg none1 W11 W11 := Chg.refl _ _
          refine Wp_skip (thn_normal (Wp_seq (Wp_block (Wp_seq_region ?_))))
          refine qV (r_indexSlice (b := vb) (o := 0) (len := zt.length) (cap := vc) (i := j) (o' := 0 + j * 3) rfl rfl rfl Tryz.underlying35 siz74 (by omega) (by omega)) ?_
          refine qV (r_loadAgg (vs := [(I6 y.1.1),(I6 y.1.2.1),(.slice ra y.1.2.2.length rc)]) rfl agg74 siz74 rfl (by rw [Nat.zero_add]; exact hrow)) ?_
          refine s_allocStore (v := (.agg #[(I6 y.1.1),(I6 y.1.2.1),(.slice ra y.1.2.2.length rc)])) (c := #[(I6 y.1.1),(I6 y.1.2.1),(.slice ra y.1.2.2.length rc)]) (n := 3) (by decide) zer74 rfl siz74 rfl rfl rfl (by simp [Value.oneCell']) ?_
          intro bv wv Nv
          have Fv := Nv.ge E
          have Fv_E9 := Nv.ge E9
          have Fv_E5 := Nv.ge E5
          have Fv_E6 := Nv.ge E6
          have Ov_bn := Nv.lt Bn2
          have Ov_br := Nv.lt Br
          have Ov_bo := Nv.lt Bo
          have Ov_g0 := Nv.lt hB0
          have Ov_bc := Nv.lt Bc
          replace Bn2 := Nv.keep Bn2
          replace Br := Nv.keep Br
          replace Bo := Nv.keep Bo
          replace hB0 := Nv.keep hB0
          replace Bc := Nv.keep Bc
          replace E := E.ext Nv.ext
          have Bv := Nv.blk
          replace E9 := E9.ext Nv.ext
          replace E5 := E5.ext Nv.ext
          replace E6 := E6.ext Nv.ext
          refine WpL_nil ?_
          replace hL3 := hL3.ext E6
          replace hzl3 := Nat.le_trans hzl3 E6.size
          obtain ⟨⟨rows,hownX,hrows⟩,hxF,hFl⟩ := hL3
          rw [← hl3] at hownX
          obtain ⟨z1,hz1⟩ : ∃ z1,z1 = (wv).heap.size := ⟨_,rfl⟩
          have hxu : ¬ (Value.slice la3 l3 lc3).ownBlock = some bv := fun h => by have := hlt9 _ h; have := Nv.eq; omega
          have hz_13 : w0.heap.size ≤ wv.heap.size := E.size
          have lz_13_bn : bn < wv.heap.size := Bn2.lt
          have lz_13_br : br < wv.heap.size := Br.lt
          have lz_13_bo : bo < wv.heap.size := Bo.lt
          have lz_13_g0 : g0 < wv.heap.size := hB0.lt
          have lz_13_bc : bc < wv.heap.size := Bc.lt
          have lz_13_bv : bv < wv.heap.size := Bv.lt
          obtain ⟨Fs13,hFs13⟩ : ∃ Fs : List FctS,Fs = [(eF (.slice la3 l3 lc3)),(eF (I6 (s : Int))),(eF (P6 bv 1)),(eF (I6 y.1.2.1)),(eF (P6 bv 2)),(eF (.slice ra y.1.2.2.length rc)),(fun _ _ => cloG y.1.2.2 z1),(fun _ _ => edG (s : Int) y.1.2.1 y.1.2.2 z1),(fun _ _ => elG (s : Int) y.1.2.1 y.1.2.2 z1),(fun _ _ => apG zl l3 rows.flatten (.slice la3 l3 lc3) z1 (s : Int) y.1.2.1 y.1.2.2),(eF undef)] := ⟨_,rfl⟩
          refine Wp_dagS (MsL [(9,(fun q => (Value.slice la3 l3 lc3).ownBlock = some q))]) [true,true,true,true,true,true,true,true,true,true,false] [10] [75,76,77,78,79,80,81,82,83,84,123] [[],[],[],[2],[],[4],[5],[1,3,6],[7],[0,6,8],[]] [[],[],[],[2],[],[4],[5,4],[1,3,2,6,5,4],[7,1,3,2,6,5,4],[0,6,5,4,8,7,1,3,2],[]] Fs13 hFs13 (by kernel_rfl) mixed (by kernel_rfl) (by kernel_rfl) (by kernel_rfl) (by kernel_rfl) ?_ ?_
          ·intro wd X0
           refine qZ (fun S s' w' hi hN X U V H => ?_) ?_
           ·replace X := xN1 (hN 9 rfl) X
            exact DoesT_pure (r_move (v := (.slice la3 l3 lc3)) (U 11 rfl)) rfl
           refine qZ (fun S s' w' hi hN X U V H => ?_) ?_
           ·replace X := xN1 (hN 9 rfl) X
            exact DoesT_pure (r_move (v := (I6 (s : Int))) (U 9 rfl)) rfl
           refine qZ (fun S s' w' hi hN X U V H => ?_) ?_
           ·replace X := xN1 (hN 9 rfl) X
            exact DoesT_pure (r_fieldAddr (b := bv) (o := 0) (o' := 1) (U 15 rfl) Tryz.underlying74 rfl siz3 rfl) rfl
           refine qZ (fun S s' w' hi hN X U V H => ?_) ?_
           ·replace X := xN1 (hN 9 rfl) X
            have e77 := (H 2 rfl).2 77 _ rfl (by rw [hFs13]; rfl)
            exact DoesT_pure (r_load (v := (I6 y.1.2.1)) e77 flat3 (((X0.trans X).keep Bv).cell rfl)) rfl
           refine qZ (fun S s' w' hi hN X U V H => ?_) ?_
           ·replace X := xN1 (hN 9 rfl) X
            exact DoesT_pure (r_fieldAddr (b := bv) (o := 0) (o' := 2) (U 15 rfl) Tryz.underlying74 rfl siz24 rfl) rfl
           refine qZ (fun S s' w' hi hN X U V H => ?_) ?_
           ·replace X := xN1 (hN 9 rfl) X
            have e79 := (H 4 rfl).2 79 _ rfl (by rw [hFs13]; rfl)
            exact DoesT_pure (r_load (v := (.slice ra y.1.2.2.length rc)) e79 flat24 (((X0.trans X).keep Bv).cell rfl)) rfl
           refine DagStepsS.cons (StabS.chg (U := (fun y => (fun q => (Value.slice la3 l3 lc3).ownBlock = some q) y)) (cloG_chg (fun q h => by have := (hownX.lt q h).2; omega)) (fun p y hp hw h => by
              rcases MsL_or h with ⟨rfl,h0⟩ | h0
              ·exact h0
              exact h0.elim)) (LocS.const) (fun S s' w' hi hN X U V H => Or.inl ⟨Guarded_none rfl,?_⟩) ?_
           ·replace X := xN1 (hN 9 rfl) X
            have e80 := (H 5 rfl).2 80 _ rfl (by rw [hFs13]; rfl)
            exact DoesT_callE (r_callF (vs := [(.slice ra y.1.2.2.length rc)]) Tryz.func28 kQ kQ (lst1 e80)) ((clones_c _ _ y.1.2.2 (SlAt.ext hysp (Ext.trans E (X0.trans X))) (by omega)).mono (fun v w h => ⟨(⟨h.1.1,own_low h.1.2 (by have := X0.size; have := X.size; omega)⟩ : cloG y.1.2.2 z1 v w),h.2⟩))
           refine DagStepsS.cons (StabS.chg (U := (fun y => (fun q => (Value.slice la3 l3 lc3).ownBlock = some q) y)) (edG_chg (fun q h => by have := (hownX.lt q h).2; omega)) (fun p y hp hw h => by
              rcases MsL_or h with ⟨rfl,h0⟩ | h0
              ·exact h0
              exact h0.elim)) (LocS.const) (fun S s' w' hi hN X U V H => Or.inl ⟨Guarded_none rfl,?_⟩) ?_
           ·replace X := xN1 (hN 9 rfl) X
            have e76 := (H 1 rfl).2 76 _ rfl (by rw [hFs13]; rfl)
            have e78 := (H 3 rfl).2 78 _ rfl (by rw [hFs13]; rfl)
            obtain ⟨⟨a81,c81,e81⟩,O81⟩ := (show ((fun _ _ => cloG y.1.2.2 z1) : FctS) S s' (s' 81) w' from (H 6 rfl).2 81 (fun _ _ => cloG y.1.2.2 z1) rfl (by rw [hFs13]; rfl))
            exact DoesT_pure (r_build (ps := [(0,.int .i64 (s : Int)),(1,.int .i64 y.1.2.1),(2,.slice a81 y.1.2.2.length c81)]) (v := .agg #[.int .i64 (s : Int),.int .i64 y.1.2.1,.slice a81 y.1.2.2.length c81]) (bld3 e76 e78 e81) (by kernel_rfl)) ⟨a81,c81,rfl,⟨a81,c81,rfl⟩,e81 ▸ O81⟩
           refine DagStepsS.cons (StabS.chg (U := (fun y => (fun q => (Value.slice la3 l3 lc3).ownBlock = some q) y)) (elG_chg (fun q h => by have := (hownX.lt q h).2; omega)) (fun p y hp hw h => by
              rcases MsL_or h with ⟨rfl,h0⟩ | h0
              ·exact h0
              exact h0.elim)) (LocS.const) (fun S s' w' hi hN X U V H => Or.inl ⟨Guarded_none rfl,?_⟩) ?_
           ·replace X := xN1 (hN 9 rfl) X
            obtain ⟨a82,c82,e82,O82⟩ := (show ((fun _ _ => edG ((s : Nat) : Int) y.1.2.1 y.1.2.2 z1) : FctS) S s' (s' 82) w' from (H 7 rfl).2 82 (fun _ _ => edG ((s : Nat) : Int) y.1.2.1 y.1.2.2 z1) rfl (by rw [hFs13]; rfl))
            exact DoesT_litE e82 (by have := X0.size; have := X.size; omega) O82
           refine DagStepsS.cons (StabS.chg (U := none1) (apG_ext _ _ _ _ _ _ _ _) (fun p y hp hw h => by
              rcases MsL_or h with ⟨rfl,h0⟩ | h0
              ·exact absurd rfl hp
              exact h0.elim)) (LocS.const) (fun S s' w' hi hN X U V H => Or.inl ⟨Guarded_none rfl,?_⟩) ?_
           ·replace X := xN1 hi X
            have e75 := (H 0 rfl).2 75 _ rfl (by rw [hFs13]; rfl)
            obtain ⟨b83,a83,c83,e83,B83,g83,O83⟩ := (show ((fun _ _ => elG ((s : Nat) : Int) y.1.2.1 y.1.2.2 z1) : FctS) S s' (s' 83) w' from (H 8 rfl).2 83 (fun _ _ => elG ((s : Nat) : Int) y.1.2.1 y.1.2.2 z1) rfl (by rw [hFs13]; rfl))
            exact DoesT_appE e75 (own_ext (own_ext hownX X0) X) e83 B83 O83 (by omega) (by have := X0.size; have := X.size; omega) (fun q h => .inl ⟨rfl,h⟩) (fun q h => by rcases h with h | h; exact (by have := (hownX.lt q h.2).2; omega); exact h.elim) (by have := X0.size; have := X.size; omega)
           refine DagStepsS.tail ?_
           exact DagStepsS.nil
          ·intro s' wd13 w13 X0 X13 U H
           replace X13 := X13.mono (M' := (fun y => (fun q => (Value.slice la3 l3 lc3).ownBlock = some q) y)) (fun y _ h => by
             obtain ⟨j,hj,h⟩ := h
             rcases MsL_or h with ⟨rfl,h0⟩ | h0
             ·exact h0
             exact h0.elim)
           obtain ⟨a84,c84,⟨⟨u84,v84,e84⟩,O84,D84⟩,K84⟩ := (show ((fun _ _ => apG zl l3 rows.flatten (.slice la3 l3 lc3) z1 ((s : Nat) : Int) y.1.2.1 y.1.2.2) : FctS) (allS [true,true,true,true,true,true,true,true,true,true,false]) s' (s' 84) w13 from H 9 rfl 84 (fun _ _ => apG zl l3 rows.flatten (.slice la3 l3 lc3) z1 ((s : Nat) : Int) y.1.2.1 y.1.2.2) rfl (by rw [hFs13]; rfl))
           obtain ⟨j13,rfl⟩ := Fits.out (σ := s') (l := [(1,(.pointer (some ⟨bn,0,none⟩))),(2,(.pointer (some ⟨br,0,none⟩))),(5,(.slice (some ⟨bi,0,none⟩) N N)),(8,(.pointer (some ⟨bo,0,none⟩))),(9,(.int .i64 ((s : Nat) : Int))),(10,(.pointer (some ⟨bc,0,none⟩))),(51,(.int .i64 ((N : Nat) : Int))),(52,(.int .i64 ((s : Nat) : Int))),(60,(.slice (some ⟨qb,qo,none⟩) ((lstM M0 N).length) qc)),(61,(.int .i64 (((lstM M0 N).length : Nat) : Int))),(62,(.int .i64 ((i : Nat) : Int))),(69,(.slice (some ⟨vb,0,none⟩) zt.length vc)),(70,(.int .i64 ((zt.length : Nat) : Int))),(71,(.int .i64 ((j : Nat) : Int))),(84,(.slice u84 (l3 + 1) v84))]) ⟨U 1 rfl,U 2 rfl,U 5 rfl,U 8 rfl,U 9 rfl,U 10 rfl,U 51 rfl,U 52 rfl,U 60 rfl,U 61 rfl,U 62 rfl,U 69 rfl,U 70 rfl,U 71 rfl,e84,trivial⟩
           clear U H
           replace Bn2 := Chg.keep X13 (fun h => by have := (hownX.lt _ h).1; omega) (X0.keep Bn2)
           replace Br := Chg.keep X13 (fun h => by have := (hownX.lt _ h).1; omega) (X0.keep Br)
           replace Bo := Chg.keep X13 (fun h => by have := (hownX.lt _ h).1; omega) (X0.keep Bo)
           replace hB0 := Chg.keep X13 (fun h => by have := (hownX.lt _ h).1; omega) (X0.keep hB0)
           replace Bc := Chg.keep X13 (fun h => by have := (hownX.lt _ h).1; omega) (X0.keep Bc)
           replace Bv := Chg.keep X13 (fun h => hxu h) (X0.keep Bv)
           have hXm := Chg.trans (Ext.chg X0) X13
           replace E := (E.ext X0).step X13 (fun q hq h => by have := (hownX.lt q h).1; omega)
           replace E9 := (E9.ext X0).step X13 (fun q hq h => by have := (hownX.lt q h).1; omega)
           replace E5 := (E5.ext X0).step X13 (fun q hq h => by have := (hownX.lt q h).1; omega)
           rw [e84] at O84 D84
           have hX9 := EdB.push hownX hl3 hrows hxF hFl hXm hz1 (by omega) O84 D84 K84
           have hs9 := Nat.le_trans hzl3 hXm.size
           refine qA (.slice u84 (l3 + 1) v84) rfl ?_
           refine WpL_nil (inB_normal (thn_normal (Wp_region ?_)))
           refine qV (r_add (k := .i64) (a := (j : Int)) (b := 1) (c := (j : Int) + 1) rfl rfl (wI64 (by omega))) ?_
           refine qM (I6 ((j : Int) + 1)) rfl ?_
           refine WpL_nil (thn_normal ?_)
           exact ⟨zt.length - (j + 1),by omega,j + 1,_,_,u84,v84,l3 + 1,Fits.out ⟨rfl,rfl,rfl,rfl,rfl,rfl,rfl,rfl,rfl,rfl,rfl,rfl,rfl,rfl,rfl,trivial⟩,E,E9,E5,Bn2,Br,Bo,hB0,Bc,(by omega),(by rw [List.length_append,hl3]; rfl),hX9,(by rw [hLe,map_take _ hy,List.append_assoc]),hs9,rfl⟩
         ·have khlt4 := hlt4
          replace hlt4 := of_decide_eq_false hlt4
          have hjj : j = zt.length := by omega
          refine Wp_exit (thn_exit (thn_exit (inB_here (inB_normal (thn_normal (Wp_region ?_))))))
          refine qV (r_add (k := .i64) (a := (i : Int)) (b := 1) (c := (i : Int) + 1) rfl rfl (wI64 (by omega))) ?_
          refine qM (I6 ((i : Int) + 1)) rfl ?_
          refine WpL_nil (thn_normal ?_)
          exact ⟨(lstM M0 N).length - (i + 1),by omega,i + 1,L2,F3,la3,lc3,l3,Fits.out ⟨rfl,rfl,rfl,rfl,rfl,rfl,rfl,rfl,rfl,rfl,rfl,rfl,trivial⟩,E,E9,E5,Bn2,Br,Bo,hB0,Bc,(by omega),hl3,hL3,(by rw [take_snoc ht,hLe,hjj,List.take_length]; exact hLadd),hzl3,rfl⟩
       ·have khlt3 := hlt3
        replace hlt3 := of_decide_eq_false hlt3
        have hii : i = (lstM M0 N).length := by omega
        rw [hii,List.take_length] at hLg
        have hLle := hLg.le
        obtain ⟨⟨rows,hownL,hrows⟩,hxF,hFl⟩ := hL
        have hlo := hownL.lt
        refine Wp_exit (thn_exit (thn_exit (inB_here (thn_normal (Wp_seq_region ?_)))))
        refine qM (.slice la l lc) rfl ?_
        refine WpL_enter rfl rfl (by decide) (r_callF (vs := [(.slice la l lc),(.func (.func 40) #[] #[])]) Tryz.func39 kQ kQ rfl) (sortEd_c _ F2 zl (.slice la l lc) L rows hownL hrows hxF (by omega)) ?_
        rintro _ w69 ⟨rfl,⟨us,qs,hperm,hpw,hown2,hrows2⟩,C69⟩
        replace Bn2 := C69.keep (fun h => by have := (hownL.lt _ h).1; omega) Bn2
        replace Br := C69.keep (fun h => by have := (hownL.lt _ h).1; omega) Br
        replace Bo := C69.keep (fun h => by have := (hownL.lt _ h).1; omega) Bo
        replace hB0 := C69.keep (fun h => by have := (hownL.lt _ h).1; omega) hB0
        replace Bc := C69.keep (fun h => by have := (hownL.lt _ h).1; omega) Bc
        replace E := E.step C69 (fun x hx h => absurd (hownL.lt x h).1 (by omega))
        replace E9 := E9.step C69 (fun x hx h => absurd (hownL.lt x h).1 (by omega))
        replace E5 := E5.step C69 (fun x hx h => absurd (hownL.lt x h).1 (by omega))
        have hul := hperm.length_eq
        refine WpL_nil (Wp_seq_region ?_)
        refine qM (.slice la l lc) rfl ?_
        refine WpL_enter rfl rfl (by decide) (r_callF (vs := [(.slice la l lc),(.func (.func 42) #[] #[])]) Tryz.func41 kQ kQ rfl) (cmpctE_c _ zl F2 (.slice la l lc) (.func (.func 42) #[] #[]) us qs hown2 hrows2 (fun b => (Value.slice la l lc).ownBlock = some b) (fun b h => h) hxF (by omega) (fun w x y ua ua2 uc uc2 h1 h2 => CallV.mk (first := #[]) (cap := #[]) Tryz.func42 kQ kQ rfl (bare1_c w x y ua ua2 uc uc2 h1 h2))) ?_
        rintro _ w79 ⟨la4,lc4,rows4,rfl,hown4,hrows4,hsub4,C79⟩
        replace Bn2 := C79.keep (fun h => by have := (hownL.lt _ h).1; omega) Bn2
        replace Br := C79.keep (fun h => by have := (hownL.lt _ h).1; omega) Br
        replace Bo := C79.keep (fun h => by have := (hownL.lt _ h).1; omega) Bo
        replace hB0 := C79.keep (fun h => by have := (hownL.lt _ h).1; omega) hB0
        replace Bc := C79.keep (fun h => by have := (hownL.lt _ h).1; omega) Bc
        replace E := E.step C79 (fun x hx h => absurd (hownL.lt x h).1 (by omega))
        replace E9 := E9.step C79 (fun x hx h => absurd (hownL.lt x h).1 (by omega))
        replace E5 := E5.step C79 (fun x hx h => absurd (hownL.lt x h).1 (by omega))
        have hBS := hLg.bare hqm hperm hpw
        have hkl := hBS.len
        have hz4 : z4 ≤ (w79).heap.size := by have := E5.size; omega
        replace hE := own_ext hE E5
        replace hX := hX.ext E5
        obtain ⟨⟨rowsX,hoX,hrX⟩,hxX,hFX⟩ := hX
        have hoXx := hoX
        rw [← hx] at hoXx
        have hub := bare_any ok hN hM0l hM0
        refine qA (.slice la4 ((kdE none us).length) lc4) rfl ?_
        refine WpL_nil (Wp_seq (Wp_seq_region ?_))
        refine qF bo 0 4 rfl Tryz.underlying37 rfl siz35 rfl ?_
        refine qV (r_load (v := (.slice xa2 x xc2)) rfl flat35 (Bo.cell rfl)) ?_
        refine qM (.slice la4 ((kdE none us).length) lc4) rfl ?_
        refine s_appendAny (base := z4) (n := x) (m := ((kdE none us).length)) (xs := rowsX.flatten) (news := rows4.flatten) (size := 3) (bytes := 40) (v := (.slice xa2 x xc2)) (by decide) Tryz.underlying35 siz74 byt74 zer74 rfl (by decide) rfl hoXx rfl ((by rw [rows_len hrows4.three,hrows4.1])) (own_any3 hown4) (rows_one hrows4 0) (by unfold maxLen; omega) (by omega) (hz4) ?_
        intro v8 w89 Ov8 Cv8 Dv8
        replace Bn2 := Cv8.keep (fun h => by have := (hoXx.lt _ h).1; omega) Bn2
        replace Br := Cv8.keep (fun h => by have := (hoXx.lt _ h).1; omega) Br
        replace Bo := Cv8.keep (fun h => by have := (hoXx.lt _ h).1; omega) Bo
        replace hB0 := Cv8.keep (fun h => (by have := hXl _ h; omega)) hB0
        replace Bc := Cv8.keep (fun h => (by have := hXl _ h; omega)) Bc
        replace E := E.step Cv8 (fun x hx h => absurd (hoXx.lt x h).1 (by omega))
        replace E9 := E9.step Cv8 (fun x hx h => absurd (hoXx.lt x h).1 (by omega))
        obtain ⟨xa3,xc3,rfl⟩ := own_form Ov8
        have hE9 := own_chg hE Cv8 fun k hk h => own_other hE hoX (by decide) hk h
        have hX9 : EdB (fun y => F y ∨ F2 y) w89 z4 (.slice xa3 (x + (kdE none us).length) xc3) (xs ++ kdE none us) := EdB.app hoX hrX hxX hFX hrows4 (zl := zl) (fun y hy => ⟨(hFl y hy).1,by have := (hFl y hy).2; have := C69.size; have := C79.size; omega⟩) (fun b hb => by have := hXl b hb; omega) (by omega) Cv8 (by rw [← hx]; exact Ov8) Dv8
        have hz9 := Nat.le_trans hz4 Cv8.size
        refine qF bo 0 4 rfl Tryz.underlying37 rfl siz35 rfl ?_
        refine s_store (b := bo) (o := 4) (c' := #[(I6 (N : Int)),(I6 n.start),(.slice ea2 m ec2),(.slice none 0 0),(.slice xa3 (x + (kdE none us).length) xc3)]) (v := (.slice xa3 (x + (kdE none us).length) xc3)) rfl rfl rfl siz35 Bo (by simp) rfl ?_
        intro w14 S14
        replace hE9 := own_chg hE9 S14.chg fun y hy h => by have h' : y = _ := h; have := (hE9.lt y hy).1; omega
        replace hX9 := hX9.chg S14.chg fun y h => by have h' : y = _ := h; omega
        replace hz9 := Nat.le_trans hz9 S14.chg.size
        replace Bn2 := S14.keep (by omega) Bn2
        replace Br := S14.keep (by omega) Br
        replace hB0 := S14.keep (by omega) hB0
        replace Bc := S14.keep (by omega) Bc
        replace E := S14.step E (by first | exact Or.inl (by omega) | exact Or.inr rfl | exact Or.inr (by assumption) | exact Or.inr (by simp) | exact Or.inr (by omega) | exact Or.inr (by dsimp only; omega))
        replace E9 := S14.step E9 (Or.inl (by omega))
        replace Bo := S14.blk
        refine WpL_nil (Wp_seq_region ?_)
        refine qF bo 0 4 rfl Tryz.underlying37 rfl siz35 rfl ?_
        refine qV (r_load (v := (.slice xa3 (x + (kdE none us).length) xc3)) rfl flat35 (Bo.cell rfl)) ?_
        refine qV (r_lenSlice (ad := xa3) (n := (x + (kdE none us).length)) (cap := xc3) Tryz.underlying35 rfl) ?_
        refine qV (r_gtr (k := .i64) (a := (((x + (kdE none us).length) : Nat) : Int)) (b := 20000) rfl rfl) ?_
        refine WpL_nil ?_
        refine Wp_cond (b := decide ((20000 : Int) < (((x + (kdE none us).length) : Nat) : Int))) rfl (fun hbig => ?_) (fun hbig => ?_)
        ·have khbig := hbig
         replace hbig := of_decide_eq_true hbig
         refine Wp_seq_region ?_
         refine qV (r_build (ps := []) (v := (.agg #[(I6 0),(I6 0),(.slice none 0 0),(.slice none 0 0),(.slice none 0 0)])) rfl (by kernel_rfl)) ?_
         refine s_storeAgg (b := br) (o := 0) (c' := #[(I6 0),(I6 0),(.slice none 0 0),(.slice none 0 0),(.slice none 0 0)]) rfl rfl (by simp [Value.oneCell']) siz37 rfl Br (by first | (simp; done) | exact Nat.le_of_ble_eq_true rfl) rfl ?_
         intro w16 S16
         replace hE9 := own_chg hE9 S16.chg fun y hy h => by have h' : y = _ := h; have := (hE9.lt y hy).1; omega
         replace hX9 := hX9.chg S16.chg fun y h => by have h' : y = _ := h; omega
         replace hz9 := Nat.le_trans hz9 S16.chg.size
         replace Bn2 := S16.keep (by omega) Bn2
         replace Bo := S16.keep (by omega) Bo
         replace hB0 := S16.keep (by omega) hB0
         replace Bc := S16.keep (by omega) Bc
         replace E := S16.step E (by first | exact Or.inl (by omega) | exact Or.inr rfl | exact Or.inr (by assumption) | exact Or.inr (by simp) | exact Or.inr (by omega) | exact Or.inr (by dsimp only; omega))
         replace Br := S16.blk
         refine qA (I6 2) rfl ?_
         refine WpL_nil (Wp_ret (thn_ret (inB_ret (thn_ret (thn_ret (inB_ret (thn_ret ?_)))))))
         refine fin_agg_tmp Tryz.results13 (vs := [(.int .i64 0),(.int .i64 0),(.slice none 0 0),(.slice none 0 0),(.slice none 0 0)]) (b := br) (v' := (.int .i64 2)) rfl agg37 siz37 rfl (Br.cells rfl) rfl ?_
         exact ⟨nfR_zero (.inr (.inl ⟨hc1,rfl,rfl,s + 1,_,_,by omega,.step hK hub hBS,by rw [List.length_append]; omega⟩)),E⟩
        ·have khbig := hbig
         replace hbig := of_decide_eq_false hbig
         refine Wp_skip (thn_normal (Wp_seq_region ?_))
         refine qF bn 0 2 rfl Tryz.underlying37 rfl siz22 rfl ?_
         refine qV (r_load (v := (.slice ea n.ends.length ec)) rfl flat22 (Bn2.cell rfl)) ?_
         refine qV (r_makeFunc (vs := []) (us := [(P6 bc 0)]) rfl rfl) ?_
         refine WpL_enter rfl rfl (by decide) (r_callF (vs := [(.slice ea n.ends.length ec),(.func (.func 43) #[] #[(P6 bc 0)])]) Tryz.func34 kQ kQ rfl) (ints_has_c _ _ _ n.ends (fun t => M0.getD t.toNat false) (hen.ext E) (fun w x hE hx => CallV.mk (first := #[]) (cap := #[.pointer (some ⟨bc,0,none⟩)]) Tryz.func43 kQ kQ rfl (by obtain ⟨a,ha,haN⟩ := int_nat (x := x) (N := N) (by have := ok.en x hx; omega); rw [ha]; exact bare2_c w a N g0 bc M0 (hE.keep Bc) (hE.keep hB0) hM0l haN))) ?_
         rintro _ w99 ⟨rfl,X99⟩
         replace Bn2 := X99.keep Bn2
         replace Br := X99.keep Br
         replace Bo := X99.keep Bo
         replace hB0 := X99.keep hB0
         replace Bc := X99.keep Bc
         replace hE9 := own_ext hE9 X99
         replace hX9 := hX9.ext X99
         replace hz9 := Nat.le_trans hz9 X99.size
         replace E := E.ext X99
         replace E9 := E9.ext X99
         refine WpL_nil ?_
         refine Wp_cond (b := (n.ends.any fun t => M0.getD t.toNat false)) rfl (fun hu => ?_) (fun hu => ?_)
         ·have khu := hu
          have hK2 := BareK.step hK hub hBS
          rw [hu,if_pos rfl] at hK2
          refine Wp_region ?_
          refine qF bo 0 2 rfl Tryz.underlying37 rfl siz22 rfl ?_
          refine qV (r_load (v := (.slice ea2 m ec2)) rfl flat22 (Bo.cell rfl)) ?_
          refine qM (I6 (s : Int)) rfl ?_
          refine s_buildSlice (ps := [(0,(I6 (s : Int)))]) (c := #[(I6 (s : Int))]) (by decide) rfl Tryz.underlying22 siz3 zer3 (by decide) (by decide) (by kernel_rfl) ?_
          intro b18 w18 N18
          have F18 := N18.ge E
          have F18_E9 := N18.ge E9
          have O18_bn := N18.lt Bn2
          have O18_br := N18.lt Br
          have O18_bo := N18.lt Bo
          have O18_g0 := N18.lt hB0
          have O18_bc := N18.lt Bc
          replace Bn2 := N18.keep Bn2
          replace Br := N18.keep Br
          replace Bo := N18.keep Bo
          replace hB0 := N18.keep hB0
          replace Bc := N18.keep Bc
          replace hE9 := own_ext hE9 N18.ext
          replace hX9 := hX9.ext N18.ext
          replace hz9 := Nat.le_trans hz9 N18.ext.size
          replace E := E.ext N18.ext
          have B18 := N18.blk
          replace E9 := E9.ext N18.ext
          refine s_append (base := z4) (n := m) (m := 1) (xs := (es.map (Value.int .i64))) (news := [(I6 (s : Int))]) (size := 1) (bytes := 8) (v := (.slice ea2 m ec2)) (by decide) Tryz.underlying22 siz3 byt3 zer3 rfl (by decide) rfl hE9 rfl (rfl) (B18.cells rfl) (by simp [Value.oneCell']) (by unfold maxLen; omega) (by omega) (hz9) ?_
          intro v7 w109 Ov7 Cv7 Dv7
          replace Bn2 := Cv7.keep (fun h => by have := (hE9.lt _ h).1; omega) Bn2
          replace Br := Cv7.keep (fun h => by have := (hE9.lt _ h).1; omega) Br
          replace Bo := Cv7.keep (fun h => by have := (hE9.lt _ h).1; omega) Bo
          replace E := E.step Cv7 (fun x hx h => absurd (hE9.lt x h).1 (by omega))
          replace E9 := E9.step Cv7 (fun x hx h => absurd (hE9.lt x h).1 (by omega))
          obtain ⟨ea3,ec3,rfl⟩ := own_form Ov7
          have hO7 := Ov7
          have hF9 : ∀ y,(F y ∨ F2 y) → ¬ (Value.slice ea2 m ec2).ownBlock = some y := fun y hy h => by rcases hy with hy | hy; exact hEF y h hy; (have := hEl y h; have := (hFl y hy).1; omega)
          have hX7 := hX9.chgQ Cv7 hF9 (fun k hk h => by obtain ⟨⟨r9,h8,_⟩,_⟩ := hX9; exact own_other h8 hE9 (by decide) hk h)
          have hF7 : ∀ y,(Value.slice ea3 (m + 1) ec3).ownBlock = some y → ¬ (F y ∨ F2 y) := fun y h hy => by rcases Dv7 y h with h8 | h8; exact hF9 y hy h8; (have := (hX9.2.2 y hy).2; omega)
          have hz7 := Nat.le_trans hz9 Cv7.size
          refine qF bo 0 2 rfl Tryz.underlying37 rfl siz22 rfl ?_
          refine s_store (b := bo) (o := 2) (c' := #[(I6 (N : Int)),(I6 n.start),(.slice ea3 (m + 1) ec3),(.slice none 0 0),(.slice xa3 (x + (kdE none us).length) xc3)]) (v := (.slice ea3 (m + 1) ec3)) rfl rfl rfl siz22 Bo (by simp) rfl ?_
          intro w19 S19
          replace hO7 := own_chg hO7 S19.chg fun y hy h => by have h' : y = bo := h; have := (hO7.lt y hy).1; omega
          replace hX7 := hX7.chg S19.chg fun y h => by have h' : y = bo := h; omega
          replace hz7 := Nat.le_trans hz7 S19.chg.size
          replace Bn2 := S19.keep (by omega) Bn2
          replace Br := S19.keep (by omega) Br
          replace E := S19.step E (by first | exact Or.inl (by omega) | exact Or.inr rfl | exact Or.inr (by assumption) | exact Or.inr (by simp) | exact Or.inr (by omega) | exact Or.inr (by dsimp only; omega))
          replace E9 := S19.step E9 (Or.inl (by omega))
          replace Bo := S19.blk
          refine WpL_nil (inB_normal (thn_normal (Wp_region ?_)))
          refine qV (r_add (k := .i64) (a := (s : Int)) (b := 1) (c := (s : Int) + 1) rfl rfl (wI64 (by omega))) ?_
          refine qM (I6 ((s : Int) + 1)) rfl ?_
          refine WpL_nil (thn_normal ?_)
          exact ⟨N - (s + 1),by omega,s + 1,es ++ [((s : Nat) : Int)],xs ++ kdE none us,_,ea3,ec3,m + 1,xa3,xc3,x + (kdE none us).length,Fits.out ⟨rfl,rfl,rfl,rfl,rfl,rfl,trivial⟩,E,E9,Bn2,Br,Bo,(by omega),(by simp [hm]),(by rw [List.length_append,hx]),(by omega),(by rw [List.map_append]; exact hO7),hX7,hF7,hK2,hz7,rfl⟩
         ·have khu := hu
          have hK2 := BareK.step hK hub hBS
          rw [hu,if_neg (by decide),List.append_nil] at hK2
          refine Wp_skip (inB_normal (thn_normal (Wp_region ?_)))
          refine qV (r_add (k := .i64) (a := (s : Int)) (b := 1) (c := (s : Int) + 1) rfl rfl (wI64 (by omega))) ?_
          refine qM (I6 ((s : Int) + 1)) rfl ?_
          refine WpL_nil (thn_normal ?_)
          exact ⟨N - (s + 1),by omega,s + 1,es,xs ++ kdE none us,_,ea2,ec2,m,xa3,xc3,x + (kdE none us).length,Fits.out ⟨rfl,rfl,rfl,rfl,rfl,rfl,trivial⟩,E,E9,Bn2,Br,Bo,(by omega),hm,(by rw [List.length_append,hx]),(by omega),hE9,hX9,(fun y h hy => by rcases hy with hy | hy; exact hEF y h hy; (have := hEl y h; have := (hFl y hy).1; omega)),hK2,hz9,rfl⟩
     ·have khlt2 := hlt2
      replace hlt2 := of_decide_eq_false hlt2
      have hsN : s = N := by omega
      refine Wp_exit (thn_exit (thn_exit (inB_here (thn_normal (Wp_seq_region ?_)))))
      refine qV (r_loadAgg (vs := [(I6 (N : Int)),(I6 n.start),(.slice ea2 m ec2),(.slice none 0 0),(.slice xa2 x xc2)]) rfl agg37 siz37 rfl (Bo.cells rfl)) ?_
      refine s_storeAgg (b := br) (o := 0) (c' := #[(I6 (N : Int)),(I6 n.start),(.slice ea2 m ec2),(.slice none 0 0),(.slice xa2 x xc2)]) rfl rfl (by simp [Value.oneCell']) siz37 rfl Br (by first | (simp; done) | exact Nat.le_of_ble_eq_true rfl) rfl ?_
      intro w20 S20
      replace hE := own_chg hE S20.chg fun y hy h => by have h' : y = _ := h; have := (hE.lt y hy).1; omega
      replace hX := hX.chg S20.chg fun y h => by have h' : y = _ := h; omega
      replace Bn2 := S20.keep (by omega) Bn2
      replace Bo := S20.keep (by omega) Bo
      replace E := S20.step E (by first | exact Or.inl (by omega) | exact Or.inr rfl | exact Or.inr (by assumption) | exact Or.inr (by simp) | exact Or.inr (by omega) | exact Or.inr (by dsimp only; omega))
      replace Br := S20.blk
      refine qA (I6 0) rfl ?_
      refine WpL_nil (Wp_ret ?_)
      refine fin_agg_tmp Tryz.results13 (vs := [(.int .i64 ((N : Nat) : Int)),(.int .i64 n.start),(.slice ea2 m ec2),(.slice none 0 0),(.slice xa2 x xc2)]) (b := br) (v' := (.int .i64 0)) rfl agg37 siz37 rfl (Br.cells rfl) rfl ?_
      refine ⟨⟨⟨n.states,n.start,es,[],xs⟩,ea2,ec2,none,0,xa2,xc2,0,by rw [hN,hm,hx]; rfl,fun M w7 c hM => ⟨ea2,ec2,none,0,xa2,xc2,rfl,?_,SlAt.nil _ _ _ _,?_⟩,.inr (.inr ⟨hc1,rfl,rfl,rfl,rfl,N,hN,hsN ▸ hK,by show xs.length ≤ 20000; omega⟩)⟩,E⟩
      ·have h9 := own_intsD (own_chg hE c fun k hk hm => by have := (hE.lt k hk).1; have := hM k hm; omega) hm
       rw [hm] at h9; exact h9
      ·have h9 := (hX.chg c fun y h => by have := hM y h; omega).at
       rw [hx] at h9; exact h9
abbrev TNf : Nat := 37
theorem siz59 : Siz Tryz.prog 59 0 := by unfold Siz; kernel_rfl
theorem zer59 : Zer Tryz.prog 59 (.agg #[]) := by unfold Zer; kernel_rfl
theorem thom1_idle (w0 : World) (b1 b2 : Nat) : CallsD Tryz.prog 36 #[.pointer (some ⟨b1,0,none⟩),.pointer (some ⟨b2,0,none⟩)] .returning w0 fun e u1 w' => (∃ r,e = .returned r ∧ Ext w0 w') ∧ u1 = .returning := by
 refine CallsD_recover (v := .nilIface) Tryz.func36 rfl Tryz.ntmps36 (Nat.le_of_ble_eq_true rfl) rfl rfl (by decide) (fun _ _ => r_recover) (.inl ⟨rfl,rfl,rfl⟩) ?_
 have E : Chg none1 w0 w0 := Chg.refl _ _
 refine qV (r_assertNil Tryz.underlying59 zer59 rfl) ?_
 refine qM (.tuple #[(.agg #[]),(.bool false)]) rfl ?_
 refine qV (r_extract (vs := #[(.agg #[]),(.bool false)]) (v := (.agg #[])) rfl rfl) ?_
 refine qV (r_extract (vs := #[(.agg #[]),(.bool false)]) (v := (.bool false)) rfl rfl) ?_
 refine s_allocStore (v := (.agg #[])) (c := #[]) (n := 0) (by decide) zer59 rfl siz59 rfl rfl rfl (by simp [Value.oneCell']) ?_
 intro b1 w1 N1
 have F1 := N1.ge E
 replace E := E.ext N1.ext
 have B1 := N1.blk
 refine qA (.bool false) rfl ?_
 refine WpL_nil (Wp_seq_region ?_)
 refine qM (.bool false) rfl ?_
 refine WpL_nil ?_
 refine Wp_cond_false rfl ?_
 refine Wp_skip ?_
 refine fin_none Tryz.results36 ?_
 exact E
theorem thom1_panic (w0 : World) (bd be : Nat) (h1 : Blk w0 bd #[.int .i64 0,.int .i64 0,.slice none 0 0,.slice none 0 0,.slice none 0 0] TNf) (h2 : Blk w0 be #[.int .i64 0] 30) (hne : bd ≠ be) :
  CallsD Tryz.prog 36 #[.pointer (some ⟨bd,0,none⟩),.pointer (some ⟨be,0,none⟩)] (.panicking lgN) w0 fun e u1 w' => (∃ r,e = .returned r ∧ (Blk w' bd #[.int .i64 0,.int .i64 0,.slice none 0 0,.slice none 0 0,.slice none 0 0] TNf ∧ Blk w' be #[.int .i64 2] 30 ∧ Chg (fun y => y = bd ∨ y = be) w0 w')) ∧ u1 = .panicking [{ v := .iface 59 (.agg #[]),recovered := true }] := by
 have hl1 := h1.lt
 have hl2 := h2.lt
 refine CallsD_recover (v := (.iface 59 (.agg #[]))) Tryz.func36 rfl Tryz.ntmps36 (Nat.le_of_ble_eq_true rfl) rfl rfl (by decide) (fun _ _ => r_recover) (.inr ⟨[],rfl,rfl⟩) ?_
 have E : Chg (fun y => y = bd ∨ y = be) w0 w0 := Chg.refl _ _
 refine qV (r_assertYes Tryz.underlying59 rfl) ?_
 refine qM (.tuple #[(.agg #[]),(.bool true)]) rfl ?_
 refine qV (r_extract (vs := #[(.agg #[]),(.bool true)]) (v := (.agg #[])) rfl rfl) ?_
 refine qV (r_extract (vs := #[(.agg #[]),(.bool true)]) (v := (.bool true)) rfl rfl) ?_
 refine s_allocStore (v := (.agg #[])) (c := #[]) (n := 0) (by decide) zer59 rfl siz59 rfl rfl rfl (by simp [Value.oneCell']) ?_
 intro b1 w1 N1
 have F1 := N1.ge E
 have O1_bd := N1.lt h1
 have O1_be := N1.lt h2
 replace h1 := N1.keep h1
 replace h2 := N1.keep h2
 replace E := E.ext N1.ext
 have B1 := N1.blk
 refine qA (.bool true) rfl ?_
 refine WpL_nil (Wp_seq_region ?_)
 refine qM (.bool true) rfl ?_
 refine WpL_nil ?_
 refine Wp_cond_true rfl ?_
 refine Wp_region ?_
 refine qV (r_build (ps := []) (v := (.agg #[(I6 0),(I6 0),(.slice none 0 0),(.slice none 0 0),(.slice none 0 0)])) rfl (by kernel_rfl)) ?_
 refine s_storeAgg (b := bd) (o := 0) (c' := #[(I6 0),(I6 0),(.slice none 0 0),(.slice none 0 0),(.slice none 0 0)]) rfl rfl (by simp [Value.oneCell']) siz37 rfl h1 (by first | (simp; done) | exact Nat.le_of_ble_eq_true rfl) rfl ?_
 intro w2 S2
 replace h2 := S2.keep (by omega) h2
 replace B1 := S2.keep (by omega) B1
 replace E := S2.step E (by first | exact Or.inl (by omega) | exact Or.inr rfl | exact Or.inr (by assumption) | exact Or.inr (by simp) | exact Or.inr (by omega) | exact Or.inr (by dsimp only; omega))
 replace h1 := S2.blk
 refine s_store (b := be) (o := 0) (c' := #[(I6 2)]) (v := (I6 2)) rfl rfl rfl siz30 h2 (by simp) rfl ?_
 intro w3 S3
 replace h1 := S3.keep (by omega) h1
 replace B1 := S3.keep (by omega) B1
 replace E := S3.step E (by first | exact Or.inl (by omega) | exact Or.inr rfl | exact Or.inr (by assumption) | exact Or.inr (by simp) | exact Or.inr (by omega) | exact Or.inr (by dsimp only; omega))
 replace h2 := S3.blk
 refine WpL_nil ?_
 refine fin_none Tryz.results36 ?_
 exact ⟨h1,h2,E⟩
theorem hi_thom1 (w : World) (cap : Array Value) : (callFunc 36 cap).run Tryz.prog w = .ok (.enter 36 cap) w := run_callF Tryz.func36 kQ kQ
theorem lim0 : LimT ⟨0,[],[]⟩ 0 := ⟨by decide,by decide,by decide⟩
theorem tst0 {w : World} {bt : Nat} (F : Nat → Prop) (hF : ∀ y,F y → y < bt) (h : Blk w bt #[.int .i64 0,.int .i64 0,.slice none 0 0,.slice none 0 0,.slice none 0 0] TTh) : TSt F w w.heap.size bt (.slice none 0 0) (.slice none 0 0) ⟨0,[],[]⟩ :=
 ⟨h,World.ownsRow_nil _ _ _ _,⟨[],World.ownsRow_nil _ _ _ _,rfl,fun i e row h => (by simp at h)⟩,fun b h => (by cases h),fun b h => (by cases h),fun b h => (by cases h),fun h => (by have := hF _ h; omega),h.lt,Nat.le_refl _,fun y hy => by have := hF y hy; have := h.lt; omega⟩
theorem thom_c (w0 : World) (t : Re) (vs : List Value) (ht : ReAt w0 t vs) : Ret Tryz.prog 12 #[.agg vs.toArray] w0 fun r w => NfR w0.heap.size (ThP t) r w ∧ Ext w0 w := by
 have ht0 := ht
 obtain ⟨sa,sc,aa,ac,rfl,_,_,_⟩ := ht.form
 refine CallsA_of Tryz.func12 rfl Tryz.ntmps12 (Nat.le_of_ble_eq_true rfl) ?_
 have E : Chg none1 w0 w0 := Chg.refl _ _
 refine WpA_seq_region ?_
 refine s_box (v := (.agg (R6 t sa sc aa ac))) (c := (R6 t sa sc aa ac)) (by decide) rfl rfl ?_
 intro bb wb Nb
 have Fb := Nb.ge E
 replace E := E.ext Nb.ext
 have Bb := Nb.blk
 refine s_alloc (c := #[(I6 0),(I6 0),(.slice none 0 0),(.slice none 0 0),(.slice none 0 0)]) (by decide) zer37 rfl ?_
 intro br wr Nr
 have Fr := Nr.ge E
 have Or_bb := Nr.lt Bb
 replace Bb := Nr.keep Bb
 replace E := E.ext Nr.ext
 have Br := Nr.blk
 refine s_alloc (c := #[(I6 0)]) (by decide) zer30 rfl ?_
 intro be we Ne
 have Fe := Ne.ge E
 have Oe_bb := Ne.lt Bb
 have Oe_br := Ne.lt Br
 replace Bb := Ne.keep Bb
 replace Br := Ne.keep Br
 replace E := E.ext Ne.ext
 have Be := Ne.blk
 refine WpL_nil (WpA_assoc (WpA_seq_region ?_))
 refine qV (r_loadAgg (vs := [(I6 t.kind),(.slice sa t.set.length sc),(.slice aa t.args.length ac),(I6 t.mn),(I6 t.mx),(.bool t.neg)]) rfl agg27 siz27 rfl (Bb.cells rfl)) ?_
 refine WpL_enter rfl rfl (by decide) (r_callF (vs := [(.agg (R6 t sa sc aa ac))]) Tryz.func8 kQ kQ rfl) (simple_c _ t _ (ReAt.ext E t ht0)) ?_
 rintro _ w9 ⟨rfl,X9⟩
 replace Bb := X9.keep Bb
 replace Br := X9.keep Br
 replace Be := X9.keep Be
 replace E := E.ext X9
 refine qA (I6 (simE t)) rfl ?_
 refine WpL_nil (WpA_seq_region ?_)
 refine qM (I6 (simE t)) rfl ?_
 refine qV (r_neq (k := .i64) (a := simE t) (b := 0) rfl rfl) ?_
 refine WpL_nil ?_
 refine WpA_cond (b := decide ((simE t : Int) ≠ 0)) rfl (fun h0 => ?_) (fun h0 => ?_)
 ·have kh0 := h0
  replace h0 := of_decide_eq_true h0
  refine Wp_seq_region ?_
  refine qV (r_build (ps := []) (v := (.agg #[(I6 0),(I6 0),(.slice none 0 0),(.slice none 0 0),(.slice none 0 0)])) rfl (by kernel_rfl)) ?_
  refine qM (I6 (simE t)) rfl ?_
  refine s_storeAgg (b := br) (o := 0) (c' := #[(I6 0),(I6 0),(.slice none 0 0),(.slice none 0 0),(.slice none 0 0)]) rfl rfl (by simp [Value.oneCell']) siz37 rfl Br (by first | (simp; done) | exact Nat.le_of_ble_eq_true rfl) rfl ?_
  intro w1 S1
  replace Bb := S1.keep (by omega) Bb
  replace Be := S1.keep (by omega) Be
  replace E := S1.step E (by first | exact Or.inl (by omega) | exact Or.inr rfl | exact Or.inr (by assumption) | exact Or.inr (by simp) | exact Or.inr (by omega) | exact Or.inr (by dsimp only; omega))
  replace Br := S1.blk
  refine s_store (b := be) (o := 0) (c' := #[(I6 (simE t))]) (v := (I6 (simE t))) rfl rfl rfl siz30 Be (by simp) rfl ?_
  intro w2 S2
  replace Bb := S2.keep (by omega) Bb
  replace Br := S2.keep (by omega) Br
  replace E := S2.step E (by first | exact Or.inl (by omega) | exact Or.inr rfl | exact Or.inr (by assumption) | exact Or.inr (by simp) | exact Or.inr (by omega) | exact Or.inr (by dsimp only; omega))
  replace Be := S2.blk
  refine WpL_nil (Wp_ret ?_)
  exact fun a ha => ⟨_,res_agg_cell (vs := [.int .i64 0,.int .i64 0,.slice none 0 0,.slice none 0 0,.slice none 0 0]) Tryz.results12 rfl rfl agg37 siz37 rfl (Br.cells rfl) flat30 (Be.cell rfl) ha,_,rfl,nfR_zero (.inl ⟨h0,rfl,rfl⟩),E⟩
 ·have kh0 := h0
  replace h0 := of_decide_eq_false h0
  have hs0 : simE t = 0 := by omega
  obtain ⟨hok,hsz,hus⟩ := simE_zero.1 hs0
  refine WpA_seq_regionD ?_
  refine WpLA_val rfl rfl (by decide) (r_makeFunc (vs := []) (us := [(P6 br 0),(P6 be 0)]) rfl rfl) ?_
  refine WpLA_defer rfl rfl (r_defer rfl) ?_
  refine Wp_seq_region ?_
  refine qV (r_build (ps := []) (v := (.agg #[(I6 0),(I6 0),(.slice none 0 0),(.slice none 0 0),(.slice none 0 0)])) rfl (by kernel_rfl)) ?_
  refine s_box (v := (.agg #[(I6 0),(I6 0),(.slice none 0 0),(.slice none 0 0),(.slice none 0 0)])) (c := #[(I6 0),(I6 0),(.slice none 0 0),(.slice none 0 0),(.slice none 0 0)]) (by decide) rfl rfl ?_
  intro bt wt Nt
  have Ft := Nt.ge E
  have Ot_bb := Nt.lt Bb
  have Ot_br := Nt.lt Br
  have Ot_be := Nt.lt Be
  replace Bb := Nt.keep Bb
  replace Br := Nt.keep Br
  replace Be := Nt.keep Be
  replace E := E.ext Nt.ext
  have Bt := Nt.blk
  refine qA (P6 bt 0) rfl ?_
  refine WpL_nil (Wp_seq_region ?_)
  refine qM (P6 bt 0) rfl ?_
  refine qV (r_loadAgg (vs := [(I6 t.kind),(.slice sa t.set.length sc),(.slice aa t.args.length ac),(I6 t.mn),(I6 t.mx),(.bool t.neg)]) rfl agg27 siz27 rfl (Bb.cells rfl)) ?_
  obtain ⟨n9,hn9⟩ : ∃ n9,n9 = (wt).heap.size := ⟨_,rfl⟩
  have hlt : br < bt ∧ be < bt ∧ w0.heap.size ≤ br ∧ w0.heap.size ≤ be ∧ br ≠ be ∧ bt < n9 := ⟨by omega,by omega,by omega,by omega,by omega,by rw [hn9]; exact Bt.lt⟩
  have T0 := tst0 (fun y => y < bt) (fun _ h => h) Bt
  refine WpL_enterX rfl rfl (by decide) (r_callF (vs := [(P6 bt 0),(.agg (R6 t sa sc aa ac))]) Tryz.func37 kQ kQ rfl) (thOf_c w0 _ t (Nat.le_refl _) (by omega) hok hus _ bt _ _ _ _ _ _ ht0 E (fun y hy => by show y < bt; omega) T0 lim0) (fun w' h => fun a ha => leaves_end (X := fun w9 => Blk w9 br #[.int .i64 0,.int .i64 0,.slice none 0 0,.slice none 0 0,.slice none 0 0] TNf ∧ Blk w9 be #[.int .i64 2] 30 ∧ Chg (fun y => y = br ∨ y = be) w' w9) rfl (by intro h; cases h) (hi_thom1 _ _) ((thom1_panic _ br be (h.2.keep (fun h => by rcases h with h | h | h; omega; cases h; cases h) Br) (h.2.keep (fun h => by rcases h with h | h | h; omega; cases h; cases h) Be) hlt.2.2.2.2.1).mono fun e9 u9 w9 h9 => by obtain ⟨⟨r9,h1,h2⟩,h3⟩ := h9; exact ⟨⟨r9,h1⟩,by rw [h3]; rfl,h2⟩) (fun w9 h9 => ⟨_,res_agg_cell (vs := [.int .i64 0,.int .i64 0,.slice none 0 0,.slice none 0 0,.slice none 0 0]) Tryz.results12 rfl rfl agg37 siz37 rfl (h9.1.cells rfl) flat30 (h9.2.1.cell rfl) ha,_,rfl,nfR_zero (.inr (.inl ⟨hs0,h.1,rfl,rfl⟩)),(E.step h.2 (fun y hy hh => by rcases hh with hh | hh | hh; omega; cases hh; cases hh)).step h9.2.2 (fun y hy hh => by rcases hh with hh | hh <;> omega)⟩)) ?_
  rintro _ w19 ⟨s,fa,fb,F2,pv,xv,hth,rfl,G⟩
  replace Bb := G.chg.keep ((fun h => by rcases h with h | h | h; omega; cases h; cases h)) Bb
  replace Br := G.chg.keep ((fun h => by rcases h with h | h | h; omega; cases h; cases h)) Br
  replace Be := G.chg.keep ((fun h => by rcases h with h | h | h; omega; cases h; cases h)) Be
  replace E := E.step G.chg ((fun y hy hh => by rcases hh with hh | hh | hh; omega; cases hh; cases hh))
  obtain ⟨⟨pa,pc,rfl⟩,xa,xc,rfl⟩ := G.st.form
  have hblk := G.st.blk
  have hC : Chg (fun y => y < n9) w19 w19 := Chg.refl _ _
  refine qM (.tuple #[(I6 (fa : Int)),(I6 (fb : Int))]) rfl ?_
  refine qV (r_extract (vs := #[(I6 (fa : Int)),(I6 (fb : Int))]) (v := (I6 (fa : Int))) rfl rfl) ?_
  refine qV (r_extract (vs := #[(I6 (fa : Int)),(I6 (fb : Int))]) (v := (I6 (fb : Int))) rfl rfl) ?_
  refine qA (I6 (fa : Int)) rfl ?_
  refine qA (I6 (fb : Int)) rfl ?_
  refine WpL_nil (Wp_seq_region ?_)
  refine qM (P6 bt 0) rfl ?_
  refine qM (P6 bt 0) rfl ?_
  refine qM (I6 (fa : Int)) rfl ?_
  refine qM (I6 (fb : Int)) rfl ?_
  refine s_buildSlice (ps := [(0,(I6 (fb : Int)))]) (c := #[(I6 (fb : Int))]) (by decide) rfl Tryz.underlying22 siz3 zer3 (by decide) (by decide) (by kernel_rfl) ?_
  intro bk wk Nk
  have Fk := Nk.ge E
  have Ok_bb := Nk.lt Bb
  have Ok_br := Nk.lt Br
  have Ok_be := Nk.lt Be
  have Ok_bt := Nk.lt hblk
  replace Bb := Nk.keep Bb
  replace Br := Nk.keep Br
  replace Be := Nk.keep Be
  replace hblk := Nk.keep hblk
  replace hC := hC.ext Nk.ext
  replace E := E.ext Nk.ext
  have Bk := Nk.blk
  refine qV (r_nilCheck (a := ⟨bt,0,none⟩) rfl) ?_
  refine qF bt 0 0 rfl Tryz.underlying85 rfl siz37 rfl ?_
  refine qF bt 0 1 rfl Tryz.underlying37 rfl siz3 rfl ?_
  refine s_store (b := bt) (o := 1) (c' := #[(I6 (s.n : Int)),(I6 (fa : Int)),(.slice none 0 0),(.slice pa s.eps.length pc),(.slice xa s.edges.length xc)]) (v := (I6 (fa : Int))) rfl rfl rfl siz3 hblk (by simp) rfl ?_
  intro w3 S3
  replace hC := hC.step S3.chg (fun y _ h => by have h' : y = _ := h; omega)
  replace Bb := S3.keep (by omega) Bb
  replace Br := S3.keep (by omega) Br
  replace Be := S3.keep (by omega) Be
  replace Bk := S3.keep (by omega) Bk
  replace E := S3.step E (by first | exact Or.inl (by omega) | exact Or.inr rfl | exact Or.inr (by assumption) | exact Or.inr (by simp) | exact Or.inr (by omega) | exact Or.inr (by dsimp only; omega))
  replace hblk := S3.blk
  refine qV (r_nilCheck (a := ⟨bt,0,none⟩) rfl) ?_
  refine qF bt 0 0 rfl Tryz.underlying85 rfl siz37 rfl ?_
  refine qF bt 0 2 rfl Tryz.underlying37 rfl siz22 rfl ?_
  refine s_store (b := bt) (o := 2) (c' := #[(I6 (s.n : Int)),(I6 (fa : Int)),(.slice (some ⟨bk,0,none⟩) 1 1),(.slice pa s.eps.length pc),(.slice xa s.edges.length xc)]) (v := (.slice (some ⟨bk,0,none⟩) 1 1)) rfl rfl rfl siz22 hblk (by simp) rfl ?_
  intro w4 S4
  replace hC := hC.step S4.chg (fun y _ h => by have h' : y = _ := h; omega)
  replace Bb := S4.keep (by omega) Bb
  replace Br := S4.keep (by omega) Br
  replace Be := S4.keep (by omega) Be
  replace Bk := S4.keep (by omega) Bk
  replace E := S4.step E (by first | exact Or.inl (by omega) | exact Or.inr rfl | exact Or.inr (by assumption) | exact Or.inr (by simp) | exact Or.inr (by omega) | exact Or.inr (by dsimp only; omega))
  replace hblk := S4.blk
  refine WpL_nil (Wp_seq_region ?_)
  refine qM (P6 bt 0) rfl ?_
  refine qV (r_nilCheck (a := ⟨bt,0,none⟩) rfl) ?_
  refine qF bt 0 0 rfl Tryz.underlying85 rfl siz37 rfl ?_
  refine qV (r_loadAgg (vs := [(I6 (s.n : Int)),(I6 (fa : Int)),(.slice (some ⟨bk,0,none⟩) 1 1),(.slice pa s.eps.length pc),(.slice xa s.edges.length xc)]) rfl agg37 siz37 rfl (hblk.cells rfl)) ?_
  refine s_storeAgg (b := br) (o := 0) (c' := #[(I6 (s.n : Int)),(I6 (fa : Int)),(.slice (some ⟨bk,0,none⟩) 1 1),(.slice pa s.eps.length pc),(.slice xa s.edges.length xc)]) rfl rfl (by simp [Value.oneCell']) siz37 rfl Br (by first | (simp; done) | exact Nat.le_of_ble_eq_true rfl) rfl ?_
  intro w5 S5
  replace hC := hC.step S5.chg (fun y _ h => by have h' : y = _ := h; omega)
  replace Bb := S5.keep (by omega) Bb
  replace Be := S5.keep (by omega) Be
  replace hblk := S5.keep (by omega) hblk
  replace Bk := S5.keep (by omega) Bk
  replace E := S5.step E (by first | exact Or.inl (by omega) | exact Or.inr rfl | exact Or.inr (by assumption) | exact Or.inr (by simp) | exact Or.inr (by omega) | exact Or.inr (by dsimp only; omega))
  replace Br := S5.blk
  refine s_store (b := be) (o := 0) (c' := #[(I6 0)]) (v := (I6 0)) rfl rfl rfl siz30 Be (by simp) rfl ?_
  intro w6 S6
  replace hC := hC.step S6.chg (fun y _ h => by have h' : y = _ := h; omega)
  replace Bb := S6.keep (by omega) Bb
  replace Br := S6.keep (by omega) Br
  replace hblk := S6.keep (by omega) hblk
  replace Bk := S6.keep (by omega) Bk
  replace E := S6.step E (by first | exact Or.inl (by omega) | exact Or.inr rfl | exact Or.inr (by assumption) | exact Or.inr (by simp) | exact Or.inr (by omega) | exact Or.inr (by dsimp only; omega))
  replace Be := S6.blk
  refine WpL_nil (Wp_ret ?_)
  have hN : NfNew w0.heap.size _ (nfT s fa fb) [.int .i64 ((s.n : Nat) : Int),.int .i64 ((fa : Nat) : Int),.slice (some ⟨bk,0,none⟩) 1 1,.slice pa s.eps.length pc,.slice xa s.edges.length xc] := fun M w7 c hM => by
   have hD := G.st.done (hC.trans (c.mono fun y _ hy => by have := hM y hy; omega)) (fun y h => by rw [← hn9]; exact h)
   exact ⟨_,_,_,_,_,_,rfl,ints_of_blk [((fb : Nat) : Int)] (c.keep (fun h => by have := hM _ h; omega) Bk) (by simp) (by simp),hD.1,hD.2⟩
  exact fun a ha => leaves_end (X := Ext _) rfl (by intro h; cases h) (hi_thom1 _ _) ((thom1_idle _ br be).mono fun e9 u9 w9 h9 => by obtain ⟨⟨r9,h1,h2⟩,h3⟩ := h9; exact ⟨⟨r9,h1⟩,by rw [h3]; rfl,h2⟩) (fun w9 h9 => ⟨_,res_agg_cell (vs := [.int .i64 ((s.n : Nat) : Int),.int .i64 ((fa : Nat) : Int),.slice (some ⟨bk,0,none⟩) 1 1,.slice pa s.eps.length pc,.slice xa s.edges.length xc]) Tryz.results12 rfl rfl agg37 siz37 rfl ((Ext.keep h9 Br).cells rfl) flat30 ((Ext.keep h9 Be).cell rfl) ha,_,rfl,⟨nfT s fa fb,_,_,_,_,_,_,_,rfl,hN.ext h9,.inr (.inr ⟨hs0,rfl,s,fa,fb,hth,rfl⟩)⟩,E.ext h9⟩)
theorem glu1_idle (w0 : World) (b1 b2 : Nat) : CallsD Tryz.prog 23 #[.pointer (some ⟨b1,0,none⟩),.pointer (some ⟨b2,0,none⟩)] .returning w0 fun e u1 w' => (∃ r,e = .returned r ∧ Ext w0 w') ∧ u1 = .returning := by
 refine CallsD_recover (v := .nilIface) Tryz.func23 rfl Tryz.ntmps23 (Nat.le_of_ble_eq_true rfl) rfl rfl (by decide) (fun _ _ => r_recover) (.inl ⟨rfl,rfl,rfl⟩) ?_
 have E : Chg none1 w0 w0 := Chg.refl _ _
 refine qV (r_assertNil Tryz.underlying59 zer59 rfl) ?_
 refine qM (.tuple #[(.agg #[]),(.bool false)]) rfl ?_
 refine qV (r_extract (vs := #[(.agg #[]),(.bool false)]) (v := (.agg #[])) rfl rfl) ?_
 refine qV (r_extract (vs := #[(.agg #[]),(.bool false)]) (v := (.bool false)) rfl rfl) ?_
 refine s_allocStore (v := (.agg #[])) (c := #[]) (n := 0) (by decide) zer59 rfl siz59 rfl rfl rfl (by simp [Value.oneCell']) ?_
 intro b1 w1 N1
 have F1 := N1.ge E
 replace E := E.ext N1.ext
 have B1 := N1.blk
 refine qA (.bool false) rfl ?_
 refine WpL_nil (Wp_seq_region ?_)
 refine qM (.bool false) rfl ?_
 refine WpL_nil ?_
 refine Wp_cond_false rfl ?_
 refine Wp_skip ?_
 refine fin_none Tryz.results23 ?_
 exact E
theorem glu1_panic (w0 : World) (bd be : Nat) (h1 : Blk w0 bd #[.int .i64 0,.int .i64 0,.slice none 0 0,.slice none 0 0,.slice none 0 0] TNf) (h2 : Blk w0 be #[.int .i64 0] 30) (hne : bd ≠ be) :
  CallsD Tryz.prog 23 #[.pointer (some ⟨bd,0,none⟩),.pointer (some ⟨be,0,none⟩)] (.panicking lgN) w0 fun e u1 w' => (∃ r,e = .returned r ∧ (Blk w' bd #[.int .i64 0,.int .i64 0,.slice none 0 0,.slice none 0 0,.slice none 0 0] TNf ∧ Blk w' be #[.int .i64 2] 30 ∧ Chg (fun y => y = bd ∨ y = be) w0 w')) ∧ u1 = .panicking [{ v := .iface 59 (.agg #[]),recovered := true }] := by
 have hl1 := h1.lt
 have hl2 := h2.lt
 refine CallsD_recover (v := (.iface 59 (.agg #[]))) Tryz.func23 rfl Tryz.ntmps23 (Nat.le_of_ble_eq_true rfl) rfl rfl (by decide) (fun _ _ => r_recover) (.inr ⟨[],rfl,rfl⟩) ?_
 have E : Chg (fun y => y = bd ∨ y = be) w0 w0 := Chg.refl _ _
 refine qV (r_assertYes Tryz.underlying59 rfl) ?_
 refine qM (.tuple #[(.agg #[]),(.bool true)]) rfl ?_
 refine qV (r_extract (vs := #[(.agg #[]),(.bool true)]) (v := (.agg #[])) rfl rfl) ?_
 refine qV (r_extract (vs := #[(.agg #[]),(.bool true)]) (v := (.bool true)) rfl rfl) ?_
 refine s_allocStore (v := (.agg #[])) (c := #[]) (n := 0) (by decide) zer59 rfl siz59 rfl rfl rfl (by simp [Value.oneCell']) ?_
 intro b1 w1 N1
 have F1 := N1.ge E
 have O1_bd := N1.lt h1
 have O1_be := N1.lt h2
 replace h1 := N1.keep h1
 replace h2 := N1.keep h2
 replace E := E.ext N1.ext
 have B1 := N1.blk
 refine qA (.bool true) rfl ?_
 refine WpL_nil (Wp_seq_region ?_)
 refine qM (.bool true) rfl ?_
 refine WpL_nil ?_
 refine Wp_cond_true rfl ?_
 refine Wp_region ?_
 refine qV (r_build (ps := []) (v := (.agg #[(I6 0),(I6 0),(.slice none 0 0),(.slice none 0 0),(.slice none 0 0)])) rfl (by kernel_rfl)) ?_
 refine s_storeAgg (b := bd) (o := 0) (c' := #[(I6 0),(I6 0),(.slice none 0 0),(.slice none 0 0),(.slice none 0 0)]) rfl rfl (by simp [Value.oneCell']) siz37 rfl h1 (by first | (simp; done) | exact Nat.le_of_ble_eq_true rfl) rfl ?_
 intro w2 S2
 replace h2 := S2.keep (by omega) h2
 replace B1 := S2.keep (by omega) B1
 replace E := S2.step E (by first | exact Or.inl (by omega) | exact Or.inr rfl | exact Or.inr (by assumption) | exact Or.inr (by simp) | exact Or.inr (by omega) | exact Or.inr (by dsimp only; omega))
 replace h1 := S2.blk
 refine s_store (b := be) (o := 0) (c' := #[(I6 2)]) (v := (I6 2)) rfl rfl rfl siz30 h2 (by simp) rfl ?_
 intro w3 S3
 replace h1 := S3.keep (by omega) h1
 replace B1 := S3.keep (by omega) B1
 replace E := S3.step E (by first | exact Or.inl (by omega) | exact Or.inr rfl | exact Or.inr (by assumption) | exact Or.inr (by simp) | exact Or.inr (by omega) | exact Or.inr (by dsimp only; omega))
 replace h2 := S3.blk
 refine WpL_nil ?_
 refine fin_none Tryz.results23 ?_
 exact ⟨h1,h2,E⟩
theorem hi_glu1 (w : World) (cap : Array Value) : (callFunc 23 cap).run Tryz.prog w = .ok (.enter 23 cap) w := run_callF Tryz.func23 kQ kQ
theorem ends0_len (p : Pt) : (ends0 p).length ≤ 1 := by unfold ends0; split <;> simp
/-- Numbers in a block of F. -/
def IntsF (F : Nat → Prop) (w : World) (v : Value) (l : List Int) : Prop := IntsAt w v l ∧ (l = [] ∨ ∃ b,v.ownBlock = some b ∧ F b)
theorem IntsF.chg {F M : Nat → Prop} {w w' : World} {v : Value} {l : List Int} (h : IntsF F w v l) (c : Chg M w w') (hM : ∀ y,F y → ¬ M y) : IntsF F w' v l := by
 refine ⟨slAt_keep h.1 c ?_,h.2⟩
 rcases h.2 with h1 | ⟨b,h1,h2⟩
 ·exact .inl (by rw [h1]; rfl)
 ·exact .inr ⟨b,h1,hM b h2⟩
theorem IntsF.ext {F : Nat → Prop} {w w' : World} {v : Value} {l : List Int} (h : IntsF F w v l) (e : Ext w w') : IntsF F w' v l := h.chg e fun _ _ f => f
theorem IntsF.mono {F F' : Nat → Prop} {w : World} {v : Value} {l : List Int} (h : IntsF F w v l) (hF : ∀ y,F y → F' y) : IntsF F' w v l := ⟨h.1,h.2.imp id fun ⟨b,h1,h2⟩ => ⟨b,h1,hF b h2⟩⟩
theorem EdB.more {F S : Nat → Prop} {w : World} {base : Nat} {xv : Value} {es : List Ed} (h : EdB F w base xv es) (hS : ∀ y,S y → base ≤ y ∧ y < w.heap.size ∧ xv.ownBlock ≠ some y) : EdB (fun y => F y ∨ S y) w base xv es := by
 obtain ⟨⟨rows,h1,h2⟩,h3,h4⟩ := h
 exact ⟨⟨rows,h1,h2.mono fun y hy => .inl hy⟩,fun b hb hf => hf.elim (h3 b hb) fun h => (hS b h).2.2 hb,fun y hy => hy.elim (h4 y) fun h => ⟨(hS y h).1,(hS y h).2.1⟩⟩
theorem EdB.own {F : Nat → Prop} {w : World} {base : Nat} {xv : Value} {es : List Ed} (h : EdB F w base xv es) {b : Nat} (hb : xv.ownBlock = some b) : base ≤ b ∧ b < w.heap.size := by
 obtain ⟨⟨rows,h1,_⟩,_⟩ := h
 exact h1.lt b hb
/-- The sets that are put in are sets of the expression. -/
def GSets (S : List Sp → Prop) (f : GF) : Prop := ∀ g g' p,(∀ z ∈ g.sets,S z) → f g = some (g',p) → ∀ z ∈ g'.sets,S z
theorem catGs_sets {S : List Sp → Prop} : ∀ (fs : List GF),(∀ f ∈ fs,GSets S f) → ∀ (g g' : GS) (o p : Pt),(∀ z ∈ g.sets,S z) → catGs fs g o = some (g',p) → ∀ z ∈ g'.sets,S z
  | [],_,g,g',o,p,h,e => by
    simp only [catGs,Option.some.injEq,Prod.mk.injEq] at e
    obtain ⟨rfl,rfl⟩ := e; exact h
  | f :: fs,hf,g,g',o,p,h,e => by
    rw [catGs] at e
    obtain ⟨⟨g1,p1⟩,e1,e2⟩ := Option.bind_eq_some_iff.1 e
    have h1 : ∀ z ∈ (catK g1 o p1).sets,S z := hf f List.mem_cons_self g g1 p1 h e1
    exact catGs_sets fs (fun f' h' => hf f' (List.mem_cons_of_mem _ h')) _ _ _ _ h1 e2
theorem altGs_sets {S : List Sp → Prop} : ∀ (fs : List GF),(∀ f ∈ fs,GSets S f) → ∀ (g g' : GS) (o p : Pt),(∀ z ∈ g.sets,S z) → altGs fs g o = some (g',p) → ∀ z ∈ g'.sets,S z
  | [],_,g,g',o,p,h,e => by
    simp only [altGs,Option.some.injEq,Prod.mk.injEq] at e
    obtain ⟨rfl,rfl⟩ := e; exact h
  | f :: fs,hf,g,g',o,p,h,e => by
    rw [altGs] at e
    obtain ⟨⟨g1,p1⟩,e1,e2⟩ := Option.bind_eq_some_iff.1 e
    exact altGs_sets fs (fun f' h' => hf f' (List.mem_cons_of_mem _ h')) _ _ _ _ (hf f List.mem_cons_self _ _ _ h e1) e2
theorem repGs_sets {S : List Sp → Prop} {f : GF} (hf : GSets S f) {mn : Int} {g : GS} (hg : ∀ z ∈ g.sets,S z) : ∀ (k : Nat) (g' : GS) (p : Pt),repGs f mn g k = some (g',p) → ∀ z ∈ g'.sets,S z
  | 0,g',p,e => by
    simp only [repGs,Option.some.injEq,Prod.mk.injEq] at e
    obtain ⟨rfl,rfl⟩ := e; exact hg
  | k + 1,g',p,e => by
    rw [repGs] at e
    obtain ⟨⟨g1,o⟩,e1,e2⟩ := Option.bind_eq_some_iff.1 e
    obtain ⟨⟨g2,q⟩,e3,e4⟩ := Option.bind_eq_some_iff.1 e2
    simp only [Option.some.injEq,Prod.mk.injEq] at e4
    obtain ⟨rfl,rfl⟩ := e4
    have h1 : ∀ z ∈ g2.sets,S z := hf g1 g2 q (repGs_sets hf hg k g1 o e1) e3
    exact h1
theorem gnode_sets {S : List Sp → Prop} {k : Int} {z : List Sp} {mn mx : Int} {fs : List GF} (hz : k = 2 → S z) (hf : ∀ f ∈ fs,GSets S f) : GSets S (gnode k z mn mx fs) := by
  intro g g' p hg e
  unfold gnode at e
  split at e
  · simp only [Option.some.injEq,Prod.mk.injEq] at e
    obtain ⟨rfl,rfl⟩ := e; exact hg
  split at e
  · rename_i h2
    unfold setK at e
    split at e
    · cases e
    · simp only [Option.some.injEq,Prod.mk.injEq] at e
      obtain ⟨rfl,rfl⟩ := e
      intro y hy
      rcases List.mem_append.1 hy with h1 | h1
      · exact hg y h1
      · rw [List.mem_singleton.1 h1]; exact hz h2
  split at e
  · exact catGs_sets fs hf _ _ _ _ hg e
  split at e
  · exact altGs_sets fs hf _ _ _ _ hg e
  split at e
  · cases fs with
    | nil => cases e
    | cons f fs =>
      simp only at e
      obtain ⟨⟨g1,p1⟩,e1,e2⟩ := Option.bind_eq_some_iff.1 e
      simp only [Option.some.injEq,Prod.mk.injEq] at e2
      obtain ⟨rfl,rfl⟩ := e2
      have h1 : ∀ z ∈ g1.sets,S z := hf f List.mem_cons_self g g1 p1 hg e1
      exact h1
  split at e
  · cases fs with
    | nil => cases e
    | cons f fs => exact repGs_sets (hf f List.mem_cons_self) hg _ _ _ e
  split at e
  · cases fs with
    | nil => cases e
    | cons f fs => exact hf f List.mem_cons_self _ _ _ hg e
  · simp only [Option.some.injEq,Prod.mk.injEq] at e
    obtain ⟨rfl,rfl⟩ := e; exact hg
theorem gkO_sets : ∀ (n : Nat) (x : Re),x.size ≤ n → okRe x → GSets (fun z => checkE z = 0) (gkO x) := by
  intro n
  induction n with
  | zero => intro x h; have := x.size_pos; omega
  | succ n ih =>
  intro x hn hok
  have hz := node_chk (okRe_node hok)
  have hf : ∀ f ∈ gkL x.args,GSets (fun z => checkE z = 0) f := fun f hf => by
    rw [gkL_map] at hf
    obtain ⟨y,hy,rfl⟩ := List.mem_map.1 hf
    obtain ⟨i,hi⟩ := List.getElem?_of_mem hy
    have h1 := Re.size_arg hi
    exact ih y (by omega) (okRes_get (okRe_args hok) hi)
  cases x
  rw [gkO]
  exact gnode_sets hz hf
theorem edgO_at (g : GS) (s k : Nat) {z : List Sp} (hz : g.sets[k]? = some z) : edgO g s ((k + 1 : Nat) : Int) = ((s : Int),((k + 1 : Nat) : Int),z) := by
 unfold edgO
 have e : ((k + 1 : Nat) : Int).toNat - 1 = k := by omega
 rw [e,List.getD_eq_getElem?_getD,hz]; rfl
theorem rowE_eq {g : GS} {p : Pt} {s : Nat} {l : List Nat} (hl : (folG g p)[s]? = some l) : rowE g p s = (upS (nZ l)).map (edgO g s) := by
 unfold rowE
 rw [List.getD_eq_getElem?_getD,hl]; rfl
theorem inU {l : List Nat} {t : Int} {n : Nat} (h : ∀ x ∈ l,0 < x ∧ x ≤ n) (ht : t ∈ upS (nZ l)) : ∃ k : Nat,t = ((k + 1 : Nat) : Int) ∧ k < n := by
 rw [upS_mem] at ht
 obtain ⟨x,hx,rfl⟩ := List.mem_map.1 ht
 have := h x hx
 exact ⟨x - 1,by omega,by omega⟩
theorem glush_c (w0 : World) (t : Re) (vs : List Value) (ht : ReAt w0 t vs) : Ret Tryz.prog 10 #[.agg vs.toArray] w0 fun r w => NfR w0.heap.size (GkP t) r w ∧ Ext w0 w := by
 have ht0 := ht
 obtain ⟨sa,sc,aa,ac,rfl,_,_,_⟩ := ht.form
 refine CallsA_of Tryz.func10 rfl Tryz.ntmps10 (Nat.le_of_ble_eq_true rfl) ?_
 have E : Chg none1 w0 w0 := Chg.refl _ _
 refine WpA_seq_region ?_
 refine s_box (v := (.agg (R6 t sa sc aa ac))) (c := (R6 t sa sc aa ac)) (by decide) rfl rfl ?_
 intro bb wb Nb
 have Fb := Nb.ge E
 replace E := E.ext Nb.ext
 have Bb := Nb.blk
 refine s_alloc (c := #[(I6 0),(I6 0),(.slice none 0 0),(.slice none 0 0),(.slice none 0 0)]) (by decide) zer37 rfl ?_
 intro br wr Nr
 have Fr := Nr.ge E
 have Or_bb := Nr.lt Bb
 replace Bb := Nr.keep Bb
 replace E := E.ext Nr.ext
 have Br := Nr.blk
 refine s_alloc (c := #[(I6 0)]) (by decide) zer30 rfl ?_
 intro be we Ne
 have Fe := Ne.ge E
 have Oe_bb := Ne.lt Bb
 have Oe_br := Ne.lt Br
 replace Bb := Ne.keep Bb
 replace Br := Ne.keep Br
 replace E := E.ext Ne.ext
 have Be := Ne.blk
 refine WpL_nil (WpA_assoc (WpA_seq_region ?_))
 refine qV (r_loadAgg (vs := [(I6 t.kind),(.slice sa t.set.length sc),(.slice aa t.args.length ac),(I6 t.mn),(I6 t.mx),(.bool t.neg)]) rfl agg27 siz27 rfl (Bb.cells rfl)) ?_
 refine WpL_enter rfl rfl (by decide) (r_callF (vs := [(.agg (R6 t sa sc aa ac))]) Tryz.func8 kQ kQ rfl) (simple_c _ t _ (ReAt.ext E t ht0)) ?_
 rintro _ w9 ⟨rfl,X9⟩
 replace Bb := X9.keep Bb
 replace Br := X9.keep Br
 replace Be := X9.keep Be
 replace E := E.ext X9
 refine qA (I6 (simE t)) rfl ?_
 refine WpL_nil (WpA_seq_region ?_)
 refine qM (I6 (simE t)) rfl ?_
 refine qV (r_neq (k := .i64) (a := simE t) (b := 0) rfl rfl) ?_
 refine WpL_nil ?_
 refine WpA_cond (b := decide ((simE t : Int) ≠ 0)) rfl (fun h0 => ?_) (fun h0 => ?_)
 ·have kh0 := h0
  replace h0 := of_decide_eq_true h0
  refine Wp_seq_region ?_
  refine qV (r_build (ps := []) (v := (.agg #[(I6 0),(I6 0),(.slice none 0 0),(.slice none 0 0),(.slice none 0 0)])) rfl (by kernel_rfl)) ?_
  refine qM (I6 (simE t)) rfl ?_
  refine s_storeAgg (b := br) (o := 0) (c' := #[(I6 0),(I6 0),(.slice none 0 0),(.slice none 0 0),(.slice none 0 0)]) rfl rfl (by simp [Value.oneCell']) siz37 rfl Br (by first | (simp; done) | exact Nat.le_of_ble_eq_true rfl) rfl ?_
  intro w1 S1
  replace Bb := S1.keep (by omega) Bb
  replace Be := S1.keep (by omega) Be
  replace E := S1.step E (by first | exact Or.inl (by omega) | exact Or.inr rfl | exact Or.inr (by assumption) | exact Or.inr (by simp) | exact Or.inr (by omega) | exact Or.inr (by dsimp only; omega))
  replace Br := S1.blk
  refine s_store (b := be) (o := 0) (c' := #[(I6 (simE t))]) (v := (I6 (simE t))) rfl rfl rfl siz30 Be (by simp) rfl ?_
  intro w2 S2
  replace Bb := S2.keep (by omega) Bb
  replace Br := S2.keep (by omega) Br
  replace E := S2.step E (by first | exact Or.inl (by omega) | exact Or.inr rfl | exact Or.inr (by assumption) | exact Or.inr (by simp) | exact Or.inr (by omega) | exact Or.inr (by dsimp only; omega))
  replace Be := S2.blk
  refine WpL_nil (Wp_ret ?_)
  exact fun a ha => ⟨_,res_agg_cell (vs := [.int .i64 0,.int .i64 0,.slice none 0 0,.slice none 0 0,.slice none 0 0]) Tryz.results10 rfl rfl agg37 siz37 rfl (Br.cells rfl) flat30 (Be.cell rfl) ha,_,rfl,nfR_zero (.inl ⟨h0,rfl,rfl⟩),E⟩
 ·have kh0 := h0
  replace h0 := of_decide_eq_false h0
  have hs0 : simE t = 0 := by omega
  obtain ⟨hok,hsz,hus⟩ := simE_zero.1 hs0
  refine WpA_seq_regionD ?_
  refine WpLA_val rfl rfl (by decide) (r_makeFunc (vs := []) (us := [(P6 br 0),(P6 be 0)]) rfl rfl) ?_
  refine WpLA_defer rfl rfl (r_defer rfl) ?_
  refine Wp_seq_region ?_
  refine s_buildSlice (ps := [(0,(.slice none 0 0))]) (c := #[(.slice none 0 0)]) (by decide) rfl Tryz.underlying62 siz22 zer22 (by decide) (by decide) (by kernel_rfl) ?_
  intro bl wl Nl
  have Fl := Nl.ge E
  have Ol_bb := Nl.lt Bb
  have Ol_br := Nl.lt Br
  have Ol_be := Nl.lt Be
  replace Bb := Nl.keep Bb
  replace Br := Nl.keep Br
  replace Be := Nl.keep Be
  replace E := E.ext Nl.ext
  have Bl := Nl.blk
  refine qV (r_build (ps := [(1,(.slice (some ⟨bl,0,none⟩) 1 1))]) (v := (.agg #[(.slice none 0 0),(.slice (some ⟨bl,0,none⟩) 1 1)])) rfl (by kernel_rfl)) ?_
  refine s_box (v := (.agg #[(.slice none 0 0),(.slice (some ⟨bl,0,none⟩) 1 1)])) (c := #[(.slice none 0 0),(.slice (some ⟨bl,0,none⟩) 1 1)]) (by decide) rfl rfl ?_
  intro bg wg Ng
  have Fg := Ng.ge E
  have Og_bb := Ng.lt Bb
  have Og_br := Ng.lt Br
  have Og_be := Ng.lt Be
  have Og_bl := Ng.lt Bl
  replace Bb := Ng.keep Bb
  replace Br := Ng.keep Br
  replace Be := Ng.keep Be
  replace Bl := Ng.keep Bl
  replace E := E.ext Ng.ext
  have Bg := Ng.blk
  refine qA (P6 bg 0) rfl ?_
  refine WpL_nil (Wp_seq_region ?_)
  refine qM (P6 bg 0) rfl ?_
  refine qV (r_loadAgg (vs := [(I6 t.kind),(.slice sa t.set.length sc),(.slice aa t.args.length ac),(I6 t.mn),(I6 t.mx),(.bool t.neg)]) rfl agg27 siz27 rfl (Bb.cells rfl)) ?_
  have hlt : br < bl ∧ be < bl ∧ bb < bl ∧ w0.heap.size ≤ br ∧ w0.heap.size ≤ be ∧ br ≠ be ∧ bl < bg := ⟨by omega,by omega,by omega,by omega,by omega,by omega,by omega⟩
  have T0 := gkst0 (base := bl) (Nat.le_refl _) hlt.2.2.2.2.2.2 Bl Bg
  have hw0 : w0.heap.size ≤ bl := by omega
  refine WpL_enterX rfl rfl (by decide) (r_callF (vs := [(P6 bg 0),(.agg (R6 t sa sc aa ac))]) Tryz.func24 kQ kQ rfl) (gkOf_c w0 44 t (by omega) (by omega) hok hus bl bg _ _ _ _ _ gs0 _ ht0 E (fun y hy => by show y < bl; omega) T0 gi0 rowB0) (fun w' h => fun a ha => leaves_end (X := fun w9 => Blk w9 br #[.int .i64 0,.int .i64 0,.slice none 0 0,.slice none 0 0,.slice none 0 0] TNf ∧ Blk w9 be #[.int .i64 2] 30 ∧ Chg (fun y => y = br ∨ y = be) w' w9) rfl (by intro h; cases h) (hi_glu1 _ _) ((glu1_panic _ br be (h.2.keep (T0.kept (show br < bl by omega)) Br) (h.2.keep (T0.kept (show be < bl by omega)) Be) (by omega)).mono fun e9 u9 w9 h9 => by obtain ⟨⟨r9,h1,h2⟩,h3⟩ := h9; exact ⟨⟨r9,h1⟩,by rw [h3]; rfl,h2⟩) (fun w9 h9 => ⟨_,res_agg_cell (vs := [.int .i64 0,.int .i64 0,.slice none 0 0,.slice none 0 0,.slice none 0 0]) Tryz.results10 rfl rfl agg37 siz37 rfl (h9.1.cells rfl) flat30 (h9.2.1.cell rfl) ha,_,rfl,nfR_zero (.inr (.inl ⟨hs0,h.1,rfl,rfl⟩)),(E.step h.2 (fun y hy hh => absurd hh (T0.kept (show y < bl by omega)))).step h9.2.2 (fun y hy hh => by rcases hh with hh | hh <;> omega)⟩)) ?_
  rintro _ w19 ⟨g,p,F2,s2,f2,v2,hgk,⟨pa,pc,pa2,pc2,rfl,hp1,hp2⟩,G⟩
  replace Bb := G.chg.keep ((T0.kept (by show _ < bl; omega))) Bb
  replace Br := G.chg.keep ((T0.kept (by show _ < bl; omega))) Br
  replace Be := G.chg.keep ((T0.kept (by show _ < bl; omega))) Be
  replace E := E.step G.chg ((fun y hy hh => absurd hh (T0.kept (show y < bl by omega))))
  have hok1 := gkO_ok t gs0 g p gi0 hgk
  have hI := hok1.inv
  have hI1 := hI.1
  have hI2 := hI.2
  have hst := G.st
  have hfl : (g.fol.map nRow).length = g.fol.length := List.length_map _
  obtain ⟨fa,fc,rfl⟩ := own_form (hst.fol.l.on (n := g.fol.length) hfl.symm)
  obtain ⟨us0,hsown,_⟩ := hst.sets
  obtain ⟨ya,yc,rfl⟩ := own_form hsown
  obtain ⟨gb,hgb,_,_⟩ := own_cells (hst.fol.l.on (n := g.fol.length) hfl.symm) (by omega)
  subst hgb
  have hblk := hst.blk
  have hgbl := hst.fol.lt (b := gb) (.inl rfl)
  have hbgl := hblk.lt
  have hne : gb ≠ br ∧ gb ≠ be ∧ gb ≠ bb ∧ gb ≠ bg := ⟨fun e => hst.hfF gb (.inl rfl) (e ▸ G.sub _ (show br < bl by omega)),fun e => hst.hfF gb (.inl rfl) (e ▸ G.sub _ (show be < bl by omega)),fun e => hst.hfF gb (.inl rfl) (e ▸ G.sub _ (show bb < bl by omega)),fun e => hst.aps.2 (.inl (by rw [← e]; rfl))⟩
  have E6 : Chg none1 w19 w19 := Chg.refl _ _
  refine s_allocStore (v := (.agg #[(.bool p.nul),(.slice pa p.fst.length pc),(.slice pa2 p.lst.length pc2)])) (c := #[(.bool p.nul),(.slice pa p.fst.length pc),(.slice pa2 p.lst.length pc2)]) (n := 3) (by decide) zer67 rfl siz67 rfl rfl rfl (by simp [Value.oneCell']) ?_
  intro bp wp Np
  have Fp := Np.ge E
  have Fp_E6 := Np.ge E6
  have Op_bb := Np.lt Bb
  have Op_br := Np.lt Br
  have Op_be := Np.lt Be
  have Op_bg := Np.lt hblk
  replace Bb := Np.keep Bb
  replace Br := Np.keep Br
  replace Be := Np.keep Be
  replace hblk := Np.keep hblk
  replace E := E.ext Np.ext
  have Bp := Np.blk
  replace E6 := E6.ext Np.ext
  refine WpL_nil ?_
  have hstE := hst.ext E6
  have hp1E := hp1.ext E6
  have hp2E := hp2.ext E6
  have hbpl : gb < bp := by have := Np.eq; omega
  have hz_3 : w0.heap.size ≤ wp.heap.size := E.size
  have lz_3_bb : bb < wp.heap.size := Bb.lt
  have lz_3_br : br < wp.heap.size := Br.lt
  have lz_3_be : be < wp.heap.size := Be.lt
  have lz_3_bg : bg < wp.heap.size := hblk.lt
  have lz_3_bp : bp < wp.heap.size := Bp.lt
  refine Wp_seq ?_
  obtain ⟨Fs3,hFs3⟩ : ∃ Fs : List FctS,Fs = [(eF (P6 bg 0)),(eF (P6 bg 0)),(eF (P6 bg 1)),(eF (.slice (some ⟨gb,0,none⟩) g.fol.length fc)),(eF (P6 bp 1)),(eF (.slice pa p.fst.length pc)),(eF undef),(eF undef)] := ⟨_,rfl⟩
  refine Wp_dagS (MsL []) [true,true,true,true,true,true,false,false] [6,7] [25,26,27,28,29,30,111,112] [[],[0],[1],[2],[],[4],[],[]] [[],[0],[1,0],[2,1,0],[],[4],[],[]] Fs3 hFs3 (by kernel_rfl) mixed (by kernel_rfl) (by kernel_rfl) (by kernel_rfl) (by kernel_rfl) ?_ ?_
  ·intro wd X0
   refine qZ (fun S s' w' hi hN X U V H => ?_) ?_
   ·replace X := xN0 X
    exact DoesT_pure (r_move (v := (P6 bg 0)) (U 5 rfl)) rfl
   refine qZ (fun S s' w' hi hN X U V H => ?_) ?_
   ·replace X := xN0 X
    have e25 := (H 0 rfl).2 25 _ rfl (by rw [hFs3]; rfl)
    exact DoesT_pure (r_nilCheck (a := ⟨bg,0,none⟩) e25) rfl
   refine qZ (fun S s' w' hi hN X U V H => ?_) ?_
   ·replace X := xN0 X
    have e26 := (H 1 rfl).2 26 _ rfl (by rw [hFs3]; rfl)
    exact DoesT_pure (r_fieldAddr (b := bg) (o := 0) (o' := 1) e26 Tryz.underlying65 rfl siz62 rfl) rfl
   refine qZ (fun S s' w' hi hN X U V H => ?_) ?_
   ·replace X := xN0 X
    have e27 := (H 2 rfl).2 27 _ rfl (by rw [hFs3]; rfl)
    exact DoesT_pure (r_load (v := (.slice (some ⟨gb,0,none⟩) g.fol.length fc)) e27 flat62 (((X0.trans X).keep hblk).cell rfl)) rfl
   refine qZ (fun S s' w' hi hN X U V H => ?_) ?_
   ·replace X := xN0 X
    exact DoesT_pure (r_fieldAddr (b := bp) (o := 0) (o' := 1) (U 6 rfl) Tryz.underlying67 rfl siz22 rfl) rfl
   refine qZ (fun S s' w' hi hN X U V H => ?_) ?_
   ·replace X := xN0 X
    have e29 := (H 4 rfl).2 29 _ rfl (by rw [hFs3]; rfl)
    exact DoesT_pure (r_load (v := (.slice pa p.fst.length pc)) e29 flat22 (((X0.trans X).keep Bp).cell rfl)) rfl
   refine DagStepsS.tail (DagStepsS.tail ?_)
   exact DagStepsS.nil
  ·intro s' wd3 w3 X0 X3 U H
   replace X3 := X3.mono (M' := none1) (fun y _ h => by
     obtain ⟨j,hj,h⟩ := h
     exact h.elim)
   have e28 := H 3 rfl 28 _ rfl (by rw [hFs3]; rfl)
   have e30 := H 5 rfl 30 _ rfl (by rw [hFs3]; rfl)
   obtain ⟨j3,rfl⟩ := Fits.out (σ := s') (l := [(2,(.pointer (some ⟨br,0,none⟩))),(3,(.pointer (some ⟨be,0,none⟩))),(5,(.pointer (some ⟨bg,0,none⟩))),(6,(.pointer (some ⟨bp,0,none⟩))),(28,(.slice (some ⟨gb,0,none⟩) g.fol.length fc)),(30,(.slice pa p.fst.length pc))]) ⟨U 2 rfl,U 3 rfl,U 5 rfl,U 6 rfl,e28,e30,trivial⟩
   clear U H
   replace Bb := (X0.trans X3).keep Bb
   replace Br := (X0.trans X3).keep Br
   replace Be := (X0.trans X3).keep Be
   replace hblk := (X0.trans X3).keep hblk
   replace Bp := (X0.trans X3).keep Bp
   replace X3 := X0.trans X3
   replace hstE := hstE.ext X3
   replace hp1E := hp1E.ext X3
   replace hp2E := hp2E.ext X3
   replace E := E.ext X3
   obtain ⟨cur,hBo,hcs⟩ := own_blkG (hstE.fol.l.on (n := g.fol.length) hfl.symm)
   have hBo0 := hBo
   have hPx : True := trivial
   refine qV (r_indexSlice (b := gb) (o := 0) (len := g.fol.length) (cap := fc) (i := 0) (o' := 0) rfl rfl rfl Tryz.underlying62 siz22 (by omega) (by omega)) ?_
   refine s_store (b := gb) (o := 0) (c' := cur.setIfInBounds (0 + 0) (.slice pa p.fst.length pc)) (v := (.slice pa p.fst.length pc)) rfl rfl rfl siz22 hBo (by omega) (rfl) ?_
   intro w4 S4
   replace hPx := S4
   replace Bb := S4.keep (by omega) Bb
   replace Br := S4.keep (by omega) Br
   replace Be := S4.keep (by omega) Be
   replace hblk := S4.keep (by omega) hblk
   replace Bp := S4.keep (by omega) Bp
   replace E := S4.step E (by first | exact Or.inl (by omega) | exact Or.inr rfl | exact Or.inr (by assumption) | exact Or.inr (by simp) | exact Or.inr (by omega) | exact Or.inr (by dsimp only; omega))
   replace hBo := S4.blk
   obtain ⟨hrows,us,hsown2,hsetF⟩ := fol_end hstE rfl (by omega) hBo0 hp1E (by simpa using hPx)
   have hp2F := hp2E.chg hPx.chg fun y hy e => hst.hfF y (.inl (by have e' : y = gb := e; rw [e']; rfl)) hy
   have E7 : Chg none1 w4 w4 := Chg.refl _ _
   refine WpL_nil (thn_normal (Wp_seq_region ?_))
   refine qM (P6 bg 0) rfl ?_
   refine qV (r_nilCheck (a := ⟨bg,0,none⟩) rfl) ?_
   refine qF bg 0 0 rfl Tryz.underlying65 rfl siz63 rfl ?_
   refine qV (r_load (v := (.slice ya g.sets.length yc)) rfl flat63 (hblk.cell rfl)) ?_
   refine qV (r_lenSlice (ad := ya) (n := g.sets.length) (cap := yc) Tryz.underlying63 rfl) ?_
   refine qV (r_add (k := .i64) (a := (g.sets.length : Int)) (b := 1) (c := ((g.sets.length + 1 : Nat) : Int)) rfl rfl ((wI64 (by omega)).trans (by omega))) ?_
   refine qV (r_build (ps := [(0,(I6 ((g.sets.length + 1 : Nat) : Int)))]) (v := (.agg #[(I6 ((g.sets.length + 1 : Nat) : Int)),(I6 0),(.slice none 0 0),(.slice none 0 0),(.slice none 0 0)])) rfl (by kernel_rfl)) ?_
   refine s_allocStore (v := (.agg #[(I6 ((g.sets.length + 1 : Nat) : Int)),(I6 0),(.slice none 0 0),(.slice none 0 0),(.slice none 0 0)])) (c := #[(I6 ((g.sets.length + 1 : Nat) : Int)),(I6 0),(.slice none 0 0),(.slice none 0 0),(.slice none 0 0)]) (n := 5) (by decide) zer37 rfl siz37 rfl rfl rfl (by simp [Value.oneCell']) ?_
   intro bn wn Nn
   have Fn := Nn.ge E
   have Fn_E7 := Nn.ge E7
   have On_bb := Nn.lt Bb
   have On_br := Nn.lt Br
   have On_be := Nn.lt Be
   have On_bg := Nn.lt hblk
   have On_bp := Nn.lt Bp
   replace Bb := Nn.keep Bb
   replace Br := Nn.keep Br
   replace Be := Nn.keep Be
   replace hblk := Nn.keep hblk
   replace Bp := Nn.keep Bp
   replace E := E.ext Nn.ext
   have Bn := Nn.blk
   replace E7 := E7.ext Nn.ext
   refine WpL_nil ?_
   obtain ⟨n5,hn5⟩ : ∃ n5,n5 = (wn).heap.size := ⟨_,rfl⟩
   have hb5 : bn < n5 ∧ bg < n5 ∧ bp < n5 ∧ br < n5 ∧ be < n5 ∧ bb < n5 ∧ w0.heap.size ≤ n5 := ⟨by rw [hn5]; exact Bn.lt,by rw [hn5]; exact hblk.lt,by rw [hn5]; exact Bp.lt,by rw [hn5]; exact Br.lt,by rw [hn5]; exact Be.lt,by rw [hn5]; exact Bb.lt,by rw [hn5]; exact E.size⟩
   have hE75 := E7.size
   refine Wp_cut (fun σ W5 => ∃ (ea : Option Addr) (ec m : Nat),(∃ jj_,σ = upds jj_ [(2,(P6 br 0)),(3,(P6 be 0)),(5,(P6 bg 0)),(6,(P6 bp 0)),(7,(P6 bn 0))]) ∧ Chg none1 w0 W5 ∧ Chg none1 w4 W5 ∧ Blk W5 bb (R6 t sa sc aa ac) 27 ∧ Blk W5 br #[(I6 0),(I6 0),(.slice none 0 0),(.slice none 0 0),(.slice none 0 0)] 37 ∧ Blk W5 be #[(I6 0)] 30 ∧ Blk W5 bg #[(.slice ya g.sets.length yc),(.slice (some ⟨gb,0,none⟩) g.fol.length fc)] TGk ∧ Blk W5 bp #[(.bool p.nul),(.slice pa p.fst.length pc),(.slice pa2 p.lst.length pc2)] 67 ∧ Blk W5 bn (#[Value.int .i64 ((g.sets.length + 1 : Nat) : Int),.int .i64 0,.slice ea m ec,.slice none 0 0,.slice none 0 0]) 37 ∧ (m = (ends0 p).length) ∧ (W5.ownsRow n5 TDI 1 (.slice ea m ec) m ((ends0 p).map (Value.int .i64))) ∧ (n5 ≤ W5.heap.size)) ?_ ?_
   ·skip
    refine Wp_seq_region ?_
    refine qF bp 0 0 rfl Tryz.underlying67 rfl siz4 rfl ?_
    refine qV (r_load (v := (.bool p.nul)) rfl flat4 (Bp.cell rfl)) ?_
    refine WpL_nil ?_
    refine Wp_cond (b := p.nul) rfl (fun hpn => ?_) (fun hpn => ?_)
    ·have khpn := hpn
     have he0 : ends0 p = [0] := by unfold ends0; rw [if_pos hpn]
     have hoz : (wn).ownsRow n5 TDI 1 (.slice none 0 0) 0 [] := World.ownsRow_nil _ _ _ _
     have hs5 : n5 ≤ (wn).heap.size := Nat.le_of_eq hn5
     refine Wp_region ?_
     refine qF bn 0 2 rfl Tryz.underlying37 rfl siz22 rfl ?_
     refine qV (r_load (v := (.slice none 0 0)) rfl flat22 (Bn.cell rfl)) ?_
     refine s_buildSlice (ps := [(0,(I6 0))]) (c := #[(I6 0)]) (by decide) rfl Tryz.underlying22 siz3 zer3 (by decide) (by decide) (by kernel_rfl) ?_
     intro b7 w7 N7
     have F7 := N7.ge E
     have F7_E7 := N7.ge E7
     have O7_bb := N7.lt Bb
     have O7_br := N7.lt Br
     have O7_be := N7.lt Be
     have O7_bg := N7.lt hblk
     have O7_bp := N7.lt Bp
     have O7_bn := N7.lt Bn
     replace Bb := N7.keep Bb
     replace Br := N7.keep Br
     replace Be := N7.keep Be
     replace hblk := N7.keep hblk
     replace Bp := N7.keep Bp
     replace Bn := N7.keep Bn
     replace hoz := own_ext hoz N7.ext
     replace hs5 := Nat.le_trans hs5 N7.ext.size
     replace E := E.ext N7.ext
     have B7 := N7.blk
     replace E7 := E7.ext N7.ext
     refine s_append (base := n5) (n := 0) (m := 1) (xs := []) (news := [(I6 0)]) (size := 1) (bytes := 8) (v := (.slice none 0 0)) (by decide) Tryz.underlying22 siz3 byt3 zer3 rfl (by decide) rfl hoz rfl (rfl) (B7.cells rfl) (by simp [Value.oneCell']) (by unfold maxLen; omega) (by omega) (hs5) ?_
     intro v7 w59 Ov7 Cv7 Dv7
     replace Bb := Cv7.keep (fun h => by have := (hoz.lt _ h).1; omega) Bb
     replace Br := Cv7.keep (fun h => by have := (hoz.lt _ h).1; omega) Br
     replace Be := Cv7.keep (fun h => by have := (hoz.lt _ h).1; omega) Be
     replace hblk := Cv7.keep (fun h => by have := (hoz.lt _ h).1; omega) hblk
     replace Bp := Cv7.keep (fun h => by have := (hoz.lt _ h).1; omega) Bp
     replace Bn := Cv7.keep (fun h => by have := (hoz.lt _ h).1; omega) Bn
     replace E := E.step Cv7 (fun x hx h => absurd (hoz.lt x h).1 (by omega))
     replace E7 := E7.step Cv7 (fun x hx h => absurd (hoz.lt x h).1 (by omega))
     obtain ⟨ea1,ec1,rfl⟩ := own_form Ov7
     have hO7 := Ov7
     have hs7 := Nat.le_trans hs5 Cv7.size
     refine qF bn 0 2 rfl Tryz.underlying37 rfl siz22 rfl ?_
     refine s_store (b := bn) (o := 2) (c' := #[(I6 ((g.sets.length + 1 : Nat) : Int)),(I6 0),(.slice ea1 (0 + 1) ec1),(.slice none 0 0),(.slice none 0 0)]) (v := (.slice ea1 (0 + 1) ec1)) rfl rfl rfl siz22 Bn (by simp) rfl ?_
     intro w8 S8
     replace hO7 := own_chg hO7 S8.chg fun y hy h => by have h' : y = bn := h; have := (hO7.lt y hy).1; omega
     replace hs7 := Nat.le_trans hs7 S8.chg.size
     replace Bb := S8.keep (by omega) Bb
     replace Br := S8.keep (by omega) Br
     replace Be := S8.keep (by omega) Be
     replace hblk := S8.keep (by omega) hblk
     replace Bp := S8.keep (by omega) Bp
     replace E := S8.step E (by first | exact Or.inl (by omega) | exact Or.inr rfl | exact Or.inr (by assumption) | exact Or.inr (by simp) | exact Or.inr (by omega) | exact Or.inr (by dsimp only; omega))
     replace E7 := S8.step E7 (Or.inl (by omega))
     replace Bn := S8.blk
     refine WpL_nil (thn_normal ?_)
     exact ⟨ea1,ec1,0 + 1,Fits.out ⟨rfl,rfl,rfl,rfl,rfl,trivial⟩,E,E7,Bb,Br,Be,hblk,Bp,Bn,(by rw [he0]; rfl),(by rw [he0]; simpa using hO7),hs7⟩
    ·have khpn := hpn
     have he0 : ends0 p = [] := by unfold ends0; rw [if_neg (by rw [hpn]; decide)]
     refine Wp_skip (thn_normal ?_)
     exact ⟨none,0,0,Fits.out ⟨rfl,rfl,rfl,rfl,rfl,trivial⟩,E,E7,Bb,Br,Be,hblk,Bp,Bn,(by rw [he0]; rfl),(by rw [he0]; exact World.ownsRow_nil _ _ _ _),Nat.le_of_eq hn5⟩
   ·clear E E7 Bb Br Be hblk Bp Bn
    rintro _ W5 ⟨ea,ec,m,⟨j5,rfl⟩,E,E7,Bb,Br,Be,hblk,Bp,Bn,hm,hoe,hs5⟩
    have hel := ends0_len p
    have hll := hok1.lst.len
    have hp2I := hp2F.1.ext E7
    refine Wp_seq_region ?_
    refine qF bn 0 2 rfl Tryz.underlying37 rfl siz22 rfl ?_
    refine qV (r_load (v := (.slice ea m ec)) rfl flat22 (Bn.cell rfl)) ?_
    refine qF bp 0 2 rfl Tryz.underlying67 rfl siz22 rfl ?_
    refine qV (r_load (v := (.slice pa2 p.lst.length pc2)) rfl flat22 (Bp.cell rfl)) ?_
    refine s_appendAny (base := n5) (n := m) (m := p.lst.length) (xs := ((ends0 p).map (Value.int .i64))) (news := ((nZ p.lst).map (Value.int .i64))) (size := 1) (bytes := 8) (v := (.slice ea m ec)) (by decide) Tryz.underlying22 siz3 byt3 zer3 rfl (by decide) rfl hoe rfl ((by rw [List.length_map,nZ_len,Nat.mul_one])) (ints_any hp2I) (ints_one _) (by unfold maxLen; omega) (by omega) (hs5) ?_
    intro v8 w69 Ov8 Cv8 Dv8
    replace Bb := Cv8.keep (fun h => by have := (hoe.lt _ h).1; omega) Bb
    replace Br := Cv8.keep (fun h => by have := (hoe.lt _ h).1; omega) Br
    replace Be := Cv8.keep (fun h => by have := (hoe.lt _ h).1; omega) Be
    replace hblk := Cv8.keep (fun h => by have := (hoe.lt _ h).1; omega) hblk
    replace Bp := Cv8.keep (fun h => by have := (hoe.lt _ h).1; omega) Bp
    replace Bn := Cv8.keep (fun h => by have := (hoe.lt _ h).1; omega) Bn
    replace E := E.step Cv8 (fun x hx h => absurd (hoe.lt x h).1 (by omega))
    replace E7 := E7.step Cv8 (fun x hx h => absurd (hoe.lt x h).1 (by omega))
    obtain ⟨ea2,ec2,rfl⟩ := own_form Ov8
    have hs9 := Nat.le_trans hs5 Cv8.size
    have hO8 : w69.ownsRow n5 TDI 1 (.slice ea2 (m + p.lst.length) ec2) (m + p.lst.length) ((ends0 p ++ nZ p.lst).map (Value.int .i64)) := by rw [List.map_append]; exact Ov8
    refine qF bn 0 2 rfl Tryz.underlying37 rfl siz22 rfl ?_
    refine s_store (b := bn) (o := 2) (c' := #[(I6 ((g.sets.length + 1 : Nat) : Int)),(I6 0),(.slice ea2 (m + p.lst.length) ec2),(.slice none 0 0),(.slice none 0 0)]) (v := (.slice ea2 (m + p.lst.length) ec2)) rfl rfl rfl siz22 Bn (by simp) rfl ?_
    intro w9 S9
    replace hs9 := Nat.le_trans hs9 S9.chg.size
    replace hO8 := own_chg hO8 S9.chg fun y hy h => by have h' : y = bn := h; have := (hO8.lt y hy).1; omega
    replace Bb := S9.keep (by omega) Bb
    replace Br := S9.keep (by omega) Br
    replace Be := S9.keep (by omega) Be
    replace hblk := S9.keep (by omega) hblk
    replace Bp := S9.keep (by omega) Bp
    replace E := S9.step E (by first | exact Or.inl (by omega) | exact Or.inr rfl | exact Or.inr (by assumption) | exact Or.inr (by simp) | exact Or.inr (by omega) | exact Or.inr (by dsimp only; omega))
    replace E7 := S9.step E7 (Or.inl (by omega))
    replace Bn := S9.blk
    refine WpL_nil (Wp_seq_region ?_)
    refine qF bn 0 2 rfl Tryz.underlying37 rfl siz22 rfl ?_
    refine qV (r_load (v := (.slice ea2 (m + p.lst.length) ec2)) rfl flat22 (Bn.cell rfl)) ?_
    refine WpL_enter rfl rfl (by decide) (r_callF (vs := [(.slice ea2 (m + p.lst.length) ec2)]) Tryz.func25 kQ kQ rfl) (sortW_c _ n5 (m + p.lst.length) ea2 ec2 (ends0 p ++ nZ p.lst) (by rw [List.length_append,nZ_len,hm]) (.inr hO8) (by omega)) ?_
    rintro _ w79 ⟨rfl,hSr,C79⟩
    replace Bb := C79.keep ((fun h => by have := (hO8.lt _ h.2).1; omega)) Bb
    replace Br := C79.keep ((fun h => by have := (hO8.lt _ h.2).1; omega)) Br
    replace Be := C79.keep ((fun h => by have := (hO8.lt _ h.2).1; omega)) Be
    replace hblk := C79.keep ((fun h => by have := (hO8.lt _ h.2).1; omega)) hblk
    replace Bp := C79.keep ((fun h => by have := (hO8.lt _ h.2).1; omega)) Bp
    replace Bn := C79.keep ((fun h => by have := (hO8.lt _ h.2).1; omega)) Bn
    replace E := E.step C79 ((fun x hx h => by have := (hO8.lt _ h.2).1; omega))
    replace E7 := E7.step C79 (fun x hx h => by have := (hO8.lt _ h.2).1; omega)
    refine WpL_nil (Wp_seq_region ?_)
    refine qF bn 0 2 rfl Tryz.underlying37 rfl siz22 rfl ?_
    refine qV (r_load (v := (.slice ea2 (m + p.lst.length) ec2)) rfl flat22 (Bn.cell rfl)) ?_
    refine WpL_enter rfl rfl (by decide) (r_callF (vs := [(.slice ea2 (m + p.lst.length) ec2)]) Tryz.func26 kQ kQ rfl) (compW_c _ n5 _ _ hSr) ?_
    rintro _ w89 ⟨⟨ea3,ec3,rfl,hEn,hEb⟩,C89⟩
    replace Bb := C89.keep ((fun h => by have := (hO8.lt _ h.2).1; omega)) Bb
    replace Br := C89.keep ((fun h => by have := (hO8.lt _ h.2).1; omega)) Br
    replace Be := C89.keep ((fun h => by have := (hO8.lt _ h.2).1; omega)) Be
    replace hblk := C89.keep ((fun h => by have := (hO8.lt _ h.2).1; omega)) hblk
    replace Bp := C89.keep ((fun h => by have := (hO8.lt _ h.2).1; omega)) Bp
    replace Bn := C89.keep ((fun h => by have := (hO8.lt _ h.2).1; omega)) Bn
    replace E := E.step C89 ((fun x hx h => by have := (hO8.lt _ h.2).1; omega))
    replace E7 := E7.step C89 (fun x hx h => by have := (hO8.lt _ h.2).1; omega)
    obtain ⟨n8,hn8⟩ : ∃ n8,n8 = w89.heap.size := ⟨_,rfl⟩
    have hQ : IntsF (fun y => n5 ≤ y ∧ y < n8) w89 (.slice ea3 (endsG p).length ec3) (endsG p) := ⟨hEn,hEb.imp id fun ⟨b,h1,h2,h3⟩ => ⟨b,h1,h2,by omega⟩⟩
    have hs8 : n8 ≤ w89.heap.size := Nat.le_of_eq hn8
    have h58 : n5 ≤ n8 := by have := C79.size; have := C89.size; omega
    refine qF bn 0 2 rfl Tryz.underlying37 rfl siz22 rfl ?_
    refine s_store (b := bn) (o := 2) (c' := #[(I6 ((g.sets.length + 1 : Nat) : Int)),(I6 0),(.slice ea3 ((endsG p).length) ec3),(.slice none 0 0),(.slice none 0 0)]) (v := (.slice ea3 ((endsG p).length) ec3)) rfl rfl rfl siz22 Bn (by simp) rfl ?_
    intro w10 S10
    replace hQ := hQ.chg S10.chg fun y hy h => by have h' : y = bn := h; omega
    replace hs8 := Nat.le_trans hs8 S10.chg.size
    replace Bb := S10.keep (by omega) Bb
    replace Br := S10.keep (by omega) Br
    replace Be := S10.keep (by omega) Be
    replace hblk := S10.keep (by omega) hblk
    replace Bp := S10.keep (by omega) Bp
    replace E := S10.step E (by first | exact Or.inl (by omega) | exact Or.inr rfl | exact Or.inr (by assumption) | exact Or.inr (by simp) | exact Or.inr (by omega) | exact Or.inr (by dsimp only; omega))
    replace E7 := S10.step E7 (Or.inl (by omega))
    replace Bn := S10.blk
    refine WpL_nil (Wp_seq (Wp_seq_region ?_))
    refine qM (P6 bg 0) rfl ?_
    refine qV (r_nilCheck (a := ⟨bg,0,none⟩) rfl) ?_
    refine qF bg 0 1 rfl Tryz.underlying65 rfl siz62 rfl ?_
    refine qV (r_load (v := (.slice (some ⟨gb,0,none⟩) g.fol.length fc)) rfl flat62 (hblk.cell rfl)) ?_
    refine qV (r_lenSlice (ad := some ⟨gb,0,none⟩) (n := g.fol.length) (cap := fc) Tryz.underlying62 rfl) ?_
    refine qM (I6 0) rfl ?_
    refine WpL_nil (Wp_block ?_)
    obtain ⟨n6,hn6⟩ : ∃ n6,n6 = (w10).heap.size := ⟨_,rfl⟩
    have h86 : n8 ≤ n6 := by rw [hn6]; exact hs8
    refine Wp_loop (fun nn_ σ W11 => ∃ (s m6 : Nat) (F : Nat → Prop) (xa : Option Addr) (xc : Nat),(∃ jj_,σ = upds jj_ [(2,(P6 br 0)),(3,(P6 be 0)),(5,(P6 bg 0)),(7,(P6 bn 0)),(62,(.slice (some ⟨gb,0,none⟩) g.fol.length fc)),(63,(I6 (g.fol.length : Int))),(64,(I6 (s : Int)))]) ∧ Chg none1 w0 W11 ∧ Chg none1 w4 W11 ∧ Blk W11 bb (R6 t sa sc aa ac) 27 ∧ Blk W11 br #[(I6 0),(I6 0),(.slice none 0 0),(.slice none 0 0),(.slice none 0 0)] 37 ∧ Blk W11 be #[(I6 0)] 30 ∧ Blk W11 bg #[(.slice ya g.sets.length yc),(.slice (some ⟨gb,0,none⟩) g.fol.length fc)] TGk ∧ Blk W11 bp #[(.bool p.nul),(.slice pa p.fst.length pc),(.slice pa2 p.lst.length pc2)] 67 ∧ Blk W11 bn (#[Value.int .i64 ((g.sets.length + 1 : Nat) : Int),.int .i64 0,.slice ea3 (endsG p).length ec3,.slice none 0 0,.slice xa m6 xc]) TNf ∧ (s ≤ g.fol.length) ∧ (m6 = (edgU g p s).length) ∧ (EdB F W11 n6 (.slice xa m6 xc) (edgU g p s)) ∧ (m6 ≤ 20000) ∧ (IntsF (fun y => n5 ≤ y ∧ y < n8) W11 (.slice ea3 (endsG p).length ec3) (endsG p)) ∧ (n6 ≤ W11.heap.size) ∧ nn_ = g.fol.length - s) (n := g.fol.length - 0) ?_ ?_
    ·exact ⟨0,0,_,none,0,Fits.out ⟨rfl,rfl,rfl,rfl,rfl,rfl,rfl,trivial⟩,E,E7,Bb,Br,Be,hblk,Bp,Bn,Nat.zero_le _,rfl,EdB.start _ _,Nat.zero_le _,hQ,Nat.le_of_eq hn6,rfl⟩
    ·clear E E7 Bb Br Be hblk Bp Bn
     rintro _ _ W11 ⟨s,m6,F,xa,xc,⟨j11,rfl⟩,E,E7,Bb,Br,Be,hblk,Bp,Bn,hs,hm6,hX,hm20,hQ6,hs6,rfl⟩
     refine Wp_seq_region ?_
     refine qV (r_lss (k := .i64) (a := (s : Int)) (b := (g.fol.length : Int)) rfl rfl) ?_
     refine WpL_nil (Wp_seq ?_)
     refine Wp_cond (b := decide (((s : Int) : Int) < (g.fol.length : Int))) rfl (fun hlt9 => ?_) (fun hlt9 => ?_)
     ·have khlt9 := hlt9
      replace hlt9 := of_decide_eq_true hlt9
      obtain ⟨l,hl⟩ := get_of_lt (l := folG g p) (i := s) (by unfold folG; rw [List.length_set]; omega)
      have hfi := fol_in hok1 hl
      have htb : t.size * 499 ≤ 40 * 499 := Nat.mul_le_mul_right _ (by omega)
      obtain ⟨lv,hlc,hli⟩ := hrows s l hl
      obtain ⟨la,lc,rfl⟩ := SlAt.form hli
      rw [List.length_map,nZ_len] at hlc hli
      have E8 : Chg none1 W11 W11 := Chg.refl _ _
      refine Wp_skip (thn_normal (Wp_seq (Wp_block (Wp_seq_region ?_))))
      refine qM (I6 (s : Int)) rfl ?_
      refine qV (r_indexSlice (b := gb) (o := 0) (len := g.fol.length) (cap := fc) (i := s) (o' := 0 + s) rfl rfl rfl Tryz.underlying62 siz22 (by omega) (by omega)) ?_
      refine qV (r_load (v := (.slice la l.length lc)) rfl flat22 (Ext.cell E7 hlc)) ?_
      refine qA (I6 (s : Int)) rfl ?_
      refine qA (.slice la l.length lc) rfl ?_
      refine WpL_nil (Wp_seq_region ?_)
      refine qM (.slice la l.length lc) rfl ?_
      obtain ⟨n7,hn7⟩ : ∃ n7,n7 = (W11).heap.size := ⟨_,rfl⟩
      have h67 : n6 ≤ n7 := by rw [hn7]; exact hs6
      refine WpL_enter rfl rfl (by decide) (r_callF (vs := [(.slice la l.length lc)]) Tryz.func27 kQ kQ rfl) (cloneW_c _ _ (nZ l) (IntsAt.ext hli E7) (by rw [nZ_len]; omega)) ?_
      rintro _ w99 ⟨⟨ua,uc,rfl,hU0⟩,X99⟩
      replace Bb := X99.keep Bb
      replace Br := X99.keep Br
      replace Be := X99.keep Be
      replace hblk := X99.keep hblk
      replace Bp := X99.keep Bp
      replace Bn := X99.keep Bn
      replace E := E.ext X99
      replace E7 := E7.ext X99
      replace E8 := E8.ext X99
      rw [← hn7] at hU0
      have hUl : ∀ x,(nZ l ≠ [] ∧ (Value.slice ua (nZ l).length uc).ownBlock = some x) → n7 ≤ x := fun x h => by have := ((hU0.resolve_left h.1).lt x h.2).1; omega
      refine qA (.slice ua ((nZ l).length) uc) rfl ?_
      refine WpL_nil (Wp_seq_region ?_)
      refine qM (.slice ua ((nZ l).length) uc) rfl ?_
      refine WpL_enter rfl rfl (by decide) (r_callF (vs := [(.slice ua ((nZ l).length) uc)]) Tryz.func25 kQ kQ rfl) (sortW_c _ _ (nZ l).length ua uc (nZ l) rfl hU0 (by rw [nZ_len]; omega)) ?_
      rintro _ w109 ⟨rfl,hS9,C109⟩
      replace Bb := C109.keep ((fun h => by have := hUl _ h; omega)) Bb
      replace Br := C109.keep ((fun h => by have := hUl _ h; omega)) Br
      replace Be := C109.keep ((fun h => by have := hUl _ h; omega)) Be
      replace hblk := C109.keep ((fun h => by have := hUl _ h; omega)) hblk
      replace Bp := C109.keep ((fun h => by have := hUl _ h; omega)) Bp
      replace Bn := C109.keep ((fun h => by have := hUl _ h; omega)) Bn
      replace E := E.step C109 ((fun x hx h => by have := hUl _ h; omega))
      refine WpL_nil (Wp_seq_region ?_)
      refine qM (.slice ua ((nZ l).length) uc) rfl ?_
      refine WpL_enter rfl rfl (by decide) (r_callF (vs := [(.slice ua ((nZ l).length) uc)]) Tryz.func26 kQ kQ rfl) (compW_c _ n7 _ _ hS9) ?_
      rintro _ w119 ⟨⟨va,vc,rfl,hV,hVb⟩,C119⟩
      replace Bb := C119.keep ((fun h => by have := hUl _ ⟨fun e => h.1 (by rw [e]; exact List.mergeSort_nil),h.2⟩; omega)) Bb
      replace Br := C119.keep ((fun h => by have := hUl _ ⟨fun e => h.1 (by rw [e]; exact List.mergeSort_nil),h.2⟩; omega)) Br
      replace Be := C119.keep ((fun h => by have := hUl _ ⟨fun e => h.1 (by rw [e]; exact List.mergeSort_nil),h.2⟩; omega)) Be
      replace hblk := C119.keep ((fun h => by have := hUl _ ⟨fun e => h.1 (by rw [e]; exact List.mergeSort_nil),h.2⟩; omega)) hblk
      replace Bp := C119.keep ((fun h => by have := hUl _ ⟨fun e => h.1 (by rw [e]; exact List.mergeSort_nil),h.2⟩; omega)) Bp
      replace Bn := C119.keep ((fun h => by have := hUl _ ⟨fun e => h.1 (by rw [e]; exact List.mergeSort_nil),h.2⟩; omega)) Bn
      replace E := E.step C119 ((fun x hx h => by have := hUl _ ⟨fun e => h.1 (by rw [e]; exact List.mergeSort_nil),h.2⟩; omega))
      replace E8 := (E8.step C109 (fun x hx h => by have := hUl _ h; omega)).step C119 (fun x hx h => by have := hUl _ ⟨fun e => h.1 (by rw [e]; exact List.mergeSort_nil),h.2⟩; omega)
      replace E7 := (E7.step C109 (fun x hx h => by have := hUl _ h; omega)).step C119 (fun x hx h => by have := hUl _ ⟨fun e => h.1 (by rw [e]; exact List.mergeSort_nil),h.2⟩; omega)
      have hXm := (hX.ext E8).more (S := fun y => upS (nZ l) ≠ [] ∧ (Value.slice va (upS (nZ l)).length vc).ownBlock = some y) fun y hy => by obtain ⟨b,h1,h2,h3⟩ := hVb.resolve_left hy.1; obtain rfl : b = y := Option.some.inj (h1.symm.trans hy.2); exact ⟨by omega,h3,fun h9 => by have := (hX.own h9).2; omega⟩
      have hU : IntsF (fun y => F y ∨ (upS (nZ l) ≠ [] ∧ (Value.slice va (upS (nZ l)).length vc).ownBlock = some y)) w119 (.slice va (upS (nZ l)).length vc) (upS (nZ l)) := ⟨hV,(Classical.em (upS (nZ l) = [])).imp id fun h0 => by obtain ⟨b,h1,_⟩ := hVb.resolve_left h0; exact ⟨b,h1,.inr ⟨h0,h1⟩⟩⟩
      have hQ8 := hQ6.ext E8
      have hs88 : n6 ≤ w119.heap.size := by have := E8.size; omega
      have hrow : edgU g p (s + 1) = edgU g p s ++ (upS (nZ l)).map (edgO g s) := by rw [edgU,rowE_eq hl]
      refine qV (r_lenSlice (ad := va) (n := (upS (nZ l)).length) (cap := vc) Tryz.underlying22 rfl) ?_
      refine qM (I6 0) rfl ?_
      refine WpL_nil (Wp_block ?_)
      refine Wp_loop (fun nn_ σ W13 => ∃ (j m7 : Nat) (F7 : Nat → Prop) (xa7 : Option Addr) (xc7 : Nat),(∃ jj_,σ = upds jj_ [(2,(P6 br 0)),(3,(P6 be 0)),(5,(P6 bg 0)),(7,(P6 bn 0)),(8,(I6 (s : Int))),(62,(.slice (some ⟨gb,0,none⟩) g.fol.length fc)),(63,(I6 (g.fol.length : Int))),(64,(I6 (s : Int))),(74,(.slice va ((upS (nZ l)).length) vc)),(75,(I6 (((upS (nZ l)).length : Nat) : Int))),(76,(I6 (j : Int)))]) ∧ Chg none1 w0 W13 ∧ Chg none1 w4 W13 ∧ Blk W13 bb (R6 t sa sc aa ac) 27 ∧ Blk W13 br #[(I6 0),(I6 0),(.slice none 0 0),(.slice none 0 0),(.slice none 0 0)] 37 ∧ Blk W13 be #[(I6 0)] 30 ∧ Blk W13 bg #[(.slice ya g.sets.length yc),(.slice (some ⟨gb,0,none⟩) g.fol.length fc)] TGk ∧ Blk W13 bp #[(.bool p.nul),(.slice pa p.fst.length pc),(.slice pa2 p.lst.length pc2)] 67 ∧ Blk W13 bn (#[Value.int .i64 ((g.sets.length + 1 : Nat) : Int),.int .i64 0,.slice ea3 (endsG p).length ec3,.slice none 0 0,.slice xa7 m7 xc7]) TNf ∧ (j ≤ (upS (nZ l)).length) ∧ (m7 = (edgU g p s ++ ((upS (nZ l)).take j).map (edgO g s)).length) ∧ (EdB F7 W13 n6 (.slice xa7 m7 xc7) (edgU g p s ++ ((upS (nZ l)).take j).map (edgO g s))) ∧ (m7 ≤ 20000) ∧ (IntsF F7 W13 (.slice va (upS (nZ l)).length vc) (upS (nZ l))) ∧ (IntsF (fun y => n5 ≤ y ∧ y < n8) W13 (.slice ea3 (endsG p).length ec3) (endsG p)) ∧ (n6 ≤ W13.heap.size) ∧ nn_ = (upS (nZ l)).length - j) (n := (upS (nZ l)).length - 0) ?_ ?_
      ·exact ⟨0,m6,_,xa,xc,Fits.out ⟨rfl,rfl,rfl,rfl,rfl,rfl,rfl,rfl,rfl,rfl,rfl,trivial⟩,E,E7,Bb,Br,Be,hblk,Bp,Bn,Nat.zero_le _,(by simpa using hm6),(by simpa using hXm),hm20,hU,hQ8,hs88,rfl⟩
      ·clear E E7 Bb Br Be hblk Bp Bn
       rintro _ _ W13 ⟨j,m7,F7,xa7,xc7,⟨j13,rfl⟩,E,E7,Bb,Br,Be,hblk,Bp,Bn,hj,hm7,hX7,hm70,hU7,hQ7,hs7,rfl⟩
       have hul : (upS (nZ l)).length ≤ 9223372036854775807 := by have := SlAt.le hU7.1; rwa [List.length_map] at this
       refine Wp_seq_region ?_
       refine qV (r_lss (k := .i64) (a := (j : Int)) (b := (((upS (nZ l)).length : Nat) : Int)) rfl rfl) ?_
       refine WpL_nil (Wp_seq ?_)
       refine Wp_cond (b := decide (((j : Int) : Int) < (((upS (nZ l)).length : Nat) : Int))) rfl (fun hlt8 => ?_) (fun hlt8 => ?_)
       ·have khlt8 := hlt8
        replace hlt8 := of_decide_eq_true hlt8
        obtain ⟨t9,ht9⟩ := get_of_lt (l := upS (nZ l)) (i := j) (by omega)
        obtain ⟨k,rfl,hk⟩ := inU hfi.2 (List.mem_of_getElem? ht9)
        obtain ⟨vb,vo,rfl,hvc⟩ := ints_cells hU7.1 (by omega)
        obtain ⟨z,hz⟩ := get_of_lt (l := g.sets) (i := k) hk
        obtain ⟨u,hu⟩ := get_of_lt (l := us) (i := k) (by have := hsetF.1; omega)
        have hsp := (hsetF.2 k u z hu hz).1
        obtain ⟨za,zc,rfl⟩ := SlAt.form hsp
        rw [List.length_map] at hu hsp
        obtain ⟨yb,rfl,_,hyc⟩ := own_cells hsown2 (by omega)
        have hyc0 := hyc k _ hu
        have hsl : z.length ≤ 16 := by have h9 : checkE z = 0 := gkO_sets _ t (Nat.le_refl _) hok _ _ _ (fun z hz => (by cases hz)) hgk z (List.mem_of_getElem? hz); unfold checkE at h9; split at h9; cases h9; omega
        refine Wp_skip (thn_normal (Wp_seq (Wp_block (Wp_seq_region ?_))))
        refine qV (r_indexSlice (b := vb) (o := vo) (len := (upS (nZ l)).length) (cap := vc) (i := j) (o' := vo + j) rfl rfl rfl Tryz.underlying22 siz3 (by omega) (by omega)) ?_
        refine qV (r_load (v := (I6 ((k + 1 : Nat) : Int))) rfl flat3 (hvc j _ ht9)) ?_
        obtain ⟨⟨rows,hownX,hrowsX⟩,hxF,hFl⟩ := hX7
        rw [← hm7] at hownX
        refine qA (I6 ((k + 1 : Nat) : Int)) rfl ?_
        refine WpL_nil ?_
        obtain ⟨z1,hz1⟩ : ∃ z1,z1 = (W13).heap.size := ⟨_,rfl⟩
        have hz_15 : w0.heap.size ≤ W13.heap.size := E.size
        have lz_15_bb : bb < W13.heap.size := Bb.lt
        have lz_15_br : br < W13.heap.size := Br.lt
        have lz_15_be : be < W13.heap.size := Be.lt
        have lz_15_bg : bg < W13.heap.size := hblk.lt
        have lz_15_bp : bp < W13.heap.size := Bp.lt
        have lz_15_bn : bn < W13.heap.size := Bn.lt
        refine Wp_seq ?_
        obtain ⟨Fs15,hFs15⟩ : ∃ Fs : List FctS,Fs = [(eF (P6 bn 4)),(eF (.slice xa7 m7 xc7)),(eF (I6 (s : Int))),(eF (I6 ((k + 1 : Nat) : Int))),(eF (P6 bg 0)),(eF (P6 bg 0)),(eF (P6 bg 0)),(eF (.slice (some ⟨yb,0,none⟩) g.sets.length yc)),(eF (I6 ((k + 1 : Nat) : Int))),(eF (I6 (k : Int))),(eF (.pointer (some ⟨yb,0 + k,none⟩))),(eF (.slice za z.length zc)),(fun _ _ => cloG z z1),(fun _ _ => edG (s : Int) ((k + 1 : Nat) : Int) z z1),(fun _ _ => elG (s : Int) ((k + 1 : Nat) : Int) z z1),(fun _ _ => apG n6 m7 rows.flatten (.slice xa7 m7 xc7) z1 (s : Int) ((k + 1 : Nat) : Int) z),(eF undef),(eF undef)] := ⟨_,rfl⟩
        refine Wp_dagS (MsL [(15,(fun q => (Value.slice xa7 m7 xc7).ownBlock = some q))]) [true,true,true,true,true,true,true,true,true,true,true,true,true,true,true,true,false,false] [16,17] [80,81,82,83,84,85,86,87,88,89,90,91,92,93,94,95,121,122] [[],[0],[],[],[],[4],[5],[6],[],[8],[7,9],[10],[11],[2,3,12],[13],[1,12,14],[],[]] [[],[0],[],[],[],[4],[5,4],[6,5,4],[],[8],[7,6,5,4,9,8],[10,7,6,5,4,9,8],[11,10,7,6,5,4,9,8],[2,3,12,11,10,7,6,5,4,9,8],[13,2,3,12,11,10,7,6,5,4,9,8],[1,0,12,11,10,7,6,5,4,9,8,14,13,2,3],[],[]] Fs15 hFs15 (by kernel_rfl) mixed (by kernel_rfl) (by kernel_rfl) (by kernel_rfl) (by kernel_rfl) ?_ ?_
        ·intro wd X0
         refine qZ (fun S s' w' hi hN X U V H => ?_) ?_
         ·replace X := xN1 (hN 15 rfl) X
          exact DoesT_pure (r_fieldAddr (b := bn) (o := 0) (o' := 4) (U 7 rfl) Tryz.underlying37 rfl siz35 rfl) rfl
         refine qZ (fun S s' w' hi hN X U V H => ?_) ?_
         ·replace X := xN1 (hN 15 rfl) X
          have e80 := (H 0 rfl).2 80 _ rfl (by rw [hFs15]; rfl)
          exact DoesT_pure (r_load (v := (.slice xa7 m7 xc7)) e80 flat35 (((X0.trans X).keep Bn).cell rfl)) rfl
         refine qZ (fun S s' w' hi hN X U V H => ?_) ?_
         ·replace X := xN1 (hN 15 rfl) X
          exact DoesT_pure (r_move (v := (I6 (s : Int))) (U 8 rfl)) rfl
         refine qZ (fun S s' w' hi hN X U V H => ?_) ?_
         ·replace X := xN1 (hN 15 rfl) X
          exact DoesT_pure (r_move (v := (I6 ((k + 1 : Nat) : Int))) (U 11 rfl)) rfl
         refine qZ (fun S s' w' hi hN X U V H => ?_) ?_
         ·replace X := xN1 (hN 15 rfl) X
          exact DoesT_pure (r_move (v := (P6 bg 0)) (U 5 rfl)) rfl
         refine qZ (fun S s' w' hi hN X U V H => ?_) ?_
         ·replace X := xN1 (hN 15 rfl) X
          have e84 := (H 4 rfl).2 84 _ rfl (by rw [hFs15]; rfl)
          exact DoesT_pure (r_nilCheck (a := ⟨bg,0,none⟩) e84) rfl
         refine qZ (fun S s' w' hi hN X U V H => ?_) ?_
         ·replace X := xN1 (hN 15 rfl) X
          have e85 := (H 5 rfl).2 85 _ rfl (by rw [hFs15]; rfl)
          exact DoesT_pure (r_fieldAddr (b := bg) (o := 0) (o' := 0) e85 Tryz.underlying65 rfl siz63 rfl) rfl
         refine qZ (fun S s' w' hi hN X U V H => ?_) ?_
         ·replace X := xN1 (hN 15 rfl) X
          have e86 := (H 6 rfl).2 86 _ rfl (by rw [hFs15]; rfl)
          exact DoesT_pure (r_load (v := (.slice (some ⟨yb,0,none⟩) g.sets.length yc)) e86 flat63 (((X0.trans X).keep hblk).cell rfl)) rfl
         refine qZ (fun S s' w' hi hN X U V H => ?_) ?_
         ·replace X := xN1 (hN 15 rfl) X
          exact DoesT_pure (r_move (v := (I6 ((k + 1 : Nat) : Int))) (U 11 rfl)) rfl
         refine qZ (fun S s' w' hi hN X U V H => ?_) ?_
         ·replace X := xN1 (hN 15 rfl) X
          have e88 := (H 8 rfl).2 88 _ rfl (by rw [hFs15]; rfl)
          exact DoesT_pure (r_sub (c := (k : Int)) e88 rfl ((wI64 (by omega)).trans (by omega))) rfl
         refine qZ (fun S s' w' hi hN X U V H => ?_) ?_
         ·replace X := xN1 (hN 15 rfl) X
          have e87 := (H 7 rfl).2 87 _ rfl (by rw [hFs15]; rfl)
          have e89 := (H 9 rfl).2 89 _ rfl (by rw [hFs15]; rfl)
          exact DoesT_pure (r_indexSlice (b := yb) (o := 0) (len := g.sets.length) (cap := yc) (i := k) (o' := 0 + k) e87 e89 rfl Tryz.underlying63 siz24 (by omega) (by omega)) rfl
         refine qZ (fun S s' w' hi hN X U V H => ?_) ?_
         ·replace X := xN1 (hN 15 rfl) X
          have e90 := (H 10 rfl).2 90 _ rfl (by rw [hFs15]; rfl)
          exact DoesT_pure (r_load (v := (.slice za z.length zc)) e90 flat24 (by simpa using (Chg.ext E7 (X0.trans X)).cell (fun f => f) hyc0)) rfl
         refine DagStepsS.cons (StabS.chg (U := (fun y => (fun q => (Value.slice xa7 m7 xc7).ownBlock = some q) y)) (cloG_chg (fun q h => by have := (hownX.lt q h).2; omega)) (fun p y hp hw h => by
            rcases MsL_or h with ⟨rfl,h0⟩ | h0
            ·exact h0
            exact h0.elim)) (LocS.const) (fun S s' w' hi hN X U V H => Or.inl ⟨Guarded_none rfl,?_⟩) ?_
         ·replace X := xN1 (hN 15 rfl) X
          have e91 := (H 11 rfl).2 91 _ rfl (by rw [hFs15]; rfl)
          exact DoesT_callE (r_callF (vs := [(.slice za z.length zc)]) Tryz.func28 kQ kQ (lst1 e91)) ((clones_c _ _ z (SlAt.ext hsp (Ext.trans E7 (X0.trans X))) (by omega)).mono (fun v w h => ⟨(⟨h.1.1,own_low h.1.2 (by have := X0.size; have := X.size; omega)⟩ : cloG z z1 v w),h.2⟩))
         refine DagStepsS.cons (StabS.chg (U := (fun y => (fun q => (Value.slice xa7 m7 xc7).ownBlock = some q) y)) (edG_chg (fun q h => by have := (hownX.lt q h).2; omega)) (fun p y hp hw h => by
            rcases MsL_or h with ⟨rfl,h0⟩ | h0
            ·exact h0
            exact h0.elim)) (LocS.const) (fun S s' w' hi hN X U V H => Or.inl ⟨Guarded_none rfl,?_⟩) ?_
         ·replace X := xN1 (hN 15 rfl) X
          have e82 := (H 2 rfl).2 82 _ rfl (by rw [hFs15]; rfl)
          have e83 := (H 3 rfl).2 83 _ rfl (by rw [hFs15]; rfl)
          obtain ⟨⟨a92,c92,e92⟩,O92⟩ := (show ((fun _ _ => cloG z z1) : FctS) S s' (s' 92) w' from (H 12 rfl).2 92 (fun _ _ => cloG z z1) rfl (by rw [hFs15]; rfl))
          exact DoesT_pure (r_build (ps := [(0,.int .i64 (s : Int)),(1,.int .i64 ((k + 1 : Nat) : Int)),(2,.slice a92 z.length c92)]) (v := .agg #[.int .i64 (s : Int),.int .i64 ((k + 1 : Nat) : Int),.slice a92 z.length c92]) (bld3 e82 e83 e92) (by kernel_rfl)) ⟨a92,c92,rfl,⟨a92,c92,rfl⟩,e92 ▸ O92⟩
         refine DagStepsS.cons (StabS.chg (U := (fun y => (fun q => (Value.slice xa7 m7 xc7).ownBlock = some q) y)) (elG_chg (fun q h => by have := (hownX.lt q h).2; omega)) (fun p y hp hw h => by
            rcases MsL_or h with ⟨rfl,h0⟩ | h0
            ·exact h0
            exact h0.elim)) (LocS.const) (fun S s' w' hi hN X U V H => Or.inl ⟨Guarded_none rfl,?_⟩) ?_
         ·replace X := xN1 (hN 15 rfl) X
          obtain ⟨a93,c93,e93,O93⟩ := (show ((fun _ _ => edG ((s : Nat) : Int) ((k + 1 : Nat) : Int) z z1) : FctS) S s' (s' 93) w' from (H 13 rfl).2 93 (fun _ _ => edG ((s : Nat) : Int) ((k + 1 : Nat) : Int) z z1) rfl (by rw [hFs15]; rfl))
          exact DoesT_litE e93 (by have := X0.size; have := X.size; omega) O93
         refine DagStepsS.cons (StabS.chg (U := none1) (apG_ext _ _ _ _ _ _ _ _) (fun p y hp hw h => by
            rcases MsL_or h with ⟨rfl,h0⟩ | h0
            ·exact absurd rfl hp
            exact h0.elim)) (LocS.const) (fun S s' w' hi hN X U V H => Or.inl ⟨Guarded_none rfl,?_⟩) ?_
         ·replace X := xN1 hi X
          have e81 := (H 1 rfl).2 81 _ rfl (by rw [hFs15]; rfl)
          obtain ⟨b94,a94,c94,e94,B94,g94,O94⟩ := (show ((fun _ _ => elG ((s : Nat) : Int) ((k + 1 : Nat) : Int) z z1) : FctS) S s' (s' 94) w' from (H 14 rfl).2 94 (fun _ _ => elG ((s : Nat) : Int) ((k + 1 : Nat) : Int) z z1) rfl (by rw [hFs15]; rfl))
          exact DoesT_appE e81 (own_ext (own_ext hownX X0) X) e94 B94 O94 (by omega) (by have := X0.size; have := X.size; omega) (fun q h => .inl ⟨rfl,h⟩) (fun q h => by rcases h with h | h; exact (by have := (hownX.lt q h.2).2; omega); exact h.elim) (by have := X0.size; have := X.size; omega)
         refine DagStepsS.tail (DagStepsS.tail ?_)
         exact DagStepsS.nil
        ·intro s' wd15 w15 X0 X15 U H
         replace X15 := X15.mono (M' := (fun y => (fun q => (Value.slice xa7 m7 xc7).ownBlock = some q) y)) (fun y _ h => by
           obtain ⟨j,hj,h⟩ := h
           rcases MsL_or h with ⟨rfl,h0⟩ | h0
           ·exact h0
           exact h0.elim)
         obtain ⟨a95,c95,⟨⟨u95,v95,e95⟩,O95,D95⟩,K95⟩ := (show ((fun _ _ => apG n6 m7 rows.flatten (.slice xa7 m7 xc7) z1 ((s : Nat) : Int) ((k + 1 : Nat) : Int) z) : FctS) (allS [true,true,true,true,true,true,true,true,true,true,true,true,true,true,true,true,false,false]) s' (s' 95) w15 from H 15 rfl 95 (fun _ _ => apG n6 m7 rows.flatten (.slice xa7 m7 xc7) z1 ((s : Nat) : Int) ((k + 1 : Nat) : Int) z) rfl (by rw [hFs15]; rfl))
         obtain ⟨j15,rfl⟩ := Fits.out (σ := s') (l := [(2,(.pointer (some ⟨br,0,none⟩))),(3,(.pointer (some ⟨be,0,none⟩))),(5,(.pointer (some ⟨bg,0,none⟩))),(7,(.pointer (some ⟨bn,0,none⟩))),(8,(.int .i64 ((s : Nat) : Int))),(62,(.slice (some ⟨gb,0,none⟩) g.fol.length fc)),(63,(.int .i64 ((g.fol.length : Nat) : Int))),(64,(.int .i64 ((s : Nat) : Int))),(74,(.slice (some ⟨vb,vo,none⟩) ((upS (nZ l)).length) vc)),(75,(.int .i64 (((upS (nZ l)).length : Nat) : Int))),(76,(.int .i64 ((j : Nat) : Int))),(95,(.slice u95 (m7 + 1) v95))]) ⟨U 2 rfl,U 3 rfl,U 5 rfl,U 7 rfl,U 8 rfl,U 62 rfl,U 63 rfl,U 64 rfl,U 74 rfl,U 75 rfl,U 76 rfl,e95,trivial⟩
         clear U H
         replace Bb := Chg.keep X15 (fun h => by have := (hownX.lt _ h).1; omega) (X0.keep Bb)
         replace Br := Chg.keep X15 (fun h => by have := (hownX.lt _ h).1; omega) (X0.keep Br)
         replace Be := Chg.keep X15 (fun h => by have := (hownX.lt _ h).1; omega) (X0.keep Be)
         replace hblk := Chg.keep X15 (fun h => by have := (hownX.lt _ h).1; omega) (X0.keep hblk)
         replace Bp := Chg.keep X15 (fun h => by have := (hownX.lt _ h).1; omega) (X0.keep Bp)
         replace Bn := Chg.keep X15 (fun h => by have := (hownX.lt _ h).1; omega) (X0.keep Bn)
         have hXm7 := Chg.trans (Ext.chg X0) X15
         replace E := (E.ext X0).step X15 (fun q hq h => by have := (hownX.lt q h).1; omega)
         replace E7 := (E7.ext X0).step X15 (fun q hq h => by have := (hownX.lt q h).1; omega)
         rw [e95] at O95 D95
         have hX9 := EdB.push hownX hm7 hrowsX hxF hFl hXm7 hz1 (by omega) O95 D95 K95
         have hU9 := (hU7.chg hXm7 fun y hy h => hxF y h hy).mono (F' := fun y => F7 y ∨ (Value.slice a95 z.length c95).ownBlock = some y) fun y hy => .inl hy
         have hQ9 := hQ7.chg hXm7 fun y hy h => by have := (hownX.lt y h).1; omega
         have hs9 := Nat.le_trans hs7 hXm7.size
         have htk : edgU g p s ++ ((upS (nZ l)).take (j + 1)).map (edgO g s) = edgU g p s ++ ((upS (nZ l)).take j).map (edgO g s) ++ [(((s : Nat) : Int),((k + 1 : Nat) : Int),z)] := by rw [map_take _ ht9,edgO_at g s k hz,List.append_assoc]
         have hm9 : m7 + 1 = (edgU g p s ++ ((upS (nZ l)).take (j + 1)).map (edgO g s)).length := by rw [htk,List.length_append,← hm7]; rfl
         refine qF bn 0 4 rfl Tryz.underlying37 rfl siz35 rfl ?_
         refine s_store (b := bn) (o := 4) (c' := #[(I6 ((g.sets.length + 1 : Nat) : Int)),(I6 0),(.slice ea3 ((endsG p).length) ec3),(.slice none 0 0),(.slice u95 (m7 + 1) v95)]) (v := (.slice u95 (m7 + 1) v95)) rfl rfl rfl siz35 Bn (by simp) rfl ?_
         intro w16 S16
         replace hX9 := hX9.chg S16.chg fun y h => by have h' : y = _ := h; omega
         replace hU9 := hU9.chg S16.chg fun y hy h => by have h' : y = _ := h; have := (hX9.2.2 y hy).1; omega
         replace hQ9 := hQ9.chg S16.chg fun y hy h => by have h' : y = _ := h; omega
         replace hs9 := Nat.le_trans hs9 S16.chg.size
         replace Bb := S16.keep (by omega) Bb
         replace Br := S16.keep (by omega) Br
         replace Be := S16.keep (by omega) Be
         replace hblk := S16.keep (by omega) hblk
         replace Bp := S16.keep (by omega) Bp
         replace E := S16.step E (by first | exact Or.inl (by omega) | exact Or.inr rfl | exact Or.inr (by assumption) | exact Or.inr (by simp) | exact Or.inr (by omega) | exact Or.inr (by dsimp only; omega))
         replace E7 := S16.step E7 (Or.inl (by omega))
         replace Bn := S16.blk
         refine WpL_nil (thn_normal (Wp_seq_region ?_))
         refine qF bn 0 4 rfl Tryz.underlying37 rfl siz35 rfl ?_
         refine qV (r_load (v := (.slice u95 (m7 + 1) v95)) rfl flat35 (Bn.cell rfl)) ?_
         refine qV (r_lenSlice (ad := u95) (n := (m7 + 1)) (cap := v95) Tryz.underlying35 rfl) ?_
         refine qV (r_gtr (k := .i64) (a := (((m7 + 1) : Nat) : Int)) (b := 20000) rfl rfl) ?_
         refine WpL_nil ?_
         refine Wp_cond (b := decide ((20000 : Int) < (((m7 + 1) : Nat) : Int))) rfl (fun hbig => ?_) (fun hbig => ?_)
         ·have khbig := hbig
          replace hbig := of_decide_eq_true hbig
          have hle1 := edgU_le g p (s := s + 1) (m := g.fol.length) (by omega)
          have hbg : 20000 < (edgG g p).length := by rw [hrow,List.length_append,List.length_map] at hle1; rw [List.length_append,List.length_map,List.length_take] at hm9; unfold edgG; omega
          refine Wp_seq_region ?_
          refine qV (r_build (ps := []) (v := (.agg #[(I6 0),(I6 0),(.slice none 0 0),(.slice none 0 0),(.slice none 0 0)])) rfl (by kernel_rfl)) ?_
          refine s_storeAgg (b := br) (o := 0) (c' := #[(I6 0),(I6 0),(.slice none 0 0),(.slice none 0 0),(.slice none 0 0)]) rfl rfl (by simp [Value.oneCell']) siz37 rfl Br (by first | (simp; done) | exact Nat.le_of_ble_eq_true rfl) rfl ?_
          intro w18 S18
          replace hX9 := hX9.chg S18.chg fun y h => by have h' : y = _ := h; omega
          replace hU9 := hU9.chg S18.chg fun y hy h => by have h' : y = _ := h; have := (hX9.2.2 y hy).1; omega
          replace hQ9 := hQ9.chg S18.chg fun y hy h => by have h' : y = _ := h; omega
          replace hs9 := Nat.le_trans hs9 S18.chg.size
          replace Bb := S18.keep (by omega) Bb
          replace Be := S18.keep (by omega) Be
          replace hblk := S18.keep (by omega) hblk
          replace Bp := S18.keep (by omega) Bp
          replace Bn := S18.keep (by omega) Bn
          replace E := S18.step E (by first | exact Or.inl (by omega) | exact Or.inr rfl | exact Or.inr (by assumption) | exact Or.inr (by simp) | exact Or.inr (by omega) | exact Or.inr (by dsimp only; omega))
          replace Br := S18.blk
          refine s_store (b := be) (o := 0) (c' := #[(I6 2)]) (v := (I6 2)) rfl rfl rfl siz30 Be (by simp) rfl ?_
          intro w19 S19
          replace hX9 := hX9.chg S19.chg fun y h => by have h' : y = _ := h; omega
          replace hU9 := hU9.chg S19.chg fun y hy h => by have h' : y = _ := h; have := (hX9.2.2 y hy).1; omega
          replace hQ9 := hQ9.chg S19.chg fun y hy h => by have h' : y = _ := h; omega
          replace hs9 := Nat.le_trans hs9 S19.chg.size
          replace Bb := S19.keep (by omega) Bb
          replace Br := S19.keep (by omega) Br
          replace hblk := S19.keep (by omega) hblk
          replace Bp := S19.keep (by omega) Bp
          replace Bn := S19.keep (by omega) Bn
          replace E := S19.step E (by first | exact Or.inl (by omega) | exact Or.inr rfl | exact Or.inr (by assumption) | exact Or.inr (by simp) | exact Or.inr (by omega) | exact Or.inr (by dsimp only; omega))
          replace Be := S19.blk
          refine WpL_nil (Wp_ret (inB_ret (thn_ret (thn_ret (inB_ret (inB_ret (thn_ret (thn_ret (inB_ret (thn_ret ?_))))))))))
          exact fun a ha => leaves_end (X := Ext _) rfl (by intro h; cases h) (hi_glu1 _ _) ((glu1_idle _ br be).mono fun e9 u9 w9 h9 => by obtain ⟨⟨r9,h1,h2⟩,h3⟩ := h9; exact ⟨⟨r9,h1⟩,by rw [h3]; rfl,h2⟩) (fun w9 h9 => ⟨_,res_agg_cell (vs := [.int .i64 0,.int .i64 0,.slice none 0 0,.slice none 0 0,.slice none 0 0]) Tryz.results10 rfl rfl agg37 siz37 rfl ((Ext.keep h9 Br).cells rfl) flat30 ((Ext.keep h9 Be).cell rfl) ha,_,rfl,nfR_zero (.inr (.inr ⟨hs0,g,p,hgk,hok1,.inr ⟨rfl,rfl,hbg⟩⟩)),E.ext h9⟩)
         ·have khbig := hbig
          replace hbig := of_decide_eq_false hbig
          refine Wp_skip (inB_normal (thn_normal (Wp_region ?_)))
          refine qV (r_add (k := .i64) (a := (j : Int)) (b := 1) (c := (j : Int) + 1) rfl rfl (wI64 (by omega))) ?_
          refine qM (I6 ((j : Int) + 1)) rfl ?_
          refine WpL_nil (thn_normal ?_)
          exact ⟨(upS (nZ l)).length - (j + 1),by omega,j + 1,m7 + 1,_,u95,v95,Fits.out ⟨rfl,rfl,rfl,rfl,rfl,rfl,rfl,rfl,rfl,rfl,rfl,trivial⟩,E,E7,Bb,Br,Be,hblk,Bp,Bn,(by omega),hm9,(by rw [htk]; exact hX9),(by omega),hU9,hQ9,hs9,rfl⟩
       ·have khlt8 := hlt8
        replace hlt8 := of_decide_eq_false hlt8
        have hjj : j = (upS (nZ l)).length := by omega
        subst hjj
        rw [List.take_length,← hrow] at hm7 hX7
        refine Wp_exit (thn_exit (thn_exit (inB_here (inB_normal (thn_normal (Wp_region ?_))))))
        refine qV (r_add (k := .i64) (a := (s : Int)) (b := 1) (c := (s : Int) + 1) rfl rfl (wI64 (by omega))) ?_
        refine qM (I6 ((s : Int) + 1)) rfl ?_
        refine WpL_nil (thn_normal ?_)
        exact ⟨g.fol.length - (s + 1),by omega,s + 1,m7,F7,xa7,xc7,Fits.out ⟨rfl,rfl,rfl,rfl,rfl,rfl,rfl,trivial⟩,E,E7,Bb,Br,Be,hblk,Bp,Bn,(by omega),hm7,hX7,hm70,hQ7,hs7,rfl⟩
     ·have khlt9 := hlt9
      replace hlt9 := of_decide_eq_false hlt9
      have hss : s = g.fol.length := by omega
      subst hss
      refine Wp_exit (thn_exit (thn_exit (inB_here (thn_normal (Wp_seq_region ?_)))))
      refine qV (r_loadAgg (vs := [(I6 ((g.sets.length + 1 : Nat) : Int)),(I6 0),(.slice ea3 ((endsG p).length) ec3),(.slice none 0 0),(.slice xa m6 xc)]) rfl agg37 siz37 rfl (Bn.cells rfl)) ?_
      refine s_storeAgg (b := br) (o := 0) (c' := #[(I6 ((g.sets.length + 1 : Nat) : Int)),(I6 0),(.slice ea3 ((endsG p).length) ec3),(.slice none 0 0),(.slice xa m6 xc)]) rfl rfl (by simp [Value.oneCell']) siz37 rfl Br (by first | (simp; done) | exact Nat.le_of_ble_eq_true rfl) rfl ?_
      intro w20 S20
      replace hX := hX.chg S20.chg fun y h => by have h' : y = _ := h; omega
      replace hQ6 := hQ6.chg S20.chg fun y hy h => by have h' : y = _ := h; omega
      replace Bb := S20.keep (by omega) Bb
      replace Be := S20.keep (by omega) Be
      replace hblk := S20.keep (by omega) hblk
      replace Bp := S20.keep (by omega) Bp
      replace Bn := S20.keep (by omega) Bn
      replace E := S20.step E (by first | exact Or.inl (by omega) | exact Or.inr rfl | exact Or.inr (by assumption) | exact Or.inr (by simp) | exact Or.inr (by omega) | exact Or.inr (by dsimp only; omega))
      replace Br := S20.blk
      refine s_store (b := be) (o := 0) (c' := #[(I6 0)]) (v := (I6 0)) rfl rfl rfl siz30 Be (by simp) rfl ?_
      intro w21 S21
      replace hX := hX.chg S21.chg fun y h => by have h' : y = _ := h; omega
      replace hQ6 := hQ6.chg S21.chg fun y hy h => by have h' : y = _ := h; omega
      replace Bb := S21.keep (by omega) Bb
      replace Br := S21.keep (by omega) Br
      replace hblk := S21.keep (by omega) hblk
      replace Bp := S21.keep (by omega) Bp
      replace Bn := S21.keep (by omega) Bn
      replace E := S21.step E (by first | exact Or.inl (by omega) | exact Or.inr rfl | exact Or.inr (by assumption) | exact Or.inr (by simp) | exact Or.inr (by omega) | exact Or.inr (by dsimp only; omega))
      replace Be := S21.blk
      refine WpL_nil (Wp_ret ?_)
      have hN : NfNew w0.heap.size _ (nfG g p) [.int .i64 ((g.sets.length + 1 : Nat) : Int),.int .i64 0,.slice ea3 (endsG p).length ec3,.slice none 0 0,.slice xa m6 xc] := fun M w7 c hM => by
       have h1 := hQ6.chg c fun y hy h => by have := hM y h; omega
       have h2 := (hX.chg c fun y h => by have := hM y h; omega).at
       subst hm6
       exact ⟨_,_,none,0,_,_,rfl,h1.1,SlAt.nil w7 2 _ _,h2⟩
      exact fun a ha => leaves_end (X := Ext _) rfl (by intro h; cases h) (hi_glu1 _ _) ((glu1_idle _ br be).mono fun e9 u9 w9 h9 => by obtain ⟨⟨r9,h1,h2⟩,h3⟩ := h9; exact ⟨⟨r9,h1⟩,by rw [h3]; rfl,h2⟩) (fun w9 h9 => ⟨_,res_agg_cell (vs := [.int .i64 ((g.sets.length + 1 : Nat) : Int),.int .i64 0,.slice ea3 (endsG p).length ec3,.slice none 0 0,.slice xa m6 xc]) Tryz.results10 rfl rfl agg37 siz37 rfl ((Ext.keep h9 Br).cells rfl) flat30 ((Ext.keep h9 Be).cell rfl) ha,_,rfl,⟨nfG g p,ea3,ec3,none,0,xa,xc,_,by rw [hm6]; rfl,by rw [hm6] at hN; exact hN.ext h9,.inr (.inr ⟨hs0,g,p,hgk,hok1,.inl ⟨rfl,rfl,by unfold edgG; omega⟩⟩)⟩,E.ext h9⟩)
end Go.Proofs
namespace Go.Proofs
open Go Go.Eng
theorem checkP_ok {t : Re} {text : List Int} (h0 : checkP t text = 0) : okRe t ∧ (t.size : Int) ≤ 40 ∧ text.length ≤ 24 := by
 unfold checkP at h0
 by_cases h1 : fitsE t 40 = 0
 ·rw [if_neg (by omega)] at h0
  obtain ⟨a,b⟩ := (fitsE_zero (by decide) (by decide)).1 h1
  refine ⟨a,b,?_⟩
  split at h0 <;> omega
 ·rw [if_pos h1] at h0; omega
theorem shr_bit {x n : Nat} (f : Nat → Bool) (hx : x = maskN 25 f) (hn : n ≤ 24) : decide ((((x / 2 ^ n) &&& 1 : Nat) : Int) = 1) = f n := by
 have h1 : (x / 2 ^ n) &&& 1 = x / 2 ^ n % 2 := Nat.and_one_is_mod _
 have h2 : x.testBit n = decide (x / 2 ^ n % 2 = 1) := Nat.testBit_eq_decide_div_mod_eq
 have h3 : x.testBit n = f n := by rw [hx,maskN_bit]; simp; omega
 rw [← h3,h2,h1]
 congr 1
 rw [eq_iff_iff]; omega
theorem rmatch_c (w0 : World) (t : Re) (vs : List Value) (vt : Value) (text : List Int) (ht : ReAt w0 t vs) (htx : IntsAt w0 vt text) (hT : TabOk w0) :
  Ret Tryz.prog 9 #[.agg vs.toArray,vt] w0 fun v w => v = .tuple #[.bool (if checkP t text = 0 then relOf text t 0 text.length else false),.int .i64 (checkP t text)] ∧ Ext w0 w := by
 have ht0 := ht
 obtain ⟨sa,sc,aa,ac,rfl,hset,hlen,hargs⟩ := ht.form
 obtain ⟨ta,tc,rfl⟩ := SlAt.form htx
 simp only [List.length_map] at htx ⊢
 refine Ret_of Tryz.func9 rfl Tryz.ntmps9 (Nat.le_of_ble_eq_true rfl) ?_
 have E : Chg none1 w0 w0 := Chg.refl _ _
 refine Wp_seq_region ?_
 refine s_box (v := (.agg (R6 t sa sc aa ac))) (c := (R6 t sa sc aa ac)) (by decide) rfl rfl ?_
 intro b1 w1 N1
 have F1 := N1.ge E
 replace E := E.ext N1.ext
 have B1 := N1.blk
 refine qA (.bool false) rfl ?_
 refine qA (I6 0) rfl ?_
 refine WpL_nil (Wp_seq (Wp_seq_region ?_))
 refine qV (r_loadAgg (vs := [(I6 t.kind),(.slice sa t.set.length sc),(.slice aa t.args.length ac),(I6 t.mn),(I6 t.mx),(.bool t.neg)]) rfl agg27 siz27 rfl (B1.cells rfl)) ?_
 refine qM (.slice ta text.length tc) rfl ?_
 refine WpL_enter rfl rfl (by decide) (r_callF (vs := [(.agg (R6 t sa sc aa ac)),(.slice ta text.length tc)]) Tryz.func21 kQ kQ rfl) (pcheck_c _ t _ _ text (ReAt.ext E t ht0) (htx.ext E)) ?_
 rintro _ w9 ⟨rfl,X9⟩
 replace B1 := X9.keep B1
 replace E := E.ext X9
 refine qA (I6 (checkP t text)) rfl ?_
 refine WpL_nil (Wp_seq_region ?_)
 refine qM (I6 (checkP t text)) rfl ?_
 refine qV (r_neq (k := .i64) (a := checkP t text) (b := 0) rfl rfl) ?_
 refine WpL_nil ?_
 refine Wp_cond (b := decide ((checkP t text : Int) ≠ 0)) rfl (fun h0 => ?_) (fun h0 => ?_)
 ·have kh0 := h0
  replace h0 := of_decide_eq_true h0
  refine Wp_seq_region ?_
  refine qM (I6 (checkP t text)) rfl ?_
  refine qA (.bool false) rfl ?_
  refine qA (I6 (checkP t text)) rfl ?_
  refine WpL_nil (Wp_ret (thn_ret ?_))
  refine fin_tmp2 Tryz.results9 (v := (.bool false)) (v' := (.int .i64 (checkP t text))) rfl rfl ?_
  exact ⟨by rw [if_neg h0],E⟩
 ·have kh0 := h0
  replace h0 := of_decide_eq_false h0
  have h0' : checkP t text = 0 := by omega
  obtain ⟨hok,hsz,hn⟩ := checkP_ok h0'
  refine Wp_skip (thn_normal (Wp_seq_region ?_))
  refine qV (r_loadAgg (vs := [(I6 t.kind),(.slice sa t.set.length sc),(.slice aa t.args.length ac),(I6 t.mn),(I6 t.mx),(.bool t.neg)]) rfl agg27 siz27 rfl (B1.cells rfl)) ?_
  refine qM (.slice ta text.length tc) rfl ?_
  refine WpL_enter rfl rfl (by decide) (r_callF (vs := [(.agg (R6 t sa sc aa ac)),(.slice ta text.length tc)]) Tryz.func22 kQ kQ rfl) (of_c text hn 40 (by decide) t (by omega) hok _ _ _ (ReAt.ext E t ht0) (htx.ext E) (hT.ext E)) ?_
  rintro _ w19 ⟨bm,rfl,hbm,Bm,X19⟩
  replace B1 := X19.keep B1
  replace E := E.ext X19
  obtain ⟨x,hx⟩ : ∃ x,x = maskN 25 (relOf text t 0) := ⟨_,rfl⟩
  have hxl : x < 4294967296 := hx ▸ mask_lt32 _
  refine qV (r_nilCheck (a := ⟨bm,0,none⟩) rfl) ?_
  refine qV (r_indexArr (b := bm) (o := 0) (i := 0) (o' := 0) rfl rfl rfl Tryz.underlying106 siz55 (by omega) (by omega)) ?_
  refine qV (r_load (v := (.int .u32 (x : Int))) rfl flat55 ((Bm.cell (rowArr_get _ (by omega))).trans (by rw [hx]))) ?_
  refine qM (.slice ta text.length tc) rfl ?_
  refine qV (r_lenSlice (ad := ta) (n := text.length) (cap := tc) Tryz.underlying22 rfl) ?_
  refine qV (r_shr (k := .u32) (a := (x : Int)) (b := (text.length : Int)) (c := ((x / 2 ^ text.length : Nat) : Int)) (k' := .i64) rfl rfl (by omega) (by rw [Int.fdiv_eq_ediv_of_nonneg _ (Int.le_of_lt (Int.pow_pos (by decide))),show min (text.length : Int).toNat IntKind.u32.bits = text.length from by simp only [IntKind.bits]; omega]; push_cast; rfl)) ?_
  refine qV (r_bits (k := .u32) (a := ((x / 2 ^ text.length : Nat) : Int)) (b := 1) (v := .int .u32 (((x / 2 ^ text.length) &&& 1 : Nat) : Int)) rfl rfl (by simp) (bits_and _ 1 (Nat.lt_of_le_of_lt (Nat.div_le_self _ _) hxl) (by decide))) ?_
  refine qV (r_eql (k := .u32) (a := (((x / 2 ^ text.length) &&& 1 : Nat) : Int)) (b := 1) rfl rfl) ?_
  refine qA (.bool (decide (((((x / 2 ^ text.length) &&& 1 : Nat) : Int) : Int) = 1))) rfl ?_
  refine qA (I6 0) rfl ?_
  refine WpL_nil (Wp_ret ?_)
  refine fin_tmp2 Tryz.results9 (v := (.bool (decide (((((x / 2 ^ text.length) &&& 1 : Nat) : Int) : Int) = 1)))) (v' := (.int .i64 0)) rfl rfl ?_
  exact ⟨by rw [if_pos h0',shr_bit _ hx hn,h0'],E⟩
def bl (m : Nat) : Nat := if m = 0 then 0 else Nat.log2 m + 1
end Go.Proofs
namespace Go.Proofs
open Go Go.Eng Go.Sort
--BEGIN
def nf1 : Nf := ⟨2,0,[1],[],[(0,1,[(97,97)])]⟩
theorem gk1 : gkO (oneT 97) gs0 = some (⟨[[(97,97)]],[[],[]]⟩,⟨false,[1],[1]⟩) := by kernel_rfl
theorem upJ1 : upS [1] = [1] := lt_unique (upS_inc _) (by decide) fun x => upS_mem
theorem upJ0 : upS [] = [] := lt_unique (upS_inc _) (by decide) fun x => upS_mem
theorem nfG1 : nfG ⟨[[(97,97)]],[[],[]]⟩ ⟨false,[1],[1]⟩ = nf1 := by
 have e : nfG ⟨[[(97,97)]],[[],[]]⟩ ⟨false,[1],[1]⟩ = ⟨2,0,upS [1],[],([] ++ (upS [1]).map (edgO ⟨[[(97,97)]],[[],[]]⟩ 0)) ++ (upS []).map (edgO ⟨[[(97,97)]],[[],[]]⟩ 1)⟩ := rfl
 rw [e,upJ1,upJ0]; rfl
theorem ok1T : okRe (oneT 97) := by simp only [oneT,okRe,okRes,and_true]; decide
theorem glush_one {n : Nf} {e : Int} (h : GkP (oneT 97) n e) : e = 0 ∧ n = nf1 := by
 have h0 : simE (oneT 97) = 0 := simE_zero.2 ⟨ok1T,by decide,by decide⟩
 rcases h with ⟨h1,_⟩ | ⟨_,h1,_⟩ | ⟨_,g,p,h1,h2,h3⟩
 ·exact absurd h0 h1
 ·rw [gk1] at h1; cases h1
 ·rw [gk1] at h1
  cases h1
  rw [nfG1] at h3
  have h8 : edgG ⟨[[(97,97)]],[[],[]]⟩ ⟨false,[1],[1]⟩ = nf1.edges := congrArg Nf.edges nfG1
  rw [h8] at h3
  rcases h3 with ⟨h5,h6,_⟩ | ⟨_,_,h7⟩
  ·exact ⟨h5,h6⟩
  ·exact absurd h7 (by decide)
theorem okJ1 : OkN nf1 := ⟨by decide,by decide,by decide,by decide,by decide,by decide,by decide,by decide⟩
theorem accJ1 : Acc nf1 [97] := ⟨1,by decide,.edge (t := 1) (z := [(97,97)]) (by decide) (by decide) (.nil 1)⟩
theorem run_okJ {n : Nf} {text : List Int} {b : Bool} {e : Int} (ok : OkN n) (hl : text.length ≤ 1000) (hr : ∀ x ∈ text,runeB x = true) (h : RunP n text b e) : e = 0 ∧ (b = true ↔ Acc n text) := by
 have hc := chkN_zero.2 ok
 have ha : (text.any fun r => !runeB r) = false := by rw [List.any_eq_false]; intro x hx; rw [hr x hx]; decide
 rcases h with ⟨h1,_⟩ | ⟨_,h1,_⟩ | ⟨_,_,h1,_⟩ | ⟨_,_,_,h1,h2⟩
 ·exact absurd hc h1
 ·omega
 ·rw [ha] at h1; cases h1
 ·exact ⟨h2,h1⟩
theorem check_zeroJ {t : Re} {text : List Int} (hok : okRe t) (hs : (t.size : Int) ≤ 40) (hn : text.length ≤ 24) (hr : ∀ x ∈ text,runeB x = true) : checkP t text = 0 := by
 unfold checkP
 rw [if_neg (by rw [(fitsE_zero (t := t) (most := 40) (by decide) (by decide)).2 ⟨hok,hs⟩]; decide),if_neg (by omega),if_neg]
 rw [List.any_eq_true]
 rintro ⟨x,hx,h⟩
 rw [hr x hx] at h; cases h
theorem same_bool {a b : Bool} {L : Prop} (h : a = true ↔ L) (k : b = true ↔ L) : a = b := Bool.eq_iff_iff.2 (h.trans k.symm)
theorem glu_agree {t : Re} {n : Nf} {e : Int} (h : GkP t n e) (hs : simE t = 0) : (e = 2 ∧ n = nf0) ∨ (e = 0 ∧ OkN n ∧ n.eps = [] ∧ ∀ w,Acc n w ↔ Lang t w) := by
 obtain ⟨hok,_,hu⟩ := simE_zero.1 hs
 rcases h with ⟨h1,_⟩ | ⟨_,_,h2,h3⟩ | ⟨_,g,p,h1,h2,⟨h3,h4,h5⟩ | ⟨h3,h4,_⟩⟩
 ·exact absurd hs h1
 ·exact .inl ⟨h3,h2⟩
 ·exact .inr ⟨h3,by rw [h4]; exact glu_okN hok h1 h2 h5,by rw [h4]; rfl,fun w => by rw [h4]; exact glu_lang hok hu h1 h2 w⟩
 ·exact .inl ⟨h3,h4⟩
theorem thom_agree {t : Re} {n : Nf} {e : Int} (h : ThP t n e) (hs : simE t = 0) : (e = 2 ∧ n = nf0) ∨ (e = 0 ∧ OkN n ∧ ∀ w,Acc n w ↔ Lang t w) := by
 obtain ⟨hok,_,hu⟩ := simE_zero.1 hs
 rcases h with ⟨h1,_⟩ | ⟨_,_,h2,h3⟩ | ⟨_,h0,s,a,b,h1,h2⟩
 ·exact absurd hs h1
 ·exact .inl ⟨h3,h2⟩
 ·exact .inr ⟨h0,by rw [h2]; exact (thom_ok hok h1).1,fun w => by rw [h2]; exact thom_lang hok hu h1 w⟩
theorem bare_agree {n m : Nf} {e : Int} (h : BareR n m e) (ok : OkN n) : e = 2 ∨ (e = 0 ∧ OkN m ∧ m.eps = [] ∧ ∀ w,Acc m w ↔ Acc n w) := by
 have hc := chkN_zero.2 ok
 rcases h with ⟨h1,_⟩ | ⟨_,h1,_⟩ | ⟨_,h1,h2,h3,h4,N,h5,h6,h7⟩
 ·exact absurd hc h1
 ·exact .inl h1
 ·have hl := h6.len
  obtain ⟨g1,g2⟩ := h6.mem
  have hst := ok.st
  refine .inr ⟨h1,⟨by omega,by rw [h2,h3]; exact ok.s0,by omega,by rw [h4]; exact Nat.zero_le _,h7,fun s hs => ?_,fun p hp => (by rw [h4] at hp; cases hp),fun x hx => ?_⟩,h4,fun w => bare_acc ok h5 h3 h4 h6 w⟩
  ·obtain ⟨i,h8,h9,_⟩ := (g1 s).1 hs
   rw [h2]; omega
  ·obtain ⟨i,h8,h9,f,h10,_,h11,h12⟩ := (g2 x).1 hx
   have := ok.ed f h10
   rw [h2,h11,h12]
   exact ⟨by omega,this.2⟩
--END
theorem nfabegun1_c (w0 : World) : Ret Tryz.prog 4 #[] w0 fun v w => v = .bool true ∧ Ext w0 w := by
 refine Ret_of Tryz.func4 rfl Tryz.ntmps4 (Nat.le_of_ble_eq_true rfl) ?_
 have E : Chg none1 w0 w0 := Chg.refl _ _
 refine Wp_seq_region ?_
 refine qA (.bool false) rfl ?_
 refine WpL_nil (Wp_seq_region ?_)
 refine WpL_enter rfl rfl (by decide) (r_callF (vs := [(I6 97)]) Tryz.func15 kQ kQ rfl) (one_c _ 97) ?_
 rintro _ w1 ⟨b,rfl,hsp,X1⟩
 replace E := E.ext X1
 refine WpL_enter rfl rfl (by decide) (r_callF (vs := [(.agg #[(I6 2),(.slice (some ⟨b,0,none⟩) 1 1),(.slice none 0 0),(I6 0),(I6 0),(.bool false)])]) Tryz.func10 kQ kQ rfl) (glush_c _ (oneT 97) _ (one_at hsp)) ?_
 rintro _ w9 ⟨⟨n,ea,ec,pa,pc,xa,xc,er,rfl,hN,hP⟩,X9⟩
 replace E := E.ext X9
 obtain ⟨he0,hnb⟩ := glush_one hP
 refine qM (.tuple #[(.agg #[(I6 n.states),(I6 n.start),(.slice ea n.ends.length ec),(.slice pa n.eps.length pc),(.slice xa n.edges.length xc)]),(I6 er)]) rfl ?_
 refine qV (r_extract (vs := #[(.agg #[(I6 n.states),(I6 n.start),(.slice ea n.ends.length ec),(.slice pa n.eps.length pc),(.slice xa n.edges.length xc)]),(I6 er)]) (v := (.agg #[(I6 n.states),(I6 n.start),(.slice ea n.ends.length ec),(.slice pa n.eps.length pc),(.slice xa n.edges.length xc)])) rfl rfl) ?_
 refine qV (r_extract (vs := #[(.agg #[(I6 n.states),(I6 n.start),(.slice ea n.ends.length ec),(.slice pa n.eps.length pc),(.slice xa n.edges.length xc)]),(I6 er)]) (v := (I6 er)) rfl rfl) ?_
 refine s_allocStore (v := (.agg #[(I6 n.states),(I6 n.start),(.slice ea n.ends.length ec),(.slice pa n.eps.length pc),(.slice xa n.edges.length xc)])) (c := #[(I6 n.states),(I6 n.start),(.slice ea n.ends.length ec),(.slice pa n.eps.length pc),(.slice xa n.edges.length xc)]) (n := 5) (by decide) zer37 rfl siz37 rfl rfl rfl (by simp [Value.oneCell']) ?_
 intro bn wn Nn
 have Fn := Nn.ge E
 replace hN := hN.ext Nn.ext
 replace E := E.ext Nn.ext
 have Bn := Nn.blk
 refine qA (I6 er) rfl ?_
 refine WpL_nil (Wp_seq_region ?_)
 refine qV (r_loadAgg (vs := [(I6 n.states),(I6 n.start),(.slice ea n.ends.length ec),(.slice pa n.eps.length pc),(.slice xa n.edges.length xc)]) rfl agg37 siz37 rfl (Bn.cells rfl)) ?_
 refine s_buildSlice (ps := [(0,(I6 97))]) (c := #[(I6 97)]) (by decide) rfl Tryz.underlying22 siz3 zer3 (by decide) (by decide) (by kernel_rfl) ?_
 intro bk wk Nk
 have Fk := Nk.ge E
 have Ok_bn := Nk.lt Bn
 replace Bn := Nk.keep Bn
 replace hN := hN.ext Nk.ext
 replace E := E.ext Nk.ext
 have Bk := Nk.blk
 refine WpL_enter rfl rfl (by decide) (r_callF (vs := [(.agg #[(I6 n.states),(I6 n.start),(.slice ea n.ends.length ec),(.slice pa n.eps.length pc),(.slice xa n.edges.length xc)]),(.slice (some ⟨bk,0,none⟩) 1 1)]) Tryz.func11 kQ kQ rfl) (nrun_c _ n _ _ [97] hN.at (ints_of_blk [97] Bk (by simp) (by simp))) ?_
 rintro _ w19 ⟨⟨rb,re,rfl,hR⟩,X19⟩
 replace Bn := X19.keep Bn
 replace Bk := X19.keep Bk
 replace hN := hN.ext X19
 replace E := E.ext X19
 obtain ⟨hre,hrb⟩ := run_okJ (hnb ▸ okJ1) (by decide) (by decide) hR
 have hrt : rb = true := hrb.2 (hnb ▸ accJ1)
 refine qM (.tuple #[(.bool rb),(I6 re)]) rfl ?_
 refine qV (r_extract (vs := #[(.bool rb),(I6 re)]) (v := (.bool rb)) rfl rfl) ?_
 refine qV (r_extract (vs := #[(.bool rb),(I6 re)]) (v := (I6 re)) rfl rfl) ?_
 refine qA (.bool rb) rfl ?_
 refine qA (I6 re) rfl ?_
 refine WpL_nil (Wp_seq_region ?_)
 refine qM (I6 er) rfl ?_
 obtain ⟨e1,he1⟩ : ∃ e,(decide ((er : Int) = 0)) = e := ⟨_,rfl⟩
 refine qV ((r_eql (k := .i64) (a := er) (b := 0) rfl rfl).trans (by rw [he1]; try rfl)) ?_
 refine qM (.bool e1) rfl ?_
 refine qG (.bool e1) (yU e1 (I6 re)) (by cases e1 <;> first | exact gA | exact gB | exact .inl ⟨rfl,r_move (v := (I6 re)) rfl⟩) ?_
 obtain ⟨e2,he2⟩ : ∃ e,(decide ((re : Int) = 0)) = e := ⟨_,rfl⟩
 refine qG (.bool e1) (yU e1 (.bool e2)) (by cases e1 <;> first | exact gA | exact gB | exact .inl ⟨rfl,(r_eql (k := .i64) (a := re) (b := 0) rfl rfl).trans (by rw [he2]; try rfl)⟩) ?_
 obtain ⟨e3,he3⟩ : ∃ e,(e1 && e2) = e := ⟨_,rfl⟩
 refine qV (r_pick (b := e1) (v := .bool e3) rfl (by rw [← he3]; cases e1 <;> rfl)) ?_
 refine qM (.bool e3) rfl ?_
 refine qG (.bool e3) (yU e3 (.bool rb)) (by cases e3 <;> first | exact gA | exact gB | exact .inl ⟨rfl,r_move (v := (.bool rb)) rfl⟩) ?_
 obtain ⟨e4,he4⟩ : ∃ e,(e3 && rb) = e := ⟨_,rfl⟩
 refine qV (r_pick (b := e3) (v := .bool e4) rfl (by rw [← he4]; cases e3 <;> rfl)) ?_
 refine qM (.bool e4) rfl ?_
 refine qG (.bool e4) (yU e4 (P6 bn 0)) (by cases e4 <;> first | exact gA | exact gB | exact .inl ⟨rfl,r_fieldAddr (b := bn) (o := 0) (o' := 0) rfl Tryz.underlying37 rfl siz3 rfl⟩) ?_
 refine qG (.bool e4) (yU e4 (I6 n.states)) (by cases e4 <;> first | exact gA | exact gB | exact .inl ⟨rfl,r_load (v := (I6 n.states)) rfl flat3 (Bn.cell rfl)⟩) ?_
 obtain ⟨e5,he5⟩ : ∃ e,(decide ((n.states : Int) = 2)) = e := ⟨_,rfl⟩
 refine qG (.bool e4) (yU e4 (.bool e5)) (by cases e4 <;> first | exact gA | exact gB | exact .inl ⟨rfl,(r_eql (k := .i64) (a := n.states) (b := 2) rfl rfl).trans (by rw [he5]; try rfl)⟩) ?_
 obtain ⟨e6,he6⟩ : ∃ e,(e4 && e5) = e := ⟨_,rfl⟩
 refine qV (r_pick (b := e4) (v := .bool e6) rfl (by rw [← he6]; cases e4 <;> rfl)) ?_
 refine qA (.bool e6) rfl ?_
 refine WpL_nil ?_
 subst he6
 subst he5
 subst he4
 subst he3
 subst he2
 subst he1
 refine Wp_ret ?_
 refine fin_tmp Tryz.results4 (v := (.bool ((((decide ((er : Int) = 0)) && (decide ((re : Int) = 0))) && rb) && (decide ((n.states : Int) = 2))))) rfl ?_
 exact ⟨bool_eq (by rw [he0,hre,hrt,hnb]; rfl),E⟩
theorem nfaagree_c (w0 : World) (hT : TabOk w0) (v1 v2 : Value) (l t : List Int) (h1 : IntsAt w0 v1 l) (h2 : IntsAt w0 v2 t) :
  Ret Tryz.prog 3 #[v1,v2] w0 fun v w => v = .bool true ∧ Ext w0 w := by
 obtain ⟨a1,c1,rfl⟩ := SlAt.form h1
 obtain ⟨a2,c2,rfl⟩ := SlAt.form h2
 simp only [List.length_map] at h1 h2 ⊢
 refine Ret_of Tryz.func3 rfl Tryz.ntmps3 (Nat.le_of_ble_eq_true rfl) ?_
 have E : Chg none1 w0 w0 := Chg.refl _ _
 refine Wp_seq_region ?_
 refine qA (.bool false) rfl ?_
 refine WpL_nil (Wp_seq (Wp_seq_region ?_))
 refine WpL_enter rfl rfl (by decide) (r_callF (vs := []) Tryz.func4 kQ kQ rfl) (nfabegun1_c _) ?_
 rintro _ w8 ⟨rfl,X8⟩
 replace E := E.ext X8
 refine qV (r_not (b := true) rfl) ?_
 refine qM (.bool false) rfl ?_
 refine WpL_guard_yes (oj := _) rfl rfl (by decide) rfl ?_
 refine WpL_enter rfl rfl (by decide) (r_callF (vs := []) Tryz.func5 kQ kQ rfl) (begun_c _ (hT.ext E)) ?_
 rintro _ w9 ⟨rfl,X9⟩
 replace E := E.ext X9
 refine WpL_guard_yes (oj := _) rfl rfl (by decide) rfl ?_
 refine qV (r_not (b := true) rfl) ?_
 refine qV (r_pick (b := false) (v := (.bool false)) rfl rfl) ?_
 refine WpL_nil ?_
 refine Wp_cond_false rfl ?_
 refine Wp_skip (thn_normal (Wp_seq_region ?_))
 refine qM (.slice a1 l.length c1) rfl ?_
 refine WpL_enter rfl rfl (by decide) (r_callF (vs := [(.slice a1 l.length c1)]) Tryz.func6 kQ kQ rfl) (mkRe_c _ _ l (h1.ext E)) ?_
 rintro _ wa ⟨a,us,rfl,ga,za,ha,Xa⟩
 replace E := E.ext Xa
 have hat := ReIn.at a ha
 obtain ⟨sa,sc,aa,ac,rfl,_,_,_⟩ := ha.form
 refine qM (.slice a2 t.length c2) rfl ?_
 refine WpL_enter rfl rfl (by decide) (r_callF (vs := [(.slice a2 t.length c2)]) Tryz.func7 kQ kQ rfl) (text_c _ _ t (h2.ext E)) ?_
 rintro _ wt ⟨ta,tc,text,rfl,htx,htl,htr,Xt⟩
 replace E := E.ext Xt
 have E5 : Chg none1 wt wt := Chg.refl _ _
 refine s_allocStore (v := (.agg (R6 a sa sc aa ac))) (c := (R6 a sa sc aa ac)) (n := 6) (by decide) zer27 rfl siz27 rfl rfl rfl (by simp [Value.oneCell']) ?_
 intro br wr Nr
 have Fr := Nr.ge E
 have Fr_E5 := Nr.ge E5
 replace E := E.ext Nr.ext
 have Br := Nr.blk
 replace E5 := E5.ext Nr.ext
 refine qA (.slice ta text.length tc) rfl ?_
 refine WpL_nil (Wp_seq (Wp_seq_region ?_))
 refine qV (r_loadAgg (vs := [(I6 a.kind),(.slice sa a.set.length sc),(.slice aa a.args.length ac),(I6 a.mn),(I6 a.mx),(.bool a.neg)]) rfl agg27 siz27 rfl (Br.cells rfl)) ?_
 refine WpL_enter rfl rfl (by decide) (r_callF (vs := [(.agg (R6 a sa sc aa ac))]) Tryz.func8 kQ kQ rfl) (simple_c _ a _ (ReAt.ext (Ext.trans Xt E5) a hat)) ?_
 rintro _ w19 ⟨rfl,X19⟩
 replace Br := X19.keep Br
 replace E := E.ext X19
 replace E5 := E5.ext X19
 refine qV (r_neq (k := .i64) (a := simE a) (b := 0) rfl rfl) ?_
 refine WpL_nil ?_
 refine Wp_cond (b := decide ((simE a : Int) ≠ 0)) rfl (fun hs => ?_) (fun hs => ?_)
 ·have khs := hs
  replace hs := of_decide_eq_true hs
  refine Wp_seq_region ?_
  refine qA (.bool true) rfl ?_
  refine WpL_nil (Wp_ret (thn_ret ?_))
  refine fin_tmp Tryz.results3 (v := (.bool true)) rfl ?_
  exact ⟨rfl,E⟩
 ·have khs := hs
  replace hs := of_decide_eq_false hs
  have hs0 : simE a = 0 := by omega
  obtain ⟨hok,hsz,hus⟩ := simE_zero.1 hs0
  have hck := check_zeroJ hok hsz (by omega : text.length ≤ 24) htr
  have hlw : relOf text a 0 text.length = true ↔ Lang a text := lang_whole (by omega) hok (look_of a hus)
  refine Wp_skip (thn_normal (Wp_seq_region ?_))
  refine qV (r_loadAgg (vs := [(I6 a.kind),(.slice sa a.set.length sc),(.slice aa a.args.length ac),(I6 a.mn),(I6 a.mx),(.bool a.neg)]) rfl agg27 siz27 rfl (Br.cells rfl)) ?_
  refine qM (.slice ta text.length tc) rfl ?_
  refine WpL_enter rfl rfl (by decide) (r_callF (vs := [(.agg (R6 a sa sc aa ac)),(.slice ta text.length tc)]) Tryz.func9 kQ kQ rfl) ((rmatch_c _ a _ _ text (ReAt.ext (Ext.trans Xt E5) a hat) (htx.ext E5) (hT.ext E)).mono (R' := fun v w => v = .tuple #[.bool (relOf text a 0 text.length),.int .i64 0] ∧ Ext _ w) (fun v w h => by rw [hck,if_pos rfl] at h; exact h)) ?_
  rintro _ w29 ⟨rfl,X29⟩
  replace Br := X29.keep Br
  replace E := E.ext X29
  replace E5 := E5.ext X29
  refine qM (.tuple #[(.bool (relOf text a 0 text.length)),(I6 0)]) rfl ?_
  refine qV (r_extract (vs := #[(.bool (relOf text a 0 text.length)),(I6 0)]) (v := (.bool (relOf text a 0 text.length))) rfl rfl) ?_
  refine qV (r_extract (vs := #[(.bool (relOf text a 0 text.length)),(I6 0)]) (v := (I6 0)) rfl rfl) ?_
  refine qA (.bool (relOf text a 0 text.length)) rfl ?_
  refine qA (I6 0) rfl ?_
  refine WpL_nil (Wp_seq_region ?_)
  refine qV (r_loadAgg (vs := [(I6 a.kind),(.slice sa a.set.length sc),(.slice aa a.args.length ac),(I6 a.mn),(I6 a.mx),(.bool a.neg)]) rfl agg27 siz27 rfl (Br.cells rfl)) ?_
  refine WpL_enter rfl rfl (by decide) (r_callF (vs := [(.agg (R6 a sa sc aa ac))]) Tryz.func10 kQ kQ rfl) (glush_c _ a _ (ReAt.ext (Ext.trans Xt E5) a hat)) ?_
  rintro _ w39 ⟨⟨n1,ea1,ec1,pa1,pc1,xa1,xc1,u1,rfl,hN1,hP1⟩,X39⟩
  replace Br := X39.keep Br
  replace E := E.ext X39
  replace E5 := E5.ext X39
  have hA1 := hN1.at
  refine qM (.tuple #[(.agg #[(I6 n1.states),(I6 n1.start),(.slice ea1 n1.ends.length ec1),(.slice pa1 n1.eps.length pc1),(.slice xa1 n1.edges.length xc1)]),(I6 u1)]) rfl ?_
  refine qV (r_extract (vs := #[(.agg #[(I6 n1.states),(I6 n1.start),(.slice ea1 n1.ends.length ec1),(.slice pa1 n1.eps.length pc1),(.slice xa1 n1.edges.length xc1)]),(I6 u1)]) (v := (.agg #[(I6 n1.states),(I6 n1.start),(.slice ea1 n1.ends.length ec1),(.slice pa1 n1.eps.length pc1),(.slice xa1 n1.edges.length xc1)])) rfl rfl) ?_
  refine qV (r_extract (vs := #[(.agg #[(I6 n1.states),(I6 n1.start),(.slice ea1 n1.ends.length ec1),(.slice pa1 n1.eps.length pc1),(.slice xa1 n1.edges.length xc1)]),(I6 u1)]) (v := (I6 u1)) rfl rfl) ?_
  refine s_allocStore (v := (.agg #[(I6 n1.states),(I6 n1.start),(.slice ea1 n1.ends.length ec1),(.slice pa1 n1.eps.length pc1),(.slice xa1 n1.edges.length xc1)])) (c := #[(I6 n1.states),(I6 n1.start),(.slice ea1 n1.ends.length ec1),(.slice pa1 n1.eps.length pc1),(.slice xa1 n1.edges.length xc1)]) (n := 5) (by decide) zer37 rfl siz37 rfl rfl rfl (by simp [Value.oneCell']) ?_
  intro bg wg Ng
  have Fg := Ng.ge E
  have Fg_E5 := Ng.ge E5
  have Og_br := Ng.lt Br
  replace Br := Ng.keep Br
  replace hA1 := hA1.ext Ng.ext
  replace E := E.ext Ng.ext
  have Bg := Ng.blk
  replace E5 := E5.ext Ng.ext
  refine qA (I6 u1) rfl ?_
  refine WpL_nil (Wp_seq (Wp_seq_region ?_))
  refine qM (I6 0) rfl ?_
  refine qV (r_neq (k := .i64) (a := 0) (b := 0) rfl rfl) ?_
  refine qM (.bool false) rfl ?_
  refine WpL_guard_yes (oj := _) rfl rfl (by decide) rfl ?_
  refine qM (I6 u1) rfl ?_
  refine WpL_guard_yes (oj := _) rfl rfl (by decide) rfl ?_
  obtain ⟨e2,he2⟩ : ∃ e,(decide ((u1 : Int) ≠ 0)) = e := ⟨_,rfl⟩
  refine qV ((r_neq (k := .i64) (a := u1) (b := 0) rfl rfl).trans (by rw [he2]; try rfl)) ?_
  refine qV (r_pick (b := false) (v := (.bool e2)) rfl rfl) ?_
  refine WpL_nil ?_
  subst he2
  refine Wp_cond (b := (decide ((u1 : Int) ≠ 0))) rfl (fun hge => ?_) (fun hge => ?_)
  ·have khge := hge
   have hu1 : u1 = 2 := by rcases glu_agree hP1 hs0 with ⟨h8,_⟩ | ⟨h8,_⟩; exact h8; (rw [h8] at hge; simp at hge)
   refine Wp_seq_region ?_
   refine qM (I6 0) rfl ?_
   refine qV (r_eql (k := .i64) (a := 0) (b := 0) rfl rfl) ?_
   refine qM (.bool true) rfl ?_
   refine WpL_guard_yes (oj := _) rfl rfl (by decide) rfl ?_
   refine qM (I6 u1) rfl ?_
   refine WpL_guard_yes (oj := _) rfl rfl (by decide) rfl ?_
   obtain ⟨e4,he4⟩ : ∃ e,(decide ((u1 : Int) = 2)) = e := ⟨_,rfl⟩
   refine qV ((r_eql (k := .i64) (a := u1) (b := 2) rfl rfl).trans (by rw [he4]; try rfl)) ?_
   refine qV (r_pick (b := true) (v := (.bool e4)) rfl rfl) ?_
   refine qA (.bool e4) rfl ?_
   refine WpL_nil ?_
   subst he4
   refine Wp_ret (thn_ret ?_)
   refine fin_tmp Tryz.results3 (v := (.bool (decide ((u1 : Int) = 2)))) rfl ?_
   exact ⟨bool_eq (by rw [hu1]; rfl),E⟩
  ·have khge := hge
   obtain ⟨hu1,ok1,hp1,hl1⟩ : u1 = 0 ∧ OkN n1 ∧ n1.eps = [] ∧ ∀ w,Acc n1 w ↔ Lang a w := by rcases glu_agree hP1 hs0 with ⟨h8,_⟩ | h8; (rw [h8] at hge; simp at hge); exact h8
   refine Wp_skip (thn_normal (Wp_seq_region ?_))
   refine qV (r_loadAgg (vs := [(I6 n1.states),(I6 n1.start),(.slice ea1 n1.ends.length ec1),(.slice pa1 n1.eps.length pc1),(.slice xa1 n1.edges.length xc1)]) rfl agg37 siz37 rfl (Bg.cells rfl)) ?_
   refine qM (.slice ta text.length tc) rfl ?_
   refine WpL_enter rfl rfl (by decide) (r_callF (vs := [(.agg #[(I6 n1.states),(I6 n1.start),(.slice ea1 n1.ends.length ec1),(.slice pa1 n1.eps.length pc1),(.slice xa1 n1.edges.length xc1)]),(.slice ta text.length tc)]) Tryz.func11 kQ kQ rfl) (nrun_c _ n1 _ _ text hA1 (htx.ext E5)) ?_
   rintro _ w49 ⟨⟨b1,f1,rfl,hR1⟩,X49⟩
   replace Br := X49.keep Br
   replace Bg := X49.keep Bg
   replace hA1 := hA1.ext X49
   replace E := E.ext X49
   replace E5 := E5.ext X49
   obtain ⟨hf1,hb1⟩ := run_okJ ok1 (by omega) htr hR1
   have hbe1 := same_bool (hb1.trans (hl1 text)) hlw
   refine qM (.tuple #[(.bool b1),(I6 f1)]) rfl ?_
   refine qV (r_extract (vs := #[(.bool b1),(I6 f1)]) (v := (.bool b1)) rfl rfl) ?_
   refine qV (r_extract (vs := #[(.bool b1),(I6 f1)]) (v := (I6 f1)) rfl rfl) ?_
   refine qA (.bool b1) rfl ?_
   refine qA (I6 f1) rfl ?_
   refine WpL_nil (Wp_seq (Wp_seq_region ?_))
   refine qM (I6 f1) rfl ?_
   obtain ⟨e5,he5⟩ : ∃ e,(decide ((f1 : Int) ≠ 0)) = e := ⟨_,rfl⟩
   refine qV ((r_neq (k := .i64) (a := f1) (b := 0) rfl rfl).trans (by rw [he5]; try rfl)) ?_
   refine qM (.bool e5) rfl ?_
   refine qG (.bool e5) (nU e5 (.bool b1)) (by cases e5 <;> first | exact gA | exact gB | exact .inl ⟨rfl,r_move (v := (.bool b1)) rfl⟩) ?_
   obtain ⟨e6,he6⟩ : ∃ e,(relOf text a 0 text.length) = e := ⟨_,rfl⟩
   refine qG (.bool e5) (nU e5 (.bool e6)) (by cases e5 <;> first | exact gA | exact gB | exact .inl ⟨rfl,r_move (v := .bool e6) (congrArg Value.bool he6)⟩) ?_
   refine qG (.bool e5) (nU e5 (.bool (b1 != e6))) (by cases e5 <;> first | exact gA | exact gB | exact .inl ⟨rfl,r_neqB (p := b1) (q := e6) Tryz.underlying4 rfl rfl⟩) ?_
   obtain ⟨e7,he7⟩ : ∃ e,(e5 || (b1 != e6)) = e := ⟨_,rfl⟩
   refine qV (r_pick (b := e5) (v := .bool e7) rfl (by rw [← he7]; cases e5 <;> rfl)) ?_
   refine qM (.bool e7) rfl ?_
   refine qG (.bool e7) (nU e7 (P6 bg 3)) (by cases e7 <;> first | exact gA | exact gB | exact .inl ⟨rfl,r_fieldAddr (b := bg) (o := 0) (o' := 3) rfl Tryz.underlying37 rfl siz34 rfl⟩) ?_
   refine qG (.bool e7) (nU e7 (.slice pa1 n1.eps.length pc1)) (by cases e7 <;> first | exact gA | exact gB | exact .inl ⟨rfl,r_load (v := (.slice pa1 n1.eps.length pc1)) rfl flat34 (Bg.cell rfl)⟩) ?_
   refine qG (.bool e7) (nU e7 (I6 (n1.eps.length : Int))) (by cases e7 <;> first | exact gA | exact gB | exact .inl ⟨rfl,r_lenSlice (ad := pa1) (n := n1.eps.length) (cap := pc1) Tryz.underlying34 rfl⟩) ?_
   obtain ⟨e8,he8⟩ : ∃ e,(decide ((0 : Int) < ((n1.eps.length : Nat) : Int))) = e := ⟨_,rfl⟩
   refine qG (.bool e7) (nU e7 (.bool e8)) (by cases e7 <;> first | exact gA | exact gB | exact .inl ⟨rfl,(r_gtr (k := .i64) (a := (n1.eps.length : Int)) (b := 0) rfl rfl).trans (by rw [he8]; try rfl)⟩) ?_
   obtain ⟨e9,he9⟩ : ∃ e,(e7 || e8) = e := ⟨_,rfl⟩
   refine qV (r_pick (b := e7) (v := .bool e9) rfl (by rw [← he9]; cases e7 <;> rfl)) ?_
   refine WpL_nil ?_
   subst he9
   subst he8
   subst he7
   subst he6
   subst he5
   refine Wp_cond (b := (((decide ((f1 : Int) ≠ 0)) || (b1 != (relOf text a 0 text.length))) || (decide ((0 : Int) < (n1.eps.length : Int))))) rfl (fun hbad => ?_) (fun hbad => ?_)
   ·have khbad := hbad
    refine Wp_seq_region ?_
    refine qA (.bool false) rfl ?_
    refine WpL_nil (Wp_ret (thn_ret ?_))
    refine fin_tmp Tryz.results3 (v := (.bool false)) rfl ?_
    exact absurd hbad (by rw [hf1,hbe1,hp1]; simp)
   ·have khbad := hbad
    refine Wp_skip (thn_normal (Wp_seq_region ?_))
    refine qV (r_loadAgg (vs := [(I6 a.kind),(.slice sa a.set.length sc),(.slice aa a.args.length ac),(I6 a.mn),(I6 a.mx),(.bool a.neg)]) rfl agg27 siz27 rfl (Br.cells rfl)) ?_
    refine WpL_enter rfl rfl (by decide) (r_callF (vs := [(.agg (R6 a sa sc aa ac))]) Tryz.func12 kQ kQ rfl) (thom_c _ a _ (ReAt.ext (Ext.trans Xt E5) a hat)) ?_
    rintro _ w59 ⟨⟨n2,ea2,ec2,pa2,pc2,xa2,xc2,u2,rfl,hN2,hP2⟩,X59⟩
    replace Br := X59.keep Br
    replace Bg := X59.keep Bg
    replace hA1 := hA1.ext X59
    replace E := E.ext X59
    replace E5 := E5.ext X59
    have hA2 := hN2.at
    refine qM (.tuple #[(.agg #[(I6 n2.states),(I6 n2.start),(.slice ea2 n2.ends.length ec2),(.slice pa2 n2.eps.length pc2),(.slice xa2 n2.edges.length xc2)]),(I6 u2)]) rfl ?_
    refine qV (r_extract (vs := #[(.agg #[(I6 n2.states),(I6 n2.start),(.slice ea2 n2.ends.length ec2),(.slice pa2 n2.eps.length pc2),(.slice xa2 n2.edges.length xc2)]),(I6 u2)]) (v := (.agg #[(I6 n2.states),(I6 n2.start),(.slice ea2 n2.ends.length ec2),(.slice pa2 n2.eps.length pc2),(.slice xa2 n2.edges.length xc2)])) rfl rfl) ?_
    refine qV (r_extract (vs := #[(.agg #[(I6 n2.states),(I6 n2.start),(.slice ea2 n2.ends.length ec2),(.slice pa2 n2.eps.length pc2),(.slice xa2 n2.edges.length xc2)]),(I6 u2)]) (v := (I6 u2)) rfl rfl) ?_
    refine s_allocStore (v := (.agg #[(I6 n2.states),(I6 n2.start),(.slice ea2 n2.ends.length ec2),(.slice pa2 n2.eps.length pc2),(.slice xa2 n2.edges.length xc2)])) (c := #[(I6 n2.states),(I6 n2.start),(.slice ea2 n2.ends.length ec2),(.slice pa2 n2.eps.length pc2),(.slice xa2 n2.edges.length xc2)]) (n := 5) (by decide) zer37 rfl siz37 rfl rfl rfl (by simp [Value.oneCell']) ?_
    intro bm wm Nm
    have Fm := Nm.ge E
    have Fm_E5 := Nm.ge E5
    have Om_br := Nm.lt Br
    have Om_bg := Nm.lt Bg
    replace Br := Nm.keep Br
    replace Bg := Nm.keep Bg
    replace hA1 := hA1.ext Nm.ext
    replace hA2 := hA2.ext Nm.ext
    replace E := E.ext Nm.ext
    have Bm := Nm.blk
    replace E5 := E5.ext Nm.ext
    refine qA (I6 u2) rfl ?_
    refine WpL_nil (Wp_seq (Wp_seq_region ?_))
    refine qM (I6 u2) rfl ?_
    refine qV (r_neq (k := .i64) (a := u2) (b := 0) rfl rfl) ?_
    refine WpL_nil ?_
    refine Wp_cond (b := decide ((u2 : Int) ≠ 0)) rfl (fun ht2 => ?_) (fun ht2 => ?_)
    ·have kht2 := ht2
     replace ht2 := of_decide_eq_true ht2
     have hu2 : u2 = 2 := by rcases thom_agree hP2 hs0 with ⟨h8,_⟩ | ⟨h8,_⟩; exact h8; exact absurd h8 ht2
     refine Wp_seq_region ?_
     refine qM (I6 u2) rfl ?_
     refine qV (r_eql (k := .i64) (a := u2) (b := 2) rfl rfl) ?_
     refine qA (.bool (decide ((u2 : Int) = 2))) rfl ?_
     refine WpL_nil (Wp_ret (thn_ret ?_))
     refine fin_tmp Tryz.results3 (v := (.bool (decide ((u2 : Int) = 2)))) rfl ?_
     exact ⟨bool_eq (by rw [hu2]; rfl),E⟩
    ·have kht2 := ht2
     replace ht2 := of_decide_eq_false ht2
     obtain ⟨hu2,ok2,hl2⟩ : u2 = 0 ∧ OkN n2 ∧ ∀ w,Acc n2 w ↔ Lang a w := by rcases thom_agree hP2 hs0 with ⟨h8,_⟩ | h8; omega; exact h8
     refine Wp_skip (thn_normal (Wp_seq_region ?_))
     refine qV (r_loadAgg (vs := [(I6 n2.states),(I6 n2.start),(.slice ea2 n2.ends.length ec2),(.slice pa2 n2.eps.length pc2),(.slice xa2 n2.edges.length xc2)]) rfl agg37 siz37 rfl (Bm.cells rfl)) ?_
     refine WpL_enter rfl rfl (by decide) (r_callF (vs := [(.agg #[(I6 n2.states),(I6 n2.start),(.slice ea2 n2.ends.length ec2),(.slice pa2 n2.eps.length pc2),(.slice xa2 n2.edges.length xc2)])]) Tryz.func13 kQ kQ rfl) (bare_c _ n2 _ hA2) ?_
     rintro _ w69 ⟨⟨n3,ea3,ec3,pa3,pc3,xa3,xc3,u3,rfl,hN3,hP3⟩,X69⟩
     replace Br := X69.keep Br
     replace Bg := X69.keep Bg
     replace Bm := X69.keep Bm
     replace hA1 := hA1.ext X69
     replace hA2 := hA2.ext X69
     replace E := E.ext X69
     replace E5 := E5.ext X69
     have hA3 := hN3.at
     refine qM (.tuple #[(.agg #[(I6 n3.states),(I6 n3.start),(.slice ea3 n3.ends.length ec3),(.slice pa3 n3.eps.length pc3),(.slice xa3 n3.edges.length xc3)]),(I6 u3)]) rfl ?_
     refine qV (r_extract (vs := #[(.agg #[(I6 n3.states),(I6 n3.start),(.slice ea3 n3.ends.length ec3),(.slice pa3 n3.eps.length pc3),(.slice xa3 n3.edges.length xc3)]),(I6 u3)]) (v := (.agg #[(I6 n3.states),(I6 n3.start),(.slice ea3 n3.ends.length ec3),(.slice pa3 n3.eps.length pc3),(.slice xa3 n3.edges.length xc3)])) rfl rfl) ?_
     refine qV (r_extract (vs := #[(.agg #[(I6 n3.states),(I6 n3.start),(.slice ea3 n3.ends.length ec3),(.slice pa3 n3.eps.length pc3),(.slice xa3 n3.edges.length xc3)]),(I6 u3)]) (v := (I6 u3)) rfl rfl) ?_
     refine s_allocStore (v := (.agg #[(I6 n3.states),(I6 n3.start),(.slice ea3 n3.ends.length ec3),(.slice pa3 n3.eps.length pc3),(.slice xa3 n3.edges.length xc3)])) (c := #[(I6 n3.states),(I6 n3.start),(.slice ea3 n3.ends.length ec3),(.slice pa3 n3.eps.length pc3),(.slice xa3 n3.edges.length xc3)]) (n := 5) (by decide) zer37 rfl siz37 rfl rfl rfl (by simp [Value.oneCell']) ?_
     intro bk wk Nk
     have Fk := Nk.ge E
     have Fk_E5 := Nk.ge E5
     have Ok_br := Nk.lt Br
     have Ok_bg := Nk.lt Bg
     have Ok_bm := Nk.lt Bm
     replace Br := Nk.keep Br
     replace Bg := Nk.keep Bg
     replace Bm := Nk.keep Bm
     replace hA1 := hA1.ext Nk.ext
     replace hA2 := hA2.ext Nk.ext
     replace hA3 := hA3.ext Nk.ext
     replace E := E.ext Nk.ext
     have Bk := Nk.blk
     replace E5 := E5.ext Nk.ext
     refine qA (I6 u3) rfl ?_
     refine WpL_nil (Wp_seq (Wp_seq_region ?_))
     refine qM (I6 u3) rfl ?_
     refine qV (r_eql (k := .i64) (a := u3) (b := 2) rfl rfl) ?_
     refine WpL_nil ?_
     refine Wp_cond (b := decide ((u3 : Int) = 2)) rfl (fun ht3 => ?_) (fun ht3 => ?_)
     ·have kht3 := ht3
      replace ht3 := of_decide_eq_true ht3
      refine Wp_seq_region ?_
      refine qA (.bool true) rfl ?_
      refine WpL_nil (Wp_ret (thn_ret ?_))
      refine fin_tmp Tryz.results3 (v := (.bool true)) rfl ?_
      exact ⟨rfl,E⟩
     ·have kht3 := ht3
      replace ht3 := of_decide_eq_false ht3
      obtain ⟨hu3,ok3,hp3,hl3⟩ : u3 = 0 ∧ OkN n3 ∧ n3.eps = [] ∧ ∀ w,Acc n3 w ↔ Acc n2 w := by rcases bare_agree hP3 ok2 with h8 | h8; exact absurd h8 ht3; exact h8
      refine Wp_skip (thn_normal (Wp_seq_region ?_))
      refine qV (r_loadAgg (vs := [(I6 n2.states),(I6 n2.start),(.slice ea2 n2.ends.length ec2),(.slice pa2 n2.eps.length pc2),(.slice xa2 n2.edges.length xc2)]) rfl agg37 siz37 rfl (Bm.cells rfl)) ?_
      refine qM (.slice ta text.length tc) rfl ?_
      refine WpL_enter rfl rfl (by decide) (r_callF (vs := [(.agg #[(I6 n2.states),(I6 n2.start),(.slice ea2 n2.ends.length ec2),(.slice pa2 n2.eps.length pc2),(.slice xa2 n2.edges.length xc2)]),(.slice ta text.length tc)]) Tryz.func11 kQ kQ rfl) (nrun_c _ n2 _ _ text hA2 (htx.ext E5)) ?_
      rintro _ w79 ⟨⟨b2,f2,rfl,hR2⟩,X79⟩
      replace Br := X79.keep Br
      replace Bg := X79.keep Bg
      replace Bm := X79.keep Bm
      replace Bk := X79.keep Bk
      replace hA1 := hA1.ext X79
      replace hA2 := hA2.ext X79
      replace hA3 := hA3.ext X79
      replace E := E.ext X79
      replace E5 := E5.ext X79
      obtain ⟨hf2,hb2⟩ := run_okJ ok2 (by omega) htr hR2
      have hbe2 := same_bool (hb2.trans (hl2 text)) hlw
      refine qM (.tuple #[(.bool b2),(I6 f2)]) rfl ?_
      refine qV (r_extract (vs := #[(.bool b2),(I6 f2)]) (v := (.bool b2)) rfl rfl) ?_
      refine qV (r_extract (vs := #[(.bool b2),(I6 f2)]) (v := (I6 f2)) rfl rfl) ?_
      refine qA (.bool b2) rfl ?_
      refine qA (I6 f2) rfl ?_
      refine WpL_nil (Wp_seq_region ?_)
      refine qV (r_loadAgg (vs := [(I6 n3.states),(I6 n3.start),(.slice ea3 n3.ends.length ec3),(.slice pa3 n3.eps.length pc3),(.slice xa3 n3.edges.length xc3)]) rfl agg37 siz37 rfl (Bk.cells rfl)) ?_
      refine qM (.slice ta text.length tc) rfl ?_
      refine WpL_enter rfl rfl (by decide) (r_callF (vs := [(.agg #[(I6 n3.states),(I6 n3.start),(.slice ea3 n3.ends.length ec3),(.slice pa3 n3.eps.length pc3),(.slice xa3 n3.edges.length xc3)]),(.slice ta text.length tc)]) Tryz.func11 kQ kQ rfl) (nrun_c _ n3 _ _ text hA3 (htx.ext E5)) ?_
      rintro _ w89 ⟨⟨b3,f3,rfl,hR3⟩,X89⟩
      replace Br := X89.keep Br
      replace Bg := X89.keep Bg
      replace Bm := X89.keep Bm
      replace Bk := X89.keep Bk
      replace hA1 := hA1.ext X89
      replace hA2 := hA2.ext X89
      replace hA3 := hA3.ext X89
      replace E := E.ext X89
      replace E5 := E5.ext X89
      obtain ⟨hf3,hb3⟩ := run_okJ ok3 (by omega) htr hR3
      have hbe3 := same_bool (hb3.trans ((hl3 text).trans (hl2 text))) hlw
      refine qM (.tuple #[(.bool b3),(I6 f3)]) rfl ?_
      refine qV (r_extract (vs := #[(.bool b3),(I6 f3)]) (v := (.bool b3)) rfl rfl) ?_
      refine qV (r_extract (vs := #[(.bool b3),(I6 f3)]) (v := (I6 f3)) rfl rfl) ?_
      refine qA (.bool b3) rfl ?_
      refine qA (I6 f3) rfl ?_
      refine WpL_nil (Wp_seq_region ?_)
      refine qM (I6 u3) rfl ?_
      refine qM (I6 f2) rfl ?_
      refine qM (I6 f3) rfl ?_
      refine s_buildSlice (ps := [(0,(I6 u3)),(1,(I6 f2)),(2,(I6 f3))]) (c := #[(I6 u3),(I6 f2),(I6 f3)]) (by decide) rfl Tryz.underlying94 siz30 zer30 (by decide) (by decide) (by kernel_rfl) ?_
      intro bq wq Nq
      have Fq := Nq.ge E
      have Fq_E5 := Nq.ge E5
      have Oq_br := Nq.lt Br
      have Oq_bg := Nq.lt Bg
      have Oq_bm := Nq.lt Bm
      have Oq_bk := Nq.lt Bk
      replace Br := Nq.keep Br
      replace Bg := Nq.keep Bg
      replace Bm := Nq.keep Bm
      replace Bk := Nq.keep Bk
      replace hA1 := hA1.ext Nq.ext
      replace hA2 := hA2.ext Nq.ext
      replace hA3 := hA3.ext Nq.ext
      replace E := E.ext Nq.ext
      have Bq := Nq.blk
      replace E5 := E5.ext Nq.ext
      refine WpL_enter rfl rfl (by decide) (r_callF (vs := [(.slice (some ⟨bq,0,none⟩) 3 3)]) Tryz.func14 kQ kQ rfl) (good_c _ _ [u3,f2,f3] (ints_of_blk [u3,f2,f3] Bq (by simp) (by simp))) ?_
      rintro _ w99 ⟨rfl,X99⟩
      replace Br := X99.keep Br
      replace Bg := X99.keep Bg
      replace Bm := X99.keep Bm
      replace Bk := X99.keep Bk
      replace Bq := X99.keep Bq
      replace hA1 := hA1.ext X99
      replace hA2 := hA2.ext X99
      replace hA3 := hA3.ext X99
      replace E := E.ext X99
      replace E5 := E5.ext X99
      obtain ⟨e13,he13⟩ : ∃ e,(!([u3,f2,f3].any fun e => decide (e ≠ 0))) = e := ⟨_,rfl⟩
      refine qV (r_move (v := .bool e13) (congrArg Value.bool he13)) ?_
      refine qG (.bool e13) (yU e13 (.bool b2)) (by cases e13 <;> first | exact gA | exact gB | exact .inl ⟨rfl,r_move (v := (.bool b2)) rfl⟩) ?_
      obtain ⟨e14,he14⟩ : ∃ e,(relOf text a 0 text.length) = e := ⟨_,rfl⟩
      refine qG (.bool e13) (yU e13 (.bool e14)) (by cases e13 <;> first | exact gA | exact gB | exact .inl ⟨rfl,r_move (v := .bool e14) (congrArg Value.bool he14)⟩) ?_
      refine qG (.bool e13) (yU e13 (.bool (b2 == e14))) (by cases e13 <;> first | exact gA | exact gB | exact .inl ⟨rfl,r_eqlB (p := b2) (q := e14) Tryz.underlying4 rfl rfl⟩) ?_
      obtain ⟨e15,he15⟩ : ∃ e,(e13 && (b2 == e14)) = e := ⟨_,rfl⟩
      refine qV (r_pick (b := e13) (v := .bool e15) rfl (by rw [← he15]; cases e13 <;> rfl)) ?_
      refine qM (.bool e15) rfl ?_
      refine qG (.bool e15) (yU e15 (.bool b3)) (by cases e15 <;> first | exact gA | exact gB | exact .inl ⟨rfl,r_move (v := (.bool b3)) rfl⟩) ?_
      obtain ⟨e16,he16⟩ : ∃ e,(relOf text a 0 text.length) = e := ⟨_,rfl⟩
      refine qG (.bool e15) (yU e15 (.bool e16)) (by cases e15 <;> first | exact gA | exact gB | exact .inl ⟨rfl,r_move (v := .bool e16) (congrArg Value.bool he16)⟩) ?_
      refine qG (.bool e15) (yU e15 (.bool (b3 == e16))) (by cases e15 <;> first | exact gA | exact gB | exact .inl ⟨rfl,r_eqlB (p := b3) (q := e16) Tryz.underlying4 rfl rfl⟩) ?_
      obtain ⟨e17,he17⟩ : ∃ e,(e15 && (b3 == e16)) = e := ⟨_,rfl⟩
      refine qV (r_pick (b := e15) (v := .bool e17) rfl (by rw [← he17]; cases e15 <;> rfl)) ?_
      refine qM (.bool e17) rfl ?_
      refine qG (.bool e17) (yU e17 (P6 bk 3)) (by cases e17 <;> first | exact gA | exact gB | exact .inl ⟨rfl,r_fieldAddr (b := bk) (o := 0) (o' := 3) rfl Tryz.underlying37 rfl siz34 rfl⟩) ?_
      refine qG (.bool e17) (yU e17 (.slice pa3 n3.eps.length pc3)) (by cases e17 <;> first | exact gA | exact gB | exact .inl ⟨rfl,r_load (v := (.slice pa3 n3.eps.length pc3)) rfl flat34 (Bk.cell rfl)⟩) ?_
      refine qG (.bool e17) (yU e17 (I6 (n3.eps.length : Int))) (by cases e17 <;> first | exact gA | exact gB | exact .inl ⟨rfl,r_lenSlice (ad := pa3) (n := n3.eps.length) (cap := pc3) Tryz.underlying34 rfl⟩) ?_
      obtain ⟨e18,he18⟩ : ∃ e,(decide ((((n3.eps.length : Nat) : Int) : Int) = 0)) = e := ⟨_,rfl⟩
      refine qG (.bool e17) (yU e17 (.bool e18)) (by cases e17 <;> first | exact gA | exact gB | exact .inl ⟨rfl,(r_eql (k := .i64) (a := (n3.eps.length : Int)) (b := 0) rfl rfl).trans (by rw [he18]; try rfl)⟩) ?_
      obtain ⟨e19,he19⟩ : ∃ e,(e17 && e18) = e := ⟨_,rfl⟩
      refine qV (r_pick (b := e17) (v := .bool e19) rfl (by rw [← he19]; cases e17 <;> rfl)) ?_
      refine qA (.bool e19) rfl ?_
      refine WpL_nil ?_
      subst he19
      subst he18
      subst he17
      subst he16
      subst he15
      subst he14
      subst he13
      refine Wp_ret ?_
      refine fin_tmp Tryz.results3 (v := (.bool ((((!([u3,f2,f3].any fun e => decide (e ≠ 0))) && (b2 == (relOf text a 0 text.length))) && (b3 == (relOf text a 0 text.length))) && (decide ((((n3.eps.length : Nat) : Int) : Int) = 0))))) rfl ?_
      exact ⟨bool_eq (by rw [hu3,hf2,hf3,hbe2,hbe3,hp3]; simp),E⟩
end Go.Proofs
