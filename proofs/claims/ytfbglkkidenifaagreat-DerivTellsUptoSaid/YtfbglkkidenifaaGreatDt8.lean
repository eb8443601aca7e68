/- Contracts and plain lemmas, part 8. -/
import Derived.Tactics
import Derived.Deep.Quiet
import Derived.Laws.AppendOwn
import Derived.KernelRfl
import Derived.Laws.Entries
import Derived.Laws.Build
import Derived.Below
import Derived.RowKit3
import Derived.StillTail
import Derived.Sort.Grow
import Derived.Deep.Draws
import Derived.Test.YtfbglkkidenifaaGreatChecked
import Derived.Laws.StructEq
import Derived.MapKept
import Derived.Laws.BytesArg
import Derived.Shelf.SlSortCmp.WholeK
import Derived.Shelf.Sort.Plain
import Derived.Shelf.Slices.CompactI
import Derived.Test.YtfbglkkidenifaaGreatProg
import Derived.OpenShut
import Derived.ChangeSlices
import Derived.Test.YtfbglkkidenifaaGreatRows
import Derived.Test.YtfbglkkidenifaaGreatDt7
namespace Go.Proofs
open Go Go.Eng Go.Sort
set_option maxRecDepth 100000
theorem zQR {t : Re} {text : List Int} (h : zBp t ≠ 0) : zCn t text = zBp t ∧ zEB t text = false := by
 have h1 : zCn t text = zBp t := by unfold zCn; rw [if_pos h]
 exact ⟨h1, by unfold zEB; rw [if_neg (by rw [h1]; exact h)]⟩
theorem by_bad {t : Re} {c : Int} (h : zBp t ≠ 0) : byE t c = zBp t ∧ byD t c = zBH := by
 have h1 : byE t c = zBp t := by unfold byE; rw [if_pos h]
 exact ⟨h1, by unfold byD; rw [if_neg (by rw [h1]; exact h)]⟩
theorem zOH {t : Re} {text : List Int} (h : zBp t = 0) (hl : 100 < text.length) : zCn t text = 2 ∧ zEB t text = false := by
 have h1 : zCn t text = 2 := by unfold zCn; rw [if_neg (by omega), if_pos hl]
 exact ⟨h1, by unfold zEB; rw [if_neg (by rw [h1]; decide)]⟩
theorem zOG {t : Re} {text : List Int} {k : Nat} {a : Int} (h : zBp t = 0) (hl : ¬ 100 < text.length) (ha : text[k]? = some a) (hr : a < 0 ∨ 1114111 < a) : zCn t text = 1 ∧ zEB t text = false := by
 have h1 : zCn t text = 1 := by
  unfold zCn
  rw [if_neg (by omega), if_neg hl, if_pos]
  exact List.any_eq_true.2 ⟨a, List.mem_of_getElem? ha, by simp [zCe]; omega⟩
 exact ⟨h1, by unfold zEB; rw [if_neg (by rw [h1]; decide)]⟩
theorem zQQ {t : Re} {text : List Int} (h : zBp t = 0) (hl : ¬ 100 < text.length) (hr : ∀ a ∈ text, 0 ≤ a ∧ a ≤ 1114111) (hn : zIG (zCU t) text = none) : zCn t text = 2 ∧ zEB t text = false := by
 have h1 : zCn t text = 2 := by
  unfold zCn
  rw [if_neg (by omega), if_neg hl, if_neg, hn]
  ·rfl
  intro h2
  obtain ⟨a, ha, h3⟩ := List.any_eq_true.1 h2
  have := hr a ha
  simp [zCe] at h3
  omega
 exact ⟨h1, by unfold zEB; rw [if_neg (by rw [h1]; decide)]⟩
theorem zOI {t D : Re} {text : List Int} (h : zBp t = 0) (hl : ¬ 100 < text.length) (hr : ∀ a ∈ text, 0 ≤ a ∧ a ≤ 1114111) (hn : zIG (zCU t) text = some D) : zCn t text = 0 ∧ zEB t text = zBg D := by
 have h1 : zCn t text = 0 := by
  unfold zCn
  rw [if_neg (by omega), if_neg hl, if_neg, hn]
  ·rfl
  intro h2
  obtain ⟨a, ha, h3⟩ := List.any_eq_true.1 h2
  have := hr a ha
  simp [zCe] at h3
  omega
 refine ⟨h1, ?_⟩
 unfold zEB
 rw [if_pos h1, hn]
 rfl
theorem by_arg {t : Re} {c : Int} (h : zBp t = 0) (hr : ¬ (0 ≤ c ∧ c ≤ 1114111)) : byE t c = 1 ∧ byD t c = zBH := by
 have h1 : byE t c = 1 := by unfold byE; rw [if_neg (by omega), if_pos (by rw [Bool.eq_false_iff]; intro h2; simp [zCe] at h2; omega)]
 exact ⟨h1, by unfold byD; rw [if_neg (by rw [h1]; decide)]⟩
theorem by_big {t : Re} {c : Int} (h : zBp t = 0) (hr : 0 ≤ c ∧ c ≤ 1114111) (hz : 300 < (zBK c (zCU t)).size) : byE t c = 2 ∧ byD t c = zBH := by
 have h1 : byE t c = 2 := by unfold byE; rw [if_neg (by omega), if_neg (by simp [zCe]; omega), if_pos hz]
 exact ⟨h1, by unfold byD; rw [if_neg (by rw [h1]; decide)]⟩
theorem zQr {t : Re} {c : Int} (h : zBp t = 0) (hr : 0 ≤ c ∧ c ≤ 1114111) (hz : ¬ 300 < (zBK c (zCU t)).size) : byE t c = 0 ∧ byD t c = zBK c (zCU t) := by
 have h1 : byE t c = 0 := by unfold byE; rw [if_neg (by omega), if_neg (by simp [zCe]; omega), if_neg hz]
 exact ⟨h1, by unfold byD; rw [if_pos h1]⟩
theorem zOX {t : Re} (h : zBp t ≠ 0) : zIo t = zBH := by unfold zIo; rw [if_neg h]
theorem zQZ {t : Re} (h : zBp t = 0) : zIo t = zCU t := by unfold zIo; rw [if_pos h]
set_option maxHeartbeats 4000000 in
theorem zOd (w0 : World) (t : Re) (vs : List Value) (c : Int) (text : List Int) (vt : Value) (ht : zBC w0 t vs) (htx : zBr w0 vt text) (hs : t.size ≤ 2097152) :
  Ret Tryz.prog 3 #[.agg vs.toArray, .int .i64 c, vt] w0 fun v w => v = .bool true ∧ Ext w0 w := by
 have ht0 := ht
 obtain ⟨sa, sc, aa, ac, rfl, _, _, _⟩ := ht.form
 obtain ⟨ta, tc, rfl⟩ := zCA.form htx
 simp only [List.length_map] at htx ⊢
 have hti := zAc.of_at t ht0
 obtain ⟨F, hF⟩ : ∃ F, F = zIo t := ⟨_, rfl⟩
 obtain ⟨Y, hY⟩ : ∃ Y, Y = byD t c := ⟨_, rfl⟩
 refine zAk Tryz.func3 rfl Tryz.ntmps3 (Nat.le_of_ble_eq_true rfl) ?_
 have E : Chg zAh w0 w0 := Chg.refl _ _
 refine zAA ?_
 refine zBL (v := (.agg (R6 t sa sc aa ac))) (c := (R6 t sa sc aa ac)) (by decide) rfl rfl ?_
 intro br wr Nr
 have Fr := Nr.ge E
 replace E := E.ext Nr.ext
 have Br := Nr.blk
 refine qA (.bool false) rfl ?_
 refine zAB (zAA ?_)
 refine qV (zAG (vs := [(I6 t.kind), (.slice sa t.set.length sc), (.slice aa t.args.length ac), (I6 t.mn), (I6 t.mx), (.bool t.neg)]) rfl zAb zAH rfl (Br.cells rfl)) ?_
 refine zAL rfl rfl (by decide) (zAT (vs := [(.agg (R6 t sa sc aa ac))]) Tryz.func9 nm9 bd9 rfl) (zPy _ t _ (zBC.ext E t ht0) hs) ?_
 rintro _ w9 ⟨rfl, X9⟩
 replace Br := X9.keep Br
 replace E := E.ext X9
 refine qA (I6 (zBp t)) rfl ?_
 refine zAB (zAA ?_)
 refine qV (zAG (vs := [(I6 t.kind), (.slice sa t.set.length sc), (.slice aa t.args.length ac), (I6 t.mn), (I6 t.mx), (.bool t.neg)]) rfl zAb zAH rfl (Br.cells rfl)) ?_
 refine zAL rfl rfl (by decide) (zAT (vs := [(.agg (R6 t sa sc aa ac))]) Tryz.func10 nm10 bd10 rfl) ((zQd _ (fun b => b < w0.heap.size) t _ (zAc.ext E t hti) (fun y hy => by have := E.size; have h2 : y < w0.heap.size := hy; omega)).mono (R' := fun r w => zRK (fun _ => True) F (zBp t) r w ∧ Ext w9 w) (fun r w h => ⟨zLo (S' := fun b => w9.heap.size ≤ b) (fun b hb => trivial) (by rw [hF]; exact h.1), h.2⟩)) ?_
 rintro _ w19 ⟨⟨fa, fc, ga, gc, rfl, hFm⟩, X19⟩
 replace Br := X19.keep Br
 replace E := E.ext X19
 obtain ⟨h19, hh19⟩ : ∃ h, h = w19.heap.size := ⟨_, rfl⟩
 replace hFm := zAc.mono (S' := fun b => b < h19) (fun b hb => by rw [hh19]; exact hb.2) F (zAc.lt F hFm)
 refine qM (.tuple #[(.agg (R6 F fa fc ga gc)), (I6 (zBp t))]) rfl ?_
 refine qV (zCP (vs := #[(.agg (R6 F fa fc ga gc)), (I6 (zBp t))]) (v := (.agg (R6 F fa fc ga gc))) rfl rfl) ?_
 refine qV (zCP (vs := #[(.agg (R6 F fa fc ga gc)), (I6 (zBp t))]) (v := (I6 (zBp t))) rfl rfl) ?_
 refine zAi (v := (.agg (R6 F fa fc ga gc))) (c := (R6 F fa fc ga gc)) (n := 6) (by decide) zAs rfl zAH rfl rfl rfl (by simp [Value.oneCell']) ?_
 intro bf wf Nf
 have Ff := Nf.ge E
 have Of_br := Nf.lt Br
 replace Br := Nf.keep Br
 replace hFm := zAc.ext Nf.ext F hFm
 replace E := E.ext Nf.ext
 have Bf := Nf.blk
 refine qA (I6 (zBp t)) rfl ?_
 refine zAB (zAA ?_)
 refine qV (zAG (vs := [(I6 t.kind), (.slice sa t.set.length sc), (.slice aa t.args.length ac), (I6 t.mn), (I6 t.mx), (.bool t.neg)]) rfl zAb zAH rfl (Br.cells rfl)) ?_
 refine qM (I6 c) rfl ?_
 refine zAL rfl rfl (by decide) (zAT (vs := [(.agg (R6 t sa sc aa ac)), (I6 c)]) Tryz.func11 nm11 bd11 rfl) ((dby_c _ (fun b => b < w0.heap.size) t _ c (zAc.ext E t hti) (fun y hy => by have := E.size; have h2 : y < w0.heap.size := hy; omega)).mono (R' := fun r w => zRK (fun _ => True) Y (byE t c) r w ∧ Ext _ w) (fun r w h => ⟨zLo (S' := fun b => _ ≤ b) (fun b hb => trivial) (by rw [hY]; exact h.1), h.2⟩)) ?_
 rintro _ w29 ⟨⟨ya, yc, za, zc, rfl, hYm⟩, X29⟩
 replace Br := X29.keep Br
 replace Bf := X29.keep Bf
 replace hFm := zAc.ext X29 F hFm
 replace E := E.ext X29
 refine qM (.tuple #[(.agg (R6 Y ya yc za zc)), (I6 (byE t c))]) rfl ?_
 refine qV (zCP (vs := #[(.agg (R6 Y ya yc za zc)), (I6 (byE t c))]) (v := (.agg (R6 Y ya yc za zc))) rfl rfl) ?_
 refine qV (zCP (vs := #[(.agg (R6 Y ya yc za zc)), (I6 (byE t c))]) (v := (I6 (byE t c))) rfl rfl) ?_
 refine zAi (v := (.agg (R6 Y ya yc za zc))) (c := (R6 Y ya yc za zc)) (n := 6) (by decide) zAs rfl zAH rfl rfl rfl (by simp [Value.oneCell']) ?_
 intro bx wx Nx
 have Fx := Nx.ge E
 have Ox_br := Nx.lt Br
 have Ox_bf := Nx.lt Bf
 replace Br := Nx.keep Br
 replace Bf := Nx.keep Bf
 replace hFm := zAc.ext Nx.ext F hFm
 replace hYm := zAc.ext Nx.ext Y hYm
 replace E := E.ext Nx.ext
 have Bx := Nx.blk
 refine qA (I6 (byE t c)) rfl ?_
 refine zAB (zAA ?_)
 refine qV (zAG (vs := [(I6 t.kind), (.slice sa t.set.length sc), (.slice aa t.args.length ac), (I6 t.mn), (I6 t.mx), (.bool t.neg)]) rfl zAb zAH rfl (Br.cells rfl)) ?_
 refine qM (.slice ta text.length tc) rfl ?_
 refine zAL rfl rfl (by decide) (zAT (vs := [(.agg (R6 t sa sc aa ac)), (.slice ta text.length tc)]) Tryz.func12 nm12 bd12 rfl) (zPN _ (fun b => b < w0.heap.size) t _ _ text (zAc.ext E t hti) (fun y hy => by have := E.size; have h2 : y < w0.heap.size := hy; omega) (htx.ext E)) ?_
 rintro _ w39 ⟨rfl, X39⟩
 replace Br := X39.keep Br
 replace Bf := X39.keep Bf
 replace Bx := X39.keep Bx
 replace hFm := zAc.ext X39 F hFm
 replace hYm := zAc.ext X39 Y hYm
 replace E := E.ext X39
 refine qM (.tuple #[(.bool (zEB t text)), (I6 (zCn t text))]) rfl ?_
 refine qV (zCP (vs := #[(.bool (zEB t text)), (I6 (zCn t text))]) (v := (.bool (zEB t text))) rfl rfl) ?_
 refine qV (zCP (vs := #[(.bool (zEB t text)), (I6 (zCn t text))]) (v := (I6 (zCn t text))) rfl rfl) ?_
 refine qA (.bool (zEB t text)) rfl ?_
 refine qA (I6 (zCn t text)) rfl ?_
 refine zAB (zAP (zAA ?_))
 refine zAL rfl rfl (by decide) (zAT (vs := []) Tryz.func13 nm13 bd13 rfl) (zNK _) ?_
 rintro _ w49 ⟨rfl, X49⟩
 replace Br := X49.keep Br
 replace Bf := X49.keep Bf
 replace Bx := X49.keep Bx
 replace hFm := zAc.ext X49 F hFm
 replace hYm := zAc.ext X49 Y hYm
 replace E := E.ext X49
 refine qV (zCV (b := true) rfl) ?_
 refine qM (.bool false) rfl ?_
 refine zAF (oj := _) rfl rfl (by decide) rfl ?_
 refine qV (zAG (vs := [(I6 t.kind), (.slice sa t.set.length sc), (.slice aa t.args.length ac), (I6 t.mn), (I6 t.mx), (.bool t.neg)]) rfl zAb zAH rfl (Br.cells rfl)) ?_
 refine zAF (oj := _) rfl rfl (by decide) rfl ?_
 refine zAL rfl rfl (by decide) (zAT (vs := [(.agg (R6 t sa sc aa ac))]) Tryz.func14 nm14 bd14 rfl) (zKf _ t _ (zBC.ext E t ht0)) ?_
 rintro _ w59 ⟨rfl, X59⟩
 replace Br := X59.keep Br
 replace Bf := X59.keep Bf
 replace Bx := X59.keep Bx
 replace hFm := zAc.ext X59 F hFm
 replace hYm := zAc.ext X59 Y hYm
 replace E := E.ext X59
 refine zAF (oj := _) rfl rfl (by decide) rfl ?_
 refine qM (I6 (zBp t)) rfl ?_
 refine zAF (oj := _) rfl rfl (by decide) rfl ?_
 refine qV (zBz (k := .i64) (a := zBp t) (b := zBp t) rfl rfl) ?_
 refine qV (zAd (b := false) (v := (.bool (decide ((zBp t : Int) ≠ zBp t)))) rfl rfl) ?_
 refine qM (.bool (decide ((zBp t : Int) ≠ zBp t))) rfl ?_
 have hg1 : (decide ((zBp t : Int) ≠ zBp t)) = false := by simp
 refine zAF (oj := _) rfl rfl (by decide) (congrArg Value.bool hg1) ?_
 refine qM (I6 (zBp t)) rfl ?_
 refine zAF (oj := _) rfl rfl (by decide) (congrArg Value.bool hg1) ?_
 refine qM (I6 (zBp t)) rfl ?_
 refine zAF (oj := _) rfl rfl (by decide) (congrArg Value.bool hg1) ?_
 refine qV (zBz (k := .i64) (a := zBp t) (b := zBp t) rfl rfl) ?_
 refine qV (zAd (b := decide ((zBp t : Int) ≠ zBp t)) (v := (.bool (decide ((zBp t : Int) ≠ zBp t)))) rfl (by rw [hg1]; rfl)) ?_
 refine zAB ?_
 refine zAX (congrArg Value.bool hg1) ?_
 refine zAR (zAC (zAP (zAA ?_)))
 refine qM (I6 (zBp t)) rfl ?_
 refine qV (zBz (k := .i64) (a := zBp t) (b := 0) rfl rfl) ?_
 refine zAB ?_
 refine zAM (b := decide ((zBp t : Int) ≠ 0)) rfl (fun hf => ?_) (fun hf => ?_)
 ·have khf := hf
  replace hf := of_decide_eq_true hf
  obtain ⟨hb1, hb2⟩ := by_bad (c := c) hf
  obtain ⟨hm1, hm2⟩ := zQR (text := text) hf
  refine zAA ?_
  refine qM (I6 (byE t c)) rfl ?_
  refine qM (I6 (zBp t)) rfl ?_
  refine qV (zAg (k := .i64) (a := byE t c) (b := zBp t) rfl rfl) ?_
  refine qM (.bool (decide ((byE t c : Int) = zBp t))) rfl ?_
  have hg3 : (decide ((byE t c : Int) = zBp t)) = true := decide_eq_true hb1
  refine zAF (oj := _) rfl rfl (by decide) (congrArg Value.bool hg3) ?_
  refine qM (I6 (zCn t text)) rfl ?_
  refine zAF (oj := _) rfl rfl (by decide) (congrArg Value.bool hg3) ?_
  refine qM (I6 (zBp t)) rfl ?_
  refine zAF (oj := _) rfl rfl (by decide) (congrArg Value.bool hg3) ?_
  refine qV (zAg (k := .i64) (a := zCn t text) (b := zBp t) rfl rfl) ?_
  refine qV (zAd (b := decide ((byE t c : Int) = zBp t)) (v := (.bool (decide ((zCn t text : Int) = zBp t)))) rfl (by rw [hg3]; rfl)) ?_
  refine qM (.bool (decide ((zCn t text : Int) = zBp t))) rfl ?_
  have hg4 : (decide ((zCn t text : Int) = zBp t)) = true := decide_eq_true hm1
  refine zAF (oj := _) rfl rfl (by decide) (congrArg Value.bool hg4) ?_
  refine qM (.bool (zEB t text)) rfl ?_
  refine zAF (oj := _) rfl rfl (by decide) (congrArg Value.bool hg4) ?_
  refine qV (zCV (b := zEB t text) rfl) ?_
  refine qV (zAd (b := decide ((zCn t text : Int) = zBp t)) (v := (.bool (!(zEB t text)))) rfl (by rw [hg4]; rfl)) ?_
  refine qM (.bool (!(zEB t text))) rfl ?_
  have hg5 : (!(zEB t text)) = true := by rw [hm2]; rfl
  refine zAF (oj := _) rfl rfl (by decide) (congrArg Value.bool hg5) ?_
  refine qV (zAG (vs := [(I6 F.kind), (.slice fa F.set.length fc), (.slice ga F.args.length gc), (I6 F.mn), (I6 F.mx), (.bool F.neg)]) rfl zAb zAH rfl (Bf.cells rfl)) ?_
  refine zAF (oj := _) rfl rfl (by decide) (congrArg Value.bool hg5) ?_
  refine qV (zBW (ps := []) (v := (.agg #[(I6 0), (.slice none 0 0), (.slice none 0 0), (I6 0), (I6 0), (.bool false)])) rfl (by kernel_rfl)) ?_
  refine zAF (oj := _) rfl rfl (by decide) (congrArg Value.bool hg5) ?_
  refine zAL rfl rfl (by decide) (zAT (vs := [(.agg (R6 F fa fc ga gc)), (.agg #[(I6 0), (.slice none 0 0), (.slice none 0 0), (I6 0), (I6 0), (.bool false)])]) Tryz.func15 zPI zPT rfl) (zFD (zAc.at F hFm) (zAc.at _ (zBN (fun _ => True) _ 0)) (by rw [hF]; exact zOX hf)) ?_
  rintro _ w69 ⟨rfl, X69⟩
  replace Br := X69.keep Br
  replace Bf := X69.keep Bf
  replace Bx := X69.keep Bx
  replace hFm := zAc.ext X69 F hFm
  replace hYm := zAc.ext X69 Y hYm
  replace E := E.ext X69
  refine qV (zAd (b := !(zEB t text)) (v := (.bool true)) rfl (by rw [hg5]; rfl)) ?_
  refine qM (.bool true) rfl ?_
  refine zAF (oj := _) rfl rfl (by decide) rfl ?_
  refine qV (zAG (vs := [(I6 Y.kind), (.slice ya Y.set.length yc), (.slice za Y.args.length zc), (I6 Y.mn), (I6 Y.mx), (.bool Y.neg)]) rfl zAb zAH rfl (Bx.cells rfl)) ?_
  refine zAF (oj := _) rfl rfl (by decide) rfl ?_
  refine qV (zBW (ps := []) (v := (.agg #[(I6 0), (.slice none 0 0), (.slice none 0 0), (I6 0), (I6 0), (.bool false)])) rfl (by kernel_rfl)) ?_
  refine zAF (oj := _) rfl rfl (by decide) rfl ?_
  refine zAL rfl rfl (by decide) (zAT (vs := [(.agg (R6 Y ya yc za zc)), (.agg #[(I6 0), (.slice none 0 0), (.slice none 0 0), (I6 0), (I6 0), (.bool false)])]) Tryz.func15 zPI zPT rfl) (zFD (zAc.at Y hYm) (zAc.at _ (zBN (fun _ => True) _ 0)) (by rw [hY]; exact hb2)) ?_
  rintro _ w79 ⟨rfl, X79⟩
  replace Br := X79.keep Br
  replace Bf := X79.keep Bf
  replace Bx := X79.keep Bx
  replace hFm := zAc.ext X79 F hFm
  replace hYm := zAc.ext X79 Y hYm
  replace E := E.ext X79
  refine qV (zAd (b := true) (v := (.bool true)) rfl rfl) ?_
  refine qA (.bool true) rfl ?_
  refine zAB (zAQ (zAI ?_))
  refine zAS Tryz.results3 (v := (.bool true)) rfl ?_
  exact ⟨rfl, E⟩
 ·have khf := hf
  replace hf := of_decide_eq_false hf
  have hc0 : zBp t = 0 := by omega
  obtain ⟨hok, hsz, hu, hsim, hsimz⟩ := zFP hc0
  refine zAR (zAC (zAP (zAA ?_)))
  refine qV (zAG (vs := [(I6 t.kind), (.slice sa t.set.length sc), (.slice aa t.args.length ac), (I6 t.mn), (I6 t.mx), (.bool t.neg)]) rfl zAb zAH rfl (Br.cells rfl)) ?_
  refine zAL rfl rfl (by decide) (zAT (vs := [(.agg (R6 t sa sc aa ac))]) Tryz.func16 nm16 bd16 rfl) (zOL _ t _ (zBC.ext E t ht0) hs hok) ?_
  rintro _ w69 ⟨⟨lb, rfl, hlb⟩, X69⟩
  replace Br := X69.keep Br
  replace Bf := X69.keep Bf
  replace Bx := X69.keep Bx
  replace hFm := zAc.ext X69 F hFm
  replace hYm := zAc.ext X69 Y hYm
  replace E := E.ext X69
  refine qV (zCV (b := lb) rfl) ?_
  refine zAB ?_
  refine zAM (b := !lb) rfl (fun hl => ?_) (fun hl => ?_)
  ·have khl := hl
   replace hl := by simpa using hl
   refine zAA ?_
   refine qA (.bool true) rfl ?_
   refine zAB (zAQ (zAI ?_))
   refine zAS Tryz.results3 (v := (.bool true)) rfl ?_
   exact ⟨rfl, E⟩
  ·have khl := hl
   replace hl := by simpa using hl
   have hs40 : t.size ≤ 40 := hlb (by simpa using hl)
   have hFs : F = zCU t := by rw [hF]; exact zQZ hc0
   have hFo : zAq F := by rw [hFs]; exact hsim
   have hFz : F.size ≤ 300 := by rw [hFs]; exact hsimz
   refine zAR (zAC (zAP (zAP ?_)))
   obtain ⟨Fs7, hFs7⟩ : ∃ Fs : List Fact, Fs = [.eq (.agg (R6 F fa fc ga gc)), .eq (.agg (R6 t sa sc aa ac)), .gen (reG (fun _ => True) F) (zAy _ _), .eq (.bool true), .eq (.bool false)] := ⟨_, rfl⟩
   refine zEF [79, 80, 81, 82, 83] [[], [], [1], [0, 2], [3]] Fs7 hFs7 mixed (by kernel_rfl) (by kernel_rfl) ?_ ?_
   ·intro wd X0
    refine DagSteps.cons (fun s' w' X U H => Or.inl ⟨?_, ?_⟩) ?_
    ·exact zAE rfl
    ·exact zAJ (zAG (vs := [(I6 F.kind), (.slice fa F.set.length fc), (.slice ga F.args.length gc), (I6 F.mn), (I6 F.mx), (.bool F.neg)]) (U 8 rfl) zAb zAH rfl (((X0.trans X).keep Bf).cells rfl)) (Ext.refl _) rfl
    refine DagSteps.cons (fun s' w' X U H => Or.inl ⟨?_, ?_⟩) ?_
    ·exact zAE rfl
    ·exact zAJ (zAG (vs := [(I6 t.kind), (.slice sa t.set.length sc), (.slice aa t.args.length ac), (I6 t.mn), (I6 t.mx), (.bool t.neg)]) (U 3 rfl) zAb zAH rfl (((X0.trans X).keep Br).cells rfl)) (Ext.refl _) rfl
    refine DagSteps.cons (fun s' w' X U H => Or.inl ⟨?_, ?_⟩) ?_
    ·exact zAE rfl
    ·have e80 : s' 80 = (.agg #[(.int .i64 t.kind), (.slice sa t.set.length sc), (.slice aa t.args.length ac), (.int .i64 t.mn), (.int .i64 t.mx), (.bool t.neg)]) := H 1 rfl 80 (.eq (.agg #[(.int .i64 t.kind), (.slice sa t.set.length sc), (.slice aa t.args.length ac), (.int .i64 t.mn), (.int .i64 t.mx), (.bool t.neg)])) rfl (by rw [hFs7]; rfl)
     exact zAp (zAT (vs := [(.agg (R6 t sa sc aa ac))]) Tryz.func17 nm17 bd17 (zLg e80)) ((zIX t.size t _ _ (fun b => b < w0.heap.size) (Nat.le_refl _) (by omega) (zJa hok hu) (zAc.ext (Ext.trans E (X0.trans X)) t hti) (fun y hy => by have := E.size; have := X0.size; have := X.size; have h2 : y < w0.heap.size := hy; omega)).mono (fun r w h => ⟨zBd (S' := fun b => b < w0.heap.size ∨ w'.heap.size ≤ b) (fun _ _ => trivial) (by rw [hFs]; exact h.1), h.2⟩))
    refine DagSteps.cons (fun s' w' X U H => Or.inl ⟨?_, ?_⟩) ?_
    ·exact zAE rfl
    ·have e79 : s' 79 = (.agg #[(.int .i64 F.kind), (.slice fa F.set.length fc), (.slice ga F.args.length gc), (.int .i64 F.mn), (.int .i64 F.mx), (.bool F.neg)]) := H 0 rfl 79 (.eq (.agg #[(.int .i64 F.kind), (.slice fa F.set.length fc), (.slice ga F.args.length gc), (.int .i64 F.mn), (.int .i64 F.mx), (.bool F.neg)])) rfl (by rw [hFs7]; rfl)
     obtain ⟨xa81, xc81, ya81, yc81, e81, r81⟩ := H 2 rfl 81 (.gen (reG (fun _ => True) F) (zAy _ _)) rfl (by rw [hFs7]; rfl)
     exact zAp (zAT (vs := [(.agg (R6 F fa fc ga gc)), (.agg (R6 F xa81 xc81 ya81 yc81))]) Tryz.func15 zPI zPT (zGt e79 e81)) (zFD (zAc.at F (zAc.ext (X0.trans X) F hFm)) (zAc.at F r81) rfl)
    refine DagSteps.cons (fun s' w' X U H => Or.inl ⟨?_, ?_⟩) ?_
    ·exact zAE rfl
    ·have e82 : s' 82 = (.bool true) := H 3 rfl 82 (.eq (.bool true)) rfl (by rw [hFs7]; rfl)
     exact zAJ (zCV (b := true) e82) (Ext.refl _) rfl
    exact DagSteps.nil
   ·intro s' w7 X7 U H
    obtain ⟨j7, rfl⟩ := zBG.out (σ := s') (l := [(1, (.int .i64 c)), (2, (.slice ta text.length tc)), (8, (.pointer (some ⟨bf, 0, none⟩))), (10, (.pointer (some ⟨bx, 0, none⟩))), (11, (.int .i64 (byE t c))), (12, (.bool (zEB t text))), (13, (.int .i64 (zCn t text))), (83, (.bool false))]) ⟨U 1 rfl, U 2 rfl, U 8 rfl, U 10 rfl, U 11 rfl, U 12 rfl, U 13 rfl, (show s' 83 = (.bool false) from H 4 83 (.eq (.bool false)) rfl (by rw [hFs7]; rfl)), trivial⟩
    clear U H
    replace Br := X7.keep Br
    replace Bf := X7.keep Bf
    replace Bx := X7.keep Bx
    replace hFm := zAc.ext X7 F hFm
    replace hYm := zAc.ext X7 Y hYm
    replace E := E.ext X7
    have hfl : bf < (w7).heap.size ∧ h19 ≤ bf := ⟨Bf.lt, by have := Nf.eq; omega⟩
    have E2 : Chg zAh w7 w7 := Chg.refl _ _
    refine zAC ?_
    refine zAX rfl ?_
    refine zAR (zAC (zAA ?_))
    refine qV (zBW (ps := []) (v := (.agg #[(I6 0), (.slice none 0 0), (.slice none 0 0), (I6 0), (I6 0), (.bool false)])) rfl (by kernel_rfl)) ?_
    refine zAi (v := (.agg #[(I6 0), (.slice none 0 0), (.slice none 0 0), (I6 0), (I6 0), (.bool false)])) (c := #[(I6 0), (.slice none 0 0), (.slice none 0 0), (I6 0), (I6 0), (.bool false)]) (n := 6) (by decide) zAs rfl zAH rfl rfl rfl (by simp [Value.oneCell']) ?_
    intro bv wv Nv
    have Fv := Nv.ge E
    have Fv_E2 := Nv.ge E2
    have Ov_br := Nv.lt Br
    have Ov_bf := Nv.lt Bf
    have Ov_bx := Nv.lt Bx
    replace Br := Nv.keep Br
    replace Bf := Nv.keep Bf
    replace Bx := Nv.keep Bx
    replace E := E.ext Nv.ext
    have Bv := Nv.blk
    replace E2 := E2.ext Nv.ext
    refine qA (I6 1) rfl ?_
    refine zAB ?_
    refine zHX (fun σ W8 => ∃ (e : Int) (Z : Re) (wa : Option Addr) (wc : Nat) (ua : Option Addr) (uc : Nat), (∃ jj_, σ = zCl jj_ [(2, (.slice ta text.length tc)), (8, (P6 bf 0)), (10, (P6 bx 0)), (11, (I6 (byE t c))), (12, (.bool (zEB t text))), (13, (I6 (zCn t text))), (14, (P6 bv 0)), (15, (I6 e))]) ∧ Chg zAh w0 W8 ∧ Chg zAh w7 W8 ∧ Blk W8 br (R6 t sa sc aa ac) 25 ∧ Blk W8 bf (R6 F fa fc ga gc) 25 ∧ Blk W8 bx (R6 Y ya yc za zc) 25 ∧ Blk W8 bv (#[.int .i64 Z.kind, .slice wa Z.set.length wc, .slice ua Z.args.length uc, .int .i64 Z.mn, .int .i64 Z.mx, .bool Z.neg]) 25 ∧ (e = byE t c) ∧ (Z = Y) ∧ (zBC W8 Z [.int .i64 Z.kind, .slice wa Z.set.length wc, .slice ua Z.args.length uc, .int .i64 Z.mn, .int .i64 Z.mx, .bool Z.neg])) ?_ ?_
    ·skip
     refine zAA ?_
     refine qM (I6 c) rfl ?_
     obtain ⟨e9, he9⟩ : ∃ e, (decide ((0 : Int) ≤ c)) = e := ⟨_, rfl⟩
     refine qV ((zFE (k := .i64) (a := c) (b := 0) rfl rfl).trans (by rw [he9]; try rfl)) ?_
     refine qM (.bool e9) rfl ?_
     refine qG (.bool e9) (yU e9 (I6 c)) (by cases e9 <;> first | exact gA | exact gB | exact .inl ⟨rfl, zAn (v := (I6 c)) rfl⟩) ?_
     obtain ⟨e10, he10⟩ : ∃ e, (decide ((c : Int) ≤ 1114111)) = e := ⟨_, rfl⟩
     refine qG (.bool e9) (yU e9 (.bool e10)) (by cases e9 <;> first | exact gA | exact gB | exact .inl ⟨rfl, (zDu (k := .i64) (a := c) (b := 1114111) rfl rfl).trans (by rw [he10]; try rfl)⟩) ?_
     obtain ⟨e11, he11⟩ : ∃ e, (e9 && e10) = e := ⟨_, rfl⟩
     refine qV (zAd (b := e9) (v := .bool e11) rfl (by rw [← he11]; cases e9 <;> rfl)) ?_
     refine zAB ?_
     subst he11
     subst he10
     subst he9
     refine zAM (b := ((decide ((0 : Int) ≤ c)) && (decide ((c : Int) ≤ 1114111)))) rfl (fun hr => ?_) (fun hr => ?_)
     ·have khr := hr
      have hr2 : 0 ≤ c ∧ c ≤ 1114111 := by simpa using hr
      obtain ⟨D, hD⟩ : ∃ D, D = zBK c F := ⟨_, rfl⟩
      have hDs : D = zBK c (zCU t) := by rw [hD, hFs]
      have hDz : D.size ≤ 200000 := by rw [hD]; exact zCY hFo hFz
      have hpl : ((zEZ D).take (301 : Int).toNat).length = min 301 D.size := by rw [List.length_take, zDy]; rfl
      refine zAA ?_
      refine qV (zAG (vs := [(I6 F.kind), (.slice fa F.set.length fc), (.slice ga F.args.length gc), (I6 F.mn), (I6 F.mx), (.bool F.neg)]) rfl zAb zAH rfl (Bf.cells rfl)) ?_
      refine qM (I6 c) rfl ?_
      refine zAL rfl rfl (by decide) (zAT (vs := [(.agg (R6 F fa fc ga gc)), (I6 c)]) Tryz.func18 nm18 bd18 rfl) ((zIx c _ (fun b => b < h19) F _ hFo hFz (zAc.ext E2 F hFm) (fun y hy => by have h2 : y < h19 := hy; have := E2.size; have := hfl.1; have := hfl.2; omega)).mono (R' := fun r w => reG (fun b => b < h19 ∨ bv < b) D r w ∧ Ext wv w) (fun r w h => by obtain ⟨⟨sa, sc, aa, ac, h1, h2⟩, h3⟩ := h; rw [← hD] at h1 h2; exact ⟨⟨sa, sc, aa, ac, h1, zAc.mono (fun b hb => hb.imp id fun h4 => by have h5 : wv.heap.size ≤ b := h4; have := Nv.eq; have := Nv.size; omega) _ h2⟩, h3⟩)) ?_
      rintro _ w79 ⟨⟨da, dc, ea, ec, rfl, hDm⟩, X79⟩
      replace Br := X79.keep Br
      replace Bf := X79.keep Bf
      replace Bx := X79.keep Bx
      replace Bv := X79.keep Bv
      replace E := E.ext X79
      replace E2 := E2.ext X79
      refine qW (R6 D da dc ea ec) rfl rfl zAH Bv ?_
      intro w13 S13
      replace hDm := zAc.chg S13.chg (fun y hy h => by have h2 : y = bv := h; have := hfl.1; have := hfl.2; have := Nv.eq; rcases hy with h1 | h1; omega; omega) D hDm
      replace Br := S13.keep (by omega) Br
      replace Bf := S13.keep (by omega) Bf
      replace Bx := S13.keep (by omega) Bx
      replace E := S13.stp E
      replace E2 := S13.step E2 (Or.inl (by omega))
      replace Bv := S13.blk
      refine qA (I6 0) rfl ?_
      refine zAB (zAA ?_)
      refine qV (zAG (vs := [(I6 D.kind), (.slice da D.set.length dc), (.slice ea D.args.length ec), (I6 D.mn), (I6 D.mx), (.bool D.neg)]) rfl zAb zAH rfl (Bv.cells rfl)) ?_
      refine zAL rfl rfl (by decide) (zAT (vs := [(.agg (R6 D da dc ea ec)), (I6 301)]) Tryz.func19 nm19 bd19 rfl) (zMV _ D _ _ (zAc.at D hDm) (by omega)) ?_
      rintro _ w89 ⟨la, lc, rows, rfl, hsl, hrows, X89⟩
      replace Br := X89.keep Br
      replace Bf := X89.keep Bf
      replace Bx := X89.keep Bx
      replace Bv := X89.keep Bv
      replace E := E.ext X89
      replace E2 := E2.ext X89
      refine qV (zAV (ad := la) (n := ((zEZ D).take (301 : Int).toNat).length) (cap := lc) Tryz.underlying23 rfl) ?_
      refine qV (zCM (k := .i64) (a := ((((zEZ D).take (301 : Int).toNat).length : Nat) : Int)) (b := 300) rfl rfl) ?_
      refine zAB ?_
      refine zAM (b := decide ((300 : Int) < ((((zEZ D).take (301 : Int).toNat).length : Nat) : Int))) rfl (fun hz => ?_) (fun hz => ?_)
      ·have khz := hz
       replace hz := of_decide_eq_true hz
       obtain ⟨hb1, hb2⟩ := by_big hc0 hr2 (by rw [← hDs]; omega)
       refine zAW ?_
       refine qV (zBW (ps := []) (v := (.agg #[(I6 0), (.slice none 0 0), (.slice none 0 0), (I6 0), (I6 0), (.bool false)])) rfl (by kernel_rfl)) ?_
       refine qW (#[(I6 0), (.slice none 0 0), (.slice none 0 0), (I6 0), (I6 0), (.bool false)]) rfl rfl zAH Bv ?_
       intro w15 S15
       replace Br := S15.keep (by omega) Br
       replace Bf := S15.keep (by omega) Bf
       replace Bx := S15.keep (by omega) Bx
       replace E := S15.stp E
       replace E2 := S15.step E2 (Or.inl (by omega))
       replace Bv := S15.blk
       refine qA (I6 2) rfl ?_
       refine zAB (zAC ?_)
       exact ⟨2, zBH, none, 0, none, 0, zBG.out ⟨rfl, rfl, rfl, rfl, rfl, rfl, rfl, rfl, trivial⟩, E, E2, Br, Bf, Bx, Bv, hb1.symm, (by rw [hY, hb2]), zAc.at _ (zBN (fun _ => True) _ 0)⟩
      ·have khz := hz
       replace hz := of_decide_eq_false hz
       obtain ⟨hb1, hb2⟩ := zQr hc0 hr2 (by rw [← hDs]; omega)
       refine zAR (zAC ?_)
       exact ⟨0, D, da, dc, ea, ec, zBG.out ⟨rfl, rfl, rfl, rfl, rfl, rfl, rfl, rfl, trivial⟩, E, E2, Br, Bf, Bx, Bv, hb1.symm, (by rw [hY, hb2, hDs]), zAc.at D (zAc.ext X89 D hDm)⟩
     ·have khr := hr
      obtain ⟨hb1, hb2⟩ := by_arg (t := t) (c := c) hc0 (by simpa using hr)
      refine zAR (zAC ?_)
      exact ⟨1, zBH, none, 0, none, 0, zBG.out ⟨rfl, rfl, rfl, rfl, rfl, rfl, rfl, rfl, trivial⟩, E, E2, Br, Bf, Bx, Bv, hb1.symm, (by rw [hY, hb2]), zAc.at _ (zBN (fun _ => True) _ 0)⟩
    ·clear E E2 Br Bf Bx Bv
     rintro _ W8 ⟨e, Z, wa, wc, ua, uc, ⟨j8, rfl⟩, E, E2, Br, Bf, Bx, Bv, he, hZ, hZm⟩
     refine zAP (zAA ?_)
     refine qM (I6 (byE t c)) rfl ?_
     refine qM (I6 e) rfl ?_
     refine qV (zBz (k := .i64) (a := byE t c) (b := e) rfl rfl) ?_
     refine qM (.bool (decide ((byE t c : Int) ≠ e))) rfl ?_
     have hg16 : (decide ((byE t c : Int) ≠ e)) = false := by simp [he]
     refine zAF (oj := _) rfl rfl (by decide) (congrArg Value.bool hg16) ?_
     refine qV (zAG (vs := [(I6 Y.kind), (.slice ya Y.set.length yc), (.slice za Y.args.length zc), (I6 Y.mn), (I6 Y.mx), (.bool Y.neg)]) rfl zAb zAH rfl (Bx.cells rfl)) ?_
     refine zAF (oj := _) rfl rfl (by decide) (congrArg Value.bool hg16) ?_
     refine qV (zAG (vs := [(I6 Z.kind), (.slice wa Z.set.length wc), (.slice ua Z.args.length uc), (I6 Z.mn), (I6 Z.mx), (.bool Z.neg)]) rfl zAb zAH rfl (Bv.cells rfl)) ?_
     refine zAF (oj := _) rfl rfl (by decide) (congrArg Value.bool hg16) ?_
     refine zAL rfl rfl (by decide) (zAT (vs := [(.agg (R6 Y ya yc za zc)), (.agg (R6 Z wa wc ua uc))]) Tryz.func15 zPI zPT rfl) (zFD (zAc.at Y (zAc.ext E2 Y hYm)) hZm hZ.symm) ?_
     rintro _ w99 ⟨rfl, X99⟩
     replace Br := X99.keep Br
     replace Bf := X99.keep Bf
     replace Bx := X99.keep Bx
     replace Bv := X99.keep Bv
     replace E := E.ext X99
     replace E2 := E2.ext X99
     refine zAF (oj := _) rfl rfl (by decide) (congrArg Value.bool hg16) ?_
     refine qV (zCV (b := true) rfl) ?_
     refine qV (zAd (b := decide ((byE t c : Int) ≠ e)) (v := (.bool false)) rfl (by rw [hg16]; rfl)) ?_
     refine zAB ?_
     refine zAX rfl ?_
     refine zAR (zAC (zAP (zAA ?_)))
     refine qM (.slice ta text.length tc) rfl ?_
     refine qV (zAV (ad := ta) (n := text.length) (cap := tc) Tryz.underlying26 rfl) ?_
     refine qV (zCM (k := .i64) (a := (text.length : Int)) (b := 100) rfl rfl) ?_
     refine zAB ?_
     refine zAM (b := decide ((100 : Int) < (text.length : Int))) rfl (fun h100 => ?_) (fun h100 => ?_)
     ·have kh100 := h100
      replace h100 := of_decide_eq_true h100
      obtain ⟨hm1, hm2⟩ := zOH (t := t) (text := text) hc0 (by omega)
      refine zAA ?_
      refine qM (I6 (zCn t text)) rfl ?_
      obtain ⟨e18, he18⟩ : ∃ e, (decide ((zCn t text : Int) = 2)) = e := ⟨_, rfl⟩
      refine qV ((zAg (k := .i64) (a := zCn t text) (b := 2) rfl rfl).trans (by rw [he18]; try rfl)) ?_
      refine qM (.bool e18) rfl ?_
      obtain ⟨e19, he19⟩ : ∃ e, (zEB t text) = e := ⟨_, rfl⟩
      refine qG (.bool e18) (yU e18 (.bool e19)) (by cases e18 <;> first | exact gA | exact gB | exact .inl ⟨rfl, zAn (v := .bool e19) (congrArg Value.bool he19)⟩) ?_
      obtain ⟨e20, he20⟩ : ∃ e, (!e19) = e := ⟨_, rfl⟩
      refine qG (.bool e18) (yU e18 (.bool e20)) (by cases e18 <;> first | exact gA | exact gB | exact .inl ⟨rfl, (zCV (b := e19) rfl).trans (by rw [he20]; try rfl)⟩) ?_
      obtain ⟨e21, he21⟩ : ∃ e, (e18 && e20) = e := ⟨_, rfl⟩
      refine qV (zAd (b := e18) (v := .bool e21) rfl (by rw [← he21]; cases e18 <;> rfl)) ?_
      refine qA (.bool e21) rfl ?_
      refine zAB ?_
      subst he21
      subst he20
      subst he19
      subst he18
      refine zAQ (zAI ?_)
      refine zAS Tryz.results3 (v := (.bool ((decide ((zCn t text : Int) = 2)) && (!(zEB t text))))) rfl ?_
      exact ⟨zAt (by rw [hm1, hm2]; rfl), E⟩
     ·have kh100 := h100
      replace h100 := of_decide_eq_false h100
      have hl100 : ¬ 100 < text.length := by omega
      obtain ⟨M, hM⟩ : ∃ M, M = zCU t := ⟨_, rfl⟩
      refine zAR (zAC (zAP (zAA ?_)))
      refine qM (.slice ta text.length tc) rfl ?_
      refine qV (zAV (ad := ta) (n := text.length) (cap := tc) Tryz.underlying26 rfl) ?_
      refine qM (I6 0) rfl ?_
      refine zAB (zAZ ?_)
      refine zBA (fun nn_ σ W22 => ∃ (k : Nat), (∃ jj_, σ = zCl jj_ [(2, (.slice ta text.length tc)), (8, (P6 bf 0)), (12, (.bool (zEB t text))), (13, (I6 (zCn t text))), (117, (.slice ta text.length tc)), (118, (I6 (text.length : Int))), (119, (I6 (k : Int)))]) ∧ Chg zAh w0 W22 ∧ Chg zAh w7 W22 ∧ Blk W22 br (R6 t sa sc aa ac) 25 ∧ Blk W22 bf (R6 F fa fc ga gc) 25 ∧ Blk W22 bx (R6 Y ya yc za zc) 25 ∧ Blk W22 bv (R6 Z wa wc ua uc) 25 ∧ (k ≤ text.length) ∧ (∀ (i : Nat) (a : Int), i < k → text[i]? = some a → 0 ≤ a ∧ a ≤ 1114111) ∧ nn_ = text.length - k) (n := text.length - 0) ?_ ?_
      ·exact ⟨0, zBG.out ⟨rfl, rfl, rfl, rfl, rfl, rfl, rfl, trivial⟩, E, E2, Br, Bf, Bx, Bv, Nat.zero_le _, (fun i a h => absurd h (Nat.not_lt_zero _)), rfl⟩
      ·clear E E2 Br Bf Bx Bv
       rintro _ _ W22 ⟨k, ⟨j22, rfl⟩, E, E2, Br, Bf, Bx, Bv, hk, hrn, rfl⟩
       refine zAA ?_
       refine qV (zBS (k := .i64) (a := (k : Int)) (b := (text.length : Int)) rfl rfl) ?_
       refine zAB (zAP ?_)
       refine zAM (b := decide (((k : Int) : Int) < (text.length : Int))) rfl (fun hlt => ?_) (fun hlt => ?_)
       ·have khlt := hlt
        replace hlt := of_decide_eq_true hlt
        obtain ⟨a, ha⟩ := zAa (l := text) (i := k) (by omega)
        obtain ⟨xb, xo, rfl, hcl⟩ := zBv htx (by omega)
        refine zAR (zAC (zAP (zAZ (zAA ?_))))
        refine qV (zAO (b := xb) (o := xo) (len := text.length) (cap := tc) (i := k) (o' := xo + k) rfl rfl rfl Tryz.underlying26 zAw (by omega) (by omega)) ?_
        refine qV (zAK (v := (I6 a)) rfl zAf (E.cell (fun f => f) (hcl k a ha))) ?_
        refine qA (I6 a) rfl ?_
        refine zAB (zAA ?_)
        refine qM (I6 a) rfl ?_
        obtain ⟨e24, he24⟩ : ∃ e, (decide ((a : Int) < 0)) = e := ⟨_, rfl⟩
        refine qV ((zBS (k := .i64) (a := a) (b := 0) rfl rfl).trans (by rw [he24]; try rfl)) ?_
        refine qM (.bool e24) rfl ?_
        refine qG (.bool e24) (nU e24 (I6 a)) (by cases e24 <;> first | exact gA | exact gB | exact .inl ⟨rfl, zAn (v := (I6 a)) rfl⟩) ?_
        obtain ⟨e25, he25⟩ : ∃ e, (decide ((1114111 : Int) < a)) = e := ⟨_, rfl⟩
        refine qG (.bool e24) (nU e24 (.bool e25)) (by cases e24 <;> first | exact gA | exact gB | exact .inl ⟨rfl, (zCM (k := .i64) (a := a) (b := 1114111) rfl rfl).trans (by rw [he25]; try rfl)⟩) ?_
        obtain ⟨e26, he26⟩ : ∃ e, (e24 || e25) = e := ⟨_, rfl⟩
        refine qV (zAd (b := e24) (v := .bool e26) rfl (by rw [← he26]; cases e24 <;> rfl)) ?_
        refine zAB ?_
        subst he26
        subst he25
        subst he24
        refine zAM (b := ((decide ((a : Int) < 0)) || (decide ((1114111 : Int) < a)))) rfl (fun hbad => ?_) (fun hbad => ?_)
        ·have khbad := hbad
         obtain ⟨hm1, hm2⟩ := zOG (t := t) hc0 hl100 ha (by simpa using hbad)
         refine zAA ?_
         refine qM (I6 (zCn t text)) rfl ?_
         obtain ⟨e28, he28⟩ : ∃ e, (decide ((zCn t text : Int) = 1)) = e := ⟨_, rfl⟩
         refine qV ((zAg (k := .i64) (a := zCn t text) (b := 1) rfl rfl).trans (by rw [he28]; try rfl)) ?_
         refine qM (.bool e28) rfl ?_
         obtain ⟨e29, he29⟩ : ∃ e, (zEB t text) = e := ⟨_, rfl⟩
         refine qG (.bool e28) (yU e28 (.bool e29)) (by cases e28 <;> first | exact gA | exact gB | exact .inl ⟨rfl, zAn (v := .bool e29) (congrArg Value.bool he29)⟩) ?_
         obtain ⟨e30, he30⟩ : ∃ e, (!e29) = e := ⟨_, rfl⟩
         refine qG (.bool e28) (yU e28 (.bool e30)) (by cases e28 <;> first | exact gA | exact gB | exact .inl ⟨rfl, (zCV (b := e29) rfl).trans (by rw [he30]; try rfl)⟩) ?_
         obtain ⟨e31, he31⟩ : ∃ e, (e28 && e30) = e := ⟨_, rfl⟩
         refine qV (zAd (b := e28) (v := .bool e31) rfl (by rw [← he31]; cases e28 <;> rfl)) ?_
         refine qA (.bool e31) rfl ?_
         refine zAB ?_
         subst he31
         subst he30
         subst he29
         subst he28
         refine zAQ (zAY (zAI (zAI (zAY (zAI ?_)))))
         refine zAS Tryz.results3 (v := (.bool ((decide ((zCn t text : Int) = 1)) && (!(zEB t text))))) rfl ?_
         exact ⟨zAt (by rw [hm1, hm2]; rfl), E⟩
        ·have khbad := hbad
         refine zAR (zAU (zAC (zAW ?_)))
         refine qV (zBQ (k := .i64) (a := (k : Int)) (b := 1) (c := (k : Int) + 1) rfl rfl (zBs (by omega))) ?_
         refine qM (I6 ((k : Int) + 1)) rfl ?_
         refine zAB (zAC ?_)
         exact ⟨text.length - (k + 1), by omega, k + 1, zBG.out ⟨rfl, rfl, rfl, rfl, rfl, rfl, rfl, trivial⟩, E, E2, Br, Bf, Bx, Bv, (by omega), (fun i a2 hi h2 => by rcases Nat.lt_or_ge i k with h | h; exact hrn i a2 h h2; obtain rfl : i = k := (by omega); rw [ha] at h2; cases h2; simp at hbad; omega), rfl⟩
       ·have khlt := hlt
        replace hlt := of_decide_eq_false hlt
        have hrunes : ∀ a ∈ text, 0 ≤ a ∧ a ≤ 1114111 := fun a ha => by obtain ⟨i, hi⟩ := List.mem_iff_getElem?.1 ha; exact hrn i a (by have := zAo hi; omega) hi
        refine zBB (zAe (zAe (zAr (zAC (zAP (zAA ?_))))))
        refine qM (.slice ta text.length tc) rfl ?_
        refine qV (zAV (ad := ta) (n := text.length) (cap := tc) Tryz.underlying26 rfl) ?_
        refine qV (zCM (k := .i64) (a := (text.length : Int)) (b := 8) rfl rfl) ?_
        refine zAB ?_
        refine zAM (b := decide ((8 : Int) < (text.length : Int))) rfl (fun h8 => ?_) (fun h8 => ?_)
        ·have kh8 := h8
         replace h8 := of_decide_eq_true h8
         refine zAA ?_
         refine qA (.bool true) rfl ?_
         refine zAB (zAQ (zAI ?_))
         refine zAS Tryz.results3 (v := (.bool true)) rfl ?_
         exact ⟨rfl, E⟩
        ·have kh8 := h8
         replace h8 := of_decide_eq_false h8
         have hFm3 := zAc.mono (S' := fun b => b ≠ bf) (fun b hb => by have h2 : b < h19 := hb; have := hfl.2; omega) F (zAc.ext E2 F hFm)
         have hbf3 : bf < (W22).heap.size := Bf.lt
         refine zAR (zAC (zAP (zAA ?_)))
         refine qM (.slice ta text.length tc) rfl ?_
         refine qV (zAV (ad := ta) (n := text.length) (cap := tc) Tryz.underlying26 rfl) ?_
         refine qM (I6 0) rfl ?_
         refine zAB (zAZ ?_)
         refine zBA (fun nn_ σ W33 => ∃ (j : Nat) (D : Re) (da : Option Addr) (dc : Nat) (ea : Option Addr) (ec : Nat), (∃ jj_, σ = zCl jj_ [(8, (P6 bf 0)), (12, (.bool (zEB t text))), (13, (I6 (zCn t text))), (139, (.slice ta text.length tc)), (140, (I6 (text.length : Int))), (141, (I6 (j : Int)))]) ∧ Chg zAh w0 W33 ∧ Blk W33 br (R6 t sa sc aa ac) 25 ∧ Blk W33 bf (#[.int .i64 D.kind, .slice da D.set.length dc, .slice ea D.args.length ec, .int .i64 D.mn, .int .i64 D.mx, .bool D.neg]) 25 ∧ (j ≤ text.length) ∧ (zIG M text = zIG D (text.drop j)) ∧ (zAq D ∧ D.size ≤ 300) ∧ (zAc (fun b => b ≠ bf) W33 D [.int .i64 D.kind, .slice da D.set.length dc, .slice ea D.args.length ec, .int .i64 D.mn, .int .i64 D.mx, .bool D.neg]) ∧ nn_ = text.length - j) (n := text.length - 0) ?_ ?_
         ·exact ⟨0, F, fa, fc, ga, gc, zBG.out ⟨rfl, rfl, rfl, rfl, rfl, rfl, trivial⟩, E, Br, Bf, Nat.zero_le _, (by rw [hM, hFs]; rfl), ⟨hFo, hFz⟩, hFm3, rfl⟩
         ·clear E Br Bf
          rintro _ _ W33 ⟨j, D, da, dc, ea, ec, ⟨j33, rfl⟩, E, Br, Bf, hj, hrun, hDo, hDm, rfl⟩
          refine zAA ?_
          refine qV (zBS (k := .i64) (a := (j : Int)) (b := (text.length : Int)) rfl rfl) ?_
          refine zAB (zAP ?_)
          refine zAM (b := decide (((j : Int) : Int) < (text.length : Int))) rfl (fun hlt2 => ?_) (fun hlt2 => ?_)
          ·have khlt2 := hlt2
           replace hlt2 := of_decide_eq_true hlt2
           obtain ⟨a, ha⟩ := zAa (l := text) (i := j) (by omega)
           obtain ⟨xb, xo, rfl, hcl⟩ := zBv htx (by omega)
           have hdr := zBP ha
           obtain ⟨D2, hD2⟩ : ∃ D2, D2 = zBK a D := ⟨_, rfl⟩
           have hDz : D2.size ≤ 200000 := by rw [hD2]; exact zCY hDo.1 hDo.2
           have hpl : ((zEZ D2).take (301 : Int).toNat).length = min 301 D2.size := by rw [List.length_take, zDy]; rfl
           have hstp : zIG D (text.drop j) = if 300 < D2.size then none else zIG D2 (text.drop (j + 1)) := by rw [hdr, hD2]; rfl
           have hbf4 : bf < (W33).heap.size := Bf.lt
           refine zAR (zAC (zAP (zAZ (zAA ?_))))
           refine qV (zAO (b := xb) (o := xo) (len := text.length) (cap := tc) (i := j) (o' := xo + j) rfl rfl rfl Tryz.underlying26 zAw (by omega) (by omega)) ?_
           refine qV (zAK (v := (I6 a)) rfl zAf (E.cell (fun f => f) (hcl j a ha))) ?_
           refine qA (I6 a) rfl ?_
           refine zAB (zAA ?_)
           refine qV (zAG (vs := [(I6 D.kind), (.slice da D.set.length dc), (.slice ea D.args.length ec), (I6 D.mn), (I6 D.mx), (.bool D.neg)]) rfl zAb zAH rfl (Bf.cells rfl)) ?_
           refine qM (I6 a) rfl ?_
           refine zAL rfl rfl (by decide) (zAT (vs := [(.agg (R6 D da dc ea ec)), (I6 a)]) Tryz.func18 nm18 bd18 rfl) ((zIx a _ _ D _ hDo.1 hDo.2 (zAc.lt D hDm) (fun y hy => hy.2)).mono (R' := fun r w => reG (fun b => b ≠ bf) D2 r w ∧ Ext _ w) (fun r w h => by obtain ⟨⟨sa, sc, aa, ac, h1, h2⟩, h3⟩ := h; rw [← hD2] at h1 h2; exact ⟨⟨sa, sc, aa, ac, h1, zAc.mono (fun b hb => by rcases hb with h4 | h4; exact h4.1; omega) _ h2⟩, h3⟩)) ?_
           rintro _ w79 ⟨⟨va, vc, ua, uc, rfl, hD2m⟩, X79⟩
           replace Br := X79.keep Br
           replace Bf := X79.keep Bf
           replace E := E.ext X79
           refine qW (R6 D2 va vc ua uc) rfl rfl zAH Bf ?_
           intro w35 S35
           replace hD2m := zAc.chg S35.chg (fun y hy h => hy h) D2 hD2m
           replace Br := S35.keep (by omega) Br
           replace E := S35.stp E
           replace Bf := S35.blk
           refine zAB (zAA ?_)
           refine qV (zAG (vs := [(I6 D2.kind), (.slice va D2.set.length vc), (.slice ua D2.args.length uc), (I6 D2.mn), (I6 D2.mx), (.bool D2.neg)]) rfl zAb zAH rfl (Bf.cells rfl)) ?_
           refine zAL rfl rfl (by decide) (zAT (vs := [(.agg (R6 D2 va vc ua uc)), (I6 301)]) Tryz.func19 nm19 bd19 rfl) (zMV _ D2 _ _ (zAc.at D2 hD2m) (by omega)) ?_
           rintro _ w89 ⟨la, lc, rows, rfl, hsl, hrows, X89⟩
           replace Br := X89.keep Br
           replace Bf := X89.keep Bf
           replace E := E.ext X89
           refine qV (zAV (ad := la) (n := ((zEZ D2).take (301 : Int).toNat).length) (cap := lc) Tryz.underlying23 rfl) ?_
           refine qV (zCM (k := .i64) (a := ((((zEZ D2).take (301 : Int).toNat).length : Nat) : Int)) (b := 300) rfl rfl) ?_
           refine zAB ?_
           refine zAM (b := decide ((300 : Int) < ((((zEZ D2).take (301 : Int).toNat).length : Nat) : Int))) rfl (fun hbig => ?_) (fun hbig => ?_)
           ·have khbig := hbig
            replace hbig := of_decide_eq_true hbig
            obtain ⟨hm1, hm2⟩ := zQQ (t := t) hc0 hl100 hrunes (by rw [← hM, hrun, hstp, if_pos (by omega)])
            refine zAA ?_
            refine qM (I6 (zCn t text)) rfl ?_
            obtain ⟨e37, he37⟩ : ∃ e, (decide ((zCn t text : Int) = 2)) = e := ⟨_, rfl⟩
            refine qV ((zAg (k := .i64) (a := zCn t text) (b := 2) rfl rfl).trans (by rw [he37]; try rfl)) ?_
            refine qM (.bool e37) rfl ?_
            obtain ⟨e38, he38⟩ : ∃ e, (zEB t text) = e := ⟨_, rfl⟩
            refine qG (.bool e37) (yU e37 (.bool e38)) (by cases e37 <;> first | exact gA | exact gB | exact .inl ⟨rfl, zAn (v := .bool e38) (congrArg Value.bool he38)⟩) ?_
            obtain ⟨e39, he39⟩ : ∃ e, (!e38) = e := ⟨_, rfl⟩
            refine qG (.bool e37) (yU e37 (.bool e39)) (by cases e37 <;> first | exact gA | exact gB | exact .inl ⟨rfl, (zCV (b := e38) rfl).trans (by rw [he39]; try rfl)⟩) ?_
            obtain ⟨e40, he40⟩ : ∃ e, (e37 && e39) = e := ⟨_, rfl⟩
            refine qV (zAd (b := e37) (v := .bool e40) rfl (by rw [← he40]; cases e37 <;> rfl)) ?_
            refine qA (.bool e40) rfl ?_
            refine zAB ?_
            subst he40
            subst he39
            subst he38
            subst he37
            refine zAQ (zAY (zAI (zAI (zAY (zAI ?_)))))
            refine zAS Tryz.results3 (v := (.bool ((decide ((zCn t text : Int) = 2)) && (!(zEB t text))))) rfl ?_
            exact ⟨zAt (by rw [hm1, hm2]; rfl), E⟩
           ·have khbig := hbig
            replace hbig := of_decide_eq_false hbig
            refine zAR (zAU (zAC (zAW ?_)))
            refine qV (zBQ (k := .i64) (a := (j : Int)) (b := 1) (c := (j : Int) + 1) rfl rfl (zBs (by omega))) ?_
            refine qM (I6 ((j : Int) + 1)) rfl ?_
            refine zAB (zAC ?_)
            exact ⟨text.length - (j + 1), by omega, j + 1, D2, va, vc, ua, uc, zBG.out ⟨rfl, rfl, rfl, rfl, rfl, rfl, trivial⟩, E, Br, Bf, (by omega), (by rw [hrun, hstp, if_neg (by omega)]), ⟨by rw [hD2]; exact zDN a hDo.1, by omega⟩, zAc.ext X89 D2 hD2m, rfl⟩
          ·have khlt2 := hlt2
           replace hlt2 := of_decide_eq_false hlt2
           have hjj : j = text.length := by omega
           obtain ⟨hm1, hm2⟩ := zOI (t := t) (D := D) hc0 hl100 hrunes (by rw [← hM, hrun, hjj, List.drop_length]; rfl)
           refine zBB (zAe (zAe (zAr (zAC (zAA ?_)))))
           refine qM (I6 (zCn t text)) rfl ?_
           refine qV (zAg (k := .i64) (a := zCn t text) (b := 0) rfl rfl) ?_
           refine qM (.bool (decide ((zCn t text : Int) = 0))) rfl ?_
           have hg41 : (decide ((zCn t text : Int) = 0)) = true := decide_eq_true hm1
           refine zAF (oj := _) rfl rfl (by decide) (congrArg Value.bool hg41) ?_
           refine qM (.bool (zEB t text)) rfl ?_
           refine zAF (oj := _) rfl rfl (by decide) (congrArg Value.bool hg41) ?_
           refine qV (zAG (vs := [(I6 D.kind), (.slice da D.set.length dc), (.slice ea D.args.length ec), (I6 D.mn), (I6 D.mx), (.bool D.neg)]) rfl zAb zAH rfl (Bf.cells rfl)) ?_
           refine zAF (oj := _) rfl rfl (by decide) (congrArg Value.bool hg41) ?_
           refine zAL rfl rfl (by decide) (zAT (vs := [(.agg (R6 D da dc ea ec))]) Tryz.func20 nm20 bd20 rfl) (zHL _ D _ (zAc.at D hDm) hDo.1) ?_
           rintro _ w69 ⟨rfl, X69⟩
           replace Br := X69.keep Br
           replace Bf := X69.keep Bf
           replace E := E.ext X69
           refine zAF (oj := _) rfl rfl (by decide) (congrArg Value.bool hg41) ?_
           refine qV (zPE (p := zEB t text) (q := zBg D) Tryz.underlying4 rfl rfl) ?_
           refine qV (zAd (b := decide ((zCn t text : Int) = 0)) (v := (.bool ((zEB t text) == (zBg D)))) rfl (by rw [hg41]; rfl)) ?_
           refine qA (.bool ((zEB t text) == (zBg D))) rfl ?_
           refine zAB (zAQ ?_)
           refine zAS Tryz.results3 (v := (.bool ((zEB t text) == (zBg D)))) rfl ?_
           exact ⟨zAt (by rw [hm2]; simp), E⟩
end Go.Proofs
namespace Go.Proofs
open Go Go.Eng
set_option maxRecDepth 100000
section
variable {H : Type} {enc : TypeId × Value → H} {P : Program} {w : World} {base : Nat} {spare : Nat → Bool} {held : Bool}
theorem zEc {a : Addr} {k : Nat} {cs : List Value} (hk : 0 < k) (h : w.cells? base a k = some cs) : ∃ b o, a = ⟨b, o, none⟩ ∧ cs.length = k ∧ zAx w b o cs := by
  obtain ⟨h1, h2, h3⟩ := World.cells?_some h
  obtain ⟨b, o, s⟩ := a
  have hlen : cs.length = k := by first | exact h2 | exact h1 | omega
  have h0 := h3 0 (by omega)
  have hs : s = none := by
    cases s with
    | none => rfl
    | some s =>
      exfalso
      have hc : ∃ v, w.cell? ⟨b, o, some s⟩ = some v := ⟨_, by simpa [Addr.add, List.getElem?_eq_getElem (show 0 < cs.length by omega)] using h0⟩
      obtain ⟨v, hv⟩ := hc
      simp [World.cell?] at hv
      cases hh : w.heap[b]? <;> simp [hh] at hv
      split at hv <;> simp at hv
  subst hs
  refine ⟨b, o, rfl, hlen, fun i v hv => ?_⟩
  have := h3 i (by have := zAo hv; omega)
  rw [Addr.add_lit] at this
  rw [this, hv]
theorem zHh {α : Type} {f : α → List Value} : ∀ {rows : List (List Value)}, (∀ r ∈ rows, ∃ y, r = f y) → ∃ l : List α, rows = l.map f
  | [], _ => ⟨[], rfl⟩
  | r :: rows, h => by
    obtain ⟨y, hy⟩ := h r (by simp)
    obtain ⟨l, hl⟩ := zHh (rows := rows) (f := f) fun r' hr' => h r' (List.mem_cons_of_mem _ hr')
    exact ⟨y :: l, by rw [hy, hl]; rfl⟩
/-- A slice, if each of its elements is read. -/
theorem zIl {t e k fuel : Nat} {cs : List Value} {x : DataW H × List MemPlace} {R : List Value → Prop} (ht : P.underlying t = some (.slice e)) (hc : P.cellsOf e = k) (hk : 0 < k)
    (h : DataW.trod enc P w base spare held fuel t cs = some x) (hR : ∀ n cs' y, n < fuel → DataW.trod enc P w base spare held n e cs' = some y → R cs') :
    ∃ a rows cap, cs = [.slice a rows.length cap] ∧ zCA w k (.slice a rows.length cap) rows ∧ (∀ r ∈ rows, R r ∧ r.length = k) ∧ rows.length ≤ cap ∧ cap ≤ maxLen := by
  rcases DataW.trod_slice ht h with ⟨rfl, _⟩ | ⟨a, len, cap, elems, rest, n, rfl, rfl, _, hb, hl, hm, hlen, hel, _, _⟩
  · exact ⟨none, [], 0, rfl, zCA.nil _ _ _ _, by simp, by simp, by simp [maxLen]⟩
  · have each : ∀ i, i < len → ∃ cs', w.cells? base (a.add (i * k)) k = some cs' ∧ R cs' := by
      intro i hi
      have := hel i hi
      rw [List.getElem?_eq_getElem (by omega), hc, Option.bind_eq_some_iff] at this
      obtain ⟨cs', h1, h2⟩ := this
      exact ⟨cs', h1, hR n cs' _ (by omega) h2⟩
    have fam : ∀ m, m ≤ len → ∃ rows : List (List Value), rows.length = m ∧ ∀ i r, rows[i]? = some r → w.cells? base (a.add (i * k)) k = some r ∧ R r := by
      intro m
      induction m with
      | zero => intro _; exact ⟨[], rfl, by simp⟩
      | succ m ih =>
        intro hm
        obtain ⟨rows, h1, h2⟩ := ih (by omega)
        obtain ⟨cs', h3, h4⟩ := each m (by omega)
        refine ⟨rows ++ [cs'], by simp [h1], fun i r hr => ?_⟩
        rcases Nat.lt_or_ge i rows.length with hi | hi
        · rw [List.getElem?_append_left hi] at hr; exact h2 i r hr
        · rw [List.getElem?_append_right hi] at hr
          have hi' := zAo hr
          simp at hi'
          obtain rfl : i = m := by omega
          simp [h1] at hr
          subst hr
          exact ⟨h3, h4⟩
    obtain ⟨rows, hrl, hrows⟩ := fam len (Nat.le_refl _)
    have hmax : rows.length ≤ 9223372036854775807 := by simp only [maxLen] at hm; omega
    refine ⟨some a, rows, cap, by rw [hrl], ⟨some a, cap, rfl, hmax, by omega, ?_⟩, ?_, by omega, hm⟩
    · rcases Nat.eq_zero_or_pos len with h0 | h0
      · left; exact List.eq_nil_of_length_eq_zero (by omega)
      · right
        obtain ⟨r0, hr0⟩ := zAa (l := rows) (i := 0) (by omega)
        have h1 := (hrows 0 r0 hr0).1
        have hz : a.add (0 * k) = a := by simp [Addr.add]
        rw [hz] at h1
        obtain ⟨b, o, rfl, _, _⟩ := zEc hk h1
        refine ⟨b, o, rfl, fun i r hr => ?_⟩
        have h2 := (hrows i r hr).1
        rw [Addr.add_lit] at h2
        obtain ⟨b', o', he, _, h3⟩ := zEc hk h2
        cases he
        exact h3
    · intro r hr
      obtain ⟨i, hi⟩ := List.mem_iff_getElem?.1 hr
      have h2 := hrows i r hi
      obtain ⟨_, _, _, h3, _⟩ := zEc hk h2.1
      exact ⟨h2.2, h3⟩
theorem zLL {t e fuel : Nat} {cs : List Value} {x : DataW H × List MemPlace} (ht : P.underlying t = some (.slice e)) (he : P.underlying e = some (.int .i64)) (hc : P.cellsOf e = 1)
  (h : DataW.trod enc P w base spare held fuel t cs = some x) : ∃ a l cap, cs = [.slice a l.length cap] ∧ zBr w (.slice a l.length cap) l := by
 obtain ⟨a, rows, cap, rfl, h1, h2, _⟩ := zIl (R := fun cs => ∃ n : Int, cs = intV n) ht hc (by decide) h (fun n cs' y _ hy => by
  obtain ⟨m, rfl, _⟩ := DataW.trod_int he hy; exact ⟨m, rfl⟩)
 obtain ⟨l, rfl⟩ := zHh fun r hr => (h2 r hr).1
 exact ⟨a, l, cap, by simp, by simpa [zBr] using h1⟩
end
section
variable {H : Type} {enc : TypeId × Value → H} {w : World} {base : Nat} {spare : Nat → Bool} {held : Bool}
theorem zKn : Tryz.prog.cellsOf 103 = 2 := by kernel_rfl
theorem zNV : Tryz.prog.cellsOf 25 = 6 := by kernel_rfl
theorem zPS : Tryz.prog.cellsOf 3 = 1 := by kernel_rfl
theorem cells4 : Tryz.prog.cellsOf 4 = 1 := by kernel_rfl
theorem zQm : Tryz.prog.cellsOf 23 = 1 := by kernel_rfl
theorem zQn : Tryz.prog.cellsOf 22 = 1 := by kernel_rfl
theorem zMa {fuel : Nat} {cs : List Value} {x : DataW H × List MemPlace} (h : DataW.trod enc Tryz.prog w base spare held fuel 103 cs = some x) : ∃ s : Int × Int, cs = zDA s := by
  obtain ⟨xs, n, rfl, _, hl, hx, hf⟩ := DataW.trod_struct Tryz.underlying103 h
  rw [zKn] at hl
  match cs, hl with
  | [c0, c1], _ =>
    have h0 : DataW.trod enc Tryz.prog w base spare held n 3 (([c0, c1].drop 0).take (Tryz.prog.cellsOf 3)) = xs[0]? := hf 0 _ rfl
    have h1 : DataW.trod enc Tryz.prog w base spare held n 3 (([c0, c1].drop 1).take (Tryz.prog.cellsOf 3)) = xs[1]? := hf 1 _ rfl
    simp only [zPS, List.drop, List.take] at h0 h1
    rw [List.getElem?_eq_getElem (by rw [hx]; decide)] at h0 h1
    obtain ⟨a, e0, _⟩ := DataW.trod_int Tryz.underlying3 h0
    obtain ⟨b, e1, _⟩ := DataW.trod_int Tryz.underlying3 h1
    simp at e0 e1
    subst e0; subst e1
    exact ⟨(a, b), rfl⟩
theorem zLJ {fuel : Nat} {cs : List Value} {x : DataW H × List MemPlace} (h : DataW.trod enc Tryz.prog w base spare held fuel 22 cs = some x) : ∃ a l cap, cs = [.slice a l.length cap] ∧ zBZ w (.slice a l.length cap) l := by
 obtain ⟨a, rows, cap, rfl, h1, h2, _⟩ := zIl (R := fun cs => ∃ s : Int × Int, cs = zDA s) Tryz.underlying22 zKn (by decide) h (fun n cs' y _ hy => zMa hy)
 obtain ⟨l, rfl⟩ := zHh fun r hr => (h2 r hr).1
 exact ⟨a, l, cap, by simp, by simpa [zBZ] using h1⟩
end
end Go.Proofs
namespace Go.Proofs
open Go Go.Eng
set_option maxRecDepth 100000
section
variable {H : Type} {enc : TypeId × Value → H} {P : Program} {w : World} {base : Nat} {spare : Nat → Bool} {held : Bool}
/-- A slice, if each of its elements is read: with what was read. -/
theorem zLK {t e k fuel : Nat} {cs : List Value} {x : DataW H × List MemPlace} {R : List Value → DataW H → Prop} (ht : P.underlying t = some (.slice e)) (hc : P.cellsOf e = k) (hk : 0 < k)
    (h : DataW.trod enc P w base spare held fuel t cs = some x) (hR : ∀ n cs' y, n < fuel → DataW.trod enc P w base spare held n e cs' = some y → R cs' y.1) :
    ∃ a rows cap, cs = [.slice a rows.length cap] ∧ zCA w k (.slice a rows.length cap) rows ∧ (∀ r ∈ rows, r.length = k) ∧ rows.length ≤ cap ∧ cap ≤ maxLen ∧
      (rows = [] ∨ ∃ ds sp, x.1 = .slice ds sp ∧ ds.length = rows.length ∧ ∀ (i : Nat) r, rows[i]? = some r → ∃ d, ds[i]? = some d ∧ R r d) := by
  rcases DataW.trod_slice ht h with ⟨rfl, _⟩ | ⟨a, len, cap, elems, rest, n, rfl, rfl, rfl, hb, hl, hm, hlen, hel, _, _⟩
  · exact ⟨none, [], 0, rfl, zCA.nil _ _ _ _, by simp, by simp, by simp [maxLen], .inl rfl⟩
  · have each : ∀ i, i < len → ∃ cs' y, w.cells? base (a.add (i * k)) k = some cs' ∧ elems[i]? = some y ∧ R cs' y.1 := by
      intro i hi
      have := hel i hi
      rw [List.getElem?_eq_getElem (by omega), hc, Option.bind_eq_some_iff] at this
      obtain ⟨cs', h1, h2⟩ := this
      exact ⟨cs', _, h1, List.getElem?_eq_getElem (by omega), hR n cs' _ (by omega) h2⟩
    have fam : ∀ m, m ≤ len → ∃ rows : List (List Value), rows.length = m ∧ ∀ (i : Nat) r, rows[i]? = some r → w.cells? base (a.add (i * k)) k = some r ∧ ∃ y, elems[i]? = some y ∧ R r y.1 := by
      intro m
      induction m with
      | zero => intro _; exact ⟨[], rfl, by simp⟩
      | succ m ih =>
        intro hm
        obtain ⟨rows, h1, h2⟩ := ih (by omega)
        obtain ⟨cs', y, h3, h4, h5⟩ := each m (by omega)
        refine ⟨rows ++ [cs'], by simp [h1], fun i r hr => ?_⟩
        rcases Nat.lt_or_ge i rows.length with hi | hi
        · rw [List.getElem?_append_left hi] at hr; exact h2 i r hr
        · rw [List.getElem?_append_right hi] at hr
          have hi' := zAo hr
          simp at hi'
          obtain rfl : i = m := by omega
          simp [h1] at hr
          subst hr
          exact ⟨h3, y, h4, h5⟩
    obtain ⟨rows, hrl, hrows⟩ := fam len (Nat.le_refl _)
    have hmax : rows.length ≤ 9223372036854775807 := by simp only [maxLen] at hm; omega
    refine ⟨some a, rows, cap, by rw [hrl], ⟨some a, cap, rfl, hmax, by omega, ?_⟩, ?_, by omega, hm, .inr ⟨elems.map (·.1), rest.map (·.1), rfl, by simp; omega, fun i r hr => ?_⟩⟩
    · rcases Nat.eq_zero_or_pos len with h0 | h0
      · left; exact List.eq_nil_of_length_eq_zero (by omega)
      · right
        obtain ⟨r0, hr0⟩ := zAa (l := rows) (i := 0) (by omega)
        have h1 := (hrows 0 r0 hr0).1
        have hz : a.add (0 * k) = a := by simp [Addr.add]
        rw [hz] at h1
        obtain ⟨b, o, rfl, _, _⟩ := zEc hk h1
        refine ⟨b, o, rfl, fun i r hr => ?_⟩
        have h2 := (hrows i r hr).1
        rw [Addr.add_lit] at h2
        obtain ⟨b', o', he, _, h3⟩ := zEc hk h2
        cases he
        exact h3
    · intro r hr
      obtain ⟨i, hi⟩ := List.mem_iff_getElem?.1 hr
      have h2 := hrows i r hi
      obtain ⟨_, _, _, h3, _⟩ := zEc hk h2.1
      exact h3
    · obtain ⟨_, y, h4, h5⟩ := hrows i r hr
      exact ⟨y.1, by simp [h4], h5⟩
end
section
variable {H : Type} {enc : TypeId × Value → H} {w : World} {base : Nat} {spare : Nat → Bool} {held : Bool}
theorem zOm {l : List (DataW H)} {i : Nat} {d : DataW H} (h : l[i]? = some d) : YtfbglkkidenifaaGreat.Rows.uptoBulk d ≤ YtfbglkkidenifaaGreat.Rows.uptoBulkAll l := by
  induction l generalizing i with
  | nil => simp at h
  | cons x r ih =>
    simp only [YtfbglkkidenifaaGreat.Rows.uptoBulkAll]
    cases i with
    | zero => simp at h; subst h; omega
    | succ i => have := ih (i := i) (by simpa using h); omega
theorem zIa {b o : Nat} : ∀ {rows : List (List Value)} {ds : List (DataW H)}, ds.length = rows.length → (∀ (i : Nat) r, rows[i]? = some r → zAx w b (o + i * 6) r ∧ ∃ d, ds[i]? = some d ∧ ∃ t, zBC w t r ∧ t.size ≤ YtfbglkkidenifaaGreat.Rows.uptoBulk d) → ∃ ts : List Re, ts.length = rows.length ∧ (∀ (i : Nat) t, ts[i]? = some t → ∃ vs, zAx w b (o + i * 6) vs ∧ zBC w t vs) ∧ Re.sizes ts ≤ YtfbglkkidenifaaGreat.Rows.uptoBulkAll ds := by
  intro rows ds hl h
  have key : ∀ m, m ≤ rows.length → ∃ ts : List Re, ts.length = m ∧ (∀ (i : Nat) t, ts[i]? = some t → ∃ vs, zAx w b (o + i * 6) vs ∧ zBC w t vs) ∧ Re.sizes ts ≤ YtfbglkkidenifaaGreat.Rows.uptoBulkAll (ds.take m) := by
    intro m
    induction m with
    | zero => intro _; exact ⟨[], rfl, by simp, by simp [Re.sizes]⟩
    | succ m ih =>
      intro hm
      obtain ⟨ts, h1, h2, h3⟩ := ih (by omega)
      obtain ⟨r, hr⟩ := zAa (l := rows) (i := m) (by omega)
      obtain ⟨h4, d, hd, t, h5, h6⟩ := h m r hr
      refine ⟨ts ++ [t], by simp [h1], fun i t' ht => ?_, ?_⟩
      · rcases Nat.lt_or_ge i ts.length with hi | hi
        · rw [List.getElem?_append_left hi] at ht; exact h2 i t' ht
        · rw [List.getElem?_append_right hi] at ht
          have hi' := zAo ht
          simp at hi'
          obtain rfl : i = m := by omega
          simp [h1] at ht
          subst ht
          exact ⟨r, h4, h5⟩
      · have happ : ∀ (a c : List (DataW H)), YtfbglkkidenifaaGreat.Rows.uptoBulkAll (a ++ c) = YtfbglkkidenifaaGreat.Rows.uptoBulkAll a + YtfbglkkidenifaaGreat.Rows.uptoBulkAll c := by
          intro a c
          induction a with
          | nil => simp [YtfbglkkidenifaaGreat.Rows.uptoBulkAll]
          | cons y a ih2 => simp only [List.cons_append, YtfbglkkidenifaaGreat.Rows.uptoBulkAll, ih2]; omega
        rw [List.take_add_one, hd, happ, Re.sizes_append]
        simp only [Option.toList_some, YtfbglkkidenifaaGreat.Rows.uptoBulkAll, Re.sizes]
        omega
  obtain ⟨ts, h1, h2, h3⟩ := key rows.length (Nat.le_refl _)
  rw [← hl, List.take_length] at h3
  exact ⟨ts, h1, h2, h3⟩
theorem zNy : ∀ (fuel : Nat) {cs : List Value} {x : DataW H × List MemPlace}, DataW.trod enc Tryz.prog w base spare held fuel 25 cs = some x → ∃ t, zBC w t cs ∧ t.size ≤ YtfbglkkidenifaaGreat.Rows.uptoBulk x.1 := by
  intro fuel
  induction fuel using Nat.strongRecOn with
  | _ fuel ih =>
  intro cs x h
  obtain ⟨xs, n, rfl, rfl, hl, hx, hf⟩ := DataW.trod_struct Tryz.underlying25 h
  rw [zNV] at hl
  match cs, hl with
  | [c0, c1, c2, c3, c4, c5], _ =>
    have h0 : DataW.trod enc Tryz.prog w base spare held n 3 (([c0, c1, c2, c3, c4, c5].drop 0).take (Tryz.prog.cellsOf 3)) = xs[0]? := hf 0 _ rfl
    have h1 : DataW.trod enc Tryz.prog w base spare held n 22 (([c0, c1, c2, c3, c4, c5].drop 1).take (Tryz.prog.cellsOf 22)) = xs[1]? := hf 1 _ rfl
    have h2 : DataW.trod enc Tryz.prog w base spare held n 23 (([c0, c1, c2, c3, c4, c5].drop 2).take (Tryz.prog.cellsOf 23)) = xs[2]? := hf 2 _ rfl
    have h3 : DataW.trod enc Tryz.prog w base spare held n 3 (([c0, c1, c2, c3, c4, c5].drop 3).take (Tryz.prog.cellsOf 3)) = xs[3]? := hf 3 _ rfl
    have h4 : DataW.trod enc Tryz.prog w base spare held n 3 (([c0, c1, c2, c3, c4, c5].drop 4).take (Tryz.prog.cellsOf 3)) = xs[4]? := hf 4 _ rfl
    have h5 : DataW.trod enc Tryz.prog w base spare held n 4 (([c0, c1, c2, c3, c4, c5].drop 5).take (Tryz.prog.cellsOf 4)) = xs[5]? := hf 5 _ rfl
    simp only [zPS, cells4, zQm, zQn, List.drop, List.take] at h0 h1 h2 h3 h4 h5
    have hlen6 : xs.length = 6 := hx
    obtain ⟨y2, hy2⟩ := zAa (l := xs) (i := 2) (by omega)
    have hb2 : YtfbglkkidenifaaGreat.Rows.uptoBulk y2.1 ≤ YtfbglkkidenifaaGreat.Rows.uptoBulkAll (xs.map (·.1)) := zOm (i := 2) (by simp [hy2])
    have hbx : YtfbglkkidenifaaGreat.Rows.uptoBulk (DataW.agg (xs.map (·.1))) = YtfbglkkidenifaaGreat.Rows.uptoBulkAll (xs.map (·.1)) + 1 := by simp only [YtfbglkkidenifaaGreat.Rows.uptoBulk]
    rw [hy2] at h2
    rw [List.getElem?_eq_getElem (by rw [hx]; decide)] at h0 h1 h3 h4 h5
    obtain ⟨k, e0, _⟩ := DataW.trod_int Tryz.underlying3 h0
    obtain ⟨mn, e3, _⟩ := DataW.trod_int Tryz.underlying3 h3
    obtain ⟨mx, e4, _⟩ := DataW.trod_int Tryz.underlying3 h4
    obtain ⟨ng, e5, _⟩ := DataW.trod_bool Tryz.underlying4 h5
    obtain ⟨sa, set, sc, e1, hs⟩ := zLJ h1
    obtain ⟨aa, rows, ac, e2, ha, hrows, hcap, hmax, hds⟩ := zLK (R := fun cs d => ∃ t, zBC w t cs ∧ t.size ≤ YtfbglkkidenifaaGreat.Rows.uptoBulk d) Tryz.underlying23 zNV (by decide) h2 (fun m cs' y hm hy => ih m (by omega) hy)
    simp at e0 e1 e2 e3 e4 e5
    subst e0; subst e1; subst e2; subst e3; subst e4; subst e5
    rcases Nat.eq_zero_or_pos rows.length with hz | hz
    · have : rows = [] := List.eq_nil_of_length_eq_zero hz
      subst this
      refine ⟨.mk k set [] mn mx ng, zBC.of (args := []) hs ⟨by simp, by simp only [maxLen] at hmax; omega⟩ (.inl rfl), ?_⟩
      simp only [Re.size, Re.sizes]; omega
    · obtain ⟨b, o, rfl, hcells⟩ := zCA.at ha hz
      rcases hds with rfl | ⟨ds, sp, hy, hdl, hd⟩
      · simp at hz
      obtain ⟨ts, hts, htg, hsz⟩ := zIa (w := w) (b := b) (o := o) (rows := rows) hdl fun i r hr => ⟨hcells i r hr, hd i r hr⟩
      refine ⟨.mk k set ts mn mx ng, ?_, ?_⟩
      · rw [← hts]
        exact zBC.of hs ⟨by omega, by simp only [maxLen] at hmax; omega⟩ (.inr ⟨b, o, rfl, zBw.mk htg⟩)
      · rw [hy] at hb2
        simp only [YtfbglkkidenifaaGreat.Rows.uptoBulk] at hb2
        simp only [Re.size]
        omega
end
end Go.Proofs
