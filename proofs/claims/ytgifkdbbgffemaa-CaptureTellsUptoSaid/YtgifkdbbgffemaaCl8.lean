/- Contracts and plain lemmas, part 8. -/
import Derived.Tactics
import Derived.Deep.Quiet
import Derived.Laws.AppendOwn
import Derived.KernelRfl
import Derived.Laws.Entries
import Derived.Laws.Build
import Derived.Below
import Derived.RowKit3
import Derived.StillTail
import Derived.Sort.Grow
import Derived.Deep.Draws
import Derived.Test.YtgifkdbbgffemaaChecked
import Derived.Laws.StructEq
import Derived.MapKept
import Derived.Laws.BytesArg
import Derived.DeepKeys3
import Derived.OpenShut
import Derived.ChangeSlices
import Derived.Test.YtgifkdbbgffemaaRows
import Derived.Test.YtgifkdbbgffemaaCl7
namespace Go.Proofs
open Go Go.Eng Go.Sort
set_option maxRecDepth 100000
def zeroF : List Value := fndV 0 0 (List.replicate 10 (0, 0))
theorem zeroF_len : zeroF.length = 22 := rfl
theorem zeroF_one : ∀ v ∈ zeroF, v.oneCell' = true := fnd_one _ _ _
theorem findV_err {t : Re} {text : List Int} {u : Int} (hP : capP t text = u) (hU : u ≠ 0) : findV t text = .tuple #[.agg zeroF.toArray, .bool false, .int .i64 u] := by
 have h : findO t text = none := by unfold findO; rw [if_pos (by rw [hP]; exact hU)]
 unfold findV
 rw [h, hP]
 rfl
theorem allF_hd {text : List Int} {t : Re} {m e : Nat} {q : Nat × Nat × Grp} {r : List (Nat × Nat × Grp)} (hm : 1 ≤ m) (h : allF text t m e = q :: r) : fromO text t e = some q ∧ r = allF text t (m - 1) (nextP q) := by
  obtain ⟨n, rfl⟩ : ∃ n, m = n + 1 := ⟨m - 1, by omega⟩
  cases hf : fromO text t e with
  | none => rw [allF_none hf] at h; cases h
  | some u => rw [allF_some hf] at h; cases h; exact ⟨rfl, rfl⟩
theorem allF_nl {text : List Int} {t : Re} {m e : Nat} (hm : 1 ≤ m) (h : allF text t m e = []) : fromO text t e = none := by
  obtain ⟨n, rfl⟩ : ∃ n, m = n + 1 := ⟨m - 1, by omega⟩
  cases hf : fromO text t e with
  | none => rfl
  | some u => rw [allF_some hf] at h; cases h
set_option maxHeartbeats 4000000 in
theorem ctells_a (w0 : World) (t : Re) (vs : List Value) (vt : Value) (text : List Int) (ht : ReAt w0 t vs) (htx : IntsAt w0 vt text) (hs : t.size ≤ 2097152) (u : Int) (hE9 : capE t = u) (hU : u ≠ 0) :
  Ret Try.prog 5 #[.agg vs.toArray, vt] w0 fun v w => v = .bool true ∧ Ext w0 w := by
 have ht0 := ht
 obtain ⟨sa, sc, aa, ac, rfl, hset, hlen, hargs⟩ := ht.form
 obtain ⟨ta, tc, rfl⟩ := SlAt.form htx
 simp only [List.length_map] at htx ⊢
 have htl := SlAt.le htx
 rw [List.length_map] at htl
 have hP : capP t text = u := by unfold capP; rw [if_pos (by rw [hE9]; exact hU), hE9]
 refine Ret_of Try.func5 rfl Try.ntmps5 (Nat.le_of_ble_eq_true rfl) ?_
 have E : Chg none1 w0 w0 := Chg.refl _ _
 refine Wp_seq_region ?_
 refine s_box (v := (.agg (R6 t sa sc aa ac))) (c := (R6 t sa sc aa ac)) (by decide) rfl rfl ?_
 intro bo wo No
 have Fo := No.ge E
 replace E := E.ext No.ext
 have Bo := No.blk
 refine qA (.bool false) rfl ?_
 refine WpL_nil (Wp_seq_region ?_)
 refine qV (r_loadAgg (vs := [(I6 t.kind), (.slice sa t.set.length sc), (.slice aa t.args.length ac), (I6 t.mn), (I6 t.mx), (.bool t.neg)]) rfl agg27 siz27 rfl (Bo.cells rfl)) ?_
 refine qM (.slice ta text.length tc) rfl ?_
 refine WpL_enter rfl rfl (by decide) (r_callF (vs := [(.agg (R6 t sa sc aa ac)), (.slice ta text.length tc)]) Try.func9 nm9 bd9 rfl) ((find_c _ t _ _ text (ReAt.ext E t ht0) (htx.ext E)).mono (R' := fun r w => r = .tuple #[.agg zeroF.toArray, .bool false, .int .i64 u] ∧ Ext wo w) (fun r w h => ⟨h.1.trans (findV_err hP hU), h.2⟩)) ?_
 rintro _ w9 ⟨rfl, X9⟩
 replace Bo := X9.keep Bo
 replace E := E.ext X9
 refine qM (.tuple #[(.agg zeroF.toArray), (.bool false), (I6 u)]) rfl ?_
 refine qV (r_extract (vs := #[(.agg zeroF.toArray), (.bool false), (I6 u)]) (v := (.agg zeroF.toArray)) rfl rfl) ?_
 refine qV (r_extract (vs := #[(.agg zeroF.toArray), (.bool false), (I6 u)]) (v := (.bool false)) rfl rfl) ?_
 refine qV (r_extract (vs := #[(.agg zeroF.toArray), (.bool false), (I6 u)]) (v := (I6 u)) rfl rfl) ?_
 refine s_allocStore (v := (.agg zeroF.toArray)) (c := zeroF.toArray) (n := 22) (by decide) zer33 rfl siz33 rfl rfl (by simpa using zeroF_len) (by simpa using zeroF_one) ?_
 intro bf wf Nf
 have Ff := Nf.ge E
 have Of_bo := Nf.lt Bo
 replace Bo := Nf.keep Bo
 replace E := E.ext Nf.ext
 have Bf := Nf.blk
 refine qA (.bool false) rfl ?_
 refine qA (I6 u) rfl ?_
 refine WpL_nil (Wp_seq_region ?_)
 refine qV (r_loadAgg (vs := [(I6 t.kind), (.slice sa t.set.length sc), (.slice aa t.args.length ac), (I6 t.mn), (I6 t.mx), (.bool t.neg)]) rfl agg27 siz27 rfl (Bo.cells rfl)) ?_
 refine qM (.slice ta text.length tc) rfl ?_
 refine WpL_enter rfl rfl (by decide) (r_callF (vs := [(.agg (R6 t sa sc aa ac)), (.slice ta text.length tc)]) Try.func10 nm10 bd10 rfl) ((tagged_c _ t _ _ text (ReAt.ext E t ht0) (htx.ext E)).mono (R' := fun r w => r = .tuple #[.agg zeroF.toArray, .bool false, .int .i64 u] ∧ Ext wf w) (fun r w h => ⟨h.1.trans (findV_err hP hU), h.2⟩)) ?_
 rintro _ w19 ⟨rfl, X19⟩
 replace Bo := X19.keep Bo
 replace Bf := X19.keep Bf
 replace E := E.ext X19
 refine qM (.tuple #[(.agg zeroF.toArray), (.bool false), (I6 u)]) rfl ?_
 refine qV (r_extract (vs := #[(.agg zeroF.toArray), (.bool false), (I6 u)]) (v := (.agg zeroF.toArray)) rfl rfl) ?_
 refine qV (r_extract (vs := #[(.agg zeroF.toArray), (.bool false), (I6 u)]) (v := (.bool false)) rfl rfl) ?_
 refine qV (r_extract (vs := #[(.agg zeroF.toArray), (.bool false), (I6 u)]) (v := (I6 u)) rfl rfl) ?_
 refine s_allocStore (v := (.agg zeroF.toArray)) (c := zeroF.toArray) (n := 22) (by decide) zer33 rfl siz33 rfl rfl (by simpa using zeroF_len) (by simpa using zeroF_one) ?_
 intro bg wg Ng
 have Fg := Ng.ge E
 have Og_bo := Ng.lt Bo
 have Og_bf := Ng.lt Bf
 replace Bo := Ng.keep Bo
 replace Bf := Ng.keep Bf
 replace E := E.ext Ng.ext
 have Bg := Ng.blk
 refine qA (.bool false) rfl ?_
 refine qA (I6 u) rfl ?_
 refine WpL_nil (Wp_seq_region ?_)
 refine qV (r_loadAgg (vs := [(I6 t.kind), (.slice sa t.set.length sc), (.slice aa t.args.length ac), (I6 t.mn), (I6 t.mx), (.bool t.neg)]) rfl agg27 siz27 rfl (Bo.cells rfl)) ?_
 refine qM (.slice ta text.length tc) rfl ?_
 refine WpL_enter rfl rfl (by decide) (r_callF (vs := [(.agg (R6 t sa sc aa ac)), (.slice ta text.length tc)]) Try.func11 nm11 bd11 rfl) ((all_c _ t _ _ text (ReAt.ext E t ht0) (htx.ext E)).mono (R' := fun r w => (∃ a c, r = .tuple #[.slice a 0 c, .int .i64 u]) ∧ Ext wg w) (fun r w h => by obtain ⟨a, c, h1, _, h3⟩ := h; rw [allP_nil (by rw [hP]; exact hU), hP] at h1; exact ⟨⟨a, c, h1⟩, h3⟩)) ?_
 rintro _ w29 ⟨⟨ra, rc, rfl⟩, X29⟩
 replace Bo := X29.keep Bo
 replace Bf := X29.keep Bf
 replace Bg := X29.keep Bg
 replace E := E.ext X29
 refine qM (.tuple #[(.slice ra 0 rc), (I6 u)]) rfl ?_
 refine qV (r_extract (vs := #[(.slice ra 0 rc), (I6 u)]) (v := (.slice ra 0 rc)) rfl rfl) ?_
 refine qV (r_extract (vs := #[(.slice ra 0 rc), (I6 u)]) (v := (I6 u)) rfl rfl) ?_
 refine qA (.slice ra 0 rc) rfl ?_
 refine qA (I6 u) rfl ?_
 refine WpL_nil (Wp_seq_region ?_)
 refine qV (r_loadAgg (vs := [(I6 t.kind), (.slice sa t.set.length sc), (.slice aa t.args.length ac), (I6 t.mn), (I6 t.mx), (.bool t.neg)]) rfl agg27 siz27 rfl (Bo.cells rfl)) ?_
 refine WpL_enter rfl rfl (by decide) (r_callF (vs := [(.agg (R6 t sa sc aa ac))]) Try.func12 nm12 bd12 rfl) ((rcap_c _ t _ (ReAt.ext E t ht0) hs).mono (R' := fun v w => v = .int .i64 u ∧ Ext w29 w) (fun v w h => ⟨by rw [h.1, hE9], h.2⟩)) ?_
 rintro _ w39 ⟨rfl, X39⟩
 replace Bo := X39.keep Bo
 replace Bf := X39.keep Bf
 replace Bg := X39.keep Bg
 replace E := E.ext X39
 refine qA (I6 u) rfl ?_
 refine WpL_nil (Wp_seq (Wp_seq_region ?_))
 refine WpL_enter rfl rfl (by decide) (r_callF (vs := []) Try.func13 nm13 bd13 rfl) (cbegun3_c _) ?_
 rintro _ w49 ⟨rfl, X49⟩
 replace Bo := X49.keep Bo
 replace Bf := X49.keep Bf
 replace Bg := X49.keep Bg
 replace E := E.ext X49
 refine qV (r_not (b := true) rfl) ?_
 refine qM (.bool false) rfl ?_
 refine WpL_guard_yes (oj := _) rfl rfl (by decide) rfl ?_
 refine qV (r_loadAgg (vs := [(I6 t.kind), (.slice sa t.set.length sc), (.slice aa t.args.length ac), (I6 t.mn), (I6 t.mx), (.bool t.neg)]) rfl agg27 siz27 rfl (Bo.cells rfl)) ?_
 refine WpL_guard_yes (oj := _) rfl rfl (by decide) rfl ?_
 refine WpL_enter rfl rfl (by decide) (r_callF (vs := [(.agg (R6 t sa sc aa ac))]) Try.func14 nm14 bd14 rfl) ((ccheck_c _ t _ (ReAt.ext E t ht0)).mono (R' := fun v w => v = .int .i64 u ∧ Ext w49 w) (fun v w h => ⟨by rw [h.1, hE9], h.2⟩)) ?_
 rintro _ w59 ⟨rfl, X59⟩
 replace Bo := X59.keep Bo
 replace Bf := X59.keep Bf
 replace Bg := X59.keep Bg
 replace E := E.ext X59
 refine WpL_guard_yes (oj := _) rfl rfl (by decide) rfl ?_
 refine qM (I6 u) rfl ?_
 refine WpL_guard_yes (oj := _) rfl rfl (by decide) rfl ?_
 refine qV (r_neq (k := .i64) (a := u) (b := u) rfl rfl) ?_
 refine qV (r_pick (b := false) (v := (.bool (decide ((u : Int) ≠ u)))) rfl rfl) ?_
 refine WpL_nil ?_
 have hc1 : (decide ((u : Int) ≠ u)) = false := decide_eq_false (fun h => h rfl)
 refine Wp_cond_false (congrArg Value.bool hc1) ?_
 refine Wp_skip (thn_normal (Wp_seq (Wp_seq_region ?_)))
 refine qM (I6 u) rfl ?_
 refine qV (r_eql (k := .i64) (a := u) (b := 0) rfl rfl) ?_
 refine qM (.bool (decide ((u : Int) = 0))) rfl ?_
 have hg2 : (decide ((u : Int) = 0)) = false := decide_eq_false hU
 refine WpL_guard_no (oj := _) rfl rfl (by decide) (v := .bool false) (congrArg Value.bool hg2) (Or.inl rfl) ?_
 refine WpL_guard_no (oj := _) rfl rfl (by decide) (v := .bool false) (congrArg Value.bool hg2) (Or.inl rfl) ?_
 refine WpL_guard_no (oj := _) rfl rfl (by decide) (v := .bool false) (congrArg Value.bool hg2) (Or.inl rfl) ?_
 refine qV (r_pick (b := decide ((u : Int) = 0)) (v := (.bool false)) rfl (by rw [hg2]; rfl)) ?_
 refine WpL_nil ?_
 refine Wp_cond_false rfl ?_
 refine Wp_skip (thn_normal (Wp_seq (Wp_seq_region ?_)))
 refine qM (.slice ta text.length tc) rfl ?_
 refine qV (r_lenSlice (ad := ta) (n := text.length) (cap := tc) Try.underlying22 rfl) ?_
 refine qM (I6 0) rfl ?_
 refine WpL_nil (Wp_block ?_)
 refine Wp_loop (fun nn_ σ W3 => ∃ (k : Nat), (∃ jj_, σ = upds jj_ [(1, (.slice ta text.length tc)), (2, (P6 bo 0)), (5, (P6 bf 0)), (6, (.bool false)), (7, (I6 u)), (8, (P6 bg 0)), (9, (.bool false)), (10, (I6 u)), (11, (.slice ra 0 rc)), (12, (I6 u)), (60, (.slice ta text.length tc)), (61, (I6 (text.length : Int))), (62, (I6 (k : Int))), (13, (I6 u))]) ∧ Chg none1 w0 W3 ∧ Blk W3 bo (R6 t sa sc aa ac) 27 ∧ Blk W3 bf zeroF.toArray 33 ∧ Blk W3 bg zeroF.toArray 33 ∧ (k ≤ text.length) ∧ nn_ = text.length - k) (n := text.length - 0) ?_ ?_
 ·exact ⟨0, Fits.out ⟨rfl, rfl, rfl, rfl, rfl, rfl, rfl, rfl, rfl, rfl, rfl, rfl, rfl, rfl, trivial⟩, E, Bo, Bf, Bg, Nat.zero_le _, rfl⟩
 ·clear E Bo Bf Bg
  rintro _ _ W3 ⟨k, ⟨j3, rfl⟩, E, Bo, Bf, Bg, hk, rfl⟩
  refine Wp_seq_region ?_
  refine qV (r_lss (k := .i64) (a := (k : Int)) (b := (text.length : Int)) rfl rfl) ?_
  refine WpL_nil (Wp_seq ?_)
  refine Wp_cond (b := decide (((k : Int) : Int) < (text.length : Int))) rfl (fun hlt => ?_) (fun hlt => ?_)
  ·have khlt := hlt
   replace hlt := of_decide_eq_true hlt
   obtain ⟨c, hc⟩ := get_of_lt (l := text) (i := k) (by omega)
   obtain ⟨tb, to_, rfl, hcl⟩ := ints_cells htx (by omega)
   refine Wp_skip (thn_normal (Wp_seq (Wp_block (Wp_seq_region ?_))))
   refine qV (r_indexSlice (b := tb) (o := to_) (len := text.length) (cap := tc) (i := k) (o' := to_ + k) rfl rfl rfl Try.underlying22 siz3 (by omega) (by omega)) ?_
   refine qV (r_load (v := (I6 c)) rfl flat3 (E.cell (fun f => f) (hcl k c hc))) ?_
   refine qA (I6 c) rfl ?_
   refine WpL_nil (Wp_seq_region ?_)
   refine qM (I6 u) rfl ?_
   refine qV (r_eql (k := .i64) (a := u) (b := 0) rfl rfl) ?_
   refine qM (.bool (decide ((u : Int) = 0))) rfl ?_
   refine WpL_guard_no (oj := _) rfl rfl (by decide) (v := .bool false) (congrArg Value.bool hg2) (Or.inl rfl) ?_
   refine WpL_guard_no (oj := _) rfl rfl (by decide) (v := .bool false) (congrArg Value.bool hg2) (Or.inl rfl) ?_
   refine WpL_guard_no (oj := _) rfl rfl (by decide) (v := .bool false) (congrArg Value.bool hg2) (Or.inl rfl) ?_
   refine WpL_guard_no (oj := _) rfl rfl (by decide) (v := undef) rfl (Or.inr rfl) ?_
   refine WpL_guard_no (oj := _) rfl rfl (by decide) (v := undef) rfl (Or.inr rfl) ?_
   refine WpL_guard_no (oj := _) rfl rfl (by decide) (v := .bool false) (congrArg Value.bool hg2) (Or.inl rfl) ?_
   refine qV (r_pick (b := decide ((u : Int) = 0)) (v := (.bool false)) rfl (by rw [hg2]; rfl)) ?_
   refine WpL_nil ?_
   refine Wp_cond_false rfl ?_
   refine Wp_skip (inB_normal (thn_normal (Wp_region ?_)))
   refine qV (r_add (k := .i64) (a := (k : Int)) (b := 1) (c := (k : Int) + 1) rfl rfl (wI64 (by omega))) ?_
   refine qM (I6 ((k : Int) + 1)) rfl ?_
   refine WpL_nil (thn_normal ?_)
   exact ⟨text.length - (k + 1), by omega, k + 1, Fits.out ⟨rfl, rfl, rfl, rfl, rfl, rfl, rfl, rfl, rfl, rfl, rfl, rfl, rfl, rfl, trivial⟩, E, Bo, Bf, Bg, (by omega), rfl⟩
  ·have khlt := hlt
   replace hlt := of_decide_eq_false hlt
   refine Wp_exit (thn_exit (thn_exit (inB_here (thn_normal (Wp_seq (Wp_seq_region ?_))))))
   refine qM (I6 u) rfl ?_
   refine qV (r_neq (k := .i64) (a := u) (b := 0) rfl rfl) ?_
   refine WpL_nil ?_
   have hc5 : (decide ((u : Int) ≠ 0)) = true := decide_eq_true hU
   refine Wp_cond_true (congrArg Value.bool hc5) ?_
   refine Wp_seq_region ?_
   refine qM (I6 u) rfl ?_
   refine qM (I6 u) rfl ?_
   refine qV (r_eql (k := .i64) (a := u) (b := u) rfl rfl) ?_
   refine qM (.bool (decide ((u : Int) = u))) rfl ?_
   have hg6 : (decide ((u : Int) = u)) = true := decide_eq_true rfl
   refine WpL_guard_yes (oj := _) rfl rfl (by decide) (congrArg Value.bool hg6) ?_
   refine qM (I6 u) rfl ?_
   refine WpL_guard_yes (oj := _) rfl rfl (by decide) (congrArg Value.bool hg6) ?_
   refine qM (I6 u) rfl ?_
   refine WpL_guard_yes (oj := _) rfl rfl (by decide) (congrArg Value.bool hg6) ?_
   refine qV (r_eql (k := .i64) (a := u) (b := u) rfl rfl) ?_
   refine qV (r_pick (b := decide ((u : Int) = u)) (v := (.bool (decide ((u : Int) = u)))) rfl (by rw [hg6]; rfl)) ?_
   refine qM (.bool (decide ((u : Int) = u))) rfl ?_
   refine WpL_guard_yes (oj := _) rfl rfl (by decide) (congrArg Value.bool hg6) ?_
   refine qM (I6 u) rfl ?_
   refine WpL_guard_yes (oj := _) rfl rfl (by decide) (congrArg Value.bool hg6) ?_
   refine qM (I6 u) rfl ?_
   refine WpL_guard_yes (oj := _) rfl rfl (by decide) (congrArg Value.bool hg6) ?_
   refine qV (r_eql (k := .i64) (a := u) (b := u) rfl rfl) ?_
   refine qV (r_pick (b := decide ((u : Int) = u)) (v := (.bool (decide ((u : Int) = u)))) rfl (by rw [hg6]; rfl)) ?_
   refine qM (.bool (decide ((u : Int) = u))) rfl ?_
   refine WpL_guard_yes (oj := _) rfl rfl (by decide) (congrArg Value.bool hg6) ?_
   refine qM (.bool false) rfl ?_
   refine WpL_guard_yes (oj := _) rfl rfl (by decide) (congrArg Value.bool hg6) ?_
   refine qV (r_not (b := false) rfl) ?_
   refine qV (r_pick (b := decide ((u : Int) = u)) (v := (.bool true)) rfl (by rw [hg6]; rfl)) ?_
   refine qM (.bool true) rfl ?_
   refine WpL_guard_yes (oj := _) rfl rfl (by decide) rfl ?_
   refine qM (.bool false) rfl ?_
   refine WpL_guard_yes (oj := _) rfl rfl (by decide) rfl ?_
   refine qV (r_not (b := false) rfl) ?_
   refine qV (r_pick (b := true) (v := (.bool true)) rfl rfl) ?_
   refine qM (.bool true) rfl ?_
   refine WpL_guard_yes (oj := _) rfl rfl (by decide) rfl ?_
   refine qM (.slice ra 0 rc) rfl ?_
   refine WpL_guard_yes (oj := _) rfl rfl (by decide) rfl ?_
   refine qV (r_lenSlice (ad := ra) (n := 0) (cap := rc) Try.underlying38 rfl) ?_
   refine WpL_guard_yes (oj := _) rfl rfl (by decide) rfl ?_
   refine qV (r_eql (k := .i64) (a := 0) (b := 0) rfl rfl) ?_
   refine qV (r_pick (b := true) (v := (.bool true)) rfl rfl) ?_
   refine qM (.bool true) rfl ?_
   refine WpL_guard_yes (oj := _) rfl rfl (by decide) rfl ?_
   refine qV (r_loadAgg (vs := zeroF) rfl agg33 siz33 zeroF_len (Bf.cells (by simp))) ?_
   refine WpL_guard_yes (oj := _) rfl rfl (by decide) rfl ?_
   refine qV (r_build (ps := []) (v := (.agg (Q22 0 0 0 0 0 0 0 0 0 0 0 0 0 0 0 0 0 0 0 0 0 0))) rfl (by kernel_rfl)) ?_
   refine WpL_guard_yes (oj := _) rfl rfl (by decide) rfl ?_
   refine WpL_val (v := (.bool true)) rfl rfl (by decide) (r_eqFd (L := zeroF) (o := none) rfl rfl rfl rfl) ?_
   refine qV (r_pick (b := true) (v := (.bool true)) rfl rfl) ?_
   refine qM (.bool true) rfl ?_
   refine WpL_guard_yes (oj := _) rfl rfl (by decide) rfl ?_
   refine qV (r_loadAgg (vs := zeroF) rfl agg33 siz33 zeroF_len (Bg.cells (by simp))) ?_
   refine WpL_guard_yes (oj := _) rfl rfl (by decide) rfl ?_
   refine qV (r_build (ps := []) (v := (.agg (Q22 0 0 0 0 0 0 0 0 0 0 0 0 0 0 0 0 0 0 0 0 0 0))) rfl (by kernel_rfl)) ?_
   refine WpL_guard_yes (oj := _) rfl rfl (by decide) rfl ?_
   refine WpL_val (v := (.bool true)) rfl rfl (by decide) (r_eqFd (L := zeroF) (o := none) rfl rfl rfl rfl) ?_
   refine qV (r_pick (b := true) (v := (.bool true)) rfl rfl) ?_
   refine qA (.bool true) rfl ?_
   refine WpL_nil (Wp_ret (thn_ret ?_))
   refine fin_tmp Try.results5 (v := (.bool true)) rfl ?_
   exact ⟨rfl, E⟩
set_option maxHeartbeats 4000000 in
theorem ctells_b (w0 : World) (t : Re) (vs : List Value) (vt : Value) (text : List Int) (ht : ReAt w0 t vs) (htx : IntsAt w0 vt text) (hs : t.size ≤ 2097152) (hE9 : capE t = 0) (h60 : 60 < text.length) :
  Ret Try.prog 5 #[.agg vs.toArray, vt] w0 fun v w => v = .bool true ∧ Ext w0 w := by
 have ht0 := ht
 obtain ⟨sa, sc, aa, ac, rfl, hset, hlen, hargs⟩ := ht.form
 obtain ⟨ta, tc, rfl⟩ := SlAt.form htx
 simp only [List.length_map] at htx ⊢
 have htl := SlAt.le htx
 rw [List.length_map] at htl
 have hP : capP t text = 2 := by unfold capP; rw [if_neg (by omega), if_pos h60]
 have hU : (2 : Int) ≠ 0 := by decide
 refine Ret_of Try.func5 rfl Try.ntmps5 (Nat.le_of_ble_eq_true rfl) ?_
 have E : Chg none1 w0 w0 := Chg.refl _ _
 refine Wp_seq_region ?_
 refine s_box (v := (.agg (R6 t sa sc aa ac))) (c := (R6 t sa sc aa ac)) (by decide) rfl rfl ?_
 intro bo wo No
 have Fo := No.ge E
 replace E := E.ext No.ext
 have Bo := No.blk
 refine qA (.bool false) rfl ?_
 refine WpL_nil (Wp_seq_region ?_)
 refine qV (r_loadAgg (vs := [(I6 t.kind), (.slice sa t.set.length sc), (.slice aa t.args.length ac), (I6 t.mn), (I6 t.mx), (.bool t.neg)]) rfl agg27 siz27 rfl (Bo.cells rfl)) ?_
 refine qM (.slice ta text.length tc) rfl ?_
 refine WpL_enter rfl rfl (by decide) (r_callF (vs := [(.agg (R6 t sa sc aa ac)), (.slice ta text.length tc)]) Try.func9 nm9 bd9 rfl) ((find_c _ t _ _ text (ReAt.ext E t ht0) (htx.ext E)).mono (R' := fun r w => r = .tuple #[.agg zeroF.toArray, .bool false, .int .i64 2] ∧ Ext wo w) (fun r w h => ⟨h.1.trans (findV_err hP hU), h.2⟩)) ?_
 rintro _ w9 ⟨rfl, X9⟩
 replace Bo := X9.keep Bo
 replace E := E.ext X9
 refine qM (.tuple #[(.agg zeroF.toArray), (.bool false), (I6 2)]) rfl ?_
 refine qV (r_extract (vs := #[(.agg zeroF.toArray), (.bool false), (I6 2)]) (v := (.agg zeroF.toArray)) rfl rfl) ?_
 refine qV (r_extract (vs := #[(.agg zeroF.toArray), (.bool false), (I6 2)]) (v := (.bool false)) rfl rfl) ?_
 refine qV (r_extract (vs := #[(.agg zeroF.toArray), (.bool false), (I6 2)]) (v := (I6 2)) rfl rfl) ?_
 refine s_allocStore (v := (.agg zeroF.toArray)) (c := zeroF.toArray) (n := 22) (by decide) zer33 rfl siz33 rfl rfl (by simpa using zeroF_len) (by simpa using zeroF_one) ?_
 intro bf wf Nf
 have Ff := Nf.ge E
 have Of_bo := Nf.lt Bo
 replace Bo := Nf.keep Bo
 replace E := E.ext Nf.ext
 have Bf := Nf.blk
 refine qA (.bool false) rfl ?_
 refine qA (I6 2) rfl ?_
 refine WpL_nil (Wp_seq_region ?_)
 refine qV (r_loadAgg (vs := [(I6 t.kind), (.slice sa t.set.length sc), (.slice aa t.args.length ac), (I6 t.mn), (I6 t.mx), (.bool t.neg)]) rfl agg27 siz27 rfl (Bo.cells rfl)) ?_
 refine qM (.slice ta text.length tc) rfl ?_
 refine WpL_enter rfl rfl (by decide) (r_callF (vs := [(.agg (R6 t sa sc aa ac)), (.slice ta text.length tc)]) Try.func10 nm10 bd10 rfl) ((tagged_c _ t _ _ text (ReAt.ext E t ht0) (htx.ext E)).mono (R' := fun r w => r = .tuple #[.agg zeroF.toArray, .bool false, .int .i64 2] ∧ Ext wf w) (fun r w h => ⟨h.1.trans (findV_err hP hU), h.2⟩)) ?_
 rintro _ w19 ⟨rfl, X19⟩
 replace Bo := X19.keep Bo
 replace Bf := X19.keep Bf
 replace E := E.ext X19
 refine qM (.tuple #[(.agg zeroF.toArray), (.bool false), (I6 2)]) rfl ?_
 refine qV (r_extract (vs := #[(.agg zeroF.toArray), (.bool false), (I6 2)]) (v := (.agg zeroF.toArray)) rfl rfl) ?_
 refine qV (r_extract (vs := #[(.agg zeroF.toArray), (.bool false), (I6 2)]) (v := (.bool false)) rfl rfl) ?_
 refine qV (r_extract (vs := #[(.agg zeroF.toArray), (.bool false), (I6 2)]) (v := (I6 2)) rfl rfl) ?_
 refine s_allocStore (v := (.agg zeroF.toArray)) (c := zeroF.toArray) (n := 22) (by decide) zer33 rfl siz33 rfl rfl (by simpa using zeroF_len) (by simpa using zeroF_one) ?_
 intro bg wg Ng
 have Fg := Ng.ge E
 have Og_bo := Ng.lt Bo
 have Og_bf := Ng.lt Bf
 replace Bo := Ng.keep Bo
 replace Bf := Ng.keep Bf
 replace E := E.ext Ng.ext
 have Bg := Ng.blk
 refine qA (.bool false) rfl ?_
 refine qA (I6 2) rfl ?_
 refine WpL_nil (Wp_seq_region ?_)
 refine qV (r_loadAgg (vs := [(I6 t.kind), (.slice sa t.set.length sc), (.slice aa t.args.length ac), (I6 t.mn), (I6 t.mx), (.bool t.neg)]) rfl agg27 siz27 rfl (Bo.cells rfl)) ?_
 refine qM (.slice ta text.length tc) rfl ?_
 refine WpL_enter rfl rfl (by decide) (r_callF (vs := [(.agg (R6 t sa sc aa ac)), (.slice ta text.length tc)]) Try.func11 nm11 bd11 rfl) ((all_c _ t _ _ text (ReAt.ext E t ht0) (htx.ext E)).mono (R' := fun r w => (∃ a c, r = .tuple #[.slice a 0 c, .int .i64 2]) ∧ Ext wg w) (fun r w h => by obtain ⟨a, c, h1, _, h3⟩ := h; rw [allP_nil (by rw [hP]; exact hU), hP] at h1; exact ⟨⟨a, c, h1⟩, h3⟩)) ?_
 rintro _ w29 ⟨⟨ra, rc, rfl⟩, X29⟩
 replace Bo := X29.keep Bo
 replace Bf := X29.keep Bf
 replace Bg := X29.keep Bg
 replace E := E.ext X29
 refine qM (.tuple #[(.slice ra 0 rc), (I6 2)]) rfl ?_
 refine qV (r_extract (vs := #[(.slice ra 0 rc), (I6 2)]) (v := (.slice ra 0 rc)) rfl rfl) ?_
 refine qV (r_extract (vs := #[(.slice ra 0 rc), (I6 2)]) (v := (I6 2)) rfl rfl) ?_
 refine qA (.slice ra 0 rc) rfl ?_
 refine qA (I6 2) rfl ?_
 refine WpL_nil (Wp_seq_region ?_)
 refine qV (r_loadAgg (vs := [(I6 t.kind), (.slice sa t.set.length sc), (.slice aa t.args.length ac), (I6 t.mn), (I6 t.mx), (.bool t.neg)]) rfl agg27 siz27 rfl (Bo.cells rfl)) ?_
 refine WpL_enter rfl rfl (by decide) (r_callF (vs := [(.agg (R6 t sa sc aa ac))]) Try.func12 nm12 bd12 rfl) ((rcap_c _ t _ (ReAt.ext E t ht0) hs).mono (R' := fun v w => v = .int .i64 0 ∧ Ext w29 w) (fun v w h => ⟨by rw [h.1, hE9], h.2⟩)) ?_
 rintro _ w39 ⟨rfl, X39⟩
 replace Bo := X39.keep Bo
 replace Bf := X39.keep Bf
 replace Bg := X39.keep Bg
 replace E := E.ext X39
 refine qA (I6 0) rfl ?_
 refine WpL_nil (Wp_seq (Wp_seq_region ?_))
 refine WpL_enter rfl rfl (by decide) (r_callF (vs := []) Try.func13 nm13 bd13 rfl) (cbegun3_c _) ?_
 rintro _ w49 ⟨rfl, X49⟩
 replace Bo := X49.keep Bo
 replace Bf := X49.keep Bf
 replace Bg := X49.keep Bg
 replace E := E.ext X49
 refine qV (r_not (b := true) rfl) ?_
 refine qM (.bool false) rfl ?_
 refine WpL_guard_yes (oj := _) rfl rfl (by decide) rfl ?_
 refine qV (r_loadAgg (vs := [(I6 t.kind), (.slice sa t.set.length sc), (.slice aa t.args.length ac), (I6 t.mn), (I6 t.mx), (.bool t.neg)]) rfl agg27 siz27 rfl (Bo.cells rfl)) ?_
 refine WpL_guard_yes (oj := _) rfl rfl (by decide) rfl ?_
 refine WpL_enter rfl rfl (by decide) (r_callF (vs := [(.agg (R6 t sa sc aa ac))]) Try.func14 nm14 bd14 rfl) ((ccheck_c _ t _ (ReAt.ext E t ht0)).mono (R' := fun v w => v = .int .i64 0 ∧ Ext w49 w) (fun v w h => ⟨by rw [h.1, hE9], h.2⟩)) ?_
 rintro _ w59 ⟨rfl, X59⟩
 replace Bo := X59.keep Bo
 replace Bf := X59.keep Bf
 replace Bg := X59.keep Bg
 replace E := E.ext X59
 refine WpL_guard_yes (oj := _) rfl rfl (by decide) rfl ?_
 refine qM (I6 0) rfl ?_
 refine WpL_guard_yes (oj := _) rfl rfl (by decide) rfl ?_
 refine qV (r_neq (k := .i64) (a := 0) (b := 0) rfl rfl) ?_
 refine qV (r_pick (b := false) (v := (.bool false)) rfl rfl) ?_
 refine WpL_nil ?_
 refine Wp_cond_false rfl ?_
 refine Wp_skip (thn_normal (Wp_seq (Wp_seq_region ?_)))
 refine qM (I6 0) rfl ?_
 refine qV (r_eql (k := .i64) (a := 0) (b := 0) rfl rfl) ?_
 refine qM (.bool true) rfl ?_
 refine WpL_guard_yes (oj := _) rfl rfl (by decide) rfl ?_
 refine qM (.slice ta text.length tc) rfl ?_
 refine WpL_guard_yes (oj := _) rfl rfl (by decide) rfl ?_
 refine qV (r_lenSlice (ad := ta) (n := text.length) (cap := tc) Try.underlying22 rfl) ?_
 refine WpL_guard_yes (oj := _) rfl rfl (by decide) rfl ?_
 refine qV (r_gtr (k := .i64) (a := (text.length : Int)) (b := 60) rfl rfl) ?_
 refine qV (r_pick (b := true) (v := (.bool (decide ((60 : Int) < (text.length : Int))))) rfl rfl) ?_
 refine WpL_nil ?_
 have hc1 : (decide ((60 : Int) < ((text.length : Nat) : Int))) = true := decide_eq_true (by omega)
 refine Wp_cond_true (congrArg Value.bool hc1) ?_
 refine Wp_region ?_
 refine qA (I6 2) rfl ?_
 refine WpL_nil (thn_normal (Wp_seq (Wp_seq_region ?_)))
 refine qM (.slice ta text.length tc) rfl ?_
 refine qV (r_lenSlice (ad := ta) (n := text.length) (cap := tc) Try.underlying22 rfl) ?_
 refine qM (I6 0) rfl ?_
 refine WpL_nil (Wp_block ?_)
 refine Wp_loop (fun nn_ σ W2 => ∃ (k : Nat), (∃ jj_, σ = upds jj_ [(1, (.slice ta text.length tc)), (2, (P6 bo 0)), (5, (P6 bf 0)), (6, (.bool false)), (7, (I6 2)), (8, (P6 bg 0)), (9, (.bool false)), (10, (I6 2)), (11, (.slice ra 0 rc)), (12, (I6 2)), (60, (.slice ta text.length tc)), (61, (I6 (text.length : Int))), (62, (I6 (k : Int))), (13, (I6 2))]) ∧ Chg none1 w0 W2 ∧ Blk W2 bo (R6 t sa sc aa ac) 27 ∧ Blk W2 bf zeroF.toArray 33 ∧ Blk W2 bg zeroF.toArray 33 ∧ (k ≤ text.length) ∧ nn_ = text.length - k) (n := text.length - 0) ?_ ?_
 ·exact ⟨0, Fits.out ⟨rfl, rfl, rfl, rfl, rfl, rfl, rfl, rfl, rfl, rfl, rfl, rfl, rfl, rfl, trivial⟩, E, Bo, Bf, Bg, Nat.zero_le _, rfl⟩
 ·clear E Bo Bf Bg
  rintro _ _ W2 ⟨k, ⟨j2, rfl⟩, E, Bo, Bf, Bg, hk, rfl⟩
  refine Wp_seq_region ?_
  refine qV (r_lss (k := .i64) (a := (k : Int)) (b := (text.length : Int)) rfl rfl) ?_
  refine WpL_nil (Wp_seq ?_)
  refine Wp_cond (b := decide (((k : Int) : Int) < (text.length : Int))) rfl (fun hlt => ?_) (fun hlt => ?_)
  ·have khlt := hlt
   replace hlt := of_decide_eq_true hlt
   obtain ⟨c, hc⟩ := get_of_lt (l := text) (i := k) (by omega)
   obtain ⟨tb, to_, rfl, hcl⟩ := ints_cells htx (by omega)
   refine Wp_skip (thn_normal (Wp_seq (Wp_block (Wp_seq_region ?_))))
   refine qV (r_indexSlice (b := tb) (o := to_) (len := text.length) (cap := tc) (i := k) (o' := to_ + k) rfl rfl rfl Try.underlying22 siz3 (by omega) (by omega)) ?_
   refine qV (r_load (v := (I6 c)) rfl flat3 (E.cell (fun f => f) (hcl k c hc))) ?_
   refine qA (I6 c) rfl ?_
   refine WpL_nil (Wp_seq_region ?_)
   refine qM (I6 2) rfl ?_
   refine qV (r_eql (k := .i64) (a := 2) (b := 0) rfl rfl) ?_
   refine qM (.bool false) rfl ?_
   refine WpL_guard_no (oj := _) rfl rfl (by decide) (v := .bool false) rfl (Or.inl rfl) ?_
   refine WpL_guard_no (oj := _) rfl rfl (by decide) (v := .bool false) rfl (Or.inl rfl) ?_
   refine WpL_guard_no (oj := _) rfl rfl (by decide) (v := .bool false) rfl (Or.inl rfl) ?_
   refine WpL_guard_no (oj := _) rfl rfl (by decide) (v := undef) rfl (Or.inr rfl) ?_
   refine WpL_guard_no (oj := _) rfl rfl (by decide) (v := undef) rfl (Or.inr rfl) ?_
   refine WpL_guard_no (oj := _) rfl rfl (by decide) (v := .bool false) rfl (Or.inl rfl) ?_
   refine qV (r_pick (b := false) (v := (.bool false)) rfl rfl) ?_
   refine WpL_nil ?_
   refine Wp_cond_false rfl ?_
   refine Wp_skip (inB_normal (thn_normal (Wp_region ?_)))
   refine qV (r_add (k := .i64) (a := (k : Int)) (b := 1) (c := (k : Int) + 1) rfl rfl (wI64 (by omega))) ?_
   refine qM (I6 ((k : Int) + 1)) rfl ?_
   refine WpL_nil (thn_normal ?_)
   exact ⟨text.length - (k + 1), by omega, k + 1, Fits.out ⟨rfl, rfl, rfl, rfl, rfl, rfl, rfl, rfl, rfl, rfl, rfl, rfl, rfl, rfl, trivial⟩, E, Bo, Bf, Bg, (by omega), rfl⟩
  ·have khlt := hlt
   replace hlt := of_decide_eq_false hlt
   refine Wp_exit (thn_exit (thn_exit (inB_here (thn_normal (Wp_seq (Wp_seq_region ?_))))))
   refine qM (I6 2) rfl ?_
   refine qV (r_neq (k := .i64) (a := 2) (b := 0) rfl rfl) ?_
   refine WpL_nil ?_
   refine Wp_cond_true rfl ?_
   refine Wp_seq_region ?_
   refine qM (I6 2) rfl ?_
   refine qM (I6 2) rfl ?_
   refine qV (r_eql (k := .i64) (a := 2) (b := 2) rfl rfl) ?_
   refine qM (.bool true) rfl ?_
   refine WpL_guard_yes (oj := _) rfl rfl (by decide) rfl ?_
   refine qM (I6 2) rfl ?_
   refine WpL_guard_yes (oj := _) rfl rfl (by decide) rfl ?_
   refine qM (I6 2) rfl ?_
   refine WpL_guard_yes (oj := _) rfl rfl (by decide) rfl ?_
   refine qV (r_eql (k := .i64) (a := 2) (b := 2) rfl rfl) ?_
   refine qV (r_pick (b := true) (v := (.bool true)) rfl rfl) ?_
   refine qM (.bool true) rfl ?_
   refine WpL_guard_yes (oj := _) rfl rfl (by decide) rfl ?_
   refine qM (I6 2) rfl ?_
   refine WpL_guard_yes (oj := _) rfl rfl (by decide) rfl ?_
   refine qM (I6 2) rfl ?_
   refine WpL_guard_yes (oj := _) rfl rfl (by decide) rfl ?_
   refine qV (r_eql (k := .i64) (a := 2) (b := 2) rfl rfl) ?_
   refine qV (r_pick (b := true) (v := (.bool true)) rfl rfl) ?_
   refine qM (.bool true) rfl ?_
   refine WpL_guard_yes (oj := _) rfl rfl (by decide) rfl ?_
   refine qM (.bool false) rfl ?_
   refine WpL_guard_yes (oj := _) rfl rfl (by decide) rfl ?_
   refine qV (r_not (b := false) rfl) ?_
   refine qV (r_pick (b := true) (v := (.bool true)) rfl rfl) ?_
   refine qM (.bool true) rfl ?_
   refine WpL_guard_yes (oj := _) rfl rfl (by decide) rfl ?_
   refine qM (.bool false) rfl ?_
   refine WpL_guard_yes (oj := _) rfl rfl (by decide) rfl ?_
   refine qV (r_not (b := false) rfl) ?_
   refine qV (r_pick (b := true) (v := (.bool true)) rfl rfl) ?_
   refine qM (.bool true) rfl ?_
   refine WpL_guard_yes (oj := _) rfl rfl (by decide) rfl ?_
   refine qM (.slice ra 0 rc) rfl ?_
   refine WpL_guard_yes (oj := _) rfl rfl (by decide) rfl ?_
   refine qV (r_lenSlice (ad := ra) (n := 0) (cap := rc) Try.underlying38 rfl) ?_
   refine WpL_guard_yes (oj := _) rfl rfl (by decide) rfl ?_
   refine qV (r_eql (k := .i64) (a := 0) (b := 0) rfl rfl) ?_
   refine qV (r_pick (b := true) (v := (.bool true)) rfl rfl) ?_
   refine qM (.bool true) rfl ?_
   refine WpL_guard_yes (oj := _) rfl rfl (by decide) rfl ?_
   refine qV (r_loadAgg (vs := zeroF) rfl agg33 siz33 zeroF_len (Bf.cells (by simp))) ?_
   refine WpL_guard_yes (oj := _) rfl rfl (by decide) rfl ?_
   refine qV (r_build (ps := []) (v := (.agg (Q22 0 0 0 0 0 0 0 0 0 0 0 0 0 0 0 0 0 0 0 0 0 0))) rfl (by kernel_rfl)) ?_
   refine WpL_guard_yes (oj := _) rfl rfl (by decide) rfl ?_
   refine WpL_val (v := (.bool true)) rfl rfl (by decide) (r_eqFd (L := zeroF) (o := none) rfl rfl rfl rfl) ?_
   refine qV (r_pick (b := true) (v := (.bool true)) rfl rfl) ?_
   refine qM (.bool true) rfl ?_
   refine WpL_guard_yes (oj := _) rfl rfl (by decide) rfl ?_
   refine qV (r_loadAgg (vs := zeroF) rfl agg33 siz33 zeroF_len (Bg.cells (by simp))) ?_
   refine WpL_guard_yes (oj := _) rfl rfl (by decide) rfl ?_
   refine qV (r_build (ps := []) (v := (.agg (Q22 0 0 0 0 0 0 0 0 0 0 0 0 0 0 0 0 0 0 0 0 0 0))) rfl (by kernel_rfl)) ?_
   refine WpL_guard_yes (oj := _) rfl rfl (by decide) rfl ?_
   refine WpL_val (v := (.bool true)) rfl rfl (by decide) (r_eqFd (L := zeroF) (o := none) rfl rfl rfl rfl) ?_
   refine qV (r_pick (b := true) (v := (.bool true)) rfl rfl) ?_
   refine qA (.bool true) rfl ?_
   refine WpL_nil (Wp_ret (thn_ret ?_))
   refine fin_tmp Try.results5 (v := (.bool true)) rfl ?_
   exact ⟨rfl, E⟩
set_option maxHeartbeats 4000000 in
theorem ctells_c (w0 : World) (t : Re) (vs : List Value) (vt : Value) (text : List Int) (ht : ReAt w0 t vs) (htx : IntsAt w0 vt text) (hs : t.size ≤ 2097152) (hE9 : capE t = 0) (h60 : ¬ 60 < text.length) (hb9 : text.any (fun r => !runeB r) = true) :
  Ret Try.prog 5 #[.agg vs.toArray, vt] w0 fun v w => v = .bool true ∧ Ext w0 w := by
 have ht0 := ht
 obtain ⟨sa, sc, aa, ac, rfl, hset, hlen, hargs⟩ := ht.form
 obtain ⟨ta, tc, rfl⟩ := SlAt.form htx
 simp only [List.length_map] at htx ⊢
 have htl := SlAt.le htx
 rw [List.length_map] at htl
 have hP : capP t text = 1 := by unfold capP; rw [if_neg (by omega), if_neg h60, if_pos hb9]
 have hU : (1 : Int) ≠ 0 := by decide
 refine Ret_of Try.func5 rfl Try.ntmps5 (Nat.le_of_ble_eq_true rfl) ?_
 have E : Chg none1 w0 w0 := Chg.refl _ _
 refine Wp_seq_region ?_
 refine s_box (v := (.agg (R6 t sa sc aa ac))) (c := (R6 t sa sc aa ac)) (by decide) rfl rfl ?_
 intro bo wo No
 have Fo := No.ge E
 replace E := E.ext No.ext
 have Bo := No.blk
 refine qA (.bool false) rfl ?_
 refine WpL_nil (Wp_seq_region ?_)
 refine qV (r_loadAgg (vs := [(I6 t.kind), (.slice sa t.set.length sc), (.slice aa t.args.length ac), (I6 t.mn), (I6 t.mx), (.bool t.neg)]) rfl agg27 siz27 rfl (Bo.cells rfl)) ?_
 refine qM (.slice ta text.length tc) rfl ?_
 refine WpL_enter rfl rfl (by decide) (r_callF (vs := [(.agg (R6 t sa sc aa ac)), (.slice ta text.length tc)]) Try.func9 nm9 bd9 rfl) ((find_c _ t _ _ text (ReAt.ext E t ht0) (htx.ext E)).mono (R' := fun r w => r = .tuple #[.agg zeroF.toArray, .bool false, .int .i64 1] ∧ Ext wo w) (fun r w h => ⟨h.1.trans (findV_err hP hU), h.2⟩)) ?_
 rintro _ w9 ⟨rfl, X9⟩
 replace Bo := X9.keep Bo
 replace E := E.ext X9
 refine qM (.tuple #[(.agg zeroF.toArray), (.bool false), (I6 1)]) rfl ?_
 refine qV (r_extract (vs := #[(.agg zeroF.toArray), (.bool false), (I6 1)]) (v := (.agg zeroF.toArray)) rfl rfl) ?_
 refine qV (r_extract (vs := #[(.agg zeroF.toArray), (.bool false), (I6 1)]) (v := (.bool false)) rfl rfl) ?_
 refine qV (r_extract (vs := #[(.agg zeroF.toArray), (.bool false), (I6 1)]) (v := (I6 1)) rfl rfl) ?_
 refine s_allocStore (v := (.agg zeroF.toArray)) (c := zeroF.toArray) (n := 22) (by decide) zer33 rfl siz33 rfl rfl (by simpa using zeroF_len) (by simpa using zeroF_one) ?_
 intro bf wf Nf
 have Ff := Nf.ge E
 have Of_bo := Nf.lt Bo
 replace Bo := Nf.keep Bo
 replace E := E.ext Nf.ext
 have Bf := Nf.blk
 refine qA (.bool false) rfl ?_
 refine qA (I6 1) rfl ?_
 refine WpL_nil (Wp_seq_region ?_)
 refine qV (r_loadAgg (vs := [(I6 t.kind), (.slice sa t.set.length sc), (.slice aa t.args.length ac), (I6 t.mn), (I6 t.mx), (.bool t.neg)]) rfl agg27 siz27 rfl (Bo.cells rfl)) ?_
 refine qM (.slice ta text.length tc) rfl ?_
 refine WpL_enter rfl rfl (by decide) (r_callF (vs := [(.agg (R6 t sa sc aa ac)), (.slice ta text.length tc)]) Try.func10 nm10 bd10 rfl) ((tagged_c _ t _ _ text (ReAt.ext E t ht0) (htx.ext E)).mono (R' := fun r w => r = .tuple #[.agg zeroF.toArray, .bool false, .int .i64 1] ∧ Ext wf w) (fun r w h => ⟨h.1.trans (findV_err hP hU), h.2⟩)) ?_
 rintro _ w19 ⟨rfl, X19⟩
 replace Bo := X19.keep Bo
 replace Bf := X19.keep Bf
 replace E := E.ext X19
 refine qM (.tuple #[(.agg zeroF.toArray), (.bool false), (I6 1)]) rfl ?_
 refine qV (r_extract (vs := #[(.agg zeroF.toArray), (.bool false), (I6 1)]) (v := (.agg zeroF.toArray)) rfl rfl) ?_
 refine qV (r_extract (vs := #[(.agg zeroF.toArray), (.bool false), (I6 1)]) (v := (.bool false)) rfl rfl) ?_
 refine qV (r_extract (vs := #[(.agg zeroF.toArray), (.bool false), (I6 1)]) (v := (I6 1)) rfl rfl) ?_
 refine s_allocStore (v := (.agg zeroF.toArray)) (c := zeroF.toArray) (n := 22) (by decide) zer33 rfl siz33 rfl rfl (by simpa using zeroF_len) (by simpa using zeroF_one) ?_
 intro bg wg Ng
 have Fg := Ng.ge E
 have Og_bo := Ng.lt Bo
 have Og_bf := Ng.lt Bf
 replace Bo := Ng.keep Bo
 replace Bf := Ng.keep Bf
 replace E := E.ext Ng.ext
 have Bg := Ng.blk
 refine qA (.bool false) rfl ?_
 refine qA (I6 1) rfl ?_
 refine WpL_nil (Wp_seq_region ?_)
 refine qV (r_loadAgg (vs := [(I6 t.kind), (.slice sa t.set.length sc), (.slice aa t.args.length ac), (I6 t.mn), (I6 t.mx), (.bool t.neg)]) rfl agg27 siz27 rfl (Bo.cells rfl)) ?_
 refine qM (.slice ta text.length tc) rfl ?_
 refine WpL_enter rfl rfl (by decide) (r_callF (vs := [(.agg (R6 t sa sc aa ac)), (.slice ta text.length tc)]) Try.func11 nm11 bd11 rfl) ((all_c _ t _ _ text (ReAt.ext E t ht0) (htx.ext E)).mono (R' := fun r w => (∃ a c, r = .tuple #[.slice a 0 c, .int .i64 1]) ∧ Ext wg w) (fun r w h => by obtain ⟨a, c, h1, _, h3⟩ := h; rw [allP_nil (by rw [hP]; exact hU), hP] at h1; exact ⟨⟨a, c, h1⟩, h3⟩)) ?_
 rintro _ w29 ⟨⟨ra, rc, rfl⟩, X29⟩
 replace Bo := X29.keep Bo
 replace Bf := X29.keep Bf
 replace Bg := X29.keep Bg
 replace E := E.ext X29
 refine qM (.tuple #[(.slice ra 0 rc), (I6 1)]) rfl ?_
 refine qV (r_extract (vs := #[(.slice ra 0 rc), (I6 1)]) (v := (.slice ra 0 rc)) rfl rfl) ?_
 refine qV (r_extract (vs := #[(.slice ra 0 rc), (I6 1)]) (v := (I6 1)) rfl rfl) ?_
 refine qA (.slice ra 0 rc) rfl ?_
 refine qA (I6 1) rfl ?_
 refine WpL_nil (Wp_seq_region ?_)
 refine qV (r_loadAgg (vs := [(I6 t.kind), (.slice sa t.set.length sc), (.slice aa t.args.length ac), (I6 t.mn), (I6 t.mx), (.bool t.neg)]) rfl agg27 siz27 rfl (Bo.cells rfl)) ?_
 refine WpL_enter rfl rfl (by decide) (r_callF (vs := [(.agg (R6 t sa sc aa ac))]) Try.func12 nm12 bd12 rfl) ((rcap_c _ t _ (ReAt.ext E t ht0) hs).mono (R' := fun v w => v = .int .i64 0 ∧ Ext w29 w) (fun v w h => ⟨by rw [h.1, hE9], h.2⟩)) ?_
 rintro _ w39 ⟨rfl, X39⟩
 replace Bo := X39.keep Bo
 replace Bf := X39.keep Bf
 replace Bg := X39.keep Bg
 replace E := E.ext X39
 refine qA (I6 0) rfl ?_
 refine WpL_nil (Wp_seq (Wp_seq_region ?_))
 refine WpL_enter rfl rfl (by decide) (r_callF (vs := []) Try.func13 nm13 bd13 rfl) (cbegun3_c _) ?_
 rintro _ w49 ⟨rfl, X49⟩
 replace Bo := X49.keep Bo
 replace Bf := X49.keep Bf
 replace Bg := X49.keep Bg
 replace E := E.ext X49
 refine qV (r_not (b := true) rfl) ?_
 refine qM (.bool false) rfl ?_
 refine WpL_guard_yes (oj := _) rfl rfl (by decide) rfl ?_
 refine qV (r_loadAgg (vs := [(I6 t.kind), (.slice sa t.set.length sc), (.slice aa t.args.length ac), (I6 t.mn), (I6 t.mx), (.bool t.neg)]) rfl agg27 siz27 rfl (Bo.cells rfl)) ?_
 refine WpL_guard_yes (oj := _) rfl rfl (by decide) rfl ?_
 refine WpL_enter rfl rfl (by decide) (r_callF (vs := [(.agg (R6 t sa sc aa ac))]) Try.func14 nm14 bd14 rfl) ((ccheck_c _ t _ (ReAt.ext E t ht0)).mono (R' := fun v w => v = .int .i64 0 ∧ Ext w49 w) (fun v w h => ⟨by rw [h.1, hE9], h.2⟩)) ?_
 rintro _ w59 ⟨rfl, X59⟩
 replace Bo := X59.keep Bo
 replace Bf := X59.keep Bf
 replace Bg := X59.keep Bg
 replace E := E.ext X59
 refine WpL_guard_yes (oj := _) rfl rfl (by decide) rfl ?_
 refine qM (I6 0) rfl ?_
 refine WpL_guard_yes (oj := _) rfl rfl (by decide) rfl ?_
 refine qV (r_neq (k := .i64) (a := 0) (b := 0) rfl rfl) ?_
 refine qV (r_pick (b := false) (v := (.bool false)) rfl rfl) ?_
 refine WpL_nil ?_
 refine Wp_cond_false rfl ?_
 refine Wp_skip (thn_normal (Wp_seq (Wp_seq_region ?_)))
 refine qM (I6 0) rfl ?_
 refine qV (r_eql (k := .i64) (a := 0) (b := 0) rfl rfl) ?_
 refine qM (.bool true) rfl ?_
 refine WpL_guard_yes (oj := _) rfl rfl (by decide) rfl ?_
 refine qM (.slice ta text.length tc) rfl ?_
 refine WpL_guard_yes (oj := _) rfl rfl (by decide) rfl ?_
 refine qV (r_lenSlice (ad := ta) (n := text.length) (cap := tc) Try.underlying22 rfl) ?_
 refine WpL_guard_yes (oj := _) rfl rfl (by decide) rfl ?_
 refine qV (r_gtr (k := .i64) (a := (text.length : Int)) (b := 60) rfl rfl) ?_
 refine qV (r_pick (b := true) (v := (.bool (decide ((60 : Int) < (text.length : Int))))) rfl rfl) ?_
 refine WpL_nil ?_
 have hc1 : (decide ((60 : Int) < ((text.length : Nat) : Int))) = false := decide_eq_false (by omega)
 refine Wp_cond_false (congrArg Value.bool hc1) ?_
 refine Wp_skip (thn_normal (Wp_seq (Wp_seq_region ?_)))
 refine qM (.slice ta text.length tc) rfl ?_
 refine qV (r_lenSlice (ad := ta) (n := text.length) (cap := tc) Try.underlying22 rfl) ?_
 refine qM (I6 0) rfl ?_
 refine WpL_nil (Wp_block ?_)
 refine Wp_loop (fun nn_ σ W2 => ∃ (k : Nat) (v : Int), (∃ jj_, σ = upds jj_ [(1, (.slice ta text.length tc)), (2, (P6 bo 0)), (5, (P6 bf 0)), (6, (.bool false)), (7, (I6 1)), (8, (P6 bg 0)), (9, (.bool false)), (10, (I6 1)), (11, (.slice ra 0 rc)), (12, (I6 1)), (60, (.slice ta text.length tc)), (61, (I6 (text.length : Int))), (62, (I6 (k : Int))), (13, (I6 v))]) ∧ Chg none1 w0 W2 ∧ Blk W2 bo (R6 t sa sc aa ac) 27 ∧ Blk W2 bf zeroF.toArray 33 ∧ Blk W2 bg zeroF.toArray 33 ∧ (k ≤ text.length) ∧ (v = if (text.take k).any (fun r => !runeB r) = true then 1 else 0) ∧ nn_ = text.length - k) (n := text.length - 0) ?_ ?_
 ·exact ⟨0, 0, Fits.out ⟨rfl, rfl, rfl, rfl, rfl, rfl, rfl, rfl, rfl, rfl, rfl, rfl, rfl, rfl, trivial⟩, E, Bo, Bf, Bg, Nat.zero_le _, rfl, rfl⟩
 ·clear E Bo Bf Bg
  rintro _ _ W2 ⟨k, v, ⟨j2, rfl⟩, E, Bo, Bf, Bg, hk, hv, rfl⟩
  refine Wp_seq_region ?_
  refine qV (r_lss (k := .i64) (a := (k : Int)) (b := (text.length : Int)) rfl rfl) ?_
  refine WpL_nil (Wp_seq ?_)
  refine Wp_cond (b := decide (((k : Int) : Int) < (text.length : Int))) rfl (fun hlt => ?_) (fun hlt => ?_)
  ·have khlt := hlt
   replace hlt := of_decide_eq_true hlt
   obtain ⟨c, hc⟩ := get_of_lt (l := text) (i := k) (by omega)
   obtain ⟨tb, to_, rfl, hcl⟩ := ints_cells htx (by omega)
   have htk := any_take_succ (f := fun r => !runeB r) hc
   refine Wp_skip (thn_normal (Wp_seq (Wp_block (Wp_seq_region ?_))))
   refine qV (r_indexSlice (b := tb) (o := to_) (len := text.length) (cap := tc) (i := k) (o' := to_ + k) rfl rfl rfl Try.underlying22 siz3 (by omega) (by omega)) ?_
   refine qV (r_load (v := (I6 c)) rfl flat3 (E.cell (fun f => f) (hcl k c hc))) ?_
   refine qA (I6 c) rfl ?_
   refine WpL_nil (Wp_seq_region ?_)
   refine qM (I6 v) rfl ?_
   refine qV (r_eql (k := .i64) (a := v) (b := 0) rfl rfl) ?_
   refine qM (.bool (decide ((v : Int) = 0))) rfl ?_
   rcases Bool.eq_false_or_eq_true (decide ((v : Int) = 0)) with h0 | h0
   ·have kh0 := h0
    replace kh0 := of_decide_eq_true kh0
    refine WpL_guard_yes (oj := _) rfl rfl (by decide) (congrArg Value.bool h0) ?_
    refine qM (I6 c) rfl ?_
    refine WpL_guard_yes (oj := _) rfl rfl (by decide) (congrArg Value.bool h0) ?_
    refine qV (r_lss (k := .i64) (a := c) (b := 0) rfl rfl) ?_
    refine WpL_guard_yes (oj := _) rfl rfl (by decide) (congrArg Value.bool h0) ?_
    refine qM (.bool (decide ((c : Int) < 0))) rfl ?_
    rcases Bool.eq_false_or_eq_true (decide ((c : Int) < 0)) with h1 | h1
    ·have kh1 := h1
     replace kh1 := of_decide_eq_true kh1
     refine WpL_guard_no (oj := _) rfl rfl (by decide) (v := .bool true) (congrArg Value.bool h1) (Or.inl rfl) ?_
     refine WpL_guard_no (oj := _) rfl rfl (by decide) (v := .bool true) (congrArg Value.bool h1) (Or.inl rfl) ?_
     refine WpL_guard_yes (oj := _) rfl rfl (by decide) (congrArg Value.bool h0) ?_
     refine qV (r_pick (b := decide ((c : Int) < 0)) (v := (.bool true)) rfl (by rw [h1]; rfl)) ?_
     refine qV (r_pick (b := decide ((v : Int) = 0)) (v := (.bool true)) rfl (by rw [h0]; rfl)) ?_
     refine WpL_nil ?_
     refine Wp_cond_true rfl ?_
     refine Wp_region ?_
     refine qA (I6 1) rfl ?_
     refine WpL_nil (inB_normal (thn_normal (Wp_region ?_)))
     refine qV (r_add (k := .i64) (a := (k : Int)) (b := 1) (c := (k : Int) + 1) rfl rfl (wI64 (by omega))) ?_
     refine qM (I6 ((k : Int) + 1)) rfl ?_
     refine WpL_nil (thn_normal ?_)
     exact ⟨text.length - (k + 1), by omega, k + 1, 1, Fits.out ⟨rfl, rfl, rfl, rfl, rfl, rfl, rfl, rfl, rfl, rfl, rfl, rfl, rfl, rfl, trivial⟩, E, Bo, Bf, Bg, (by omega), (by rw [htk, show runeB c = false by unfold runeB; simp; omega]; simp), rfl⟩
    ·have kh1 := h1
     replace kh1 := of_decide_eq_false kh1
     refine WpL_guard_yes (oj := _) rfl rfl (by decide) (congrArg Value.bool h1) ?_
     refine qM (I6 c) rfl ?_
     refine WpL_guard_yes (oj := _) rfl rfl (by decide) (congrArg Value.bool h1) ?_
     refine qV (r_gtr (k := .i64) (a := c) (b := 1114111) rfl rfl) ?_
     refine WpL_guard_yes (oj := _) rfl rfl (by decide) (congrArg Value.bool h0) ?_
     refine qV (r_pick (b := decide ((c : Int) < 0)) (v := (.bool (decide ((1114111 : Int) < c)))) rfl (by rw [h1]; rfl)) ?_
     refine qV (r_pick (b := decide ((v : Int) = 0)) (v := (.bool (decide ((1114111 : Int) < c)))) rfl (by rw [h0]; rfl)) ?_
     refine WpL_nil ?_
     refine Wp_cond (b := decide ((1114111 : Int) < c)) rfl (fun h2 => ?_) (fun h2 => ?_)
     ·have kh2 := h2
      replace h2 := of_decide_eq_true h2
      refine Wp_region ?_
      refine qA (I6 1) rfl ?_
      refine WpL_nil (inB_normal (thn_normal (Wp_region ?_)))
      refine qV (r_add (k := .i64) (a := (k : Int)) (b := 1) (c := (k : Int) + 1) rfl rfl (wI64 (by omega))) ?_
      refine qM (I6 ((k : Int) + 1)) rfl ?_
      refine WpL_nil (thn_normal ?_)
      exact ⟨text.length - (k + 1), by omega, k + 1, 1, Fits.out ⟨rfl, rfl, rfl, rfl, rfl, rfl, rfl, rfl, rfl, rfl, rfl, rfl, rfl, rfl, trivial⟩, E, Bo, Bf, Bg, (by omega), (by rw [htk, show runeB c = false by unfold runeB; simp; omega]; simp), rfl⟩
     ·have kh2 := h2
      replace h2 := of_decide_eq_false h2
      refine Wp_skip (inB_normal (thn_normal (Wp_region ?_)))
      refine qV (r_add (k := .i64) (a := (k : Int)) (b := 1) (c := (k : Int) + 1) rfl rfl (wI64 (by omega))) ?_
      refine qM (I6 ((k : Int) + 1)) rfl ?_
      refine WpL_nil (thn_normal ?_)
      exact ⟨text.length - (k + 1), by omega, k + 1, v, Fits.out ⟨rfl, rfl, rfl, rfl, rfl, rfl, rfl, rfl, rfl, rfl, rfl, rfl, rfl, rfl, trivial⟩, E, Bo, Bf, Bg, (by omega), (by rw [htk, show runeB c = true by unfold runeB; simp; omega, hv]; simp), rfl⟩
   ·have kh0 := h0
    replace kh0 := of_decide_eq_false kh0
    refine WpL_guard_no (oj := _) rfl rfl (by decide) (v := .bool false) (congrArg Value.bool h0) (Or.inl rfl) ?_
    refine WpL_guard_no (oj := _) rfl rfl (by decide) (v := .bool false) (congrArg Value.bool h0) (Or.inl rfl) ?_
    refine WpL_guard_no (oj := _) rfl rfl (by decide) (v := .bool false) (congrArg Value.bool h0) (Or.inl rfl) ?_
    refine WpL_guard_no (oj := _) rfl rfl (by decide) (v := undef) rfl (Or.inr rfl) ?_
    refine WpL_guard_no (oj := _) rfl rfl (by decide) (v := undef) rfl (Or.inr rfl) ?_
    refine WpL_guard_no (oj := _) rfl rfl (by decide) (v := .bool false) (congrArg Value.bool h0) (Or.inl rfl) ?_
    refine qV (r_pick (b := decide ((v : Int) = 0)) (v := (.bool false)) rfl (by rw [h0]; rfl)) ?_
    refine WpL_nil ?_
    refine Wp_cond_false rfl ?_
    refine Wp_skip (inB_normal (thn_normal (Wp_region ?_)))
    refine qV (r_add (k := .i64) (a := (k : Int)) (b := 1) (c := (k : Int) + 1) rfl rfl (wI64 (by omega))) ?_
    refine qM (I6 ((k : Int) + 1)) rfl ?_
    refine WpL_nil (thn_normal ?_)
    exact ⟨text.length - (k + 1), by omega, k + 1, v, Fits.out ⟨rfl, rfl, rfl, rfl, rfl, rfl, rfl, rfl, rfl, rfl, rfl, rfl, rfl, rfl, trivial⟩, E, Bo, Bf, Bg, (by omega), (by rw [htk, hv]; by_cases h9 : (text.take k).any (fun r => !runeB r) = true; rw [if_pos h9, h9]; rfl; rw [hv, if_neg h9] at kh0; exact absurd rfl kh0), rfl⟩
  ·have khlt := hlt
   replace hlt := of_decide_eq_false hlt
   have hkk : text.take k = text := List.take_of_length_le (by omega)
   rw [hkk] at hv
   rw [if_pos hb9] at hv
   subst hv
   refine Wp_exit (thn_exit (thn_exit (inB_here (thn_normal (Wp_seq (Wp_seq_region ?_))))))
   refine qM (I6 1) rfl ?_
   refine qV (r_neq (k := .i64) (a := 1) (b := 0) rfl rfl) ?_
   refine WpL_nil ?_
   refine Wp_cond_true rfl ?_
   refine Wp_seq_region ?_
   refine qM (I6 1) rfl ?_
   refine qM (I6 1) rfl ?_
   refine qV (r_eql (k := .i64) (a := 1) (b := 1) rfl rfl) ?_
   refine qM (.bool true) rfl ?_
   refine WpL_guard_yes (oj := _) rfl rfl (by decide) rfl ?_
   refine qM (I6 1) rfl ?_
   refine WpL_guard_yes (oj := _) rfl rfl (by decide) rfl ?_
   refine qM (I6 1) rfl ?_
   refine WpL_guard_yes (oj := _) rfl rfl (by decide) rfl ?_
   refine qV (r_eql (k := .i64) (a := 1) (b := 1) rfl rfl) ?_
   refine qV (r_pick (b := true) (v := (.bool true)) rfl rfl) ?_
   refine qM (.bool true) rfl ?_
   refine WpL_guard_yes (oj := _) rfl rfl (by decide) rfl ?_
   refine qM (I6 1) rfl ?_
   refine WpL_guard_yes (oj := _) rfl rfl (by decide) rfl ?_
   refine qM (I6 1) rfl ?_
   refine WpL_guard_yes (oj := _) rfl rfl (by decide) rfl ?_
   refine qV (r_eql (k := .i64) (a := 1) (b := 1) rfl rfl) ?_
   refine qV (r_pick (b := true) (v := (.bool true)) rfl rfl) ?_
   refine qM (.bool true) rfl ?_
   refine WpL_guard_yes (oj := _) rfl rfl (by decide) rfl ?_
   refine qM (.bool false) rfl ?_
   refine WpL_guard_yes (oj := _) rfl rfl (by decide) rfl ?_
   refine qV (r_not (b := false) rfl) ?_
   refine qV (r_pick (b := true) (v := (.bool true)) rfl rfl) ?_
   refine qM (.bool true) rfl ?_
   refine WpL_guard_yes (oj := _) rfl rfl (by decide) rfl ?_
   refine qM (.bool false) rfl ?_
   refine WpL_guard_yes (oj := _) rfl rfl (by decide) rfl ?_
   refine qV (r_not (b := false) rfl) ?_
   refine qV (r_pick (b := true) (v := (.bool true)) rfl rfl) ?_
   refine qM (.bool true) rfl ?_
   refine WpL_guard_yes (oj := _) rfl rfl (by decide) rfl ?_
   refine qM (.slice ra 0 rc) rfl ?_
   refine WpL_guard_yes (oj := _) rfl rfl (by decide) rfl ?_
   refine qV (r_lenSlice (ad := ra) (n := 0) (cap := rc) Try.underlying38 rfl) ?_
   refine WpL_guard_yes (oj := _) rfl rfl (by decide) rfl ?_
   refine qV (r_eql (k := .i64) (a := 0) (b := 0) rfl rfl) ?_
   refine qV (r_pick (b := true) (v := (.bool true)) rfl rfl) ?_
   refine qM (.bool true) rfl ?_
   refine WpL_guard_yes (oj := _) rfl rfl (by decide) rfl ?_
   refine qV (r_loadAgg (vs := zeroF) rfl agg33 siz33 zeroF_len (Bf.cells (by simp))) ?_
   refine WpL_guard_yes (oj := _) rfl rfl (by decide) rfl ?_
   refine qV (r_build (ps := []) (v := (.agg (Q22 0 0 0 0 0 0 0 0 0 0 0 0 0 0 0 0 0 0 0 0 0 0))) rfl (by kernel_rfl)) ?_
   refine WpL_guard_yes (oj := _) rfl rfl (by decide) rfl ?_
   refine WpL_val (v := (.bool true)) rfl rfl (by decide) (r_eqFd (L := zeroF) (o := none) rfl rfl rfl rfl) ?_
   refine qV (r_pick (b := true) (v := (.bool true)) rfl rfl) ?_
   refine qM (.bool true) rfl ?_
   refine WpL_guard_yes (oj := _) rfl rfl (by decide) rfl ?_
   refine qV (r_loadAgg (vs := zeroF) rfl agg33 siz33 zeroF_len (Bg.cells (by simp))) ?_
   refine WpL_guard_yes (oj := _) rfl rfl (by decide) rfl ?_
   refine qV (r_build (ps := []) (v := (.agg (Q22 0 0 0 0 0 0 0 0 0 0 0 0 0 0 0 0 0 0 0 0 0 0))) rfl (by kernel_rfl)) ?_
   refine WpL_guard_yes (oj := _) rfl rfl (by decide) rfl ?_
   refine WpL_val (v := (.bool true)) rfl rfl (by decide) (r_eqFd (L := zeroF) (o := none) rfl rfl rfl rfl) ?_
   refine qV (r_pick (b := true) (v := (.bool true)) rfl rfl) ?_
   refine qA (.bool true) rfl ?_
   refine WpL_nil (Wp_ret (thn_ret ?_))
   refine fin_tmp Try.results5 (v := (.bool true)) rfl ?_
   exact ⟨rfl, E⟩
set_option maxHeartbeats 8000000 in
theorem ctells_d (w0 : World) (t : Re) (vs : List Value) (vt : Value) (text : List Int) (ht : ReAt w0 t vs) (htx : IntsAt w0 vt text) (hs : t.size ≤ 2097152) (hE9 : capE t = 0) (h60 : ¬ 60 < text.length) (hb9 : ¬ text.any (fun r => !runeB r) = true) :
  Ret Try.prog 5 #[.agg vs.toArray, vt] w0 fun v w => v = .bool true ∧ Ext w0 w := by
 have ht0 := ht
 obtain ⟨sa, sc, aa, ac, rfl, hset, hlen, hargs⟩ := ht.form
 obtain ⟨ta, tc, rfl⟩ := SlAt.form htx
 simp only [List.length_map] at htx ⊢
 have htl := SlAt.le htx
 rw [List.length_map] at htl
 have hP : capP t text = 0 := by unfold capP; rw [if_neg (by omega), if_neg h60, if_neg hb9]
 have hC := capE_zero hE9
 have hFO : findO t text = fromO text t 0 := by unfold findO; rw [if_neg (by omega)]
 have hAL : allP t text = allF text t (text.length + 2) 0 := by unfold allP; rw [if_neg (by omega)]
 obtain ⟨L, hL⟩ : ∃ L, L = fndO (findO t text) := ⟨_, rfl⟩
 have hLn : L.length = 22 := by rw [hL]; exact findO_len _ _
 have hL1 : ∀ v ∈ L, v.oneCell' = true := by rw [hL]; exact fndO_one _
 have hV : findV t text = .tuple #[.agg L.toArray, .bool (findO t text).isSome, .int .i64 0] := by unfold findV; rw [hL, hP]
 refine Ret_of Try.func5 rfl Try.ntmps5 (Nat.le_of_ble_eq_true rfl) ?_
 have E : Chg none1 w0 w0 := Chg.refl _ _
 refine Wp_seq_region ?_
 refine s_box (v := (.agg (R6 t sa sc aa ac))) (c := (R6 t sa sc aa ac)) (by decide) rfl rfl ?_
 intro bo wo No
 have Fo := No.ge E
 replace E := E.ext No.ext
 have Bo := No.blk
 refine qA (.bool false) rfl ?_
 refine WpL_nil (Wp_seq_region ?_)
 refine qV (r_loadAgg (vs := [(I6 t.kind), (.slice sa t.set.length sc), (.slice aa t.args.length ac), (I6 t.mn), (I6 t.mx), (.bool t.neg)]) rfl agg27 siz27 rfl (Bo.cells rfl)) ?_
 refine qM (.slice ta text.length tc) rfl ?_
 refine WpL_enter rfl rfl (by decide) (r_callF (vs := [(.agg (R6 t sa sc aa ac)), (.slice ta text.length tc)]) Try.func9 nm9 bd9 rfl) (find_c _ t _ _ text (ReAt.ext E t ht0) (htx.ext E) |>.mono (R' := fun r w => r = .tuple #[.agg L.toArray, .bool (findO t text).isSome, .int .i64 0] ∧ Ext _ w) (fun r w h => ⟨h.1.trans hV, h.2⟩)) ?_
 rintro _ w9 ⟨rfl, X9⟩
 replace Bo := X9.keep Bo
 replace E := E.ext X9
 refine qM (.tuple #[(.agg L.toArray), (.bool ((findO t text).isSome)), (I6 0)]) rfl ?_
 refine qV (r_extract (vs := #[(.agg L.toArray), (.bool ((findO t text).isSome)), (I6 0)]) (v := (.agg L.toArray)) rfl rfl) ?_
 refine qV (r_extract (vs := #[(.agg L.toArray), (.bool ((findO t text).isSome)), (I6 0)]) (v := (.bool ((findO t text).isSome))) rfl rfl) ?_
 refine qV (r_extract (vs := #[(.agg L.toArray), (.bool ((findO t text).isSome)), (I6 0)]) (v := (I6 0)) rfl rfl) ?_
 refine s_allocStore (v := (.agg L.toArray)) (c := L.toArray) (n := 22) (by decide) zer33 rfl siz33 rfl rfl (by simpa using hLn) (by simpa using hL1) ?_
 intro bf wf Nf
 have Ff := Nf.ge E
 have Of_bo := Nf.lt Bo
 replace Bo := Nf.keep Bo
 replace E := E.ext Nf.ext
 have Bf := Nf.blk
 refine qA (.bool ((findO t text).isSome)) rfl ?_
 refine qA (I6 0) rfl ?_
 refine WpL_nil (Wp_seq_region ?_)
 refine qV (r_loadAgg (vs := [(I6 t.kind), (.slice sa t.set.length sc), (.slice aa t.args.length ac), (I6 t.mn), (I6 t.mx), (.bool t.neg)]) rfl agg27 siz27 rfl (Bo.cells rfl)) ?_
 refine qM (.slice ta text.length tc) rfl ?_
 refine WpL_enter rfl rfl (by decide) (r_callF (vs := [(.agg (R6 t sa sc aa ac)), (.slice ta text.length tc)]) Try.func10 nm10 bd10 rfl) (tagged_c _ t _ _ text (ReAt.ext E t ht0) (htx.ext E) |>.mono (R' := fun r w => r = .tuple #[.agg L.toArray, .bool (findO t text).isSome, .int .i64 0] ∧ Ext _ w) (fun r w h => ⟨h.1.trans hV, h.2⟩)) ?_
 rintro _ w19 ⟨rfl, X19⟩
 replace Bo := X19.keep Bo
 replace Bf := X19.keep Bf
 replace E := E.ext X19
 refine qM (.tuple #[(.agg L.toArray), (.bool ((findO t text).isSome)), (I6 0)]) rfl ?_
 refine qV (r_extract (vs := #[(.agg L.toArray), (.bool ((findO t text).isSome)), (I6 0)]) (v := (.agg L.toArray)) rfl rfl) ?_
 refine qV (r_extract (vs := #[(.agg L.toArray), (.bool ((findO t text).isSome)), (I6 0)]) (v := (.bool ((findO t text).isSome))) rfl rfl) ?_
 refine qV (r_extract (vs := #[(.agg L.toArray), (.bool ((findO t text).isSome)), (I6 0)]) (v := (I6 0)) rfl rfl) ?_
 refine s_allocStore (v := (.agg L.toArray)) (c := L.toArray) (n := 22) (by decide) zer33 rfl siz33 rfl rfl (by simpa using hLn) (by simpa using hL1) ?_
 intro bg wg Ng
 have Fg := Ng.ge E
 have Og_bo := Ng.lt Bo
 have Og_bf := Ng.lt Bf
 replace Bo := Ng.keep Bo
 replace Bf := Ng.keep Bf
 replace E := E.ext Ng.ext
 have Bg := Ng.blk
 refine qA (.bool ((findO t text).isSome)) rfl ?_
 refine qA (I6 0) rfl ?_
 refine WpL_nil (Wp_seq_region ?_)
 refine qV (r_loadAgg (vs := [(I6 t.kind), (.slice sa t.set.length sc), (.slice aa t.args.length ac), (I6 t.mn), (I6 t.mx), (.bool t.neg)]) rfl agg27 siz27 rfl (Bo.cells rfl)) ?_
 refine qM (.slice ta text.length tc) rfl ?_
 refine WpL_enter rfl rfl (by decide) (r_callF (vs := [(.agg (R6 t sa sc aa ac)), (.slice ta text.length tc)]) Try.func11 nm11 bd11 rfl) ((all_c _ t _ _ text (ReAt.ext E t ht0) (htx.ext E)).mono (R' := fun r w => (∃ a c, r = .tuple #[.slice a (allP t text).length c, .int .i64 0] ∧ SlAt w 22 (.slice a (allP t text).length c) ((allP t text).map fndQ)) ∧ Ext wg w) (fun r w h => by obtain ⟨a, c, h1, h2, h3⟩ := h; rw [hP] at h1; exact ⟨⟨a, c, h1, h2⟩, h3⟩)) ?_
 rintro _ w29 ⟨⟨ra, rc, rfl, hall⟩, X29⟩
 replace Bo := X29.keep Bo
 replace Bf := X29.keep Bf
 replace Bg := X29.keep Bg
 replace E := E.ext X29
 have E3 : Chg none1 w29 w29 := Chg.refl _ _
 refine qM (.tuple #[(.slice ra ((allP t text).length) rc), (I6 0)]) rfl ?_
 refine qV (r_extract (vs := #[(.slice ra ((allP t text).length) rc), (I6 0)]) (v := (.slice ra ((allP t text).length) rc)) rfl rfl) ?_
 refine qV (r_extract (vs := #[(.slice ra ((allP t text).length) rc), (I6 0)]) (v := (I6 0)) rfl rfl) ?_
 refine qA (.slice ra ((allP t text).length) rc) rfl ?_
 refine qA (I6 0) rfl ?_
 refine WpL_nil (Wp_seq_region ?_)
 refine qV (r_loadAgg (vs := [(I6 t.kind), (.slice sa t.set.length sc), (.slice aa t.args.length ac), (I6 t.mn), (I6 t.mx), (.bool t.neg)]) rfl agg27 siz27 rfl (Bo.cells rfl)) ?_
 refine WpL_enter rfl rfl (by decide) (r_callF (vs := [(.agg (R6 t sa sc aa ac))]) Try.func12 nm12 bd12 rfl) ((rcap_c _ t _ (ReAt.ext E t ht0) hs).mono (R' := fun v w => v = .int .i64 0 ∧ Ext w29 w) (fun v w h => ⟨by rw [h.1, hE9], h.2⟩)) ?_
 rintro _ w39 ⟨rfl, X39⟩
 replace Bo := X39.keep Bo
 replace Bf := X39.keep Bf
 replace Bg := X39.keep Bg
 replace E := E.ext X39
 replace E3 := E3.ext X39
 refine qA (I6 0) rfl ?_
 refine WpL_nil (Wp_seq (Wp_seq_region ?_))
 refine WpL_enter rfl rfl (by decide) (r_callF (vs := []) Try.func13 nm13 bd13 rfl) (cbegun3_c _) ?_
 rintro _ w49 ⟨rfl, X49⟩
 replace Bo := X49.keep Bo
 replace Bf := X49.keep Bf
 replace Bg := X49.keep Bg
 replace E := E.ext X49
 replace E3 := E3.ext X49
 refine qV (r_not (b := true) rfl) ?_
 refine qM (.bool false) rfl ?_
 refine WpL_guard_yes (oj := _) rfl rfl (by decide) rfl ?_
 refine qV (r_loadAgg (vs := [(I6 t.kind), (.slice sa t.set.length sc), (.slice aa t.args.length ac), (I6 t.mn), (I6 t.mx), (.bool t.neg)]) rfl agg27 siz27 rfl (Bo.cells rfl)) ?_
 refine WpL_guard_yes (oj := _) rfl rfl (by decide) rfl ?_
 refine WpL_enter rfl rfl (by decide) (r_callF (vs := [(.agg (R6 t sa sc aa ac))]) Try.func14 nm14 bd14 rfl) ((ccheck_c _ t _ (ReAt.ext E t ht0)).mono (R' := fun v w => v = .int .i64 0 ∧ Ext w49 w) (fun v w h => ⟨by rw [h.1, hE9], h.2⟩)) ?_
 rintro _ w59 ⟨rfl, X59⟩
 replace Bo := X59.keep Bo
 replace Bf := X59.keep Bf
 replace Bg := X59.keep Bg
 replace E := E.ext X59
 replace E3 := E3.ext X59
 refine WpL_guard_yes (oj := _) rfl rfl (by decide) rfl ?_
 refine qM (I6 0) rfl ?_
 refine WpL_guard_yes (oj := _) rfl rfl (by decide) rfl ?_
 refine qV (r_neq (k := .i64) (a := 0) (b := 0) rfl rfl) ?_
 refine qV (r_pick (b := false) (v := (.bool false)) rfl rfl) ?_
 refine WpL_nil ?_
 refine Wp_cond_false rfl ?_
 refine Wp_skip (thn_normal (Wp_seq (Wp_seq_region ?_)))
 refine qM (I6 0) rfl ?_
 refine qV (r_eql (k := .i64) (a := 0) (b := 0) rfl rfl) ?_
 refine qM (.bool true) rfl ?_
 refine WpL_guard_yes (oj := _) rfl rfl (by decide) rfl ?_
 refine qM (.slice ta text.length tc) rfl ?_
 refine WpL_guard_yes (oj := _) rfl rfl (by decide) rfl ?_
 refine qV (r_lenSlice (ad := ta) (n := text.length) (cap := tc) Try.underlying22 rfl) ?_
 refine WpL_guard_yes (oj := _) rfl rfl (by decide) rfl ?_
 refine qV (r_gtr (k := .i64) (a := (text.length : Int)) (b := 60) rfl rfl) ?_
 refine qV (r_pick (b := true) (v := (.bool (decide ((60 : Int) < (text.length : Int))))) rfl rfl) ?_
 refine WpL_nil ?_
 have hc1 : (decide ((60 : Int) < ((text.length : Nat) : Int))) = false := decide_eq_false (by omega)
 refine Wp_cond_false (congrArg Value.bool hc1) ?_
 refine Wp_skip (thn_normal (Wp_seq (Wp_seq_region ?_)))
 refine qM (.slice ta text.length tc) rfl ?_
 refine qV (r_lenSlice (ad := ta) (n := text.length) (cap := tc) Try.underlying22 rfl) ?_
 refine qM (I6 0) rfl ?_
 refine WpL_nil (Wp_block ?_)
 refine Wp_loop (fun nn_ σ W2 => ∃ (k : Nat) (v : Int), (∃ jj_, σ = upds jj_ [(1, (.slice ta text.length tc)), (2, (P6 bo 0)), (5, (P6 bf 0)), (6, (.bool ((findO t text).isSome))), (7, (I6 0)), (8, (P6 bg 0)), (9, (.bool ((findO t text).isSome))), (10, (I6 0)), (11, (.slice ra ((allP t text).length) rc)), (12, (I6 0)), (60, (.slice ta text.length tc)), (61, (I6 (text.length : Int))), (62, (I6 (k : Int))), (13, (I6 v))]) ∧ Chg none1 w0 W2 ∧ Chg none1 w29 W2 ∧ Blk W2 bo (R6 t sa sc aa ac) 27 ∧ Blk W2 bf L.toArray 33 ∧ Blk W2 bg L.toArray 33 ∧ (k ≤ text.length) ∧ (v = if (text.take k).any (fun r => !runeB r) = true then 1 else 0) ∧ nn_ = text.length - k) (n := text.length - 0) ?_ ?_
 ·exact ⟨0, 0, Fits.out ⟨rfl, rfl, rfl, rfl, rfl, rfl, rfl, rfl, rfl, rfl, rfl, rfl, rfl, rfl, trivial⟩, E, E3, Bo, Bf, Bg, Nat.zero_le _, rfl, rfl⟩
 ·clear E E3 Bo Bf Bg
  rintro _ _ W2 ⟨k, v, ⟨j2, rfl⟩, E, E3, Bo, Bf, Bg, hk, hv, rfl⟩
  refine Wp_seq_region ?_
  refine qV (r_lss (k := .i64) (a := (k : Int)) (b := (text.length : Int)) rfl rfl) ?_
  refine WpL_nil (Wp_seq ?_)
  refine Wp_cond (b := decide (((k : Int) : Int) < (text.length : Int))) rfl (fun hlt => ?_) (fun hlt => ?_)
  ·have khlt := hlt
   replace hlt := of_decide_eq_true hlt
   obtain ⟨c, hc⟩ := get_of_lt (l := text) (i := k) (by omega)
   obtain ⟨tb, to_, rfl, hcl⟩ := ints_cells htx (by omega)
   have htk := any_take_succ (f := fun r => !runeB r) hc
   refine Wp_skip (thn_normal (Wp_seq (Wp_block (Wp_seq_region ?_))))
   refine qV (r_indexSlice (b := tb) (o := to_) (len := text.length) (cap := tc) (i := k) (o' := to_ + k) rfl rfl rfl Try.underlying22 siz3 (by omega) (by omega)) ?_
   refine qV (r_load (v := (I6 c)) rfl flat3 (E.cell (fun f => f) (hcl k c hc))) ?_
   refine qA (I6 c) rfl ?_
   refine WpL_nil (Wp_seq_region ?_)
   refine qM (I6 v) rfl ?_
   refine qV (r_eql (k := .i64) (a := v) (b := 0) rfl rfl) ?_
   refine qM (.bool (decide ((v : Int) = 0))) rfl ?_
   rcases Bool.eq_false_or_eq_true (decide ((v : Int) = 0)) with h0 | h0
   ·have kh0 := h0
    replace kh0 := of_decide_eq_true kh0
    refine WpL_guard_yes (oj := _) rfl rfl (by decide) (congrArg Value.bool h0) ?_
    refine qM (I6 c) rfl ?_
    refine WpL_guard_yes (oj := _) rfl rfl (by decide) (congrArg Value.bool h0) ?_
    refine qV (r_lss (k := .i64) (a := c) (b := 0) rfl rfl) ?_
    refine WpL_guard_yes (oj := _) rfl rfl (by decide) (congrArg Value.bool h0) ?_
    refine qM (.bool (decide ((c : Int) < 0))) rfl ?_
    rcases Bool.eq_false_or_eq_true (decide ((c : Int) < 0)) with h1 | h1
    ·have kh1 := h1
     replace kh1 := of_decide_eq_true kh1
     refine WpL_guard_no (oj := _) rfl rfl (by decide) (v := .bool true) (congrArg Value.bool h1) (Or.inl rfl) ?_
     refine WpL_guard_no (oj := _) rfl rfl (by decide) (v := .bool true) (congrArg Value.bool h1) (Or.inl rfl) ?_
     refine WpL_guard_yes (oj := _) rfl rfl (by decide) (congrArg Value.bool h0) ?_
     refine qV (r_pick (b := decide ((c : Int) < 0)) (v := (.bool true)) rfl (by rw [h1]; rfl)) ?_
     refine qV (r_pick (b := decide ((v : Int) = 0)) (v := (.bool true)) rfl (by rw [h0]; rfl)) ?_
     refine WpL_nil ?_
     refine Wp_cond_true rfl ?_
     refine Wp_region ?_
     refine qA (I6 1) rfl ?_
     refine WpL_nil (inB_normal (thn_normal (Wp_region ?_)))
     refine qV (r_add (k := .i64) (a := (k : Int)) (b := 1) (c := (k : Int) + 1) rfl rfl (wI64 (by omega))) ?_
     refine qM (I6 ((k : Int) + 1)) rfl ?_
     refine WpL_nil (thn_normal ?_)
     exact ⟨text.length - (k + 1), by omega, k + 1, 1, Fits.out ⟨rfl, rfl, rfl, rfl, rfl, rfl, rfl, rfl, rfl, rfl, rfl, rfl, rfl, rfl, trivial⟩, E, E3, Bo, Bf, Bg, (by omega), (by rw [htk, show runeB c = false by unfold runeB; simp; omega]; simp), rfl⟩
    ·have kh1 := h1
     replace kh1 := of_decide_eq_false kh1
     refine WpL_guard_yes (oj := _) rfl rfl (by decide) (congrArg Value.bool h1) ?_
     refine qM (I6 c) rfl ?_
     refine WpL_guard_yes (oj := _) rfl rfl (by decide) (congrArg Value.bool h1) ?_
     refine qV (r_gtr (k := .i64) (a := c) (b := 1114111) rfl rfl) ?_
     refine WpL_guard_yes (oj := _) rfl rfl (by decide) (congrArg Value.bool h0) ?_
     refine qV (r_pick (b := decide ((c : Int) < 0)) (v := (.bool (decide ((1114111 : Int) < c)))) rfl (by rw [h1]; rfl)) ?_
     refine qV (r_pick (b := decide ((v : Int) = 0)) (v := (.bool (decide ((1114111 : Int) < c)))) rfl (by rw [h0]; rfl)) ?_
     refine WpL_nil ?_
     refine Wp_cond (b := decide ((1114111 : Int) < c)) rfl (fun h2 => ?_) (fun h2 => ?_)
     ·have kh2 := h2
      replace h2 := of_decide_eq_true h2
      refine Wp_region ?_
      refine qA (I6 1) rfl ?_
      refine WpL_nil (inB_normal (thn_normal (Wp_region ?_)))
      refine qV (r_add (k := .i64) (a := (k : Int)) (b := 1) (c := (k : Int) + 1) rfl rfl (wI64 (by omega))) ?_
      refine qM (I6 ((k : Int) + 1)) rfl ?_
      refine WpL_nil (thn_normal ?_)
      exact ⟨text.length - (k + 1), by omega, k + 1, 1, Fits.out ⟨rfl, rfl, rfl, rfl, rfl, rfl, rfl, rfl, rfl, rfl, rfl, rfl, rfl, rfl, trivial⟩, E, E3, Bo, Bf, Bg, (by omega), (by rw [htk, show runeB c = false by unfold runeB; simp; omega]; simp), rfl⟩
     ·have kh2 := h2
      replace h2 := of_decide_eq_false h2
      refine Wp_skip (inB_normal (thn_normal (Wp_region ?_)))
      refine qV (r_add (k := .i64) (a := (k : Int)) (b := 1) (c := (k : Int) + 1) rfl rfl (wI64 (by omega))) ?_
      refine qM (I6 ((k : Int) + 1)) rfl ?_
      refine WpL_nil (thn_normal ?_)
      exact ⟨text.length - (k + 1), by omega, k + 1, v, Fits.out ⟨rfl, rfl, rfl, rfl, rfl, rfl, rfl, rfl, rfl, rfl, rfl, rfl, rfl, rfl, trivial⟩, E, E3, Bo, Bf, Bg, (by omega), (by rw [htk, show runeB c = true by unfold runeB; simp; omega, hv]; simp), rfl⟩
   ·have kh0 := h0
    replace kh0 := of_decide_eq_false kh0
    refine WpL_guard_no (oj := _) rfl rfl (by decide) (v := .bool false) (congrArg Value.bool h0) (Or.inl rfl) ?_
    refine WpL_guard_no (oj := _) rfl rfl (by decide) (v := .bool false) (congrArg Value.bool h0) (Or.inl rfl) ?_
    refine WpL_guard_no (oj := _) rfl rfl (by decide) (v := .bool false) (congrArg Value.bool h0) (Or.inl rfl) ?_
    refine WpL_guard_no (oj := _) rfl rfl (by decide) (v := undef) rfl (Or.inr rfl) ?_
    refine WpL_guard_no (oj := _) rfl rfl (by decide) (v := undef) rfl (Or.inr rfl) ?_
    refine WpL_guard_no (oj := _) rfl rfl (by decide) (v := .bool false) (congrArg Value.bool h0) (Or.inl rfl) ?_
    refine qV (r_pick (b := decide ((v : Int) = 0)) (v := (.bool false)) rfl (by rw [h0]; rfl)) ?_
    refine WpL_nil ?_
    refine Wp_cond_false rfl ?_
    refine Wp_skip (inB_normal (thn_normal (Wp_region ?_)))
    refine qV (r_add (k := .i64) (a := (k : Int)) (b := 1) (c := (k : Int) + 1) rfl rfl (wI64 (by omega))) ?_
    refine qM (I6 ((k : Int) + 1)) rfl ?_
    refine WpL_nil (thn_normal ?_)
    exact ⟨text.length - (k + 1), by omega, k + 1, v, Fits.out ⟨rfl, rfl, rfl, rfl, rfl, rfl, rfl, rfl, rfl, rfl, rfl, rfl, rfl, rfl, trivial⟩, E, E3, Bo, Bf, Bg, (by omega), (by rw [htk, hv]; by_cases h9 : (text.take k).any (fun r => !runeB r) = true; rw [if_pos h9, h9]; rfl; rw [hv, if_neg h9] at kh0; exact absurd rfl kh0), rfl⟩
  ·have khlt := hlt
   replace hlt := of_decide_eq_false hlt
   have hkk : text.take k = text := List.take_of_length_le (by omega)
   rw [hkk] at hv
   rw [if_neg hb9] at hv
   subst hv
   refine Wp_exit (thn_exit (thn_exit (inB_here (thn_normal (Wp_seq (Wp_seq_region ?_))))))
   refine qM (I6 0) rfl ?_
   refine qV (r_neq (k := .i64) (a := 0) (b := 0) rfl rfl) ?_
   refine WpL_nil ?_
   refine Wp_cond_false rfl ?_
   refine Wp_skip (thn_normal (Wp_seq (Wp_seq_region ?_)))
   refine qV (r_loadAgg (vs := [(I6 t.kind), (.slice sa t.set.length sc), (.slice aa t.args.length ac), (I6 t.mn), (I6 t.mx), (.bool t.neg)]) rfl agg27 siz27 rfl (Bo.cells rfl)) ?_
   refine qM (.slice ta text.length tc) rfl ?_
   refine WpL_enter rfl rfl (by decide) (r_callF (vs := [(.agg (R6 t sa sc aa ac)), (.slice ta text.length tc), (I6 7)]) Try.func15 nm15 bd15 rfl) (light7_c _ t _ _ text 7 (ReAt.ext E t ht0) (htx.ext E) hs hC.ok) ?_
   rintro _ w69 ⟨⟨lb, rfl, hlb⟩, X69⟩
   replace Bo := X69.keep Bo
   replace Bf := X69.keep Bf
   replace Bg := X69.keep Bg
   replace E := E.ext X69
   replace E3 := E3.ext X69
   refine qV (r_not (b := lb) rfl) ?_
   refine WpL_nil ?_
   refine Wp_cond (b := !lb) rfl (fun hb => ?_) (fun hb => ?_)
   ·have khb := hb
    replace hb := by simpa using hb
    refine Wp_seq_region ?_
    refine qA (.bool true) rfl ?_
    refine WpL_nil (Wp_ret (thn_ret ?_))
    refine fin_tmp Try.results5 (v := (.bool true)) rfl ?_
    exact ⟨rfl, E⟩
   ·have khb := hb
    replace hb := by simpa using hb
    have hlb1 : lb = true := by simpa using hb
    have h7 : text.length ≤ 7 := by have := hlb hlb1; omega
    have hsz := hC.sz
    have hRef : RefOk text t := courses_c text h7 _ t (Nat.lt_succ_self _) hC.ok (by omega)
    refine Wp_skip (thn_normal (Wp_seq_region ?_))
    refine qV (r_loadAgg (vs := [(I6 t.kind), (.slice sa t.set.length sc), (.slice aa t.args.length ac), (I6 t.mn), (I6 t.mx), (.bool t.neg)]) rfl agg27 siz27 rfl (Bo.cells rfl)) ?_
    refine qM (.slice ta text.length tc) rfl ?_
    refine WpL_enter rfl rfl (by decide) (r_callF (vs := [(.agg (R6 t sa sc aa ac)), (.slice ta text.length tc), (I6 0)]) Try.func16 nm16 bd16 rfl) ((findfrom_c text h7 t hRef 0 (Nat.zero_le _) _ _ _ (ReAt.ext E t ht0) (htx.ext E)).mono (R' := fun r w => r = .tuple #[.agg L.toArray, .bool (findO t text).isSome] ∧ Ext w69 w) (fun r w h => ⟨by rw [h.1, hL, hFO], h.2⟩)) ?_
    rintro _ w79 ⟨rfl, X79⟩
    replace Bo := X79.keep Bo
    replace Bf := X79.keep Bf
    replace Bg := X79.keep Bg
    replace E := E.ext X79
    replace E3 := E3.ext X79
    refine qM (.tuple #[(.agg L.toArray), (.bool ((findO t text).isSome))]) rfl ?_
    refine qV (r_extract (vs := #[(.agg L.toArray), (.bool ((findO t text).isSome))]) (v := (.agg L.toArray)) rfl rfl) ?_
    refine qV (r_extract (vs := #[(.agg L.toArray), (.bool ((findO t text).isSome))]) (v := (.bool ((findO t text).isSome))) rfl rfl) ?_
    refine s_allocStore (v := (.agg L.toArray)) (c := L.toArray) (n := 22) (by decide) zer43 rfl siz43 rfl rfl (by simpa using hLn) (by simpa using hL1) ?_
    intro bx wx Nx
    have Fx := Nx.ge E
    have Fx_E3 := Nx.ge E3
    have Ox_bo := Nx.lt Bo
    have Ox_bf := Nx.lt Bf
    have Ox_bg := Nx.lt Bg
    replace Bo := Nx.keep Bo
    replace Bf := Nx.keep Bf
    replace Bg := Nx.keep Bg
    replace E := E.ext Nx.ext
    have Bx := Nx.blk
    replace E3 := E3.ext Nx.ext
    refine qA (.bool ((findO t text).isSome)) rfl ?_
    refine WpL_nil (Wp_seq (Wp_seq_region ?_))
    refine qM (I6 0) rfl ?_
    refine qV (r_neq (k := .i64) (a := 0) (b := 0) rfl rfl) ?_
    refine qM (.bool false) rfl ?_
    refine WpL_guard_yes (oj := _) rfl rfl (by decide) rfl ?_
    refine qM (I6 0) rfl ?_
    refine WpL_guard_yes (oj := _) rfl rfl (by decide) rfl ?_
    refine qV (r_neq (k := .i64) (a := 0) (b := 0) rfl rfl) ?_
    refine qV (r_pick (b := false) (v := (.bool false)) rfl rfl) ?_
    refine qM (.bool false) rfl ?_
    refine WpL_guard_yes (oj := _) rfl rfl (by decide) rfl ?_
    refine qM (I6 0) rfl ?_
    refine WpL_guard_yes (oj := _) rfl rfl (by decide) rfl ?_
    refine qV (r_neq (k := .i64) (a := 0) (b := 0) rfl rfl) ?_
    refine qV (r_pick (b := false) (v := (.bool false)) rfl rfl) ?_
    refine qM (.bool false) rfl ?_
    refine WpL_guard_yes (oj := _) rfl rfl (by decide) rfl ?_
    refine qM (.bool ((findO t text).isSome)) rfl ?_
    refine WpL_guard_yes (oj := _) rfl rfl (by decide) rfl ?_
    refine qM (.bool ((findO t text).isSome)) rfl ?_
    refine WpL_guard_yes (oj := _) rfl rfl (by decide) rfl ?_
    refine qV (r_neqB (p := (findO t text).isSome) (q := (findO t text).isSome) Try.underlying4 rfl rfl) ?_
    refine qV (r_pick (b := false) (v := (.bool (((findO t text).isSome) != ((findO t text).isSome)))) rfl rfl) ?_
    refine qM (.bool (((findO t text).isSome) != ((findO t text).isSome))) rfl ?_
    have hg8 : (((findO t text).isSome) != ((findO t text).isSome)) = false := by simp
    refine WpL_guard_yes (oj := _) rfl rfl (by decide) (congrArg Value.bool hg8) ?_
    refine qM (.bool ((findO t text).isSome)) rfl ?_
    refine WpL_guard_yes (oj := _) rfl rfl (by decide) (congrArg Value.bool hg8) ?_
    refine qM (.bool ((findO t text).isSome)) rfl ?_
    refine WpL_guard_yes (oj := _) rfl rfl (by decide) (congrArg Value.bool hg8) ?_
    refine qV (r_neqB (p := (findO t text).isSome) (q := (findO t text).isSome) Try.underlying4 rfl rfl) ?_
    refine qV (r_pick (b := ((findO t text).isSome) != ((findO t text).isSome)) (v := (.bool (((findO t text).isSome) != ((findO t text).isSome)))) rfl (by rw [hg8]; rfl)) ?_
    refine qM (.bool (((findO t text).isSome) != ((findO t text).isSome))) rfl ?_
    refine WpL_guard_yes (oj := _) rfl rfl (by decide) (congrArg Value.bool hg8) ?_
    refine qV (r_loadAgg (vs := L) rfl agg33 siz33 hLn (Bf.cells (by simp))) ?_
    refine WpL_guard_yes (oj := _) rfl rfl (by decide) (congrArg Value.bool hg8) ?_
    refine qV (r_loadAgg (vs := L) rfl agg43 siz43 hLn (Bx.cells (by simp))) ?_
    refine WpL_guard_yes (oj := _) rfl rfl (by decide) (congrArg Value.bool hg8) ?_
    refine WpL_val (v := (.bool false)) rfl rfl (by decide) (r_neqFr hL hLn rfl rfl) ?_
    refine qV (r_pick (b := ((findO t text).isSome) != ((findO t text).isSome)) (v := (.bool false)) rfl (by rw [hg8]; rfl)) ?_
    refine qM (.bool false) rfl ?_
    refine WpL_guard_yes (oj := _) rfl rfl (by decide) rfl ?_
    refine qV (r_loadAgg (vs := L) rfl agg33 siz33 hLn (Bg.cells (by simp))) ?_
    refine WpL_guard_yes (oj := _) rfl rfl (by decide) rfl ?_
    refine qV (r_loadAgg (vs := L) rfl agg43 siz43 hLn (Bx.cells (by simp))) ?_
    refine WpL_guard_yes (oj := _) rfl rfl (by decide) rfl ?_
    refine WpL_val (v := (.bool false)) rfl rfl (by decide) (r_neqFr hL hLn rfl rfl) ?_
    refine qV (r_pick (b := false) (v := (.bool false)) rfl rfl) ?_
    refine WpL_nil ?_
    refine Wp_cond_false rfl ?_
    refine Wp_skip (thn_normal (Wp_seq_region ?_))
    refine qA (I6 0) rfl ?_
    refine WpL_nil (Wp_seq (Wp_seq_region ?_))
    refine qM (.slice ra ((allP t text).length) rc) rfl ?_
    refine qV (r_lenSlice (ad := ra) (n := (allP t text).length) (cap := rc) Try.underlying38 rfl) ?_
    refine qM (I6 0) rfl ?_
    refine WpL_nil (Wp_block ?_)
    have hlen9 := SlAt.le hall
    rw [List.length_map] at hlen9
    refine Wp_loop (fun nn_ σ W9 => ∃ (i : Nat) (e m : Nat), (∃ jj_, σ = upds jj_ [(1, (.slice ta text.length tc)), (2, (P6 bo 0)), (155, (.slice ra ((allP t text).length) rc)), (156, (I6 (((allP t text).length : Nat) : Int))), (157, (I6 (i : Int))), (18, (I6 (e : Int)))]) ∧ Chg none1 w0 W9 ∧ Chg none1 w29 W9 ∧ Blk W9 bo (R6 t sa sc aa ac) 27 ∧ Blk W9 bf L.toArray 33 ∧ Blk W9 bg L.toArray 33 ∧ Blk W9 bx L.toArray 43 ∧ (i ≤ (allP t text).length) ∧ ((allP t text).drop i = allF text t m e) ∧ (text.length + 1 < m + e ∧ e ≤ text.length + 1 ∧ 1 ≤ m) ∧ nn_ = (allP t text).length - i) (n := (allP t text).length - 0) ?_ ?_
    ·exact ⟨0, 0, text.length + 2, Fits.out ⟨rfl, rfl, rfl, rfl, rfl, rfl, trivial⟩, E, E3, Bo, Bf, Bg, Bx, Nat.zero_le _, hAL, (by omega), rfl⟩
    ·clear E E3 Bo Bf Bg Bx
     rintro _ _ W9 ⟨i, e, m, ⟨j9, rfl⟩, E, E3, Bo, Bf, Bg, Bx, hi, hm, hmf, rfl⟩
     refine Wp_seq_region ?_
     refine qV (r_lss (k := .i64) (a := (i : Int)) (b := (((allP t text).length : Nat) : Int)) rfl rfl) ?_
     refine WpL_nil (Wp_seq ?_)
     refine Wp_cond (b := decide (((i : Int) : Int) < (((allP t text).length : Nat) : Int))) rfl (fun hlt => ?_) (fun hlt => ?_)
     ·have khlt := hlt
      replace hlt := of_decide_eq_true hlt
      obtain ⟨q, hq⟩ := get_of_lt (l := allP t text) (i := i) (by omega)
      obtain ⟨⟨q1, q2, q3⟩, q4⟩ := allP_chain hq
      rw [drop_cons hq] at hm
      obtain ⟨hfq, hmn⟩ := allF_hd hmf.2.2 hm.symm
      have hnl := nextP_lt (k := text.length) ⟨(fromO_ok _ e (Nat.le_refl _) q hfq).1, q1, q2⟩
      obtain ⟨x0, x1, x2, x3, x4, x5, x6, x7, x8, x9, x10, x11, x12, x13, x14, x15, x16, x17, x18, x19, x20, x21, hx⟩ := fnd22 (o := some q) (fndQ_len q3)
      have hx0 : x0 = ((q.1 : Nat) : Int) := by have := congrArg (fun l => l[0]?) hx; simpa [fndO] using this.symm
      have hx1 : x1 = ((q.2.1 : Nat) : Int) := by have := congrArg (fun l => l[1]?) hx; simpa [fndO] using this.symm
      obtain ⟨b, o, rfl, hcl⟩ := SlAt.at hall (by omega)
      have hcq := hcl i (fndQ q) (by simp [hq])
      rw [show fndQ q = [.int .i64 x0, .int .i64 x1, .int .i64 x2, .int .i64 x3, .int .i64 x4, .int .i64 x5, .int .i64 x6, .int .i64 x7, .int .i64 x8, .int .i64 x9, .int .i64 x10, .int .i64 x11, .int .i64 x12, .int .i64 x13, .int .i64 x14, .int .i64 x15, .int .i64 x16, .int .i64 x17, .int .i64 x18, .int .i64 x19, .int .i64 x20, .int .i64 x21] from hx] at hcq
      refine Wp_skip (thn_normal (Wp_seq (Wp_block (Wp_seq_region ?_))))
      refine qV (r_indexSlice (b := b) (o := o) (len := (allP t text).length) (cap := rc) (i := i) (o' := o + i * 22) rfl rfl rfl Try.underlying38 siz33 (by omega) (by omega)) ?_
      refine qV (r_loadAgg (vs := (K22 x0 x1 x2 x3 x4 x5 x6 x7 x8 x9 x10 x11 x12 x13 x14 x15 x16 x17 x18 x19 x20 x21)) rfl agg33 siz33 rfl (hcq.ext E3)) ?_
      refine s_allocStore (v := (.agg (Q22 x0 x1 x2 x3 x4 x5 x6 x7 x8 x9 x10 x11 x12 x13 x14 x15 x16 x17 x18 x19 x20 x21))) (c := (Q22 x0 x1 x2 x3 x4 x5 x6 x7 x8 x9 x10 x11 x12 x13 x14 x15 x16 x17 x18 x19 x20 x21)) (n := 22) (by decide) zer33 rfl siz33 rfl rfl rfl (by simp [Value.oneCell']) ?_
      intro bu wu Nu
      have Fu := Nu.ge E
      have Fu_E3 := Nu.ge E3
      have Ou_bo := Nu.lt Bo
      have Ou_bf := Nu.lt Bf
      have Ou_bg := Nu.lt Bg
      have Ou_bx := Nu.lt Bx
      replace Bo := Nu.keep Bo
      replace Bf := Nu.keep Bf
      replace Bg := Nu.keep Bg
      replace Bx := Nu.keep Bx
      replace E := E.ext Nu.ext
      have Bu := Nu.blk
      replace E3 := E3.ext Nu.ext
      refine WpL_nil (Wp_seq_region ?_)
      refine qV (r_loadAgg (vs := [(I6 t.kind), (.slice sa t.set.length sc), (.slice aa t.args.length ac), (I6 t.mn), (I6 t.mx), (.bool t.neg)]) rfl agg27 siz27 rfl (Bo.cells rfl)) ?_
      refine qM (.slice ta text.length tc) rfl ?_
      refine qM (I6 (e : Int)) rfl ?_
      refine WpL_enter rfl rfl (by decide) (r_callF (vs := [(.agg (R6 t sa sc aa ac)), (.slice ta text.length tc), (I6 (e : Int))]) Try.func16 nm16 bd16 rfl) ((findfrom_c text h7 t hRef e (by omega) _ _ _ (ReAt.ext E t ht0) (htx.ext E)).mono (R' := fun r w => r = .tuple #[.agg #[.int .i64 x0, .int .i64 x1, .int .i64 x2, .int .i64 x3, .int .i64 x4, .int .i64 x5, .int .i64 x6, .int .i64 x7, .int .i64 x8, .int .i64 x9, .int .i64 x10, .int .i64 x11, .int .i64 x12, .int .i64 x13, .int .i64 x14, .int .i64 x15, .int .i64 x16, .int .i64 x17, .int .i64 x18, .int .i64 x19, .int .i64 x20, .int .i64 x21], .bool true] ∧ Ext wu w) (fun r w h => ⟨by rw [h.1, hfq, hx]; rfl, h.2⟩)) ?_
      rintro _ w89 ⟨rfl, X89⟩
      replace Bo := X89.keep Bo
      replace Bf := X89.keep Bf
      replace Bg := X89.keep Bg
      replace Bx := X89.keep Bx
      replace Bu := X89.keep Bu
      replace E := E.ext X89
      replace E3 := E3.ext X89
      refine qM (.tuple #[(.agg (Q22 x0 x1 x2 x3 x4 x5 x6 x7 x8 x9 x10 x11 x12 x13 x14 x15 x16 x17 x18 x19 x20 x21)), (.bool true)]) rfl ?_
      refine qV (r_extract (vs := #[(.agg (Q22 x0 x1 x2 x3 x4 x5 x6 x7 x8 x9 x10 x11 x12 x13 x14 x15 x16 x17 x18 x19 x20 x21)), (.bool true)]) (v := (.agg (Q22 x0 x1 x2 x3 x4 x5 x6 x7 x8 x9 x10 x11 x12 x13 x14 x15 x16 x17 x18 x19 x20 x21))) rfl rfl) ?_
      refine qV (r_extract (vs := #[(.agg (Q22 x0 x1 x2 x3 x4 x5 x6 x7 x8 x9 x10 x11 x12 x13 x14 x15 x16 x17 x18 x19 x20 x21)), (.bool true)]) (v := (.bool true)) rfl rfl) ?_
      refine s_allocStore (v := (.agg (Q22 x0 x1 x2 x3 x4 x5 x6 x7 x8 x9 x10 x11 x12 x13 x14 x15 x16 x17 x18 x19 x20 x21))) (c := (Q22 x0 x1 x2 x3 x4 x5 x6 x7 x8 x9 x10 x11 x12 x13 x14 x15 x16 x17 x18 x19 x20 x21)) (n := 22) (by decide) zer43 rfl siz43 rfl rfl rfl (by simp [Value.oneCell']) ?_
      intro bz wz Nz
      have Fz := Nz.ge E
      have Fz_E3 := Nz.ge E3
      have Oz_bo := Nz.lt Bo
      have Oz_bf := Nz.lt Bf
      have Oz_bg := Nz.lt Bg
      have Oz_bx := Nz.lt Bx
      have Oz_bu := Nz.lt Bu
      replace Bo := Nz.keep Bo
      replace Bf := Nz.keep Bf
      replace Bg := Nz.keep Bg
      replace Bx := Nz.keep Bx
      replace Bu := Nz.keep Bu
      replace E := E.ext Nz.ext
      have Bz := Nz.blk
      replace E3 := E3.ext Nz.ext
      refine qA (.bool true) rfl ?_
      refine WpL_nil (Wp_seq (Wp_seq_region ?_))
      refine qM (.bool true) rfl ?_
      refine qV (r_not (b := true) rfl) ?_
      refine qM (.bool false) rfl ?_
      refine WpL_guard_yes (oj := _) rfl rfl (by decide) rfl ?_
      refine qV (r_loadAgg (vs := (K22 x0 x1 x2 x3 x4 x5 x6 x7 x8 x9 x10 x11 x12 x13 x14 x15 x16 x17 x18 x19 x20 x21)) rfl agg33 siz33 rfl (Bu.cells rfl)) ?_
      refine WpL_guard_yes (oj := _) rfl rfl (by decide) rfl ?_
      refine qV (r_loadAgg (vs := (K22 x0 x1 x2 x3 x4 x5 x6 x7 x8 x9 x10 x11 x12 x13 x14 x15 x16 x17 x18 x19 x20 x21)) rfl agg43 siz43 rfl (Bz.cells rfl)) ?_
      refine WpL_guard_yes (oj := _) rfl rfl (by decide) rfl ?_
      refine WpL_val (v := (.bool false)) rfl rfl (by decide) (r_neqFr (L := fndO (some q)) rfl (fndQ_len q3) (congrArg (fun l : List Value => Value.agg l.toArray) hx.symm) (congrArg (fun l : List Value => Value.agg l.toArray) hx.symm)) ?_
      refine qV (r_pick (b := false) (v := (.bool false)) rfl rfl) ?_
      refine WpL_nil ?_
      refine Wp_cond_false rfl ?_
      refine Wp_skip (thn_normal (Wp_seq_region ?_))
      refine qF bu 0 1 rfl Try.underlying33 rfl siz3 rfl ?_
      refine qV (r_load (v := (I6 x1)) rfl flat3 (Bu.cell rfl)) ?_
      refine qA (I6 x1) rfl ?_
      refine WpL_nil (Wp_seq_region ?_)
      refine qF bu 0 0 rfl Try.underlying33 rfl siz3 rfl ?_
      refine qV (r_load (v := (I6 x0)) rfl flat3 (Bu.cell rfl)) ?_
      refine qF bu 0 1 rfl Try.underlying33 rfl siz3 rfl ?_
      refine qV (r_load (v := (I6 x1)) rfl flat3 (Bu.cell rfl)) ?_
      refine qV (r_eql (k := .i64) (a := x0) (b := x1) rfl rfl) ?_
      refine WpL_nil ?_
      refine Wp_cond (b := decide ((x0 : Int) = x1)) rfl (fun heq => ?_) (fun heq => ?_)
      ·have kheq := heq
       replace heq := of_decide_eq_true heq
       have hnp : nextP q = q.2.1 + 1 := by unfold nextP; rw [if_pos (by omega)]
       refine Wp_region ?_
       refine qM (I6 x1) rfl ?_
       refine qV (r_add (k := .i64) (a := x1) (b := 1) (c := ((nextP q : Nat) : Int)) rfl rfl (by rw [hx1, hnp, wI64 (by omega)]; omega)) ?_
       refine qA (I6 ((nextP q : Nat) : Int)) rfl ?_
       refine WpL_nil (inB_normal (thn_normal (Wp_region ?_)))
       refine qV (r_add (k := .i64) (a := (i : Int)) (b := 1) (c := (i : Int) + 1) rfl rfl (wI64 (by omega))) ?_
       refine qM (I6 ((i : Int) + 1)) rfl ?_
       refine WpL_nil (thn_normal ?_)
       exact ⟨(allP t text).length - (i + 1), by omega, i + 1, nextP q, m - 1, Fits.out ⟨rfl, rfl, rfl, rfl, rfl, rfl, trivial⟩, E, E3, Bo, Bf, Bg, Bx, (by omega), hmn, (by omega), rfl⟩
      ·have kheq := heq
       replace heq := of_decide_eq_false heq
       have hnp : nextP q = q.2.1 := by unfold nextP; rw [if_neg (by omega)]
       rw [hx1, ← hnp]
       refine Wp_skip (inB_normal (thn_normal (Wp_region ?_)))
       refine qV (r_add (k := .i64) (a := (i : Int)) (b := 1) (c := (i : Int) + 1) rfl rfl (wI64 (by omega))) ?_
       refine qM (I6 ((i : Int) + 1)) rfl ?_
       refine WpL_nil (thn_normal ?_)
       exact ⟨(allP t text).length - (i + 1), by omega, i + 1, nextP q, m - 1, Fits.out ⟨rfl, rfl, rfl, rfl, rfl, rfl, trivial⟩, E, E3, Bo, Bf, Bg, Bx, (by omega), hmn, (by omega), rfl⟩
     ·have khlt := hlt
      replace hlt := of_decide_eq_false hlt
      have hdn : (allP t text).drop i = [] := List.drop_eq_nil_of_le (by omega)
      rw [hdn] at hm
      have hfn := allF_nl hmf.2.2 hm.symm
      refine Wp_exit (thn_exit (thn_exit (inB_here (thn_normal (Wp_seq_region ?_)))))
      refine qV (r_loadAgg (vs := [(I6 t.kind), (.slice sa t.set.length sc), (.slice aa t.args.length ac), (I6 t.mn), (I6 t.mx), (.bool t.neg)]) rfl agg27 siz27 rfl (Bo.cells rfl)) ?_
      refine qM (.slice ta text.length tc) rfl ?_
      refine qM (I6 (e : Int)) rfl ?_
      refine WpL_enter rfl rfl (by decide) (r_callF (vs := [(.agg (R6 t sa sc aa ac)), (.slice ta text.length tc), (I6 (e : Int))]) Try.func16 nm16 bd16 rfl) ((findfrom_c text h7 t hRef e (by omega) _ _ _ (ReAt.ext E t ht0) (htx.ext E)).mono (R' := fun r w => r = .tuple #[.agg zeroF.toArray, .bool false] ∧ Ext _ w) (fun r w h => ⟨by rw [h.1, hfn]; rfl, h.2⟩)) ?_
      rintro _ w99 ⟨rfl, X99⟩
      replace Bo := X99.keep Bo
      replace Bf := X99.keep Bf
      replace Bg := X99.keep Bg
      replace Bx := X99.keep Bx
      replace E := E.ext X99
      replace E3 := E3.ext X99
      refine qM (.tuple #[(.agg zeroF.toArray), (.bool false)]) rfl ?_
      refine qV (r_extract (vs := #[(.agg zeroF.toArray), (.bool false)]) (v := (.agg zeroF.toArray)) rfl rfl) ?_
      refine qV (r_extract (vs := #[(.agg zeroF.toArray), (.bool false)]) (v := (.bool false)) rfl rfl) ?_
      refine qA (.bool false) rfl ?_
      refine WpL_nil (Wp_seq_region ?_)
      refine qM (.bool false) rfl ?_
      refine qV (r_not (b := false) rfl) ?_
      refine qA (.bool true) rfl ?_
      refine WpL_nil (Wp_ret ?_)
      refine fin_tmp Try.results5 (v := (.bool true)) rfl ?_
      exact ⟨rfl, E⟩
/-- CaptureTells. -/
theorem captells_c (w0 : World) (t : Re) (vs : List Value) (vt : Value) (text : List Int) (ht : ReAt w0 t vs) (htx : IntsAt w0 vt text) (hs : t.size ≤ 2097152) :
  Ret Try.prog 5 #[.agg vs.toArray, vt] w0 fun v w => v = .bool true ∧ Ext w0 w := by
 by_cases h1 : capE t = 0
 ·by_cases h2 : 60 < text.length
  ·exact ctells_b w0 t vs vt text ht htx hs h1 h2
  ·by_cases h3 : text.any (fun r => !runeB r) = true
   ·exact ctells_c w0 t vs vt text ht htx hs h1 h2 h3
   ·exact ctells_d w0 t vs vt text ht htx hs h1 h2 h3
 ·exact ctells_a w0 t vs vt text ht htx hs _ rfl h1
end Go.Proofs
namespace Go.Proofs
open Go Go.Eng
set_option maxRecDepth 100000
section
variable {H : Type} {enc : TypeId × Value → H} {P : Program} {w : World} {base : Nat} {spare : Nat → Bool} {held : Bool}
theorem cells_at {a : Addr} {k : Nat} {cs : List Value} (hk : 0 < k) (h : w.cells? base a k = some cs) : ∃ b o, a = ⟨b, o, none⟩ ∧ cs.length = k ∧ CellsAt w b o cs := by
  obtain ⟨h1, h2, h3⟩ := World.cells?_some h
  obtain ⟨b, o, s⟩ := a
  have hlen : cs.length = k := by first | exact h2 | exact h1 | omega
  have h0 := h3 0 (by omega)
  have hs : s = none := by
    cases s with
    | none => rfl
    | some s =>
      exfalso
      have hc : ∃ v, w.cell? ⟨b, o, some s⟩ = some v := ⟨_, by simpa [Addr.add, List.getElem?_eq_getElem (show 0 < cs.length by omega)] using h0⟩
      obtain ⟨v, hv⟩ := hc
      simp [World.cell?] at hv
      cases hh : w.heap[b]? <;> simp [hh] at hv
      split at hv <;> simp at hv
  subst hs
  refine ⟨b, o, rfl, hlen, fun i v hv => ?_⟩
  have := h3 i (by have := lt_of_get hv; omega)
  rw [Addr.add_lit] at this
  rw [this, hv]
theorem rows_map {α : Type} {f : α → List Value} : ∀ {rows : List (List Value)}, (∀ r ∈ rows, ∃ y, r = f y) → ∃ l : List α, rows = l.map f
  | [], _ => ⟨[], rfl⟩
  | r :: rows, h => by
    obtain ⟨y, hy⟩ := h r (by simp)
    obtain ⟨l, hl⟩ := rows_map (rows := rows) (f := f) fun r' hr' => h r' (List.mem_cons_of_mem _ hr')
    exact ⟨y :: l, by rw [hy, hl]; rfl⟩
/-- A slice, if each of its elements is read. -/
theorem open_rows {t e k fuel : Nat} {cs : List Value} {x : DataW H × List MemPlace} {R : List Value → Prop} (ht : P.underlying t = some (.slice e)) (hc : P.cellsOf e = k) (hk : 0 < k)
    (h : DataW.trod enc P w base spare held fuel t cs = some x) (hR : ∀ n cs' y, n < fuel → DataW.trod enc P w base spare held n e cs' = some y → R cs') :
    ∃ a rows cap, cs = [.slice a rows.length cap] ∧ SlAt w k (.slice a rows.length cap) rows ∧ (∀ r ∈ rows, R r ∧ r.length = k) ∧ rows.length ≤ cap ∧ cap ≤ maxLen := by
  rcases DataW.trod_slice ht h with ⟨rfl, _⟩ | ⟨a, len, cap, elems, rest, n, rfl, rfl, _, hb, hl, hm, hlen, hel, _, _⟩
  · exact ⟨none, [], 0, rfl, SlAt.nil _ _ _ _, by simp, by simp, by simp [maxLen]⟩
  · have each : ∀ i, i < len → ∃ cs', w.cells? base (a.add (i * k)) k = some cs' ∧ R cs' := by
      intro i hi
      have := hel i hi
      rw [List.getElem?_eq_getElem (by omega), hc, Option.bind_eq_some_iff] at this
      obtain ⟨cs', h1, h2⟩ := this
      exact ⟨cs', h1, hR n cs' _ (by omega) h2⟩
    have fam : ∀ m, m ≤ len → ∃ rows : List (List Value), rows.length = m ∧ ∀ i r, rows[i]? = some r → w.cells? base (a.add (i * k)) k = some r ∧ R r := by
      intro m
      induction m with
      | zero => intro _; exact ⟨[], rfl, by simp⟩
      | succ m ih =>
        intro hm
        obtain ⟨rows, h1, h2⟩ := ih (by omega)
        obtain ⟨cs', h3, h4⟩ := each m (by omega)
        refine ⟨rows ++ [cs'], by simp [h1], fun i r hr => ?_⟩
        rcases Nat.lt_or_ge i rows.length with hi | hi
        · rw [List.getElem?_append_left hi] at hr; exact h2 i r hr
        · rw [List.getElem?_append_right hi] at hr
          have hi' := lt_of_get hr
          simp at hi'
          obtain rfl : i = m := by omega
          simp [h1] at hr
          subst hr
          exact ⟨h3, h4⟩
    obtain ⟨rows, hrl, hrows⟩ := fam len (Nat.le_refl _)
    have hmax : rows.length ≤ 9223372036854775807 := by simp only [maxLen] at hm; omega
    refine ⟨some a, rows, cap, by rw [hrl], ⟨some a, cap, rfl, hmax, by omega, ?_⟩, ?_, by omega, hm⟩
    · rcases Nat.eq_zero_or_pos len with h0 | h0
      · left; exact List.eq_nil_of_length_eq_zero (by omega)
      · right
        obtain ⟨r0, hr0⟩ := get_of_lt (l := rows) (i := 0) (by omega)
        have h1 := (hrows 0 r0 hr0).1
        have hz : a.add (0 * k) = a := by simp [Addr.add]
        rw [hz] at h1
        obtain ⟨b, o, rfl, _, _⟩ := cells_at hk h1
        refine ⟨b, o, rfl, fun i r hr => ?_⟩
        have h2 := (hrows i r hr).1
        rw [Addr.add_lit] at h2
        obtain ⟨b', o', he, _, h3⟩ := cells_at hk h2
        cases he
        exact h3
    · intro r hr
      obtain ⟨i, hi⟩ := List.mem_iff_getElem?.1 hr
      have h2 := hrows i r hi
      obtain ⟨_, _, _, h3, _⟩ := cells_at hk h2.1
      exact ⟨h2.2, h3⟩
theorem open_intsL {t e fuel : Nat} {cs : List Value} {x : DataW H × List MemPlace} (ht : P.underlying t = some (.slice e)) (he : P.underlying e = some (.int .i64)) (hc : P.cellsOf e = 1)
  (h : DataW.trod enc P w base spare held fuel t cs = some x) : ∃ a l cap, cs = [.slice a l.length cap] ∧ IntsAt w (.slice a l.length cap) l := by
 obtain ⟨a, rows, cap, rfl, h1, h2, _⟩ := open_rows (R := fun cs => ∃ n : Int, cs = intV n) ht hc (by decide) h (fun n cs' y _ hy => by
  obtain ⟨m, rfl, _⟩ := DataW.trod_int he hy; exact ⟨m, rfl⟩)
 obtain ⟨l, rfl⟩ := rows_map fun r hr => (h2 r hr).1
 exact ⟨a, l, cap, by simp, by simpa [IntsAt] using h1⟩
end
section
variable {H : Type} {enc : TypeId × Value → H} {w : World} {base : Nat} {spare : Nat → Bool} {held : Bool}
theorem cells71 : Try.prog.cellsOf 71 = 2 := by kernel_rfl
theorem cells27 : Try.prog.cellsOf 27 = 6 := by kernel_rfl
theorem cells3 : Try.prog.cellsOf 3 = 1 := by kernel_rfl
theorem cells4 : Try.prog.cellsOf 4 = 1 := by kernel_rfl
theorem cells25 : Try.prog.cellsOf 25 = 1 := by kernel_rfl
theorem cells24 : Try.prog.cellsOf 24 = 1 := by kernel_rfl
theorem open_span {fuel : Nat} {cs : List Value} {x : DataW H × List MemPlace} (h : DataW.trod enc Try.prog w base spare held fuel 71 cs = some x) : ∃ s : Int × Int, cs = spanV s := by
  obtain ⟨xs, n, rfl, _, hl, hx, hf⟩ := DataW.trod_struct Try.underlying71 h
  rw [cells71] at hl
  match cs, hl with
  | [c0, c1], _ =>
    have h0 : DataW.trod enc Try.prog w base spare held n 3 (([c0, c1].drop 0).take (Try.prog.cellsOf 3)) = xs[0]? := hf 0 _ rfl
    have h1 : DataW.trod enc Try.prog w base spare held n 3 (([c0, c1].drop 1).take (Try.prog.cellsOf 3)) = xs[1]? := hf 1 _ rfl
    simp only [cells3, List.drop, List.take] at h0 h1
    rw [List.getElem?_eq_getElem (by rw [hx]; decide)] at h0 h1
    obtain ⟨a, e0, _⟩ := DataW.trod_int Try.underlying3 h0
    obtain ⟨b, e1, _⟩ := DataW.trod_int Try.underlying3 h1
    simp at e0 e1
    subst e0; subst e1
    exact ⟨(a, b), rfl⟩
theorem open_spans {fuel : Nat} {cs : List Value} {x : DataW H × List MemPlace} (h : DataW.trod enc Try.prog w base spare held fuel 24 cs = some x) : ∃ a l cap, cs = [.slice a l.length cap] ∧ SpansAt w (.slice a l.length cap) l := by
 obtain ⟨a, rows, cap, rfl, h1, h2, _⟩ := open_rows (R := fun cs => ∃ s : Int × Int, cs = spanV s) Try.underlying24 cells71 (by decide) h (fun n cs' y _ hy => open_span hy)
 obtain ⟨l, rfl⟩ := rows_map fun r hr => (h2 r hr).1
 exact ⟨a, l, cap, by simp, by simpa [SpansAt] using h1⟩
end
end Go.Proofs
namespace Go.Proofs
open Go Go.Eng
set_option maxRecDepth 100000
section
variable {H : Type} {enc : TypeId × Value → H} {P : Program} {w : World} {base : Nat} {spare : Nat → Bool} {held : Bool}
/-- A slice, if each of its elements is read: with what was read. -/
theorem open_rowsB {t e k fuel : Nat} {cs : List Value} {x : DataW H × List MemPlace} {R : List Value → DataW H → Prop} (ht : P.underlying t = some (.slice e)) (hc : P.cellsOf e = k) (hk : 0 < k)
    (h : DataW.trod enc P w base spare held fuel t cs = some x) (hR : ∀ n cs' y, n < fuel → DataW.trod enc P w base spare held n e cs' = some y → R cs' y.1) :
    ∃ a rows cap, cs = [.slice a rows.length cap] ∧ SlAt w k (.slice a rows.length cap) rows ∧ (∀ r ∈ rows, r.length = k) ∧ rows.length ≤ cap ∧ cap ≤ maxLen ∧
      (rows = [] ∨ ∃ ds sp, x.1 = .slice ds sp ∧ ds.length = rows.length ∧ ∀ (i : Nat) r, rows[i]? = some r → ∃ d, ds[i]? = some d ∧ R r d) := by
  rcases DataW.trod_slice ht h with ⟨rfl, _⟩ | ⟨a, len, cap, elems, rest, n, rfl, rfl, rfl, hb, hl, hm, hlen, hel, _, _⟩
  · exact ⟨none, [], 0, rfl, SlAt.nil _ _ _ _, by simp, by simp, by simp [maxLen], .inl rfl⟩
  · have each : ∀ i, i < len → ∃ cs' y, w.cells? base (a.add (i * k)) k = some cs' ∧ elems[i]? = some y ∧ R cs' y.1 := by
      intro i hi
      have := hel i hi
      rw [List.getElem?_eq_getElem (by omega), hc, Option.bind_eq_some_iff] at this
      obtain ⟨cs', h1, h2⟩ := this
      exact ⟨cs', _, h1, List.getElem?_eq_getElem (by omega), hR n cs' _ (by omega) h2⟩
    have fam : ∀ m, m ≤ len → ∃ rows : List (List Value), rows.length = m ∧ ∀ (i : Nat) r, rows[i]? = some r → w.cells? base (a.add (i * k)) k = some r ∧ ∃ y, elems[i]? = some y ∧ R r y.1 := by
      intro m
      induction m with
      | zero => intro _; exact ⟨[], rfl, by simp⟩
      | succ m ih =>
        intro hm
        obtain ⟨rows, h1, h2⟩ := ih (by omega)
        obtain ⟨cs', y, h3, h4, h5⟩ := each m (by omega)
        refine ⟨rows ++ [cs'], by simp [h1], fun i r hr => ?_⟩
        rcases Nat.lt_or_ge i rows.length with hi | hi
        · rw [List.getElem?_append_left hi] at hr; exact h2 i r hr
        · rw [List.getElem?_append_right hi] at hr
          have hi' := lt_of_get hr
          simp at hi'
          obtain rfl : i = m := by omega
          simp [h1] at hr
          subst hr
          exact ⟨h3, y, h4, h5⟩
    obtain ⟨rows, hrl, hrows⟩ := fam len (Nat.le_refl _)
    have hmax : rows.length ≤ 9223372036854775807 := by simp only [maxLen] at hm; omega
    refine ⟨some a, rows, cap, by rw [hrl], ⟨some a, cap, rfl, hmax, by omega, ?_⟩, ?_, by omega, hm, .inr ⟨elems.map (·.1), rest.map (·.1), rfl, by simp; omega, fun i r hr => ?_⟩⟩
    · rcases Nat.eq_zero_or_pos len with h0 | h0
      · left; exact List.eq_nil_of_length_eq_zero (by omega)
      · right
        obtain ⟨r0, hr0⟩ := get_of_lt (l := rows) (i := 0) (by omega)
        have h1 := (hrows 0 r0 hr0).1
        have hz : a.add (0 * k) = a := by simp [Addr.add]
        rw [hz] at h1
        obtain ⟨b, o, rfl, _, _⟩ := cells_at hk h1
        refine ⟨b, o, rfl, fun i r hr => ?_⟩
        have h2 := (hrows i r hr).1
        rw [Addr.add_lit] at h2
        obtain ⟨b', o', he, _, h3⟩ := cells_at hk h2
        cases he
        exact h3
    · intro r hr
      obtain ⟨i, hi⟩ := List.mem_iff_getElem?.1 hr
      have h2 := hrows i r hi
      obtain ⟨_, _, _, h3, _⟩ := cells_at hk h2.1
      exact h3
    · obtain ⟨_, y, h4, h5⟩ := hrows i r hr
      exact ⟨y.1, by simp [h4], h5⟩
end
section
variable {H : Type} {enc : TypeId × Value → H} {w : World} {base : Nat} {spare : Nat → Bool} {held : Bool}
theorem bulk_get {l : List (DataW H)} {i : Nat} {d : DataW H} (h : l[i]? = some d) : Ytgifkdbbgffemaa.Rows.uptoBulk d ≤ Ytgifkdbbgffemaa.Rows.uptoBulkAll l := by
  induction l generalizing i with
  | nil => simp at h
  | cons x r ih =>
    simp only [Ytgifkdbbgffemaa.Rows.uptoBulkAll]
    cases i with
    | zero => simp at h; subst h; omega
    | succ i => have := ih (i := i) (by simpa using h); omega
theorem res_of_rowsB {b o : Nat} : ∀ {rows : List (List Value)} {ds : List (DataW H)}, ds.length = rows.length → (∀ (i : Nat) r, rows[i]? = some r → CellsAt w b (o + i * 6) r ∧ ∃ d, ds[i]? = some d ∧ ∃ t, ReAt w t r ∧ t.size ≤ Ytgifkdbbgffemaa.Rows.uptoBulk d) → ∃ ts : List Re, ts.length = rows.length ∧ (∀ (i : Nat) t, ts[i]? = some t → ∃ vs, CellsAt w b (o + i * 6) vs ∧ ReAt w t vs) ∧ Re.sizes ts ≤ Ytgifkdbbgffemaa.Rows.uptoBulkAll ds := by
  intro rows ds hl h
  have key : ∀ m, m ≤ rows.length → ∃ ts : List Re, ts.length = m ∧ (∀ (i : Nat) t, ts[i]? = some t → ∃ vs, CellsAt w b (o + i * 6) vs ∧ ReAt w t vs) ∧ Re.sizes ts ≤ Ytgifkdbbgffemaa.Rows.uptoBulkAll (ds.take m) := by
    intro m
    induction m with
    | zero => intro _; exact ⟨[], rfl, by simp, by simp [Re.sizes]⟩
    | succ m ih =>
      intro hm
      obtain ⟨ts, h1, h2, h3⟩ := ih (by omega)
      obtain ⟨r, hr⟩ := get_of_lt (l := rows) (i := m) (by omega)
      obtain ⟨h4, d, hd, t, h5, h6⟩ := h m r hr
      refine ⟨ts ++ [t], by simp [h1], fun i t' ht => ?_, ?_⟩
      · rcases Nat.lt_or_ge i ts.length with hi | hi
        · rw [List.getElem?_append_left hi] at ht; exact h2 i t' ht
        · rw [List.getElem?_append_right hi] at ht
          have hi' := lt_of_get ht
          simp at hi'
          obtain rfl : i = m := by omega
          simp [h1] at ht
          subst ht
          exact ⟨r, h4, h5⟩
      · have happ : ∀ (a c : List (DataW H)), Ytgifkdbbgffemaa.Rows.uptoBulkAll (a ++ c) = Ytgifkdbbgffemaa.Rows.uptoBulkAll a + Ytgifkdbbgffemaa.Rows.uptoBulkAll c := by
          intro a c
          induction a with
          | nil => simp [Ytgifkdbbgffemaa.Rows.uptoBulkAll]
          | cons y a ih2 => simp only [List.cons_append, Ytgifkdbbgffemaa.Rows.uptoBulkAll, ih2]; omega
        rw [List.take_add_one, hd, happ, Re.sizes_append]
        simp only [Option.toList_some, Ytgifkdbbgffemaa.Rows.uptoBulkAll, Re.sizes]
        omega
  obtain ⟨ts, h1, h2, h3⟩ := key rows.length (Nat.le_refl _)
  rw [← hl, List.take_length] at h3
  exact ⟨ts, h1, h2, h3⟩
theorem open_reB : ∀ (fuel : Nat) {cs : List Value} {x : DataW H × List MemPlace}, DataW.trod enc Try.prog w base spare held fuel 27 cs = some x → ∃ t, ReAt w t cs ∧ t.size ≤ Ytgifkdbbgffemaa.Rows.uptoBulk x.1 := by
  intro fuel
  induction fuel using Nat.strongRecOn with
  | _ fuel ih =>
  intro cs x h
  obtain ⟨xs, n, rfl, rfl, hl, hx, hf⟩ := DataW.trod_struct Try.underlying27 h
  rw [cells27] at hl
  match cs, hl with
  | [c0, c1, c2, c3, c4, c5], _ =>
    have h0 : DataW.trod enc Try.prog w base spare held n 3 (([c0, c1, c2, c3, c4, c5].drop 0).take (Try.prog.cellsOf 3)) = xs[0]? := hf 0 _ rfl
    have h1 : DataW.trod enc Try.prog w base spare held n 24 (([c0, c1, c2, c3, c4, c5].drop 1).take (Try.prog.cellsOf 24)) = xs[1]? := hf 1 _ rfl
    have h2 : DataW.trod enc Try.prog w base spare held n 25 (([c0, c1, c2, c3, c4, c5].drop 2).take (Try.prog.cellsOf 25)) = xs[2]? := hf 2 _ rfl
    have h3 : DataW.trod enc Try.prog w base spare held n 3 (([c0, c1, c2, c3, c4, c5].drop 3).take (Try.prog.cellsOf 3)) = xs[3]? := hf 3 _ rfl
    have h4 : DataW.trod enc Try.prog w base spare held n 3 (([c0, c1, c2, c3, c4, c5].drop 4).take (Try.prog.cellsOf 3)) = xs[4]? := hf 4 _ rfl
    have h5 : DataW.trod enc Try.prog w base spare held n 4 (([c0, c1, c2, c3, c4, c5].drop 5).take (Try.prog.cellsOf 4)) = xs[5]? := hf 5 _ rfl
    simp only [cells3, cells4, cells25, cells24, List.drop, List.take] at h0 h1 h2 h3 h4 h5
    have hlen6 : xs.length = 6 := hx
    obtain ⟨y2, hy2⟩ := get_of_lt (l := xs) (i := 2) (by omega)
    have hb2 : Ytgifkdbbgffemaa.Rows.uptoBulk y2.1 ≤ Ytgifkdbbgffemaa.Rows.uptoBulkAll (xs.map (·.1)) := bulk_get (i := 2) (by simp [hy2])
    have hbx : Ytgifkdbbgffemaa.Rows.uptoBulk (DataW.agg (xs.map (·.1))) = Ytgifkdbbgffemaa.Rows.uptoBulkAll (xs.map (·.1)) + 1 := by simp only [Ytgifkdbbgffemaa.Rows.uptoBulk]
    rw [hy2] at h2
    rw [List.getElem?_eq_getElem (by rw [hx]; decide)] at h0 h1 h3 h4 h5
    obtain ⟨k, e0, _⟩ := DataW.trod_int Try.underlying3 h0
    obtain ⟨mn, e3, _⟩ := DataW.trod_int Try.underlying3 h3
    obtain ⟨mx, e4, _⟩ := DataW.trod_int Try.underlying3 h4
    obtain ⟨ng, e5, _⟩ := DataW.trod_bool Try.underlying4 h5
    obtain ⟨sa, set, sc, e1, hs⟩ := open_spans h1
    obtain ⟨aa, rows, ac, e2, ha, hrows, hcap, hmax, hds⟩ := open_rowsB (R := fun cs d => ∃ t, ReAt w t cs ∧ t.size ≤ Ytgifkdbbgffemaa.Rows.uptoBulk d) Try.underlying25 cells27 (by decide) h2 (fun m cs' y hm hy => ih m (by omega) hy)
    simp at e0 e1 e2 e3 e4 e5
    subst e0; subst e1; subst e2; subst e3; subst e4; subst e5
    rcases Nat.eq_zero_or_pos rows.length with hz | hz
    · have : rows = [] := List.eq_nil_of_length_eq_zero hz
      subst this
      refine ⟨.mk k set [] mn mx ng, ReAt.of (args := []) hs ⟨by simp, by simp only [maxLen] at hmax; omega⟩ (.inl rfl), ?_⟩
      simp only [Re.size, Re.sizes]; omega
    · obtain ⟨b, o, rfl, hcells⟩ := SlAt.at ha hz
      rcases hds with rfl | ⟨ds, sp, hy, hdl, hd⟩
      · simp at hz
      obtain ⟨ts, hts, htg, hsz⟩ := res_of_rowsB (w := w) (b := b) (o := o) (rows := rows) hdl fun i r hr => ⟨hcells i r hr, hd i r hr⟩
      refine ⟨.mk k set ts mn mx ng, ?_, ?_⟩
      · rw [← hts]
        exact ReAt.of hs ⟨by omega, by simp only [maxLen] at hmax; omega⟩ (.inr ⟨b, o, rfl, ResAt.mk htg⟩)
      · rw [hy] at hb2
        simp only [Ytgifkdbbgffemaa.Rows.uptoBulk] at hb2
        simp only [Re.size]
        omega
end
end Go.Proofs
