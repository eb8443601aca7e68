/- Contracts and plain lemmas, part 5. -/
import Derived.Tactics
import Derived.Deep.Quiet
import Derived.Laws.AppendOwn
import Derived.KernelRfl
import Derived.Laws.Entries
import Derived.Laws.Build
import Derived.Below
import Derived.RowKit3
import Derived.StillTail
import Derived.Sort.Grow
import Derived.Deep.Draws
import Derived.Test.YtfbglkkidenifaaGreatChecked
import Derived.Laws.StructEq
import Derived.Shelf.SlSortCmp.WholeK
import Derived.Shelf.Sort.Plain
import Derived.Shelf.Slices.CompactI
import Derived.Test.YtfbglkkidenifaaGreatProg
import Derived.MapKept
import Derived.Laws.BytesArg
import Derived.Test.YtfbglkkidenifaaGreatDc4
namespace Go.Proofs
open Go Go.Eng Go.Sort
set_option maxRecDepth 100000
abbrev zeroRe (k : Int) : List Value := [.int .i64 k, .slice none 0 0, .slice none 0 0, .int .i64 0, .int .i64 0, .bool false]
theorem dnone_c (w0 : World) : Ret Tryz.prog 120 #[] w0 fun v w => v = .agg (zeroRe 0).toArray ∧ Ext w0 w := by
 refine Ret_of Tryz.func120 rfl Tryz.ntmps120 (Nat.le_of_ble_eq_true rfl) ?_
 have E : Chg none1 w0 w0 := Chg.refl _ _
 refine Wp_seq_region ?_
 refine s_alloc (c := #[(I6 0), (.slice none 0 0), (.slice none 0 0), (I6 0), (I6 0), (.bool false)]) (by decide) zer25 rfl ?_
 intro b1 w1 N1
 have F1 := N1.ge E
 replace E := E.ext N1.ext
 have B1 := N1.blk
 refine WpL_nil (Wp_seq_region ?_)
 refine qV (r_build (ps := [(0, (I6 0))]) (v := (.agg #[(I6 0), (.slice none 0 0), (.slice none 0 0), (I6 0), (I6 0), (.bool false)])) rfl (by kernel_rfl)) ?_
 refine s_storeAgg (b := b1) (o := 0) (c' := #[(I6 0), (.slice none 0 0), (.slice none 0 0), (I6 0), (I6 0), (.bool false)]) rfl rfl (by simp [Value.oneCell']) siz25 rfl B1 (by first | (simp; done) | exact Nat.le_of_ble_eq_true rfl) rfl ?_
 intro w2 S2
 replace E := S2.step E (by first | exact Or.inl (by omega) | exact Or.inr rfl | exact Or.inr (by assumption) | exact Or.inr (by simp) | exact Or.inr (by omega) | exact Or.inr (by dsimp only; omega))
 replace B1 := S2.blk
 refine WpL_nil (Wp_ret ?_)
 refine fin_agg Tryz.results120 (vs := [(.int .i64 0), (.slice none 0 0), (.slice none 0 0), (.int .i64 0), (.int .i64 0), (.bool false)]) (b := b1) rfl agg25 siz25 rfl (B1.cells rfl) ?_
 exact ⟨rfl, E⟩
theorem dempty_c (w0 : World) : Ret Tryz.prog 117 #[] w0 fun v w => v = .agg (zeroRe 1).toArray ∧ Ext w0 w := by
 refine Ret_of Tryz.func117 rfl Tryz.ntmps117 (Nat.le_of_ble_eq_true rfl) ?_
 have E : Chg none1 w0 w0 := Chg.refl _ _
 refine Wp_seq_region ?_
 refine s_alloc (c := #[(I6 0), (.slice none 0 0), (.slice none 0 0), (I6 0), (I6 0), (.bool false)]) (by decide) zer25 rfl ?_
 intro b1 w1 N1
 have F1 := N1.ge E
 replace E := E.ext N1.ext
 have B1 := N1.blk
 refine WpL_nil (Wp_seq_region ?_)
 refine qV (r_build (ps := [(0, (I6 1))]) (v := (.agg #[(I6 1), (.slice none 0 0), (.slice none 0 0), (I6 0), (I6 0), (.bool false)])) rfl (by kernel_rfl)) ?_
 refine s_storeAgg (b := b1) (o := 0) (c' := #[(I6 1), (.slice none 0 0), (.slice none 0 0), (I6 0), (I6 0), (.bool false)]) rfl rfl (by simp [Value.oneCell']) siz25 rfl B1 (by first | (simp; done) | exact Nat.le_of_ble_eq_true rfl) rfl ?_
 intro w2 S2
 replace E := S2.step E (by first | exact Or.inl (by omega) | exact Or.inr rfl | exact Or.inr (by assumption) | exact Or.inr (by simp) | exact Or.inr (by omega) | exact Or.inr (by dsimp only; omega))
 replace B1 := S2.blk
 refine WpL_nil (Wp_ret ?_)
 refine fin_agg Tryz.results117 (vs := [(.int .i64 1), (.slice none 0 0), (.slice none 0 0), (.int .i64 0), (.int .i64 0), (.bool false)]) (b := b1) rfl agg25 siz25 rfl (B1.cells rfl) ?_
 exact ⟨rfl, E⟩
theorem disnone_c (w0 : World) (t : Re) (vs : List Value) (ht : ReAt w0 t vs) : Ret Tryz.prog 136 #[.agg vs.toArray] w0 fun v w => v = .bool (isNoneB t) ∧ Ext w0 w := by
 obtain ⟨sa, sc, aa, ac, rfl, _, _, _⟩ := ht.form
 refine Ret_of Tryz.func136 rfl Tryz.ntmps136 (Nat.le_of_ble_eq_true rfl) ?_
 have E : Chg none1 w0 w0 := Chg.refl _ _
 refine Wp_seq_region ?_
 refine s_box (v := (.agg (R6 t sa sc aa ac))) (c := (R6 t sa sc aa ac)) (by decide) rfl rfl ?_
 intro b1 w1 N1
 have F1 := N1.ge E
 replace E := E.ext N1.ext
 have B1 := N1.blk
 refine qA (.bool false) rfl ?_
 refine WpL_nil (Wp_seq_region ?_)
 refine qF b1 0 0 rfl Tryz.underlying25 rfl siz3 rfl ?_
 refine qV (r_load (v := (I6 t.kind)) rfl flat3 (B1.cell rfl)) ?_
 refine qV (r_eql (k := .i64) (a := t.kind) (b := 0) rfl rfl) ?_
 refine qA (.bool (decide ((t.kind : Int) = 0))) rfl ?_
 refine WpL_nil (Wp_ret ?_)
 refine fin_tmp Tryz.results136 (v := (.bool (decide ((t.kind : Int) = 0)))) rfl ?_
 exact ⟨rfl, E⟩
theorem discat1_c (w0 : World) (t : Re) (vs : List Value) (ht : ReAt w0 t vs) : Ret Tryz.prog 168 #[.agg vs.toArray] w0 fun v w => v = .bool (isEmptyB t) ∧ Ext w0 w := by
 obtain ⟨sa, sc, aa, ac, rfl, _, _, _⟩ := ht.form
 refine Ret_of Tryz.func168 rfl Tryz.ntmps168 (Nat.le_of_ble_eq_true rfl) ?_
 have E : Chg none1 w0 w0 := Chg.refl _ _
 refine Wp_seq_region ?_
 refine s_box (v := (.agg (R6 t sa sc aa ac))) (c := (R6 t sa sc aa ac)) (by decide) rfl rfl ?_
 intro b1 w1 N1
 have F1 := N1.ge E
 replace E := E.ext N1.ext
 have B1 := N1.blk
 refine qA (.bool false) rfl ?_
 refine WpL_nil (Wp_seq_region ?_)
 refine qF b1 0 0 rfl Tryz.underlying25 rfl siz3 rfl ?_
 refine qV (r_load (v := (I6 t.kind)) rfl flat3 (B1.cell rfl)) ?_
 refine qV (r_eql (k := .i64) (a := t.kind) (b := 1) rfl rfl) ?_
 refine qA (.bool (decide ((t.kind : Int) = 1))) rfl ?_
 refine WpL_nil (Wp_ret ?_)
 refine fin_tmp Tryz.results168 (v := (.bool (decide ((t.kind : Int) = 1)))) rfl ?_
 exact ⟨rfl, E⟩
theorem disall_c (w0 : World) (t : Re) (vs : List Value) (ht : ReAt w0 t vs) (h8 : t.kind = 8 → t.args ≠ []) : Ret Tryz.prog 162 #[.agg vs.toArray] w0 fun v w => v = .bool (isAllB t) ∧ Ext w0 w := by
 obtain ⟨sa, sc, aa, ac, rfl, _, _, hargs⟩ := ht.form
 refine Ret_of Tryz.func162 rfl Tryz.ntmps162 (Nat.le_of_ble_eq_true rfl) ?_
 have E : Chg none1 w0 w0 := Chg.refl _ _
 refine Wp_seq_region ?_
 refine s_box (v := (.agg (R6 t sa sc aa ac))) (c := (R6 t sa sc aa ac)) (by decide) rfl rfl ?_
 intro br wr Nr
 have Fr := Nr.ge E
 replace E := E.ext Nr.ext
 have Br := Nr.blk
 refine qA (.bool false) rfl ?_
 refine WpL_nil (Wp_seq_region ?_)
 refine qF br 0 0 rfl Tryz.underlying25 rfl siz3 rfl ?_
 refine qV (r_load (v := (I6 t.kind)) rfl flat3 (Br.cell rfl)) ?_
 refine qV (r_eql (k := .i64) (a := t.kind) (b := 8) rfl rfl) ?_
 refine qM (.bool (decide ((t.kind : Int) = 8))) rfl ?_
 rcases Bool.eq_false_or_eq_true (decide ((t.kind : Int) = 8)) with hk | hk
 ·have khk := hk
  replace khk := of_decide_eq_true khk
  obtain ⟨x, hx⟩ := get_of_lt (l := t.args) (i := 0) (List.length_pos_iff.2 (h8 khk))
  obtain ⟨ab, ao, rfl, hres⟩ := args_at hargs (List.length_pos_iff.2 (h8 khk))
  have hpl := lt_of_get hx
  obtain ⟨us, hus, hxt⟩ := hres.get hx
  obtain ⟨xsa, xsc, xaa, xac, rfl, _, _, _⟩ := hxt.form
  refine WpL_guard_yes (oj := _) rfl rfl (by decide) (congrArg Value.bool hk) ?_
  refine qF br 0 2 rfl Tryz.underlying25 rfl siz23 rfl ?_
  refine WpL_guard_yes (oj := _) rfl rfl (by decide) (congrArg Value.bool hk) ?_
  refine qV (r_load (v := (.slice (some ⟨ab, ao, none⟩) t.args.length ac)) rfl flat23 (Br.cell rfl)) ?_
  refine WpL_guard_yes (oj := _) rfl rfl (by decide) (congrArg Value.bool hk) ?_
  refine qV (r_indexSlice (b := ab) (o := ao) (len := t.args.length) (cap := ac) (i := 0) (o' := ao + 0 * 6) rfl rfl rfl Tryz.underlying23 siz25 (by omega) (by omega)) ?_
  refine WpL_guard_yes (oj := _) rfl rfl (by decide) (congrArg Value.bool hk) ?_
  refine qF ab (ao + 0 * 6) (ao + 0 * 6) rfl Tryz.underlying25 rfl siz3 rfl ?_
  refine WpL_guard_yes (oj := _) rfl rfl (by decide) (congrArg Value.bool hk) ?_
  refine qV (r_load (v := (I6 x.kind)) rfl flat3 (E.cell (fun f => f) (hus 0 _ rfl))) ?_
  refine WpL_guard_yes (oj := _) rfl rfl (by decide) (congrArg Value.bool hk) ?_
  refine qV (r_eql (k := .i64) (a := x.kind) (b := 0) rfl rfl) ?_
  refine qV (r_pick (b := decide ((t.kind : Int) = 8)) (v := (.bool (decide ((x.kind : Int) = 0)))) rfl (by rw [hk]; rfl)) ?_
  refine qA (.bool (decide ((x.kind : Int) = 0))) rfl ?_
  refine WpL_nil (Wp_ret ?_)
  refine fin_tmp Tryz.results162 (v := (.bool (decide ((x.kind : Int) = 0)))) rfl ?_
  exact ⟨bool_eq (by unfold isAllB; rw [headD_get hx, khk]; rfl), E⟩
 ·have khk := hk
  replace khk := of_decide_eq_false khk
  refine WpL_guard_no (oj := _) rfl rfl (by decide) (v := .bool false) (congrArg Value.bool hk) (Or.inl rfl) ?_
  refine WpL_guard_no (oj := _) rfl rfl (by decide) (v := .bool false) (congrArg Value.bool hk) (Or.inl rfl) ?_
  refine WpL_guard_no (oj := _) rfl rfl (by decide) (v := .bool false) (congrArg Value.bool hk) (Or.inl rfl) ?_
  refine WpL_guard_no (oj := _) rfl rfl (by decide) (v := .bool false) (congrArg Value.bool hk) (Or.inl rfl) ?_
  refine WpL_guard_no (oj := _) rfl rfl (by decide) (v := .bool false) (congrArg Value.bool hk) (Or.inl rfl) ?_
  refine WpL_guard_no (oj := _) rfl rfl (by decide) (v := .bool false) (congrArg Value.bool hk) (Or.inl rfl) ?_
  refine qV (r_pick (b := decide ((t.kind : Int) = 8)) (v := (.bool false)) rfl (by rw [hk]; rfl)) ?_
  refine qA (.bool false) rfl ?_
  refine WpL_nil (Wp_ret ?_)
  refine fin_tmp Tryz.results162 (v := (.bool false)) rfl ?_
  exact ⟨bool_eq (by unfold isAllB; simp [hk]), E⟩
theorem emptR_eq (t : Re) : emptR t = if t.kind = 1 ∨ t.kind = 5 then true else if t.kind = 3 ∨ t.kind = 7 ∨ t.kind = 9 then emptRs t.args else if t.kind = 4 then emptAny t.args else if t.kind = 6 then (decide (t.mn = 0) || emptRs t.args) else if t.kind = 8 then !emptRs t.args else if t.kind = 10 then (emptRs t.args != t.neg) else false := by
  cases t with
  | mk k s a m x g => simp only [emptR]; rfl
set_option maxHeartbeats 4000000 in
theorem empt_c : ∀ (n : Nat) (t : Re) (w0 : World) (vs : List Value), t.size ≤ n → n ≤ 2000000 → ReAt w0 t vs →
    Ret Tryz.prog 63 #[.agg vs.toArray] w0 fun v w => v = .bool (emptR t) ∧ Ext w0 w := by
  intro n
  induction n with
  | zero => intro t w0 vs h; have := t.size_pos; omega
  | succ n ih =>
  intro t w0 vs hn hnb ht
  have ht0 := ht
  obtain ⟨sa, sc, aa, ac, rfl, hset, hlen, hargs⟩ := ht.form
  have hal := len_lt_size t
  rw [emptR_eq]
  refine Ret_of Tryz.func63 rfl Tryz.ntmps63 (Nat.le_of_ble_eq_true rfl) ?_
  have E : Chg none1 w0 w0 := Chg.refl _ _
  refine Wp_seq_region ?_
  refine s_box (v := (.agg (R6 t sa sc aa ac))) (c := (R6 t sa sc aa ac)) (by decide) rfl rfl ?_
  intro b1 w1 N1
  have F1 := N1.ge E
  replace E := E.ext N1.ext
  have B1 := N1.blk
  refine qA (.bool false) rfl ?_
  refine WpL_nil (Wp_seq_region ?_)
  refine qA (.bool true) rfl ?_
  refine qA (.bool false) rfl ?_
  refine WpL_nil (Wp_seq (Wp_seq_region ?_))
  refine qF b1 0 2 rfl Tryz.underlying25 rfl siz23 rfl ?_
  refine qV (r_load (v := (.slice aa t.args.length ac)) rfl flat23 (B1.cell rfl)) ?_
  refine qV (r_lenSlice (ad := aa) (n := t.args.length) (cap := ac) Tryz.underlying23 rfl) ?_
  refine qM (I6 0) rfl ?_
  refine WpL_nil (Wp_block ?_)
  refine Wp_loop (fun nn_ σ W2 => ∃ (k : Nat) (a s : Bool), (∃ jj_, σ = upds jj_ [(1, (P6 b1 0)), (9, (.slice aa t.args.length ac)), (10, (I6 (t.args.length : Int))), (11, (I6 (k : Int))), (3, (.bool a)), (4, (.bool s))]) ∧ Chg none1 w0 W2 ∧ Blk W2 b1 (R6 t sa sc aa ac) 25 ∧ (k ≤ t.args.length) ∧ (emptRs t.args = (a && emptRs (t.args.drop k))) ∧ (emptAny t.args = (s || emptAny (t.args.drop k))) ∧ nn_ = t.args.length - k) (n := t.args.length - 0) ?_ ?_
  · exact ⟨0, true, false, Fits.out ⟨rfl, rfl, rfl, rfl, rfl, rfl, trivial⟩, E, B1, Nat.zero_le _, (by simp), (by simp), rfl⟩
  · clear E B1
    rintro _ _ W2 ⟨k, a, s, ⟨j2, rfl⟩, E, B1, hk, ha, hs, rfl⟩
    refine Wp_seq_region ?_
    refine qV (r_lss (k := .i64) (a := (k : Int)) (b := (t.args.length : Int)) rfl rfl) ?_
    refine WpL_nil (Wp_seq ?_)
    refine Wp_cond (b := decide (((k : Int) : Int) < (t.args.length : Int))) rfl (fun hlt => ?_) (fun hlt => ?_)
    · have khlt := hlt
      replace hlt := of_decide_eq_true hlt
      obtain ⟨x, hx⟩ := get_of_lt (l := t.args) (i := k) (by omega)
      obtain ⟨ab, ao, rfl, hres⟩ := args_at hargs (by omega)
      obtain ⟨us, hus, hxt⟩ := hres.get hx
      obtain ⟨xsa, xsc, xaa, xac, rfl, _, _, _⟩ := hxt.form
      rw [drop_cons hx] at ha hs
      simp only [emptRs, emptAny] at ha hs
      refine Wp_skip (thn_normal (Wp_seq (Wp_block (Wp_seq_region ?_))))
      refine qV (r_indexSlice (b := ab) (o := ao) (len := t.args.length) (cap := ac) (i := k) (o' := ao + k * 6) rfl rfl rfl Tryz.underlying23 siz25 (by omega) (by omega)) ?_
      refine qV (r_loadAgg (vs := [(I6 x.kind), (.slice xsa x.set.length xsc), (.slice xaa x.args.length xac), (I6 x.mn), (I6 x.mx), (.bool x.neg)]) rfl agg25 siz25 rfl (hus.ext E)) ?_
      refine s_allocStore (v := (.agg (R6 x xsa xsc xaa xac))) (c := (R6 x xsa xsc xaa xac)) (n := 6) (by decide) zer25 rfl siz25 rfl rfl rfl (by simp [Value.oneCell']) ?_
      intro b4 w4 N4
      have F4 := N4.ge E
      have O4_b1 := N4.lt B1
      replace B1 := N4.keep B1
      replace E := E.ext N4.ext
      have B4 := N4.blk
      refine WpL_nil (Wp_seq_region ?_)
      refine qV (r_loadAgg (vs := [(I6 x.kind), (.slice xsa x.set.length xsc), (.slice xaa x.args.length xac), (I6 x.mn), (I6 x.mx), (.bool x.neg)]) rfl agg25 siz25 rfl (B4.cells rfl)) ?_
      refine WpL_enter rfl rfl (by decide) (r_callF (vs := [(.agg (R6 x xsa xsc xaa xac))]) Tryz.func63 nm63 bd63 rfl) (ih x _ _ (by have := Re.size_arg hx; omega) (by omega) (ReAt.ext E x hxt)) ?_
      rintro _ w9 ⟨rfl, X9⟩
      replace B1 := X9.keep B1
      replace B4 := X9.keep B4
      replace E := E.ext X9
      refine qA (.bool (emptR x)) rfl ?_
      refine WpL_nil (Wp_region ?_)
      refine qM (.bool a) rfl ?_
      refine qM (.bool a) rfl ?_
      rcases Bool.eq_false_or_eq_true (a) with ga | ga
      · have kga := ga
        refine WpL_guard_yes (oj := _) rfl rfl (by decide) (congrArg Value.bool ga) ?_
        refine qM (.bool (emptR x)) rfl ?_
        refine qV (r_pick (b := a) (v := (.bool (emptR x))) rfl (by rw [ga]; rfl)) ?_
        refine qM (.bool s) rfl ?_
        refine qM (.bool s) rfl ?_
        rcases Bool.eq_false_or_eq_true (s) with gs | gs
        · have kgs := gs
          refine WpL_guard_no (oj := _) rfl rfl (by decide) (v := .bool true) (congrArg Value.bool gs) (Or.inl rfl) ?_
          refine qV (r_pick (b := s) (v := (.bool true)) rfl (by rw [gs]; rfl)) ?_
          refine qA (.bool (emptR x)) rfl ?_
          refine qA (.bool true) rfl ?_
          refine WpL_nil (inB_normal (thn_normal (Wp_region ?_)))
          refine qV (r_add (k := .i64) (a := (k : Int)) (b := 1) (c := (k : Int) + 1) rfl rfl (wI64 (by omega))) ?_
          refine qM (I6 ((k : Int) + 1)) rfl ?_
          refine WpL_nil (thn_normal ?_)
          exact ⟨t.args.length - (k + 1), by omega, k + 1, emptR x, true, Fits.out ⟨rfl, rfl, rfl, rfl, rfl, rfl, trivial⟩, E, B1, (by omega), (by rw [ha, ga]; rfl), (by rw [hs, gs]; rfl), rfl⟩
        · have kgs := gs
          refine WpL_guard_yes (oj := _) rfl rfl (by decide) (congrArg Value.bool gs) ?_
          refine qM (.bool (emptR x)) rfl ?_
          refine qV (r_pick (b := s) (v := (.bool (emptR x))) rfl (by rw [gs]; rfl)) ?_
          refine qA (.bool (emptR x)) rfl ?_
          refine qA (.bool (emptR x)) rfl ?_
          refine WpL_nil (inB_normal (thn_normal (Wp_region ?_)))
          refine qV (r_add (k := .i64) (a := (k : Int)) (b := 1) (c := (k : Int) + 1) rfl rfl (wI64 (by omega))) ?_
          refine qM (I6 ((k : Int) + 1)) rfl ?_
          refine WpL_nil (thn_normal ?_)
          exact ⟨t.args.length - (k + 1), by omega, k + 1, emptR x, emptR x, Fits.out ⟨rfl, rfl, rfl, rfl, rfl, rfl, trivial⟩, E, B1, (by omega), (by rw [ha, ga]; rfl), (by rw [hs, gs]; rfl), rfl⟩
      · have kga := ga
        refine WpL_guard_no (oj := _) rfl rfl (by decide) (v := .bool false) (congrArg Value.bool ga) (Or.inl rfl) ?_
        refine qV (r_pick (b := a) (v := (.bool false)) rfl (by rw [ga]; rfl)) ?_
        refine qM (.bool s) rfl ?_
        refine qM (.bool s) rfl ?_
        rcases Bool.eq_false_or_eq_true (s) with gs | gs
        · have kgs := gs
          refine WpL_guard_no (oj := _) rfl rfl (by decide) (v := .bool true) (congrArg Value.bool gs) (Or.inl rfl) ?_
          refine qV (r_pick (b := s) (v := (.bool true)) rfl (by rw [gs]; rfl)) ?_
          refine qA (.bool false) rfl ?_
          refine qA (.bool true) rfl ?_
          refine WpL_nil (inB_normal (thn_normal (Wp_region ?_)))
          refine qV (r_add (k := .i64) (a := (k : Int)) (b := 1) (c := (k : Int) + 1) rfl rfl (wI64 (by omega))) ?_
          refine qM (I6 ((k : Int) + 1)) rfl ?_
          refine WpL_nil (thn_normal ?_)
          exact ⟨t.args.length - (k + 1), by omega, k + 1, false, true, Fits.out ⟨rfl, rfl, rfl, rfl, rfl, rfl, trivial⟩, E, B1, (by omega), (by rw [ha, ga]; rfl), (by rw [hs, gs]; rfl), rfl⟩
        · have kgs := gs
          refine WpL_guard_yes (oj := _) rfl rfl (by decide) (congrArg Value.bool gs) ?_
          refine qM (.bool (emptR x)) rfl ?_
          refine qV (r_pick (b := s) (v := (.bool (emptR x))) rfl (by rw [gs]; rfl)) ?_
          refine qA (.bool false) rfl ?_
          refine qA (.bool (emptR x)) rfl ?_
          refine WpL_nil (inB_normal (thn_normal (Wp_region ?_)))
          refine qV (r_add (k := .i64) (a := (k : Int)) (b := 1) (c := (k : Int) + 1) rfl rfl (wI64 (by omega))) ?_
          refine qM (I6 ((k : Int) + 1)) rfl ?_
          refine WpL_nil (thn_normal ?_)
          exact ⟨t.args.length - (k + 1), by omega, k + 1, false, emptR x, Fits.out ⟨rfl, rfl, rfl, rfl, rfl, rfl, trivial⟩, E, B1, (by omega), (by rw [ha, ga]; rfl), (by rw [hs, gs]; rfl), rfl⟩
    · have khlt := hlt
      replace hlt := of_decide_eq_false hlt
      have hkl : t.args.drop k = [] := List.drop_eq_nil_of_le (by omega)
      rw [hkl] at ha hs
      have ha1 : emptRs t.args = a := by rw [ha]; simp [emptRs]
      have hs1 : emptAny t.args = s := by rw [hs]; simp [emptAny]
      rw [ha1, hs1]
      refine Wp_exit (thn_exit (thn_exit (inB_here (thn_normal (Wp_seq (Wp_seq_region ?_))))))
      refine qF b1 0 0 rfl Tryz.underlying25 rfl siz3 rfl ?_
      refine qV (r_load (v := (I6 t.kind)) rfl flat3 (B1.cell rfl)) ?_
      refine WpL_nil (Wp_block (Wp_seq (Wp_seq_region ?_)))
      refine qV (r_eql (k := .i64) (a := t.kind) (b := 1) rfl rfl) ?_
      refine qA (.bool (decide ((t.kind : Int) = 1))) rfl ?_
      refine WpL_nil ?_
      refine Wp_cond (b := decide ((t.kind : Int) = 1)) rfl (fun h1 => ?_) (fun h1 => ?_)
      · have kh1 := h1
        replace h1 := of_decide_eq_true h1
        refine Wp_skip (thn_normal ?_)
        refine Wp_cond_true (congrArg Value.bool kh1) ?_
        refine Wp_seq_region ?_
        refine qA (.bool true) rfl ?_
        refine WpL_nil (Wp_ret (inB_ret (thn_ret ?_)))
        refine fin_tmp Tryz.results63 (v := (.bool true)) rfl ?_
        exact ⟨bool_eq (by rw [if_pos (.inl h1)]), E⟩
      · have kh1 := h1
        replace h1 := of_decide_eq_false h1
        refine Wp_region ?_
        refine qV (r_eql (k := .i64) (a := t.kind) (b := 5) rfl rfl) ?_
        refine qA (.bool (decide ((t.kind : Int) = 5))) rfl ?_
        refine WpL_nil (thn_normal ?_)
        refine Wp_cond (b := decide ((t.kind : Int) = 5)) rfl (fun h5 => ?_) (fun h5 => ?_)
        · have kh5 := h5
          replace h5 := of_decide_eq_true h5
          refine Wp_seq_region ?_
          refine qA (.bool true) rfl ?_
          refine WpL_nil (Wp_ret (inB_ret (thn_ret ?_)))
          refine fin_tmp Tryz.results63 (v := (.bool true)) rfl ?_
          exact ⟨bool_eq (by rw [if_pos (.inr h5)]), E⟩
        · have kh5 := h5
          replace h5 := of_decide_eq_false h5
          rw [if_neg (show ¬ (t.kind = 1 ∨ t.kind = 5) by omega)]
          refine Wp_seq (Wp_seq_region ?_)
          refine qV (r_eql (k := .i64) (a := t.kind) (b := 3) rfl rfl) ?_
          refine qA (.bool (decide ((t.kind : Int) = 3))) rfl ?_
          refine WpL_nil ?_
          refine Wp_cond (b := decide ((t.kind : Int) = 3)) rfl (fun h3 => ?_) (fun h3 => ?_)
          · have kh3 := h3
            replace h3 := of_decide_eq_true h3
            refine Wp_skip (thn_normal ?_)
            refine Wp_cond_true (congrArg Value.bool kh3) ?_
            refine Wp_seq_region ?_
            refine qM (.bool a) rfl ?_
            refine qA (.bool a) rfl ?_
            refine WpL_nil (Wp_ret (inB_ret (thn_ret ?_)))
            refine fin_tmp Tryz.results63 (v := (.bool a)) rfl ?_
            exact ⟨bool_eq (by rw [if_pos (.inl h3)]), E⟩
          · have kh3 := h3
            replace h3 := of_decide_eq_false h3
            refine Wp_seq_region ?_
            refine qV (r_eql (k := .i64) (a := t.kind) (b := 7) rfl rfl) ?_
            refine qA (.bool (decide ((t.kind : Int) = 7))) rfl ?_
            refine WpL_nil ?_
            refine Wp_cond (b := decide ((t.kind : Int) = 7)) rfl (fun h7 => ?_) (fun h7 => ?_)
            · have kh7 := h7
              replace h7 := of_decide_eq_true h7
              refine Wp_skip (thn_normal ?_)
              refine Wp_cond_true (congrArg Value.bool kh7) ?_
              refine Wp_seq_region ?_
              refine qM (.bool a) rfl ?_
              refine qA (.bool a) rfl ?_
              refine WpL_nil (Wp_ret (inB_ret (thn_ret ?_)))
              refine fin_tmp Tryz.results63 (v := (.bool a)) rfl ?_
              exact ⟨bool_eq (by rw [if_pos (.inr (.inl h7))]), E⟩
            · have kh7 := h7
              replace h7 := of_decide_eq_false h7
              refine Wp_region ?_
              refine qV (r_eql (k := .i64) (a := t.kind) (b := 9) rfl rfl) ?_
              refine qA (.bool (decide ((t.kind : Int) = 9))) rfl ?_
              refine WpL_nil (thn_normal ?_)
              refine Wp_cond (b := decide ((t.kind : Int) = 9)) rfl (fun h9 => ?_) (fun h9 => ?_)
              · have kh9 := h9
                replace h9 := of_decide_eq_true h9
                refine Wp_seq_region ?_
                refine qM (.bool a) rfl ?_
                refine qA (.bool a) rfl ?_
                refine WpL_nil (Wp_ret (inB_ret (thn_ret ?_)))
                refine fin_tmp Tryz.results63 (v := (.bool a)) rfl ?_
                exact ⟨bool_eq (by rw [if_pos (.inr (.inr h9))]), E⟩
              · have kh9 := h9
                replace h9 := of_decide_eq_false h9
                rw [if_neg (show ¬ (t.kind = 3 ∨ t.kind = 7 ∨ t.kind = 9) by omega)]
                refine Wp_seq_region ?_
                refine qV (r_eql (k := .i64) (a := t.kind) (b := 4) rfl rfl) ?_
                refine qA (.bool (decide ((t.kind : Int) = 4))) rfl ?_
                refine WpL_nil ?_
                refine Wp_cond (b := decide ((t.kind : Int) = 4)) rfl (fun h4 => ?_) (fun h4 => ?_)
                · have kh4 := h4
                  replace h4 := of_decide_eq_true h4
                  refine Wp_seq_region ?_
                  refine qM (.bool s) rfl ?_
                  refine qA (.bool s) rfl ?_
                  refine WpL_nil (Wp_ret (inB_ret (thn_ret ?_)))
                  refine fin_tmp Tryz.results63 (v := (.bool s)) rfl ?_
                  exact ⟨bool_eq (by rw [if_pos h4]), E⟩
                · have kh4 := h4
                  replace h4 := of_decide_eq_false h4
                  refine Wp_seq_region ?_
                  refine qV (r_eql (k := .i64) (a := t.kind) (b := 6) rfl rfl) ?_
                  refine qA (.bool (decide ((t.kind : Int) = 6))) rfl ?_
                  refine WpL_nil ?_
                  refine Wp_cond (b := decide ((t.kind : Int) = 6)) rfl (fun h6 => ?_) (fun h6 => ?_)
                  · have kh6 := h6
                    replace h6 := of_decide_eq_true h6
                    refine Wp_seq_region ?_
                    refine qF b1 0 3 rfl Tryz.underlying25 rfl siz3 rfl ?_
                    refine qV (r_load (v := (I6 t.mn)) rfl flat3 (B1.cell rfl)) ?_
                    refine qV (r_eql (k := .i64) (a := t.mn) (b := 0) rfl rfl) ?_
                    refine qM (.bool (decide ((t.mn : Int) = 0))) rfl ?_
                    rcases Bool.eq_false_or_eq_true (decide ((t.mn : Int) = 0)) with hm | hm
                    · have khm := hm
                      replace khm := of_decide_eq_true khm
                      refine WpL_guard_no (oj := _) rfl rfl (by decide) (v := .bool true) (congrArg Value.bool hm) (Or.inl rfl) ?_
                      refine qV (r_pick (b := decide ((t.mn : Int) = 0)) (v := (.bool true)) rfl (by rw [hm]; rfl)) ?_
                      refine qA (.bool true) rfl ?_
                      refine WpL_nil (Wp_ret (inB_ret (thn_ret ?_)))
                      refine fin_tmp Tryz.results63 (v := (.bool true)) rfl ?_
                      exact ⟨bool_eq (by rw [if_neg h4, if_pos h6]; simp [hm]), E⟩
                    · have khm := hm
                      replace khm := of_decide_eq_false khm
                      refine WpL_guard_yes (oj := _) rfl rfl (by decide) (congrArg Value.bool hm) ?_
                      refine qM (.bool a) rfl ?_
                      refine qV (r_pick (b := decide ((t.mn : Int) = 0)) (v := (.bool a)) rfl (by rw [hm]; rfl)) ?_
                      refine qA (.bool a) rfl ?_
                      refine WpL_nil (Wp_ret (inB_ret (thn_ret ?_)))
                      refine fin_tmp Tryz.results63 (v := (.bool a)) rfl ?_
                      exact ⟨bool_eq (by rw [if_neg h4, if_pos h6]; simp [hm]), E⟩
                  · have kh6 := h6
                    replace h6 := of_decide_eq_false h6
                    refine Wp_seq_region ?_
                    refine qV (r_eql (k := .i64) (a := t.kind) (b := 8) rfl rfl) ?_
                    refine qA (.bool (decide ((t.kind : Int) = 8))) rfl ?_
                    refine WpL_nil ?_
                    refine Wp_cond (b := decide ((t.kind : Int) = 8)) rfl (fun h8 => ?_) (fun h8 => ?_)
                    · have kh8 := h8
                      replace h8 := of_decide_eq_true h8
                      refine Wp_seq_region ?_
                      refine qM (.bool a) rfl ?_
                      refine qV (r_not (b := a) rfl) ?_
                      refine qA (.bool (!a)) rfl ?_
                      refine WpL_nil (Wp_ret (inB_ret (thn_ret ?_)))
                      refine fin_tmp Tryz.results63 (v := (.bool (!a))) rfl ?_
                      exact ⟨bool_eq (by rw [if_neg h4, if_neg h6, if_pos h8]), E⟩
                    · have kh8 := h8
                      replace h8 := of_decide_eq_false h8
                      refine Wp_seq_region ?_
                      refine qV (r_eql (k := .i64) (a := t.kind) (b := 10) rfl rfl) ?_
                      refine qA (.bool (decide ((t.kind : Int) = 10))) rfl ?_
                      refine WpL_nil ?_
                      refine Wp_cond (b := decide ((t.kind : Int) = 10)) rfl (fun h10 => ?_) (fun h10 => ?_)
                      · have kh10 := h10
                        replace h10 := of_decide_eq_true h10
                        refine Wp_seq_region ?_
                        refine qM (.bool a) rfl ?_
                        refine qF b1 0 5 rfl Tryz.underlying25 rfl siz4 rfl ?_
                        refine qV (r_load (v := (.bool t.neg)) rfl flat4 (B1.cell rfl)) ?_
                        refine qV (r_neqB (p := a) (q := t.neg) Tryz.underlying4 rfl rfl) ?_
                        refine qA (.bool (a != t.neg)) rfl ?_
                        refine WpL_nil (Wp_ret (inB_ret (thn_ret ?_)))
                        refine fin_tmp Tryz.results63 (v := (.bool (a != t.neg))) rfl ?_
                        exact ⟨bool_eq (by rw [if_neg h4, if_neg h6, if_neg h8, if_pos h10]), E⟩
                      · have kh10 := h10
                        replace h10 := of_decide_eq_false h10
                        refine Wp_skip (inB_normal (thn_normal (Wp_seq_region ?_)))
                        refine qA (.bool false) rfl ?_
                        refine WpL_nil (Wp_ret ?_)
                        refine fin_tmp Tryz.results63 (v := (.bool false)) rfl ?_
                        exact ⟨bool_eq (by rw [if_neg h4, if_neg h6, if_neg h8, if_neg h10]), E⟩
end Go.Proofs
namespace Go.Proofs
open Go Go.Eng Go.Sort
set_option maxRecDepth 100000
theorem rsin_at {S : Nat → Prop} {w : World} {v : Value} {ts : List Re} (h : RsIn S w v ts) : RsAt w v ts := by
 obtain ⟨aa, ac, h1, h2, h3⟩ := h
 refine ⟨aa, ac, h1, h2, ?_⟩
 rcases h3 with h | ⟨b, o, _, h4, h5⟩
 ·exact .inl h
 ·exact .inr ⟨b, o, h4, ResIn.at ts h5⟩
theorem wrap_cases (k : Int) (z : Re) (l : List Re) : (l.length = 0 → wrapT k z l = z) ∧ (∀ x, l.length = 1 → l[0]? = some x → wrapT k z l = x) ∧ (2 ≤ l.length → wrapT k z l = .mk k [] l 0 0 false) := by
 refine ⟨fun h => by rw [List.eq_nil_of_length_eq_zero h]; rfl, fun x h hx => ?_, wrap_id⟩
 rw [getD_one h hx]; rfl
set_option maxHeartbeats 2000000 in
theorem dcat_c (w0 : World) (S : Nat → Prop) (v : Value) (ts : List Re) (h : RsIn S w0 v ts) (hS : ∀ x, S x → x < w0.heap.size) (hne : ∀ x ∈ ts, x.kind = 3 → x.args ≠ []) (hsz : Re.sizes ts ≤ 1000000) :
  Ret Tryz.prog 118 #[v] w0 fun r w => (∃ vs, r = .agg vs.toArray ∧ ReIn (fun b => S b ∨ w0.heap.size ≤ b) w (catD ts) vs) ∧ Ext w0 w := by
 have h0 := h
 obtain ⟨aa0, ac0, rfl, hac0, _⟩ := h
 have hls := len_sizes ts
 have hfle := flat_le 3 ts ts.length
 rw [List.take_length] at hfle
 obtain ⟨D, hD⟩ : ∃ D, D = delT isEmptyB (flatT 3 ts) := ⟨_, rfl⟩
 have hDl : D.length ≤ (flatT 3 ts).length := by rw [hD]; exact List.length_filter_le _ _
 have hcat : catD ts = if (D.any isNoneB) = true then noneT else wrapT 3 emptyT D := by rw [hD]; rfl
 rw [hcat]
 obtain ⟨hw0, hw1, hw2⟩ := wrap_cases 3 emptyT D
 refine Ret_of Tryz.func118 rfl Tryz.ntmps118 (Nat.le_of_ble_eq_true rfl) ?_
 have E : Chg none1 w0 w0 := Chg.refl _ _
 refine Wp_seq_region ?_
 refine s_alloc (c := #[(I6 0), (.slice none 0 0), (.slice none 0 0), (I6 0), (I6 0), (.bool false)]) (by decide) zer25 rfl ?_
 intro bo wo No
 have Fo := No.ge E
 replace E := E.ext No.ext
 have Bo := No.blk
 refine WpL_nil (Wp_seq_region ?_)
 refine qM (.slice aa0 ts.length ac0) rfl ?_
 obtain ⟨base, hbase⟩ : ∃ base, base = wo.heap.size := ⟨_, rfl⟩
 have hob : bo < base := by rw [hbase]; exact Bo.lt
 have hwb : w0.heap.size ≤ base := by omega
 have E2 : Chg none1 wo wo := Chg.refl _ _
 refine WpL_enter rfl rfl (by decide) (r_callF (vs := [(I6 3), (.slice aa0 ts.length ac0)]) Tryz.func167 nm167 bd167 rfl) (flat_c _ S 3 _ ts (h0.ext E) hne hsz) ?_
 rintro _ wf ⟨la, lc, rows, rfl, hown, hrs, Xf⟩
 replace Bo := Xf.keep Bo
 replace E := E.ext Xf
 rw [← hbase] at hown
 replace E2 : Chg none1 wo wf := Xf
 have hbs : base ≤ wf.heap.size := by rw [hbase]; exact Xf.size
 refine WpL_enter rfl rfl (by decide) (r_callF (vs := [(.slice la ((flatT 3 ts).length) lc), (.func (.func 168) #[] #[])]) Tryz.func166 nm166 bd166 rfl) ((del_c wo _ base S _ _ (flatT 3 ts) rows isEmptyB E2 hown hrs (fun x hx => by have := hS x hx; omega) (by omega) (fun w x vs _ hx => CallV.mk (first := #[]) (cap := #[]) Tryz.func168 nm168 bd168 rfl (discat1_c w x vs hx))).mono (R' := fun r w => ∃ la lc rows', r = .slice la D.length lc ∧ w.ownsRow base TRe 6 r D.length rows'.flatten ∧ RowsIn S wo D rows' ∧ Chg (fun x => base ≤ x) wf w) (fun r w h9 => by rw [hD]; exact h9)) ?_
 rintro _ wd ⟨la2, lc2, rows2, rfl, hown2, hrs2, Cd⟩
 replace Bo := Cd.keep (by omega) Bo
 replace E := E.step Cd (by intro x hx hm; omega)
 replace E2 := E2.step Cd (by intro x hx hm; omega)
 have hrsat : RsAt wd (.slice la2 D.length lc2) D := own_rs hown2 (hrs2.ext E2) rfl
 refine qA (.slice la2 D.length lc2) rfl ?_
 refine WpL_nil (Wp_seq (Wp_seq_region ?_))
 refine qM (.slice la2 D.length lc2) rfl ?_
 refine WpL_enter rfl rfl (by decide) (r_callF (vs := [(.slice la2 D.length lc2), (.func (.func 136) #[] #[])]) Tryz.func26 nm26 bd26 rfl) (res_has_c _ _ _ D isNoneB hrsat (fun w x vs _ _ hx => CallV.mk (first := #[]) (cap := #[]) Tryz.func136 nm136 bd136 rfl (disnone_c w x vs hx))) ?_
 rintro _ w19 ⟨rfl, X19⟩
 replace Bo := X19.keep Bo
 replace E := E.ext X19
 replace E2 := E2.ext X19
 replace hown2 := own_ext hown2 X19
 obtain ⟨hoc, hocl⟩ := own_res hown2 (hrs2.ext E2) rfl
 refine WpL_nil ?_
 refine Wp_cond (b := D.any isNoneB) rfl (fun hn => ?_) (fun hn => ?_)
 ·have khn := hn
  refine Wp_seq_region ?_
  refine WpL_enter rfl rfl (by decide) (r_callF (vs := []) Tryz.func120 nm120 bd120 rfl) (dnone_c _) ?_
  rintro _ w29 ⟨rfl, X29⟩
  replace Bo := X29.keep Bo
  replace E := E.ext X29
  refine s_storeAgg (b := bo) (o := 0) (c' := #[(I6 0), (.slice none 0 0), (.slice none 0 0), (I6 0), (I6 0), (.bool false)]) rfl rfl (by simp [Value.oneCell']) siz25 rfl Bo (by first | (simp; done) | exact Nat.le_of_ble_eq_true rfl) rfl ?_
  intro w2 S2
  replace E := S2.step E (by first | exact Or.inl (by omega) | exact Or.inr rfl | exact Or.inr (by assumption) | exact Or.inr (by simp) | exact Or.inr (by omega) | exact Or.inr (by dsimp only; omega))
  replace Bo := S2.blk
  refine WpL_nil (Wp_ret (thn_ret ?_))
  refine fin_agg Tryz.results118 (vs := [(.int .i64 0), (.slice none 0 0), (.slice none 0 0), (.int .i64 0), (.int .i64 0), (.bool false)]) (b := bo) rfl agg25 siz25 rfl (Bo.cells rfl) ?_
  exact ⟨⟨_, rfl, by rw [if_pos hn]; exact re_empty _ _ _⟩, E⟩
 ·have khn := hn
  rw [if_neg (by rw [hn]; decide)]
  refine Wp_skip (thn_normal (Wp_seq (Wp_seq_region ?_)))
  refine qM (.slice la2 D.length lc2) rfl ?_
  refine qV (r_lenSlice (ad := la2) (n := D.length) (cap := lc2) Tryz.underlying23 rfl) ?_
  refine WpL_nil (Wp_block (Wp_seq_region ?_))
  refine qV (r_eql (k := .i64) (a := (D.length : Int)) (b := 0) rfl rfl) ?_
  refine qA (.bool (decide (((D.length : Int) : Int) = 0))) rfl ?_
  refine WpL_nil ?_
  refine Wp_cond (b := decide (((D.length : Int) : Int) = 0)) rfl (fun h0l => ?_) (fun h0l => ?_)
  ·have kh0l := h0l
   replace h0l := of_decide_eq_true h0l
   refine Wp_seq_region ?_
   refine WpL_enter rfl rfl (by decide) (r_callF (vs := []) Tryz.func117 nm117 bd117 rfl) (dempty_c _) ?_
   rintro _ w29 ⟨rfl, X29⟩
   replace Bo := X29.keep Bo
   replace E := E.ext X29
   refine s_storeAgg (b := bo) (o := 0) (c' := #[(I6 1), (.slice none 0 0), (.slice none 0 0), (I6 0), (I6 0), (.bool false)]) rfl rfl (by simp [Value.oneCell']) siz25 rfl Bo (by first | (simp; done) | exact Nat.le_of_ble_eq_true rfl) rfl ?_
   intro w4 S4
   replace E := S4.step E (by first | exact Or.inl (by omega) | exact Or.inr rfl | exact Or.inr (by assumption) | exact Or.inr (by simp) | exact Or.inr (by omega) | exact Or.inr (by dsimp only; omega))
   replace Bo := S4.blk
   refine WpL_nil (Wp_ret (inB_ret (thn_ret ?_)))
   refine fin_agg Tryz.results118 (vs := [(.int .i64 1), (.slice none 0 0), (.slice none 0 0), (.int .i64 0), (.int .i64 0), (.bool false)]) (b := bo) rfl agg25 siz25 rfl (Bo.cells rfl) ?_
   exact ⟨⟨_, rfl, by rw [hw0 (by omega)]; exact re_empty _ _ _⟩, E⟩
  ·have kh0l := h0l
   replace h0l := of_decide_eq_false h0l
   refine Wp_seq_region ?_
   refine qV (r_eql (k := .i64) (a := (D.length : Int)) (b := 1) rfl rfl) ?_
   refine qA (.bool (decide (((D.length : Int) : Int) = 1))) rfl ?_
   refine WpL_nil ?_
   refine Wp_cond (b := decide (((D.length : Int) : Int) = 1)) rfl (fun h1l => ?_) (fun h1l => ?_)
   ·have kh1l := h1l
    replace h1l := of_decide_eq_true h1l
    obtain ⟨x, hx⟩ := get_of_lt (l := D) (i := 0) (by omega)
    obtain ⟨lb, hlb1, hlb2, hlb3, hcl⟩ := hocl.resolve_left (fun h => by rw [h] at hx; simp at hx)
    subst hlb3
    obtain ⟨xs, hcx, hrx⟩ := hcl 0 x hx
    have hrx0 := hrx
    obtain ⟨sa, sc, aa, ac, rfl, _, _, _⟩ := hrx.form
    have hS5 : Chg (fun y => y = bo) (w19) (w19) := Chg.refl _ _
    refine Wp_seq_region ?_
    refine qM (.slice (some ⟨lb, 0, none⟩) D.length lc2) rfl ?_
    refine qV (r_indexSlice (b := lb) (o := 0) (len := D.length) (cap := lc2) (i := 0) (o' := 0) rfl rfl rfl Tryz.underlying23 siz25 (by omega) (by omega)) ?_
    refine qV (r_loadAgg (vs := [(I6 x.kind), (.slice sa x.set.length sc), (.slice aa x.args.length ac), (I6 x.mn), (I6 x.mx), (.bool x.neg)]) rfl agg25 siz25 rfl (hcx)) ?_
    refine s_storeAgg (b := bo) (o := 0) (c' := (R6 x sa sc aa ac)) rfl rfl (by simp [Value.oneCell']) siz25 rfl Bo (by first | (simp; done) | exact Nat.le_of_ble_eq_true rfl) rfl ?_
    intro w6 S6
    replace hS5 := S6.chg
    replace E := S6.step E (by first | exact Or.inl (by omega) | exact Or.inr rfl | exact Or.inr (by assumption) | exact Or.inr (by simp) | exact Or.inr (by omega) | exact Or.inr (by dsimp only; omega))
    replace Bo := S6.blk
    refine WpL_nil (Wp_ret (inB_ret (thn_ret ?_)))
    refine fin_agg Tryz.results118 (vs := [(.int .i64 x.kind), (.slice sa x.set.length sc), (.slice aa x.args.length ac), (.int .i64 x.mn), (.int .i64 x.mx), (.bool x.neg)]) (b := bo) rfl agg25 siz25 rfl (Bo.cells rfl) ?_
    exact ⟨⟨_, rfl, by rw [hw1 x (by omega) hx]; exact ReIn.mono (fun y hy => .inl hy) x (ReIn.chg hS5 (fun y hy h => by have h1 := hS y hy; have h2 : y = bo := h; omega) x hrx0)⟩, E⟩
   ·have kh1l := h1l
    replace h1l := of_decide_eq_false h1l
    have hS5 : Chg (fun y => y = bo) (w19) (w19) := Chg.refl _ _
    refine Wp_skip (inB_normal (thn_normal (Wp_seq_region ?_)))
    refine qM (.slice la2 D.length lc2) rfl ?_
    refine qV (r_build (ps := [(0, (I6 3)), (2, (.slice la2 D.length lc2))]) (v := (.agg #[(I6 3), (.slice none 0 0), (.slice la2 D.length lc2), (I6 0), (I6 0), (.bool false)])) rfl (by kernel_rfl)) ?_
    refine s_storeAgg (b := bo) (o := 0) (c' := #[(I6 3), (.slice none 0 0), (.slice la2 D.length lc2), (I6 0), (I6 0), (.bool false)]) rfl rfl (by simp [Value.oneCell']) siz25 rfl Bo (by first | (simp; done) | exact Nat.le_of_ble_eq_true rfl) rfl ?_
    intro w7 S7
    replace hS5 := S7.chg
    replace E := S7.step E (by first | exact Or.inl (by omega) | exact Or.inr rfl | exact Or.inr (by assumption) | exact Or.inr (by simp) | exact Or.inr (by omega) | exact Or.inr (by dsimp only; omega))
    replace Bo := S7.blk
    refine WpL_nil (Wp_ret ?_)
    refine fin_agg Tryz.results118 (vs := [(.int .i64 3), (.slice none 0 0), (.slice la2 D.length lc2), (.int .i64 0), (.int .i64 0), (.bool false)]) (b := bo) rfl agg25 siz25 rfl (Bo.cells rfl) ?_
    refine ⟨⟨_, rfl, ?_⟩, E⟩
    rw [hw2 (by omega)]
    refine ReIn.of (set := []) (SlIn.nil _ _ _ _ _) hoc ?_
    rcases hocl with h | ⟨ob, hob1, hob2, hob3, hclo⟩
    ·exact .inl h
    ·refine .inr ⟨ob, 0, .inr (by omega), hob3, resin_of fun i t ht => ?_⟩
     obtain ⟨vs, h6, h7⟩ := hclo i t ht
     exact ⟨vs, h6.chg hS5 (fun h => by have h' : ob = bo := h; omega), ReIn.mono (fun y hy => .inl hy) t (ReIn.chg hS5 (fun y hy h => by have h1 := hS y hy; have h2 : y = bo := h; omega) t h7)⟩
end Go.Proofs
namespace Go.Proofs
open Go Go.Eng Go.Sort
set_option maxRecDepth 100000
/-- An expression with its cells. -/
structure RRow (S : Nat → Prop) (w : World) where
 t : Re
 vs : List Value
 h : ReIn S w t vs
instance {S : Nat → Prop} {w : World} : Inhabited (RRow S w) := ⟨⟨_, _, re_empty S w 0⟩⟩
def encR {S : Nat → Prop} {w : World} (r : RRow S w) : List Value := r.vs
def cfR {S : Nat → Prop} {w : World} (x y : RRow S w) : Int := ordR x.t y.t
theorem cfR_lt {S : Nat → Prop} {w : World} (x y : RRow S w) : cfR x y < 0 ↔ ordR x.t y.t < 0 := Iff.rfl
theorem swoR {S : Nat → Prop} {w : World} : SWO (ltOf (cfR (S := S) (w := w))) := by
 refine ⟨fun x => ?_, fun x y z => ?_, fun x y z => ?_⟩
 ·have := ord_sym x.t x.t
  simp only [ltOf, decide_eq_false_iff_not, cfR_lt]
  omega
 ·have a := ord_sym x.t y.t
  have b := ord_sym y.t z.t
  have c := ord_sym x.t z.t
  have a' := ord_sym y.t x.t
  have b' := ord_sym z.t y.t
  have c' := ord_sym z.t x.t
  have h1 := tr_re x.t y.t z.t
  have h2 := tr_re z.t y.t x.t
  unfold Tr3 at h1 h2
  simp only [ltOf, decide_eq_true_eq, decide_eq_false_iff_not, cfR_lt]
  omega
 ·have a := ord_sym x.t y.t
  have b := ord_sym y.t z.t
  have c := ord_sym x.t z.t
  have a' := ord_sym y.t x.t
  have b' := ord_sym z.t y.t
  have c' := ord_sym z.t x.t
  have h1 := tr_re x.t y.t z.t
  have h2 := tr_re z.t y.t x.t
  unfold Tr3 at h1 h2
  simp only [ltOf, decide_eq_true_eq, decide_eq_false_iff_not, cfR_lt]
  omega
theorem flatK_list {α : Type} [Inhabited α] (enc : α → List Value) (k : Nat) (hk : 0 < k) (he : ∀ x, (enc x).length = k) (d : List α) : (flatK enc k d.toArray).toList = (d.map enc).flatten := by
 have hrl : (d.map enc).flatten.length = d.length * k := by
  have := rows_len (k := k) (rows := d.map enc) (fun r hr => by obtain ⟨x, _, rfl⟩ := List.mem_map.1 hr; exact he x)
  rwa [List.length_map] at this
 apply List.ext_getElem?
 intro t
 by_cases ht : t < d.length * k
 ·have hi : t / k < d.length := Nat.div_lt_of_lt_mul (by rw [Nat.mul_comm]; exact ht)
  have hj : t % k < k := Nat.mod_lt _ hk
  have hx : (d.map enc)[t / k]? = some (enc d[t / k]) := by rw [List.getElem?_map, List.getElem?_eq_getElem hi]; rfl
  have hu : (enc d[t / k])[t % k]? = some ((enc d[t / k])[t % k]'(by rw [he]; exact hj)) := List.getElem?_eq_getElem _
  have h1 := rows_cells (k := k) (rows := d.map enc) (rest := []) (fun r hr => by obtain ⟨x, _, rfl⟩ := List.mem_map.1 hr; exact he x) hx _ _ hu
  rw [List.append_nil, Nat.div_add_mod'] at h1
  rw [h1]
  have h2 := get_flatK enc k d.toArray t (by simpa using ht)
  have h3 : t < (flatK enc k d.toArray).size := by rw [size_flatK]; simpa using ht
  rw [getElem!_pos _ t h3] at h2
  rw [Array.getElem?_toList, Array.getElem?_eq_getElem h3, h2]
  have h4 : d.toArray[t / k]! = d[t / k] := by rw [getElem!_pos d.toArray _ (by simpa using hi)]; simp
  rw [h4, getElem!_pos _ _ (by rw [he]; exact hj)]
 ·rw [List.getElem?_eq_none (by rw [Array.length_toList, size_flatK]; simpa using ht), List.getElem?_eq_none (by omega)]
theorem own_holdsK {α : Type} [Inhabited α] (enc : α → List Value) (k : Nat) (hk : 0 < k) (he : ∀ x, (enc x).length = k) {w : World} {base e g n c : Nat} {d : List α} (h : w.ownsRow base e k (.slice (some ⟨g, 0, none⟩) n c) n (d.map enc).flatten) (hn : d.length = n) : HoldsK enc k w g 0 d.toArray := by
 intro j hj
 rw [size_flatK] at hj
 have hfl := flatK_list enc k hk he d
 have hj2 : j < (flatK enc k d.toArray).size := by rw [size_flatK]; exact hj
 rw [getElem!_pos _ j hj2]
 have hx : (d.map enc).flatten[j]? = some (flatK enc k d.toArray)[j] := by rw [← hfl, Array.getElem?_toList, Array.getElem?_eq_getElem hj2]
 have h1 := h.cells (g := g) rfl j _ hx
 rw [Addr.add_lit] at h1
 refine ⟨h1, ?_⟩
 rcases h.2 with ⟨h1, _⟩ | ⟨g', cap, cur, hv, _, hg, _⟩
 ·simp at h1
 ·simp only [Value.slice.injEq] at hv
  obtain ⟨hv, _⟩ := hv
  simp only [Option.some.injEq, Addr.mk.injEq, and_true] at hv
  subst hv
  simp [World.frozen?, hg]
theorem own_sorted {α : Type} [Inhabited α] (enc : α → List Value) (k : Nat) (hk : 0 < k) (he : ∀ x, (enc x).length = k) {w : World} {base e g n c m : Nat} {os : Array Obj} {d : List α} {xs : List Value} (h : w.ownsRow base e k (.slice (some ⟨g, 0, none⟩) n c) n xs) (hn : d.length = n) : (sortWorldK enc k w g 0 m d.toArray os).ownsRow base e k (.slice (some ⟨g, 0, none⟩) n c) n (d.map enc).flatten := by
 have hrl : (d.map enc).flatten.length = d.length * k := by
  have := rows_len (k := k) (rows := d.map enc) (fun r hr => by obtain ⟨x, _, rfl⟩ := List.mem_map.1 hr; exact he x)
  rwa [List.length_map] at this
 rcases h.2 with ⟨h1, _⟩ | ⟨g', cap, cur, hv, hbg, hg, hnc, hcm, hcs, htake⟩
 ·simp at h1
 ·simp only [Value.slice.injEq, true_and] at hv
  obtain ⟨hv, rfl⟩ := hv
  simp only [Option.some.injEq, Addr.mk.injEq, and_true] at hv
  subst hv
  have hgl : g < w.heap.size := (Array.getElem?_eq_some_iff.1 hg).1
  refine ⟨by rw [hrl, hn], .inr ⟨g, c, putCells id 0 (flatK enc k d.toArray) cur, rfl, hbg, ?_, hnc, hcm, by simp [putCells, hcs], ?_⟩⟩
  ·unfold sortWorldK grow putRowK putRow mapBlock Sort.ahead
   dsimp only
   rw [Array.getElem?_append_left (by simpa using hgl), Array.getElem?_modify, if_pos rfl, hg]
   rfl
  ·have hle : n * k ≤ c * k := Nat.mul_le_mul_right k hnc
   apply List.ext_getElem?
   intro t
   by_cases ht : t < n * k
   ·rw [List.getElem?_take, if_pos ht, Array.getElem?_toList]
    have h3 : t < (flatK enc k d.toArray).size := by rw [size_flatK]; simpa [hn] using ht
    rw [← flatK_list enc k hk he d, Array.getElem?_toList, Array.getElem?_eq_getElem h3]
    simp only [putCells, Array.getElem?_mapIdx]
    rw [Array.getElem?_eq_getElem (show t < cur.size by rw [hcs]; omega)]
    simp only [Option.map_some, Nat.zero_le, true_and, Nat.zero_add, Nat.sub_zero, id]
    rw [if_pos h3, getElem!_pos _ t h3]
   ·rw [List.getElem?_eq_none (by rw [List.length_take]; omega), List.getElem?_eq_none (by rw [hrl, hn]; omega)]
theorem sortWR_chg {α : Type} [Inhabited α] (enc : α → List Value) (k : Nat) (w : World) (g off m : Nat) (dk : Array α) (os : Array Obj) : Chg (fun x => x = g) w (sortWorldK enc k w g off m dk os) := by
 refine ⟨rfl, rfl, rfl, Nat.le_add_right _ _, ?_, fun b hb hne => ?_⟩
 ·simp [sortWorldK, grow, putRowK, putRow, mapBlock, ahead]
 ·simp only [sortWorldK, grow, putRowK, putRow, mapBlock, ahead]
  rw [Array.getElem?_append_left (by simpa using hb), Array.getElem?_modify, if_neg (fun h => hne h.symm)]; rfl
theorem enters_calleeR {P : Program} {f : FuncId} {fn : Func} (hf : P.funcs[f]? = some fn) (hn : (fn.name == "runtime.NumGoroutine") = false) (hb : fn.body.isNone = false) : ∀ args w, (callFunc f args).run P w = .ok (.enter f args) w := fun args w => run_callF (vs := args) (w := w) hf hn hb
theorem bitsLenR_c (w0 : World) : Ret Tryz.prog 176 #[.int .u64 0] w0 fun v w => v = .int .i64 (Lib.bitLen 0 : Nat) ∧ Ext w0 w :=
 (Any.bits_Len (SlLaysF0.n15.bits (P := Tryz.prog) (ρ := Tryz.sortRe_ren) { Tryz.sortRe with }) 0 w0 (by omega) (by omega)).mono fun _ _ ⟨he, hw⟩ => ⟨_, he, rfl, by rw [hw]; exact Ext.refl _⟩
theorem ins0R_c (w0 : World) (a : Option Addr) (c : Nat) (fv : Value) : Ret Tryz.prog 247 #[.slice a 0 c, .int .i64 0, .int .i64 0, fv] w0 fun v w => v = .tuple #[] ∧ Ext w0 w := by
 refine Ret_of Tryz.func247 rfl Tryz.ntmps247 (Nat.le_of_ble_eq_true rfl) ?_
 have E : Chg none1 w0 w0 := Chg.refl _ _
 refine Wp_seq_region ?_
 refine qM (I6 0) rfl ?_
 refine qV (r_add (k := .i64) (a := 0) (b := 1) (c := 1) rfl rfl (by decide)) ?_
 refine qA (I6 1) rfl ?_
 refine WpL_nil (Wp_block ?_)
 refine Wp_loop (fun nn_ σ W1 => (∃ jj_, σ = upds jj_ [(0, (.slice a 0 c)), (1, (I6 0)), (2, (I6 0)), (3, fv), (8, (I6 1))]) ∧ Chg none1 w0 W1 ∧ nn_ = (0 : Nat)) (n := (0 : Nat)) ?_ ?_
 ·exact ⟨Fits.out ⟨rfl, rfl, rfl, rfl, rfl, trivial⟩, E, rfl⟩
 ·clear E
  rintro _ _ W1 ⟨⟨j1, rfl⟩, E, rfl⟩
  refine Wp_seq (Wp_seq_region ?_)
  refine qM (I6 1) rfl ?_
  refine qM (I6 0) rfl ?_
  refine qV (r_lss (k := .i64) (a := 1) (b := 0) rfl rfl) ?_
  refine WpL_nil ?_
  refine Wp_cond_false rfl ?_
  refine Wp_exit (thn_exit (thn_exit (inB_here ?_)))
  refine fin_none Tryz.results247 ?_
  exact ⟨rfl, E⟩
theorem pdq0R_c (w0 : World) (a : Option Addr) (c : Nat) (n : Int) (fv : Value) : Ret Tryz.prog 221 #[.slice a 0 c, .int .i64 0, .int .i64 0, .int .i64 n, fv] w0 fun v w => v = .tuple #[] ∧ Ext w0 w := by
 refine Ret_of Tryz.func221 rfl Tryz.ntmps221 (Nat.le_of_ble_eq_true rfl) ?_
 have E : Chg none1 w0 w0 := Chg.refl _ _
 refine Wp_seq_region ?_
 refine qA (.bool true) rfl ?_
 refine WpL_nil (Wp_seq_region ?_)
 refine qA (.bool true) rfl ?_
 refine WpL_nil (Wp_block ?_)
 refine Wp_loop (fun nn_ σ W1 => (∃ jj_, σ = upds jj_ [(0, (.slice a 0 c)), (1, (I6 0)), (2, (I6 0)), (4, fv)]) ∧ Chg none1 w0 W1 ∧ nn_ = (0 : Nat)) (n := (0 : Nat)) ?_ ?_
 ·exact ⟨Fits.out ⟨rfl, rfl, rfl, rfl, trivial⟩, E, rfl⟩
 ·clear E
  rintro _ _ W1 ⟨⟨j1, rfl⟩, E, rfl⟩
  refine Wp_block (Wp_seq_region ?_)
  refine qM (I6 0) rfl ?_
  refine qM (I6 0) rfl ?_
  refine qV (r_sub (k := .i64) (a := 0) (b := 0) (c := 0) rfl rfl (by decide)) ?_
  refine qA (I6 0) rfl ?_
  refine WpL_nil (Wp_seq (Wp_seq_region ?_))
  refine qM (I6 0) rfl ?_
  refine qV (r_leq (k := .i64) (a := 0) (b := 12) rfl rfl) ?_
  refine WpL_nil ?_
  refine Wp_cond_true rfl ?_
  refine Wp_seq_region ?_
  refine qM (.slice a 0 c) rfl ?_
  refine qM (I6 0) rfl ?_
  refine qM (I6 0) rfl ?_
  refine qM fv rfl ?_
  refine WpL_enter rfl rfl (by decide) (r_callF (vs := [(.slice a 0 c), (I6 0), (I6 0), fv]) Tryz.func247 nm247 bd247 rfl) (ins0R_c _ a c fv) ?_
  rintro _ w9 ⟨rfl, X9⟩
  replace E := E.ext X9
  refine WpL_nil (Wp_ret (thn_ret (inB_ret (thn_ret (inB_ret ?_)))))
  refine fin_noneR Tryz.results221 ?_
  exact ⟨rfl, E⟩
theorem sort0R_c (w0 : World) (a : Option Addr) (c : Nat) (fv : Value) : Ret Tryz.prog 183 #[.slice a 0 c, fv] w0 fun v w => v = .tuple #[] ∧ Ext w0 w := by
 refine Ret_of Tryz.func183 rfl Tryz.ntmps183 (Nat.le_of_ble_eq_true rfl) ?_
 have E : Chg none1 w0 w0 := Chg.refl _ _
 refine Wp_seq_region ?_
 refine qM (.slice a 0 c) rfl ?_
 refine qV (r_lenSlice (ad := a) (n := 0) (cap := c) Tryz.underlying23 rfl) ?_
 refine qA (I6 0) rfl ?_
 refine WpL_nil (Wp_region ?_)
 refine qM (.slice a 0 c) rfl ?_
 refine qM (I6 0) rfl ?_
 refine qM (I6 0) rfl ?_
 refine qV (r_convInt (k := .i64) (k' := .u64) (n := 0) (c := 0) ⟨_, Tryz.underlying3⟩ Tryz.underlying170 rfl (wU64 (by omega))) ?_
 refine WpL_enter rfl rfl (by decide) (r_callF (vs := [(.int .u64 0)]) Tryz.func176 nm176 bd176 rfl) (bitsLenR_c _) ?_
 rintro _ w8 ⟨rfl, X8⟩
 replace E := E.ext X8
 refine qM fv rfl ?_
 refine WpL_enter rfl rfl (by decide) (r_callF (vs := [(.slice a 0 c), (I6 0), (I6 0), (I6 (Lib.bitLen 0 : Nat)), fv]) Tryz.func221 nm221 bd221 rfl) (pdq0R_c _ a c _ fv) ?_
 rintro _ w9 ⟨rfl, X9⟩
 replace E := E.ext X9
 refine WpL_nil ?_
 refine fin_none Tryz.results183 ?_
 exact ⟨rfl, E⟩
set_option maxHeartbeats 2000000 in
theorem sortr_c (wb w0 : World) (S : Nat → Prop) (base : Nat) (v : Value) (ts : List Re) (rows : List (List Value)) (hE : Ext wb w0) (h : w0.ownsRow base TRe 6 v ts.length rows.flatten) (hr : RowsIn S wb ts rows) (hS : ∀ x, S x → x < base) (hl : ts.length ≤ 1000000) :
    Ret Tryz.prog 183 #[v, .func (.func 184) #[] #[]] w0 fun r w => r = .tuple #[] ∧ (∃ us qs, us.Perm ts ∧ us.Pairwise (fun x y => ordR x y ≤ 0) ∧ w.ownsRow base TRe 6 v us.length qs.flatten ∧ RowsIn S wb us qs) ∧ Chg (fun x => v.ownBlock = some x) w0 w := by
  have eg := enters_calleeR Tryz.func184 nm184 bd184
  rcases h.2 with ⟨rfl, h0⟩ | ⟨g, cap, cur, rfl, hbg, hg, hnc, hcm, hcs, htake⟩
  · have hd : ts = [] := List.eq_nil_of_length_eq_zero h0
    subst hd
    exact (sort0R_c w0 none 0 (.func (.func 184) #[] #[])).mono fun v w' ⟨hv, hw⟩ => ⟨hv, ⟨[], [], List.Perm.refl _, List.Pairwise.nil, World.ownsRow_nil _ _ _ _, rfl⟩, Ext.chg hw⟩
  · obtain ⟨d, hd1, hd2⟩ : ∃ d : List (RRow S wb), d.map (·.t) = ts ∧ d.map encR = rows := by
      clear h hg htake hnc hl
      induction ts generalizing rows with
      | nil =>
        have hr' : rows = [] := hr
        exact ⟨[], rfl, hr'.symm⟩
      | cons t ts ih =>
        obtain ⟨r, rs, rfl, h1, h2⟩ := hr
        obtain ⟨d, h3, h4⟩ := ih rs h2
        exact ⟨⟨t, r, h1⟩ :: d, by simp [h3], by simp [h4, encR]⟩
    have hdl : d.length = ts.length := by rw [← hd1, List.length_map]
    have he : ∀ x : RRow S wb, (encR x).length = 6 := fun x => ReIn.len x.h
    have ht : ∀ w, (isAgg (Tryz.sortRe_ren.t 24)).run Tryz.prog w = .ok true w := fun w => aggB.run agg25 w
    have hs : ∀ w, (Go.sizeOf (Tryz.sortRe_ren.t 24)).run Tryz.prog w = .ok 6 w := fun w => siz25.run w
    have hH := own_holdsK encR 6 (by decide) he (d := d) (by rw [hd2]; exact h) hdl
    have hblk : g < w0.heap.size := (Array.getElem?_eq_some_iff.1 hg).1
    have hc : CmpLays Tryz.prog 184 #[] encR 6 cfR g 0 d.toArray.size w0 := fun m os dk _ x y => by
      have hch := sortWR_chg encR 6 w0 g 0 m dk os
      have hx : ReAt (sortWorldK encR 6 w0 g 0 m dk os) x.t x.vs := ReIn.at x.t (ReIn.chg hch (fun b hb hm => by have := hS b hb; have hm' : b = g := hm; omega) x.t (ReIn.ext hE x.t x.h))
      have hy : ReAt (sortWorldK encR 6 w0 g 0 m dk os) y.t y.vs := ReIn.at y.t (ReIn.chg hch (fun b hb hm => by have := hS b hb; have hm' : b = g := hm; omega) y.t (ReIn.ext hE y.t y.h))
      refine Calls.mono (order_c _ x.t y.t _ _ _ (Nat.le_refl _) hx hy) ?_
      rintro e w' ⟨v, rfl, rfl, hx⟩
      obtain ⟨q, os', hw⟩ := Ext.grown hx
      exact ⟨rfl, q, os', hw⟩
    have hcon := AnyQ.slices_SortFunc Tryz.sortRe 6 ht hs encR he (fun x u hu => ReAt.one (ReIn.at x.t x.h) u hu) cfR swoR 184 #[] g 0 cap d.toArray w0 eg hc hH hblk (by simp; omega)
    have hz : ts.length = d.toArray.size := by simp [hdl]
    rw [hz]
    refine Calls.mono hcon ?_
    rintro e w' ⟨rfl, d', n, os, hp, hso, rfl⟩
    have hsz : d'.size = d.length := by have := hp.1; simpa using this
    have hperm : d'.toList.Perm d := by
      have h3 := hp.2.2
      simp only [List.size_toArray] at h3
      rw [show d.length = d'.size from hsz.symm, Array.extract_size] at h3
      rw [hsz] at h3
      simpa using h3
    refine ⟨_, rfl, rfl, ⟨d'.toList.map (·.t), d'.toList.map encR, by rw [← hd1]; exact hperm.map _, ?_, ?_, ?_⟩, (sortWR_chg encR 6 w0 g 0 n d' os).mono fun x _ hx => by subst hx; rfl⟩
    · rw [List.pairwise_map, List.pairwise_iff_getElem]
      intro i j hi hj hij
      have h4 := hso i j (Nat.zero_le _) hij (by simp at hj ⊢; omega)
      simp only [Array.length_toList] at hi hj
      rw [getElem!_pos d' i hi, getElem!_pos d' j hj] at h4
      have h5 : ¬ ordR d'[j].t d'[i].t < 0 := of_decide_eq_false h4
      have h6 := ord_sym d'[i].t d'[j].t
      simp only [Array.getElem_toList]
      omega
    · have h7 := own_sorted encR 6 (by decide) he (m := n) (os := os) (d := d'.toList) h (by rw [Array.length_toList, hsz, hdl])
      rw [Array.toArray_toList] at h7
      rw [List.length_map, Array.length_toList, hsz, hdl, ← hz]
      exact h7
    · generalize d'.toList = q
      induction q with
      | nil => rfl
      | cons x q ih => exact ⟨encR x, q.map encR, rfl, x.h, ih⟩
end Go.Proofs
namespace Go.Proofs
open Go Go.Eng Go.Sort
set_option maxRecDepth 100000
/-- What is kept behind an element. -/
def kdR : Option Re → List Re → List Re
  | _, [] => []
  | none, x :: l => x :: kdR (some x) l
  | some y, x :: l => if sameT x y = true then kdR (some x) l else x :: kdR (some x) l
theorem same_comm (x y : Re) : sameT x y = sameT y x := by
 rw [Bool.eq_iff_iff, sameT_iff, sameT_iff]
 exact eq_comm
theorem ded_kd : ∀ (x : Re) (l : List Re), dedR (x :: l) = x :: kdR (some x) l
  | x, [] => rfl
  | x, y :: l => by
    simp only [dedR, kdR, same_comm y x]
    split
    · rename_i h
      rw [ded_kd y l, (sameT_iff x y).1 h]
    · rw [ded_kd y l]
theorem ded_kd0 (l : List Re) : dedR l = kdR none l := by
  cases l with
  | nil => rfl
  | cons x l => exact ded_kd x l
theorem kd_snoc : ∀ (l : List Re) (p : Option Re) (x : Re), kdR p (l ++ [x]) = kdR p l ++ (match l.getLast?.or p with | some y => if sameT x y = true then [] else [x] | none => [x])
  | [], none, x => rfl
  | [], some y, x => by
    simp only [List.nil_append, kdR, List.getLast?_nil, Option.none_or]
  | z :: l, p, x => by
    have ih := kd_snoc l (some z) x
    have hg : (z :: l).getLast?.or p = l.getLast?.or (some z) := by cases l <;> simp [List.getLast?_cons]
    rw [hg]
    cases p with
    | none => simp only [List.cons_append, kdR, ih]
    | some y =>
      simp only [List.cons_append, kdR]
      split
      · exact ih
      · rw [ih]; rfl
theorem kd_take {l : List Re} {j : Nat} {x y : Re} (h0 : 0 < j) (hx : l[j]? = some x) (hy : l[j - 1]? = some y) : kdR none (l.take (j + 1)) = kdR none (l.take j) ++ (if sameT x y = true then [] else [x]) := by
 rw [List.take_add_one, hx, Option.toList_some, kd_snoc]
 have hl := lt_of_get hx
 have : (l.take j).getLast? = some y := by rw [List.getLast?_take, if_neg (by omega), hy]; rfl
 rw [this]
 rfl
theorem kd_len : ∀ (l : List Re) (p : Option Re), (kdR p l).length ≤ l.length
  | [], _ => by simp [kdR]
  | x :: l, none => by simp only [kdR, List.length_cons]; have := kd_len l (some x); omega
  | x :: l, some y => by
    simp only [kdR]
    have := kd_len l (some x)
    split <;> simp only [List.length_cons] <;> omega
theorem own_chgS {w w' : World} {base g n c : Nat} {rows : List (List Value)} {rest : List Value} (h : w.ownsRow base TRe 6 (.slice (some ⟨g, 0, none⟩) n c) n rows.flatten) (hB : Blk w' g (rows.flatten ++ rest).toArray TRe) (hn : n ≤ c) (hc : c ≤ maxLen) (hz : (rows.flatten ++ rest).length = c * 6) : w'.ownsRow base TRe 6 (.slice (some ⟨g, 0, none⟩) n c) n rows.flatten := by
 have h1 := h.1
 rcases h.2 with ⟨h2, _⟩ | ⟨g', cap, cur, hv, hbg, hg, hnc, hcm, hcs, htake⟩
 ·simp at h2
 ·simp only [Value.slice.injEq, Option.some.injEq, Addr.mk.injEq, and_true, true_and] at hv
  obtain ⟨rfl, _⟩ := hv
  exact ⟨h1, .inr ⟨g, c, _, rfl, hbg, hB, hn, hc, by rw [List.size_toArray, hz], by rw [List.toList_toArray, List.take_append_of_le_length (by omega), List.take_of_length_le (by omega)]⟩⟩
set_option maxHeartbeats 4000000 in
theorem cmpct_c (wb w0 : World) (base : Nat) (S : Nat → Prop) (v fv : Value) (ts : List Re) (rows : List (List Value)) (hE : Ext wb w0) (hown : w0.ownsRow base TRe 6 v ts.length rows.flatten) (hr : RowsIn S wb ts rows) (hS : ∀ x, S x → x < base) (hlen : ts.length ≤ 1000000)
  (hf : ∀ (w : World) (x y : Re) (xs ys : List Value), ReAt w x xs → ReAt w y ys → CallV Tryz.prog fv #[.agg xs.toArray, .agg ys.toArray] w fun r w' => r = .bool (sameT x y) ∧ Ext w w') :
  Ret Tryz.prog 185 #[v, fv] w0 fun r w => ∃ la lc rows', r = .slice la (dedR ts).length lc ∧ w.ownsRow base TRe 6 r (dedR ts).length rows'.flatten ∧ RowsIn S wb (dedR ts) rows' ∧ Chg (fun x => base ≤ x) w0 w := by
 have hown0 := hown
 obtain ⟨a, c, rfl⟩ := own_form hown
 rw [ded_kd0]
 refine Ret_of Tryz.func185 rfl Tryz.ntmps185 (Nat.le_of_ble_eq_true rfl) ?_
 have E : Chg (fun x => base ≤ x) w0 w0 := Chg.refl _ _
 refine Wp_seq_region ?_
 refine qA (.slice none 0 0) rfl ?_
 refine WpL_nil (Wp_seq (Wp_seq_region ?_))
 refine qM (.slice a ts.length c) rfl ?_
 refine qV (r_lenSlice (ad := a) (n := ts.length) (cap := c) Tryz.underlying23 rfl) ?_
 refine qV (r_lss (k := .i64) (a := (ts.length : Int)) (b := 2) rfl rfl) ?_
 refine WpL_nil ?_
 refine Wp_cond (b := decide (((ts.length : Int) : Int) < 2)) rfl (fun h2 => ?_) (fun h2 => ?_)
 ·have kh2 := h2
  replace h2 := of_decide_eq_true h2
  have hsm : kdR none ts = ts := by match ts, h2 with | [], _ => rfl | [x], _ => rfl | x :: y :: l, h => simp at h; omega
  refine Wp_seq_region ?_
  refine qM (.slice a ts.length c) rfl ?_
  refine qA (.slice a ts.length c) rfl ?_
  refine WpL_nil (Wp_ret (thn_ret ?_))
  refine fin_tmp Tryz.results185 (v := (.slice a ts.length c)) rfl ?_
  rw [hsm]; exact ⟨a, c, rows, rfl, hown0, hr, E⟩
 ·have kh2 := h2
  replace h2 := of_decide_eq_false h2
  rcases hown0.2 with ⟨_, hbad⟩ | ⟨g, cap, cur0, hv0, hgb, hgB, hcap1, hcap2, hcap3, hcap4⟩
  ·omega
  simp only [Value.slice.injEq] at hv0
  obtain ⟨rfl, _, rfl⟩ := hv0
  obtain ⟨rest, hrest⟩ : ∃ rest, rest = cur0.toList.drop (ts.length * 6) := ⟨_, rfl⟩
  have hgB2 : Blk w0 g (rows.flatten ++ rest).toArray TRe := by rw [hrest, ← hcap4, List.take_append_drop]; exact hgB
  have hszz : (rows.flatten ++ rest).length = c * 6 := by rw [hrest, ← hcap4, List.take_append_drop]; simpa using hcap3
  have hrl := hr.len
  have hr6 := hr.six
  have hrestl : rest.length = c * 6 - ts.length * 6 := by rw [List.length_append, rows_len hr6, hrl] at hszz; omega
  refine Wp_skip (thn_normal (Wp_seq (Wp_seq_region ?_)))
  refine qA (I6 1) rfl ?_
  refine WpL_nil (Wp_block ?_)
  refine Wp_loop (fun nn_ σ W2 => ∃ (k : Nat), (∃ jj_, σ = upds jj_ [(0, (.slice (some ⟨g, 0, none⟩) ts.length c)), (1, fv), (5, (I6 (k : Int)))]) ∧ Chg (fun x => base ≤ x) w0 W2 ∧ Blk W2 g ((rows.flatten ++ rest).toArray) TRe ∧ (1 ≤ k ∧ k ≤ ts.length) ∧ (kdR none (ts.take k) = ts.take k) ∧ nn_ = ts.length - k) (n := ts.length - 1) ?_ ?_
  ·exact ⟨1, Fits.out ⟨rfl, rfl, rfl, trivial⟩, E, hgB2, ⟨by omega, by omega⟩, (by match ts, h2 with | [], h => simp at h | x :: l, _ => rfl), rfl⟩
  ·clear E hgB2
   rintro _ _ W2 ⟨k, ⟨j2, rfl⟩, E, hgB2, hk, hkd, rfl⟩
   refine Wp_seq (Wp_seq_region ?_)
   refine qM (I6 (k : Int)) rfl ?_
   refine qM (.slice (some ⟨g, 0, none⟩) ts.length c) rfl ?_
   refine qV (r_lenSlice (ad := some ⟨g, 0, none⟩) (n := ts.length) (cap := c) Tryz.underlying23 rfl) ?_
   refine qV (r_lss (k := .i64) (a := (k : Int)) (b := (ts.length : Int)) rfl rfl) ?_
   refine WpL_nil ?_
   refine Wp_cond (b := decide (((k : Int) : Int) < (ts.length : Int))) rfl (fun hlt => ?_) (fun hlt => ?_)
   ·have khlt := hlt
    replace hlt := of_decide_eq_true hlt
    obtain ⟨x, hx⟩ := get_of_lt (l := ts) (i := k) (by omega)
    obtain ⟨y, hy⟩ := get_of_lt (l := ts) (i := k - 1) (by omega)
    obtain ⟨r, hrr, hrx⟩ := hr.get hx
    obtain ⟨s, hrs, hry⟩ := hr.get hy
    have hkt := kd_take (by omega) hx hy
    have hrx2 : ReAt (W2) x r := ReIn.at x (ReIn.chg E (fun y hy hb => by have := hS y hy; have hb' : base ≤ y := hb; omega) x (ReIn.ext hE x hrx))
    have hry2 : ReAt (W2) y s := ReIn.at y (ReIn.chg E (fun y hy hb => by have := hS y hy; have hb' : base ≤ y := hb; omega) y (ReIn.ext hE y hry))
    have hcx := rows_at hgB2 hr6 hrr
    have hcy := rows_at hgB2 hr6 hrs
    obtain ⟨sa, sc, aa, ac, rfl, _, _, _⟩ := hrx2.form
    obtain ⟨sa2, sc2, aa2, ac2, rfl, _, _, _⟩ := hry2.form
    refine Wp_skip (thn_normal (Wp_seq (Wp_block (Wp_seq ?_))))
    obtain ⟨Fs4, hFs4⟩ : ∃ Fs : List Fact, Fs = [.eq fv, .eq (.slice (some ⟨g, 0, none⟩) ts.length c), .eq (I6 (k : Int)), .eq (.pointer (some ⟨g, 0 + k * 6, none⟩)), .eq (.agg (R6 x sa sc aa ac)), .eq (.slice (some ⟨g, 0, none⟩) ts.length c), .eq (I6 (k : Int)), .eq (I6 ((k : Int) - 1)), .eq (.pointer (some ⟨g, 0 + (k - 1) * 6, none⟩)), .eq (.agg (R6 y sa2 sc2 aa2 ac2)), .eq (.bool (sameT x y))] := ⟨_, rfl⟩
    refine Wp_dag [18, 19, 20, 21, 22, 23, 24, 25, 26, 27, 28] [[], [], [], [1, 2], [3], [], [], [6], [5, 7], [8], [0, 4, 9]] Fs4 hFs4 mixed (by kernel_rfl) (by kernel_rfl) ?_ ?_
    ·intro wd X0
     refine DagSteps.cons (fun s' w' X U H => Or.inl ⟨?_, ?_⟩) ?_
     ·exact Guarded_none rfl
     ·exact Does_val (r_move (v := fv) (U 1 rfl)) (Ext.refl _) rfl
     refine DagSteps.cons (fun s' w' X U H => Or.inl ⟨?_, ?_⟩) ?_
     ·exact Guarded_none rfl
     ·exact Does_val (r_move (v := (.slice (some ⟨g, 0, none⟩) ts.length c)) (U 0 rfl)) (Ext.refl _) rfl
     refine DagSteps.cons (fun s' w' X U H => Or.inl ⟨?_, ?_⟩) ?_
     ·exact Guarded_none rfl
     ·exact Does_val (r_move (v := (I6 (k : Int))) (U 5 rfl)) (Ext.refl _) rfl
     refine DagSteps.cons (fun s' w' X U H => Or.inl ⟨?_, ?_⟩) ?_
     ·exact Guarded_none rfl
     ·have e19 : s' 19 = (.slice (some ⟨g, 0, none⟩) ts.length c) := H 1 rfl 19 (.eq (.slice (some ⟨g, 0, none⟩) ts.length c)) rfl (by rw [hFs4]; rfl)
      have e20 : s' 20 = (.int .i64 ((k : Nat) : Int)) := H 2 rfl 20 (.eq (.int .i64 ((k : Nat) : Int))) rfl (by rw [hFs4]; rfl)
      exact Does_val (r_indexSlice (b := g) (o := 0) (len := ts.length) (cap := c) (i := k) (o' := 0 + k * 6) e19 e20 rfl Tryz.underlying23 siz25 (by omega) (by omega)) (Ext.refl _) rfl
     refine DagSteps.cons (fun s' w' X U H => Or.inl ⟨?_, ?_⟩) ?_
     ·exact Guarded_none rfl
     ·have e21 : s' 21 = (.pointer (some ⟨g, 0 + k * 6, none⟩)) := H 3 rfl 21 (.eq (.pointer (some ⟨g, 0 + k * 6, none⟩))) rfl (by rw [hFs4]; rfl)
      exact Does_val (r_loadAgg (vs := [(I6 x.kind), (.slice sa x.set.length sc), (.slice aa x.args.length ac), (I6 x.mn), (I6 x.mx), (.bool x.neg)]) e21 agg25 siz25 rfl (by rw [Nat.zero_add]; exact hcx.ext (X0.trans X))) (Ext.refl _) rfl
     refine DagSteps.cons (fun s' w' X U H => Or.inl ⟨?_, ?_⟩) ?_
     ·exact Guarded_none rfl
     ·exact Does_val (r_move (v := (.slice (some ⟨g, 0, none⟩) ts.length c)) (U 0 rfl)) (Ext.refl _) rfl
     refine DagSteps.cons (fun s' w' X U H => Or.inl ⟨?_, ?_⟩) ?_
     ·exact Guarded_none rfl
     ·exact Does_val (r_move (v := (I6 (k : Int))) (U 5 rfl)) (Ext.refl _) rfl
     refine DagSteps.cons (fun s' w' X U H => Or.inl ⟨?_, ?_⟩) ?_
     ·exact Guarded_none rfl
     ·have e24 : s' 24 = (.int .i64 ((k : Nat) : Int)) := H 6 rfl 24 (.eq (.int .i64 ((k : Nat) : Int))) rfl (by rw [hFs4]; rfl)
      exact Does_val (r_sub (k := .i64) (a := (k : Int)) (b := 1) (c := (k : Int) - 1) e24 rfl (wI64 (by omega))) (Ext.refl _) rfl
     refine DagSteps.cons (fun s' w' X U H => Or.inl ⟨?_, ?_⟩) ?_
     ·exact Guarded_none rfl
     ·have e23 : s' 23 = (.slice (some ⟨g, 0, none⟩) ts.length c) := H 5 rfl 23 (.eq (.slice (some ⟨g, 0, none⟩) ts.length c)) rfl (by rw [hFs4]; rfl)
      have e25 : s' 25 = (.int .i64 (((k : Nat) : Int) - 1)) := H 7 rfl 25 (.eq (.int .i64 (((k : Nat) : Int) - 1))) rfl (by rw [hFs4]; rfl)
      exact Does_val (r_indexSlice (b := g) (o := 0) (len := ts.length) (cap := c) (i := k - 1) (o' := 0 + (k - 1) * 6) e23 e25 (by omega) Tryz.underlying23 siz25 (by omega) (by omega)) (Ext.refl _) rfl
     refine DagSteps.cons (fun s' w' X U H => Or.inl ⟨?_, ?_⟩) ?_
     ·exact Guarded_none rfl
     ·have e26 : s' 26 = (.pointer (some ⟨g, 0 + (k - 1) * 6, none⟩)) := H 8 rfl 26 (.eq (.pointer (some ⟨g, 0 + (k - 1) * 6, none⟩))) rfl (by rw [hFs4]; rfl)
      exact Does_val (r_loadAgg (vs := [(I6 y.kind), (.slice sa2 y.set.length sc2), (.slice aa2 y.args.length ac2), (I6 y.mn), (I6 y.mx), (.bool y.neg)]) e26 agg25 siz25 rfl (by rw [Nat.zero_add]; exact hcy.ext (X0.trans X))) (Ext.refl _) rfl
     refine DagSteps.cons (fun s' w' X U H => Or.inl ⟨?_, ?_⟩) ?_
     ·exact Guarded_none rfl
     ·have e22 : s' 22 = (.agg #[(.int .i64 x.kind), (.slice sa x.set.length sc), (.slice aa x.args.length ac), (.int .i64 x.mn), (.int .i64 x.mx), (.bool x.neg)]) := H 4 rfl 22 (.eq (.agg #[(.int .i64 x.kind), (.slice sa x.set.length sc), (.slice aa x.args.length ac), (.int .i64 x.mn), (.int .i64 x.mx), (.bool x.neg)])) rfl (by rw [hFs4]; rfl)
      have e27 : s' 27 = (.agg #[(.int .i64 y.kind), (.slice sa2 y.set.length sc2), (.slice aa2 y.args.length ac2), (.int .i64 y.mn), (.int .i64 y.mx), (.bool y.neg)]) := H 9 rfl 27 (.eq (.agg #[(.int .i64 y.kind), (.slice sa2 y.set.length sc2), (.slice aa2 y.args.length ac2), (.int .i64 y.mn), (.int .i64 y.mx), (.bool y.neg)])) rfl (by rw [hFs4]; rfl)
      have e18 : s' 18 = fv := H 0 rfl 18 (.eq fv) rfl (by rw [hFs4]; rfl)
      exact Does_callV e18 (lst2 e22 e27) (hf _ x y _ _ (ReAt.ext (X0.trans X) x hrx2) (ReAt.ext (X0.trans X) y hry2))
     exact DagSteps.nil
    ·intro s' w4 X4 U H
     obtain ⟨j4, rfl⟩ := Fits.out (σ := s') (l := [(0, (.slice (some ⟨g, 0, none⟩) ts.length c)), (1, fv), (5, (.int .i64 ((k : Nat) : Int))), (28, (.bool (sameT x y)))]) ⟨U 0 rfl, U 1 rfl, U 5 rfl, (show s' 28 = (.bool (sameT x y)) from H 10 28 (.eq (.bool (sameT x y))) rfl (by rw [hFs4]; rfl)), trivial⟩
     clear U H
     replace hgB2 := X4.keep hgB2
     replace E := E.ext X4
     refine thn_normal ?_
     refine Wp_cond (b := sameT x y) rfl (fun hsm => ?_) (fun hsm => ?_)
     ·have khsm := hsm
      refine Wp_seq_region ?_
      refine qM (.slice (some ⟨g, 0, none⟩) ts.length c) rfl ?_
      refine qM (I6 (k : Int)) rfl ?_
      obtain ⟨sl, hsl⟩ : ∃ a' : Option Addr, (if c = k then (some ⟨g, 0, none⟩) else Option.map (fun q : Addr => q.add (k * 6)) (some ⟨g, 0, none⟩)) = a' := ⟨_, rfl⟩
      refine qV (r_sliceLo (a := (some ⟨g, 0, none⟩)) (len := ts.length) (cap := c) (lo := k) (l := (k : Int)) (n' := (ts.length - k)) (c' := (c - k)) Tryz.underlying23 siz25 rfl rfl (by omega) (by omega) hsl (by omega) (by omega)) ?_
      have hsl2 : sl = some ⟨g, k * 6, none⟩ := by rw [← hsl, if_neg (by omega)]; simp [Addr.add]; omega
      subst hsl2
      refine qA (.slice (some ⟨g, k * 6, none⟩) (ts.length - k) (c - k)) rfl ?_
      refine WpL_nil (Wp_seq (Wp_seq_region ?_))
      refine qA (I6 1) rfl ?_
      refine WpL_nil (Wp_block ?_)
      refine Wp_loop (fun nn_ σ W6 => ∃ (m : Nat) (i : Nat) (cur : List (List Value)), (∃ jj_, σ = upds jj_ [(0, (.slice (some ⟨g, 0, none⟩) ts.length c)), (1, fv), (6, (.slice (some ⟨g, k * 6, none⟩) (ts.length - k) (c - k))), (7, (I6 (m : Int))), (5, (I6 (i : Int)))]) ∧ Chg (fun x => base ≤ x) w0 W6 ∧ Blk W6 g ((cur.flatten ++ rest).toArray) TRe ∧ (1 ≤ m ∧ m ≤ ts.length - k) ∧ (i < k + m) ∧ (cur.length = ts.length) ∧ (∀ r ∈ cur, r.length = 6) ∧ (cur.drop (k + m - 1) = rows.drop (k + m - 1)) ∧ (RowsIn S wb (kdR none (ts.take (k + m))) (cur.take i)) ∧ (i = (kdR none (ts.take (k + m))).length) ∧ nn_ = ts.length - k - m) (n := ts.length - k - 1) ?_ ?_
      ·exact ⟨1, k, rows, Fits.out ⟨rfl, rfl, rfl, rfl, rfl, trivial⟩, E, hgB2, ⟨by omega, by omega⟩, (by omega), hrl, hr6, rfl, (by rw [hkt, hsm, hkd]; simpa using hr.take k), (by rw [hkt, hsm, hkd]; simp; omega), rfl⟩
      ·clear E hgB2
       rintro _ _ W6 ⟨m, i, cur, ⟨j6, rfl⟩, E, hgB2, hm, hij, hcl, hc6, hdr, hin, hil, rfl⟩
       refine Wp_seq (Wp_seq_region ?_)
       refine qM (I6 (m : Int)) rfl ?_
       refine qM (.slice (some ⟨g, k * 6, none⟩) (ts.length - k) (c - k)) rfl ?_
       refine qV (r_lenSlice (ad := some ⟨g, k * 6, none⟩) (n := ts.length - k) (cap := c - k) Tryz.underlying23 rfl) ?_
       refine qV (r_lss (k := .i64) (a := (m : Int)) (b := ((ts.length - k : Nat) : Int)) rfl rfl) ?_
       refine WpL_nil ?_
       refine Wp_cond (b := decide (((m : Int) : Int) < ((ts.length - k : Nat) : Int))) rfl (fun hlt2 => ?_) (fun hlt2 => ?_)
       ·have khlt2 := hlt2
        replace hlt2 := of_decide_eq_true hlt2
        obtain ⟨j, hj⟩ : ∃ j, j = k + m := ⟨_, rfl⟩
        obtain ⟨x, hx⟩ := get_of_lt (l := ts) (i := j) (by omega)
        obtain ⟨y, hy⟩ := get_of_lt (l := ts) (i := j - 1) (by omega)
        obtain ⟨r, hrr, hrx⟩ := hr.get hx
        obtain ⟨s, hrs, hry⟩ := hr.get hy
        have hkt := kd_take (by omega) hx hy
        rw [← hj] at hdr hin hil hij
        have hcr : cur[j]? = some r := by rw [drop_get hdr (by omega)]; exact hrr
        have hcs : cur[j - 1]? = some s := by rw [drop_get hdr (Nat.le_refl _)]; exact hrs
        have hdr2 : cur.drop j = rows.drop j := by have := congrArg (List.drop 1) hdr; rw [List.drop_drop, List.drop_drop, show j - 1 + 1 = j by omega] at this; exact this
        have hrx2 : ReAt (W6) x r := ReIn.at x (ReIn.chg E (fun y hy hb => by have := hS y hy; have hb' : base ≤ y := hb; omega) x (ReIn.ext hE x hrx))
        have hry2 : ReAt (W6) y s := ReIn.at y (ReIn.chg E (fun y hy hb => by have := hS y hy; have hb' : base ≤ y := hb; omega) y (ReIn.ext hE y hry))
        have hcx := rows_at hgB2 hc6 hcr
        have hcy := rows_at hgB2 hc6 hcs
        obtain ⟨sa, sc, aa, ac, rfl, _, _, _⟩ := hrx2.form
        obtain ⟨sa2, sc2, aa2, ac2, rfl, _, _, _⟩ := hry2.form
        refine Wp_skip (thn_normal (Wp_seq (Wp_block (Wp_seq ?_))))
        obtain ⟨Fs8, hFs8⟩ : ∃ Fs : List Fact, Fs = [.eq fv, .eq (.slice (some ⟨g, k * 6, none⟩) (ts.length - k) (c - k)), .eq (I6 (m : Int)), .eq (.pointer (some ⟨g, k * 6 + m * 6, none⟩)), .eq (.agg (R6 x sa sc aa ac)), .eq (.slice (some ⟨g, k * 6, none⟩) (ts.length - k) (c - k)), .eq (I6 (m : Int)), .eq (I6 ((m : Int) - 1)), .eq (.pointer (some ⟨g, k * 6 + (m - 1) * 6, none⟩)), .eq (.agg (R6 y sa2 sc2 aa2 ac2)), .eq (.bool (sameT x y)), .eq (.bool (!(sameT x y)))] := ⟨_, rfl⟩
        refine Wp_dag [38, 39, 40, 41, 42, 43, 44, 45, 46, 47, 48, 49] [[], [], [], [1, 2], [3], [], [], [6], [5, 7], [8], [0, 4, 9], [10]] Fs8 hFs8 mixed (by kernel_rfl) (by kernel_rfl) ?_ ?_
        ·intro wd X0
         refine DagSteps.cons (fun s' w' X U H => Or.inl ⟨?_, ?_⟩) ?_
         ·exact Guarded_none rfl
         ·exact Does_val (r_move (v := fv) (U 1 rfl)) (Ext.refl _) rfl
         refine DagSteps.cons (fun s' w' X U H => Or.inl ⟨?_, ?_⟩) ?_
         ·exact Guarded_none rfl
         ·exact Does_val (r_move (v := (.slice (some ⟨g, k * 6, none⟩) (ts.length - k) (c - k))) (U 6 rfl)) (Ext.refl _) rfl
         refine DagSteps.cons (fun s' w' X U H => Or.inl ⟨?_, ?_⟩) ?_
         ·exact Guarded_none rfl
         ·exact Does_val (r_move (v := (I6 (m : Int))) (U 7 rfl)) (Ext.refl _) rfl
         refine DagSteps.cons (fun s' w' X U H => Or.inl ⟨?_, ?_⟩) ?_
         ·exact Guarded_none rfl
         ·have e39 : s' 39 = (.slice (some ⟨g, k * 6, none⟩) (ts.length - k) (c - k)) := H 1 rfl 39 (.eq (.slice (some ⟨g, k * 6, none⟩) (ts.length - k) (c - k))) rfl (by rw [hFs8]; rfl)
          have e40 : s' 40 = (.int .i64 ((m : Nat) : Int)) := H 2 rfl 40 (.eq (.int .i64 ((m : Nat) : Int))) rfl (by rw [hFs8]; rfl)
          exact Does_val (r_indexSlice (b := g) (o := k * 6) (len := ts.length - k) (cap := c - k) (i := m) (o' := k * 6 + m * 6) e39 e40 rfl Tryz.underlying23 siz25 (by omega) (by omega)) (Ext.refl _) rfl
         refine DagSteps.cons (fun s' w' X U H => Or.inl ⟨?_, ?_⟩) ?_
         ·exact Guarded_none rfl
         ·have e41 : s' 41 = (.pointer (some ⟨g, k * 6 + m * 6, none⟩)) := H 3 rfl 41 (.eq (.pointer (some ⟨g, k * 6 + m * 6, none⟩))) rfl (by rw [hFs8]; rfl)
          exact Does_val (r_loadAgg (vs := [(I6 x.kind), (.slice sa x.set.length sc), (.slice aa x.args.length ac), (I6 x.mn), (I6 x.mx), (.bool x.neg)]) e41 agg25 siz25 rfl (by rw [show k * 6 + m * 6 = j * 6 by omega]; exact hcx.ext (X0.trans X))) (Ext.refl _) rfl
         refine DagSteps.cons (fun s' w' X U H => Or.inl ⟨?_, ?_⟩) ?_
         ·exact Guarded_none rfl
         ·exact Does_val (r_move (v := (.slice (some ⟨g, k * 6, none⟩) (ts.length - k) (c - k))) (U 6 rfl)) (Ext.refl _) rfl
         refine DagSteps.cons (fun s' w' X U H => Or.inl ⟨?_, ?_⟩) ?_
         ·exact Guarded_none rfl
         ·exact Does_val (r_move (v := (I6 (m : Int))) (U 7 rfl)) (Ext.refl _) rfl
         refine DagSteps.cons (fun s' w' X U H => Or.inl ⟨?_, ?_⟩) ?_
         ·exact Guarded_none rfl
         ·have e44 : s' 44 = (.int .i64 ((m : Nat) : Int)) := H 6 rfl 44 (.eq (.int .i64 ((m : Nat) : Int))) rfl (by rw [hFs8]; rfl)
          exact Does_val (r_sub (k := .i64) (a := (m : Int)) (b := 1) (c := (m : Int) - 1) e44 rfl (wI64 (by omega))) (Ext.refl _) rfl
         refine DagSteps.cons (fun s' w' X U H => Or.inl ⟨?_, ?_⟩) ?_
         ·exact Guarded_none rfl
         ·have e43 : s' 43 = (.slice (some ⟨g, k * 6, none⟩) (ts.length - k) (c - k)) := H 5 rfl 43 (.eq (.slice (some ⟨g, k * 6, none⟩) (ts.length - k) (c - k))) rfl (by rw [hFs8]; rfl)
          have e45 : s' 45 = (.int .i64 (((m : Nat) : Int) - 1)) := H 7 rfl 45 (.eq (.int .i64 (((m : Nat) : Int) - 1))) rfl (by rw [hFs8]; rfl)
          exact Does_val (r_indexSlice (b := g) (o := k * 6) (len := ts.length - k) (cap := c - k) (i := m - 1) (o' := k * 6 + (m - 1) * 6) e43 e45 (by omega) Tryz.underlying23 siz25 (by omega) (by omega)) (Ext.refl _) rfl
         refine DagSteps.cons (fun s' w' X U H => Or.inl ⟨?_, ?_⟩) ?_
         ·exact Guarded_none rfl
         ·have e46 : s' 46 = (.pointer (some ⟨g, k * 6 + (m - 1) * 6, none⟩)) := H 8 rfl 46 (.eq (.pointer (some ⟨g, k * 6 + (m - 1) * 6, none⟩))) rfl (by rw [hFs8]; rfl)
          exact Does_val (r_loadAgg (vs := [(I6 y.kind), (.slice sa2 y.set.length sc2), (.slice aa2 y.args.length ac2), (I6 y.mn), (I6 y.mx), (.bool y.neg)]) e46 agg25 siz25 rfl (by rw [show k * 6 + (m - 1) * 6 = (j - 1) * 6 by omega]; exact hcy.ext (X0.trans X))) (Ext.refl _) rfl
         refine DagSteps.cons (fun s' w' X U H => Or.inl ⟨?_, ?_⟩) ?_
         ·exact Guarded_none rfl
         ·have e42 : s' 42 = (.agg #[(.int .i64 x.kind), (.slice sa x.set.length sc), (.slice aa x.args.length ac), (.int .i64 x.mn), (.int .i64 x.mx), (.bool x.neg)]) := H 4 rfl 42 (.eq (.agg #[(.int .i64 x.kind), (.slice sa x.set.length sc), (.slice aa x.args.length ac), (.int .i64 x.mn), (.int .i64 x.mx), (.bool x.neg)])) rfl (by rw [hFs8]; rfl)
          have e47 : s' 47 = (.agg #[(.int .i64 y.kind), (.slice sa2 y.set.length sc2), (.slice aa2 y.args.length ac2), (.int .i64 y.mn), (.int .i64 y.mx), (.bool y.neg)]) := H 9 rfl 47 (.eq (.agg #[(.int .i64 y.kind), (.slice sa2 y.set.length sc2), (.slice aa2 y.args.length ac2), (.int .i64 y.mn), (.int .i64 y.mx), (.bool y.neg)])) rfl (by rw [hFs8]; rfl)
          have e38 : s' 38 = fv := H 0 rfl 38 (.eq fv) rfl (by rw [hFs8]; rfl)
          exact Does_callV e38 (lst2 e42 e47) (hf _ x y _ _ (ReAt.ext (X0.trans X) x hrx2) (ReAt.ext (X0.trans X) y hry2))
         refine DagSteps.cons (fun s' w' X U H => Or.inl ⟨?_, ?_⟩) ?_
         ·exact Guarded_none rfl
         ·have e48 : s' 48 = (.bool (sameT x y)) := H 10 rfl 48 (.eq (.bool (sameT x y))) rfl (by rw [hFs8]; rfl)
          exact Does_val (r_not (b := sameT x y) e48) (Ext.refl _) rfl
         exact DagSteps.nil
        ·intro s' w8 X8 U H
         obtain ⟨j8, rfl⟩ := Fits.out (σ := s') (l := [(0, (.slice (some ⟨g, 0, none⟩) ts.length c)), (1, fv), (5, (.int .i64 ((i : Nat) : Int))), (6, (.slice (some ⟨g, k * 6, none⟩) (ts.length - k) (c - k))), (7, (.int .i64 ((m : Nat) : Int))), (49, (.bool (!(sameT x y))))]) ⟨U 0 rfl, U 1 rfl, U 5 rfl, U 6 rfl, U 7 rfl, (show s' 49 = (.bool (!(sameT x y))) from H 11 49 (.eq (.bool (!(sameT x y)))) rfl (by rw [hFs8]; rfl)), trivial⟩
         clear U H
         replace hgB2 := X8.keep hgB2
         replace hcx := hcx.ext X8
         replace E := E.ext X8
         refine thn_normal ?_
         refine Wp_cond (b := !(sameT x y)) rfl (fun hne => ?_) (fun hne => ?_)
         ·have khne := hne
          replace hne := by simpa using hne
          have hsf : sameT x y = false := by simpa using hne
          refine Wp_seq_region ?_
          refine qM (.slice (some ⟨g, 0, none⟩) ts.length c) rfl ?_
          refine qM (I6 (i : Int)) rfl ?_
          refine qM (.slice (some ⟨g, k * 6, none⟩) (ts.length - k) (c - k)) rfl ?_
          refine qM (I6 (m : Int)) rfl ?_
          refine qV (r_indexSlice (b := g) (o := k * 6) (len := ts.length - k) (cap := c - k) (i := m) (o' := k * 6 + m * 6) rfl rfl rfl Tryz.underlying23 siz25 (by omega) (by omega)) ?_
          refine qV (r_loadAgg (vs := [(I6 x.kind), (.slice sa x.set.length sc), (.slice aa x.args.length ac), (I6 x.mn), (I6 x.mx), (.bool x.neg)]) rfl agg25 siz25 rfl (by rw [show k * 6 + m * 6 = j * 6 by omega]; exact hcx)) ?_
          refine qV (r_indexSlice (b := g) (o := 0) (len := ts.length) (cap := c) (i := i) (o' := 0 + i * 6) rfl rfl rfl Tryz.underlying23 siz25 (by omega) (by omega)) ?_
          refine s_storeAgg (b := g) (o := 0 + i * 6) (n := 6) (c' := ((cur.set i [.int .i64 x.kind, .slice sa x.set.length sc, .slice aa x.args.length ac, .int .i64 x.mn, .int .i64 x.mx, .bool x.neg]).flatten ++ rest).toArray) (vs := (R6 x sa sc aa ac)) rfl rfl (by simp [Value.oneCell']) siz25 (rfl) hgB2 (by have := rows_len hc6; simp only [List.size_toArray, List.length_append]; omega) (by rw [Nat.zero_add]; exact congrArg List.toArray (rows_set (k := 6) (v := [.int .i64 x.kind, .slice sa x.set.length sc, .slice aa x.args.length ac, .int .i64 x.mn, .int .i64 x.mx, .bool x.neg]) (rows := cur) (i := i) (rest := rest) rfl hc6 (by omega))) ?_
          intro w10 S10
          replace E := S10.step E (by first | exact Or.inl (by omega) | exact Or.inr rfl | exact Or.inr (by assumption) | exact Or.inr (by simp) | exact Or.inr (by omega) | exact Or.inr (by dsimp only; omega))
          replace hgB2 := S10.blk
          refine WpL_nil (Wp_region ?_)
          refine qM (I6 (i : Int)) rfl ?_
          refine qV (r_add (k := .i64) (a := (i : Int)) (b := 1) (c := (i : Int) + 1) rfl rfl (wI64 (by omega))) ?_
          refine qA (I6 ((i : Int) + 1)) rfl ?_
          refine WpL_nil (inB_normal (thn_normal (Wp_region ?_)))
          refine qM (I6 (m : Int)) rfl ?_
          refine qV (r_add (k := .i64) (a := (m : Int)) (b := 1) (c := (m : Int) + 1) rfl rfl (wI64 (by omega))) ?_
          refine qA (I6 ((m : Int) + 1)) rfl ?_
          refine WpL_nil (thn_normal ?_)
          exact ⟨ts.length - k - (m + 1), by omega, m + 1, i + 1, cur.set i [.int .i64 x.kind, .slice sa x.set.length sc, .slice aa x.args.length ac, .int .i64 x.mn, .int .i64 x.mx, .bool x.neg], Fits.out ⟨rfl, rfl, rfl, rfl, rfl, trivial⟩, E, hgB2, ⟨by omega, by omega⟩, (by omega), (by simpa using hcl), (fun r hr => by rcases List.mem_or_eq_of_mem_set hr with h | h; exact hc6 r h; rw [h]; rfl), (by rw [show k + (m + 1) - 1 = j by omega, List.drop_set_of_lt (by omega)]; exact hdr2), (by rw [show k + (m + 1) = j + 1 by omega, hkt, hsf, List.take_add_one, List.take_set_of_le (Nat.le_refl _), List.getElem?_set_self (by omega)]; exact RowsIn.append (RowsIn.single hrx) hin), (by rw [show k + (m + 1) = j + 1 by omega, hkt, hsf, List.length_append, ← hil]; rfl), rfl⟩
         ·have khne := hne
          replace hne := by simpa using hne
          have hst : sameT x y = true := by simpa using hne
          refine Wp_skip (inB_normal (thn_normal (Wp_region ?_)))
          refine qM (I6 (m : Int)) rfl ?_
          refine qV (r_add (k := .i64) (a := (m : Int)) (b := 1) (c := (m : Int) + 1) rfl rfl (wI64 (by omega))) ?_
          refine qA (I6 ((m : Int) + 1)) rfl ?_
          refine WpL_nil (thn_normal ?_)
          exact ⟨ts.length - k - (m + 1), by omega, m + 1, i, cur, Fits.out ⟨rfl, rfl, rfl, rfl, rfl, trivial⟩, E, hgB2, ⟨by omega, by omega⟩, (by omega), hcl, hc6, (by rw [show k + (m + 1) - 1 = j by omega]; exact hdr2), (by rw [show k + (m + 1) = j + 1 by omega, hkt, hst]; simpa using hin), (by rw [show k + (m + 1) = j + 1 by omega, hkt, hst]; simpa using hil), rfl⟩
       ·have khlt2 := hlt2
        replace hlt2 := of_decide_eq_false hlt2
        have hjj : k + m = ts.length := by omega
        rw [hjj, List.take_length] at hin hil
        have hil2 : i ≤ ts.length := by rw [hil]; exact kd_len _ _
        refine Wp_exit (thn_exit (thn_exit (inB_here (thn_normal (Wp_seq_region ?_)))))
        refine qM (.slice (some ⟨g, 0, none⟩) ts.length c) rfl ?_
        refine qM (I6 (i : Int)) rfl ?_
        obtain ⟨sk, hsk⟩ : ∃ a' : Option Addr, (if c = i then (some ⟨g, 0, none⟩) else Option.map (fun q : Addr => q.add (i * 6)) (some ⟨g, 0, none⟩)) = a' := ⟨_, rfl⟩
        refine qV (r_sliceLo (a := (some ⟨g, 0, none⟩)) (len := ts.length) (cap := c) (lo := i) (l := (i : Int)) (n' := (ts.length - i)) (c' := (c - i)) Tryz.underlying23 siz25 rfl rfl (by omega) (by omega) hsk (by omega) (by omega)) ?_
        have hsk2 : sk = some ⟨g, i * 6, none⟩ := by rw [← hsk, if_neg (by omega)]; simp [Addr.add]; omega
        subst hsk2
        obtain ⟨cz, hcz⟩ : ∃ cz, cz = ((cur.flatten ++ rest).toArray.toList.take (i * 6) ++ (Builtin.zeroCells (Value.cells (.agg #[(.int .i64 0), (.slice none 0 0), (.slice none 0 0), (.int .i64 0), (.int .i64 0), (.bool false)])) (ts.length - i)).toList ++ (cur.flatten ++ rest).toArray.toList.drop (i * 6 + (ts.length - i) * 6)).toArray := ⟨_, rfl⟩
        refine s_clear (b := g) (o := i * 6) (m := (ts.length - i)) (cc := (c - i)) (c' := cz) Tryz.underlying23 zer25 rfl (by omega) hgB2 zero_one (by show i * 6 + (ts.length - i) * 6 ≤ _; simp only [List.size_toArray, List.length_append, rows_len hc6, hcl]; omega) (hcz.symm) ?_
        intro w11 S11
        replace E := S11.step E (by first | exact Or.inl (by omega) | exact Or.inr rfl | exact Or.inr (by assumption) | exact Or.inr (by simp) | exact Or.inr (by omega) | exact Or.inr (by dsimp only; omega))
        replace hgB2 := S11.blk
        refine WpL_nil (Wp_seq_region ?_)
        refine qM (.slice (some ⟨g, 0, none⟩) ts.length c) rfl ?_
        refine qM (I6 (i : Int)) rfl ?_
        obtain ⟨sm, hsm⟩ : ∃ a' : Option Addr, (if c = 0 then (some ⟨g, 0, none⟩) else Option.map (fun q : Addr => q.add (0 * 6)) (some ⟨g, 0, none⟩)) = a' := ⟨_, rfl⟩
        refine qV (r_sliceHi (a := (some ⟨g, 0, none⟩)) (len := ts.length) (cap := c) (hi := i) (l := (i : Int)) Tryz.underlying23 siz25 rfl rfl (by omega) (by omega) hsm) ?_
        refine qA (.slice sm i c) rfl ?_
        refine WpL_nil (Wp_ret (inB_ret (thn_ret (thn_ret (inB_ret (thn_ret ?_))))))
        refine fin_tmp Tryz.results185 (v := (.slice sm i c)) rfl ?_
        have hsm2 : sm = some ⟨g, 0, none⟩ := by rw [← hsm]; split <;> simp [Addr.add]
        subst hsm2
        have hfl : (cur.take i).flatten.length = i * 6 := by rw [rows_len (fun r hr => hc6 r (List.mem_of_mem_take hr))]; simp; omega
        have htk : (cur.flatten ++ rest).take (i * 6) = (cur.take i).flatten := by
         have : cur.flatten = (cur.take i).flatten ++ (cur.drop i).flatten := by rw [← List.flatten_append, List.take_append_drop]
         rw [this, List.append_assoc, List.take_append_of_le_length (by omega), List.take_of_length_le (by omega)]
        have hz : (Builtin.zeroCells (Value.cells (.agg #[(.int .i64 0), (.slice none 0 0), (.slice none 0 0), (.int .i64 0), (.int .i64 0), (.bool false)])) (ts.length - i)).toList.length = (ts.length - i) * 6 := by simp [Builtin.zeroCells, Value.cells]
        have hcl6 : (cur.flatten ++ rest).length = c * 6 := by rw [List.length_append, rows_len hc6, hcl]; omega
        refine ⟨some ⟨g, 0, none⟩, c, cur.take i, by rw [← hil], ⟨by rw [hfl, ← hil], .inr ⟨g, c, cz, by rw [← hil], hgb, hgB2, by omega, hcap2, ?_, ?_⟩⟩, hin, E⟩
        ·rw [hcz]
         simp only [List.size_toArray, List.length_append, List.length_take, List.length_drop, hz]
         simp only [List.length_append] at hcl6
         omega
        ·rw [hcz, ← hil]
         show List.take (i * 6) (List.take (i * 6) (cur.flatten ++ rest) ++ _ ++ _) = _
         rw [htk, List.append_assoc, List.take_append_of_le_length (by omega), List.take_of_length_le (by omega)]
     ·have khsm := hsm
      have hsf : sameT x y = false := by simpa using hsm
      refine Wp_skip (inB_normal (thn_normal (Wp_region ?_)))
      refine qM (I6 (k : Int)) rfl ?_
      refine qV (r_add (k := .i64) (a := (k : Int)) (b := 1) (c := (k : Int) + 1) rfl rfl (wI64 (by omega))) ?_
      refine qA (I6 ((k : Int) + 1)) rfl ?_
      refine WpL_nil (thn_normal ?_)
      exact ⟨ts.length - (k + 1), by omega, k + 1, Fits.out ⟨rfl, rfl, rfl, trivial⟩, E, hgB2, ⟨by omega, by omega⟩, (by rw [hkt, hsf, hkd, List.take_add_one, hx]; rfl), rfl⟩
   ·have khlt := hlt
    replace hlt := of_decide_eq_false hlt
    have hkk : k = ts.length := by omega
    rw [hkk, List.take_length] at hkd
    refine Wp_exit (thn_exit (thn_exit (inB_here (thn_normal (Wp_seq_region ?_)))))
    refine qM (.slice (some ⟨g, 0, none⟩) ts.length c) rfl ?_
    refine qA (.slice (some ⟨g, 0, none⟩) ts.length c) rfl ?_
    refine WpL_nil (Wp_ret ?_)
    refine fin_tmp Tryz.results185 (v := (.slice (some ⟨g, 0, none⟩) ts.length c)) rfl ?_
    rw [hkd]; exact ⟨_, c, rows, rfl, own_chgS hown0 hgB2 hcap1 hcap2 hszz, hr, E⟩
end Go.Proofs
namespace Go.Proofs
open Go Go.Eng Go.Sort
set_option maxRecDepth 100000
theorem sort_uniq {us D : List Re} (hp : us.Perm D) (hs : us.Pairwise fun x y => ordR x y ≤ 0) (hn : ∀ x ∈ D, noNeg x = true) : us = sortR D := by
 have hp2 : us.Perm (sortR D) := hp.trans (List.mergeSort_perm D leR).symm
 refine List.Perm.eq_of_pairwise (le := fun x y => ordR x y ≤ 0) (fun a b ha hb h1 h2 => ?_) hs (sort_sorted D) hp2
 have h3 := ord_sym a b
 have h4 := ord_sym b a
 exact (ord_zero (hn a (hp.mem_iff.1 ha)) (hn b (sort_mem.1 hb))).1 (by omega)
theorem find_idx {p : Re → Bool} {l : List Re} : (0 ≤ idx p l → ∃ i x, idx p l = ((i : Nat) : Int) ∧ l[i]? = some x ∧ l.find? p = some x) ∧ (¬ 0 ≤ idx p l → l.find? p = none) := by
  unfold idx
  cases h : l.findIdx? p with
  | none =>
    refine ⟨fun h1 => by simp at h1, fun _ => ?_⟩
    rw [List.find?_eq_none]
    intro x hx
    have := (List.findIdx?_eq_none_iff.1 h) x hx
    simp [this]
  | some i =>
    refine ⟨fun _ => ?_, fun h1 => by simp at h1⟩
    obtain ⟨hi, h1, h2⟩ := List.findIdx?_eq_some_iff_getElem.1 h
    refine ⟨i, l[i], rfl, List.getElem?_eq_getElem hi, ?_⟩
    rw [List.find?_eq_some_iff_getElem]
    exact ⟨h1, i, hi, rfl, fun j hj => by simpa using h2 j hj⟩
set_option maxHeartbeats 4000000 in
theorem choice_c (w0 : World) (S : Nat → Prop) (k : Int) (v sf gf : Value) (ts : List Re) (strong weak : Re → Bool) (zt : Re) (zv : List Value) (h : RsIn S w0 v ts) (hz : ReIn S w0 zt zv) (hS : ∀ x, S x → x < w0.heap.size) (hne : ∀ x ∈ ts, x.kind = k → x.args ≠ []) (hsz : Re.sizes ts ≤ 1000000) (hnn : ∀ x ∈ flatT k ts, noNeg x = true)
  (hs : ∀ (w : World) (x : Re) (vs : List Value), x ∈ ts → ReAt w x vs → CallV Tryz.prog sf #[.agg vs.toArray] w fun r w' => r = .bool (strong x) ∧ Ext w w')
  (hw : ∀ (w : World) (x : Re) (vs : List Value), x ∈ flatT k ts → ReAt w x vs → CallV Tryz.prog gf #[.agg vs.toArray] w fun r w' => r = .bool (weak x) ∧ Ext w w') :
  Ret Tryz.prog 161 #[.int .i64 k, v, sf, gf, .agg zv.toArray] w0 fun r w => (∃ vs, r = .agg vs.toArray ∧ ReIn (fun b => S b ∨ w0.heap.size ≤ b) w (choR k ts strong weak zt) vs) ∧ Ext w0 w := by
 have h0 := h
 have hz0 := hz
 obtain ⟨zsa, zsc, zaa, zac, rfl, _, _, _⟩ := hz.form
 obtain ⟨aa0, ac0, rfl, hac0, _⟩ := h
 have hls := len_sizes ts
 have hfle := flat_le k ts ts.length
 rw [List.take_length] at hfle
 have hin0 := h0
 obtain ⟨hfi1, hfi2⟩ := find_idx (p := strong) (l := ts)
 obtain ⟨q, hq⟩ : ∃ q : Int, q = idx strong ts := ⟨_, rfl⟩
 rw [← hq] at hfi1 hfi2
 obtain ⟨D, hD⟩ : ∃ D, D = delT weak (flatT k ts) := ⟨_, rfl⟩
 have hDl : D.length ≤ (flatT k ts).length := by rw [hD]; exact List.length_filter_le _ _
 have hDn : ∀ x ∈ D, noNeg x = true := fun x hx => hnn x (del_mem.1 (by rw [← hD]; exact hx)).1
 obtain ⟨G, hG⟩ : ∃ G, G = dedR (sortR D) := ⟨_, rfl⟩
 have hcho : choR k ts strong weak zt = match ts.find? strong with | some x => x | none => wrapT k zt G := by rw [hG, hD]; rfl
 rw [hcho]
 obtain ⟨hw0, hw1, hw2⟩ := wrap_cases k zt G
 refine Ret_of Tryz.func161 rfl Tryz.ntmps161 (Nat.le_of_ble_eq_true rfl) ?_
 have E : Chg none1 w0 w0 := Chg.refl _ _
 refine Wp_seq_region ?_
 refine s_box (v := (.agg (R6 zt zsa zsc zaa zac))) (c := (R6 zt zsa zsc zaa zac)) (by decide) rfl rfl ?_
 intro bz wz Nz
 have Fz := Nz.ge E
 replace E := E.ext Nz.ext
 have Bz := Nz.blk
 refine s_alloc (c := #[(I6 0), (.slice none 0 0), (.slice none 0 0), (I6 0), (I6 0), (.bool false)]) (by decide) zer25 rfl ?_
 intro bo wo No
 have Fo := No.ge E
 have Oo_bz := No.lt Bz
 replace Bz := No.keep Bz
 replace E := E.ext No.ext
 have Bo := No.blk
 refine WpL_nil (Wp_seq (Wp_seq_region ?_))
 refine qM (.slice aa0 ts.length ac0) rfl ?_
 refine qM sf rfl ?_
 obtain ⟨base, hbase⟩ : ∃ base, base = wo.heap.size := ⟨_, rfl⟩
 have hob : bo < base ∧ bz < base := ⟨by rw [hbase]; exact Bo.lt, by rw [hbase]; exact Bz.lt⟩
 have hwb : w0.heap.size ≤ base := by omega
 have E2 : Chg none1 wo wo := Chg.refl _ _
 refine WpL_enter rfl rfl (by decide) (r_callF (vs := [(.slice aa0 ts.length ac0), sf]) Tryz.func82 nm82 bd82 rfl) ((res_idx_c _ _ sf ts strong (rsin_at (h0.ext E)) (fun w x vs _ hm hx => hs w x vs hm hx)).mono (R' := fun r w => r = .int .i64 q ∧ Ext wo w) (fun r w h9 => ⟨by rw [h9.1, hq], h9.2⟩)) ?_
 rintro _ w9 ⟨rfl, X9⟩
 replace Bz := X9.keep Bz
 replace Bo := X9.keep Bo
 replace E := E.ext X9
 refine qA (I6 q) rfl ?_
 refine WpL_nil (Wp_seq_region ?_)
 refine qM (I6 q) rfl ?_
 refine qV (r_geq (k := .i64) (a := q) (b := 0) rfl rfl) ?_
 refine WpL_nil ?_
 refine Wp_cond (b := decide ((0 : Int) ≤ q)) rfl (fun hge => ?_) (fun hge => ?_)
 ·have khge := hge
  replace hge := of_decide_eq_true hge
  obtain ⟨i, x, hi, hx, hf⟩ := hfi1 hge
  have hilt := lt_of_get hx
  have hin : RsIn S (w9) (.slice aa0 ts.length ac0) ts := hin0.ext E
  obtain ⟨lb, lo, rfl, hcl⟩ := hin.cells (by omega)
  obtain ⟨xs, hcx, hrx⟩ := hcl i x hx
  have hrx0 := hrx
  obtain ⟨sa, sc, aa, ac, rfl, _, _, _⟩ := hrx.form
  refine Wp_seq_region ?_
  refine qM (.slice (some ⟨lb, lo, none⟩) ts.length ac0) rfl ?_
  refine qM (I6 q) rfl ?_
  refine qV (r_indexSlice (b := lb) (o := lo) (len := ts.length) (cap := ac0) (i := i) (o' := lo + i * 6) rfl rfl (by omega) Tryz.underlying23 siz25 (by omega) (by omega)) ?_
  have hS5 : Chg (fun y => y = bo) (w9) (w9) := Chg.refl _ _
  refine qV (r_loadAgg (vs := [(I6 x.kind), (.slice sa x.set.length sc), (.slice aa x.args.length ac), (I6 x.mn), (I6 x.mx), (.bool x.neg)]) rfl agg25 siz25 rfl (hcx)) ?_
  refine s_storeAgg (b := bo) (o := 0) (c' := (R6 x sa sc aa ac)) rfl rfl (by simp [Value.oneCell']) siz25 rfl Bo (by first | (simp; done) | exact Nat.le_of_ble_eq_true rfl) rfl ?_
  intro w2 S2
  replace hS5 := S2.chg
  replace Bz := S2.keep (by omega) Bz
  replace E := S2.step E (by first | exact Or.inl (by omega) | exact Or.inr rfl | exact Or.inr (by assumption) | exact Or.inr (by simp) | exact Or.inr (by omega) | exact Or.inr (by dsimp only; omega))
  replace Bo := S2.blk
  refine WpL_nil (Wp_ret (thn_ret ?_))
  refine fin_agg Tryz.results161 (vs := [(.int .i64 x.kind), (.slice sa x.set.length sc), (.slice aa x.args.length ac), (.int .i64 x.mn), (.int .i64 x.mx), (.bool x.neg)]) (b := bo) rfl agg25 siz25 rfl (Bo.cells rfl) ?_
  exact ⟨⟨_, rfl, by rw [hf]; exact ReIn.mono (fun y hy => .inl hy) x (ReIn.chg hS5 (fun y hy h => by have h1 := hS y hy; have h2 : y = bo := h; omega) x hrx0)⟩, E⟩
 ·have khge := hge
  replace hge := of_decide_eq_false hge
  rw [hfi2 hge]
  obtain ⟨base2, hbase2⟩ : ∃ base2, base2 = w9.heap.size := ⟨_, rfl⟩
  have hob2 : bo < base2 ∧ bz < base2 ∧ w0.heap.size ≤ base2 := by have := X9.size; omega
  refine Wp_skip (thn_normal (Wp_seq_region ?_))
  refine qM (I6 k) rfl ?_
  refine qM (.slice aa0 ts.length ac0) rfl ?_
  refine WpL_enter rfl rfl (by decide) (r_callF (vs := [(I6 k), (.slice aa0 ts.length ac0)]) Tryz.func167 nm167 bd167 rfl) (flat_c _ S k _ ts (hin0.ext E) hne hsz) ?_
  rintro _ wf ⟨la, lc, rows, rfl, hown, hrs, Xf⟩
  replace Bz := Xf.keep Bz
  replace Bo := Xf.keep Bo
  replace E := E.ext Xf
  rw [← hbase2] at hown
  have E3 : Ext w9 wf := Xf
  have hSb : ∀ x, S x → x < base2 := fun x hx => by have := hS x hx; omega
  refine qM gf rfl ?_
  refine WpL_enter rfl rfl (by decide) (r_callF (vs := [(.slice la ((flatT k ts).length) lc), gf]) Tryz.func166 nm166 bd166 rfl) ((del_c w9 _ base2 S _ _ (flatT k ts) rows weak E3 hown hrs hSb (by omega) hw).mono (R' := fun r w => ∃ la lc rows', r = .slice la D.length lc ∧ w.ownsRow base2 TRe 6 r D.length rows'.flatten ∧ RowsIn S w9 D rows' ∧ Chg (fun x => base2 ≤ x) wf w) (fun r w h9 => by rw [hD]; exact h9)) ?_
  rintro _ wd ⟨la2, lc2, rows2, rfl, hown2, hrs2, Cd⟩
  replace Bz := Cd.keep (by omega) Bz
  replace Bo := Cd.keep (by omega) Bo
  replace E := E.step Cd (by intro x hx hm; omega)
  replace E3 := E3.step Cd (by intro x hx hm; omega)
  refine qA (.slice la2 D.length lc2) rfl ?_
  refine WpL_nil (Wp_seq_region ?_)
  refine qM (.slice la2 D.length lc2) rfl ?_
  refine WpL_enter rfl rfl (by decide) (r_callF (vs := [(.slice la2 D.length lc2), (.func (.func 184) #[] #[])]) Tryz.func183 nm183 bd183 rfl) ((sortr_c w9 _ S base2 _ D rows2 E3 hown2 hrs2 hSb (by omega)).mono (R' := fun r w => r = .tuple #[] ∧ (∃ qs, w.ownsRow base2 TRe 6 (.slice la2 D.length lc2) (sortR D).length qs.flatten ∧ RowsIn S w9 (sortR D) qs) ∧ Chg (fun x => base2 ≤ x) wd w) (fun r w h9 => by obtain ⟨h1, ⟨us, qs, hp, hpw, h3, h4⟩, h5⟩ := h9; have h6 := sort_uniq hp hpw hDn; subst h6; exact ⟨h1, ⟨qs, h3, h4⟩, h5.mono fun x _ hx => (hown2.lt x hx).1⟩)) ?_
  rintro _ ws ⟨rfl, ⟨qs, hown3, hrs3⟩, Cs⟩
  replace Bz := Cs.keep (by omega) Bz
  replace Bo := Cs.keep (by omega) Bo
  replace E := E.step Cs (by intro x hx hm; omega)
  replace E3 := E3.step Cs (by intro x hx hm; omega)
  have hsl : (sortR D).length = D.length := List.length_mergeSort D
  rw [← hsl] at hown3
  rw [← hsl]
  refine WpL_nil (Wp_seq_region ?_)
  refine qM (.slice la2 ((sortR D).length) lc2) rfl ?_
  refine WpL_enter rfl rfl (by decide) (r_callF (vs := [(.slice la2 ((sortR D).length) lc2), (.func (.func 25) #[] #[])]) Tryz.func185 nm185 bd185 rfl) ((cmpct_c w9 _ base2 S _ _ (sortR D) qs E3 hown3 hrs3 hSb (by omega) (fun w x y xs ys hx hy => CallV.mk (first := #[]) (cap := #[]) Tryz.func25 nm25 bd25 rfl (resame_c _ x y w xs ys (Nat.le_refl _) hx hy))).mono (R' := fun r w => ∃ la lc rows', r = .slice la G.length lc ∧ w.ownsRow base2 TRe 6 r G.length rows'.flatten ∧ RowsIn S w9 G rows' ∧ Chg (fun x => base2 ≤ x) ws w) (fun r w h9 => by rw [hG]; exact h9)) ?_
  rintro _ wc ⟨la4, lc4, rows4, rfl, hown4, hrs4, Cc⟩
  replace Bz := Cc.keep (by omega) Bz
  replace Bo := Cc.keep (by omega) Bo
  replace E := E.step Cc (by intro x hx hm; omega)
  replace E3 := E3.step Cc (by intro x hx hm; omega)
  obtain ⟨hoc, hocl⟩ := own_res hown4 (hrs4.ext E3) rfl
  refine qA (.slice la4 G.length lc4) rfl ?_
  refine WpL_nil (Wp_seq (Wp_seq_region ?_))
  refine qM (.slice la4 G.length lc4) rfl ?_
  refine qV (r_lenSlice (ad := la4) (n := G.length) (cap := lc4) Tryz.underlying23 rfl) ?_
  refine WpL_nil (Wp_block (Wp_seq_region ?_))
  refine qV (r_eql (k := .i64) (a := (G.length : Int)) (b := 0) rfl rfl) ?_
  refine qA (.bool (decide (((G.length : Int) : Int) = 0))) rfl ?_
  refine WpL_nil ?_
  refine Wp_cond (b := decide (((G.length : Int) : Int) = 0)) rfl (fun h0l => ?_) (fun h0l => ?_)
  ·have kh0l := h0l
   replace h0l := of_decide_eq_true h0l
   have hS5 : Chg (fun y => y = bo) (wc) (wc) := Chg.refl _ _
   have hz9 := ReIn.ext E zt hz0
   refine Wp_seq_region ?_
   refine qV (r_loadAgg (vs := [(I6 zt.kind), (.slice zsa zt.set.length zsc), (.slice zaa zt.args.length zac), (I6 zt.mn), (I6 zt.mx), (.bool zt.neg)]) rfl agg25 siz25 rfl (Bz.cells rfl)) ?_
   refine s_storeAgg (b := bo) (o := 0) (c' := (R6 zt zsa zsc zaa zac)) rfl rfl (by simp [Value.oneCell']) siz25 rfl Bo (by first | (simp; done) | exact Nat.le_of_ble_eq_true rfl) rfl ?_
   intro w4 S4
   replace hS5 := S4.chg
   replace Bz := S4.keep (by omega) Bz
   replace E := S4.step E (by first | exact Or.inl (by omega) | exact Or.inr rfl | exact Or.inr (by assumption) | exact Or.inr (by simp) | exact Or.inr (by omega) | exact Or.inr (by dsimp only; omega))
   replace Bo := S4.blk
   refine WpL_nil (Wp_ret (inB_ret (thn_ret ?_)))
   refine fin_agg Tryz.results161 (vs := [(.int .i64 zt.kind), (.slice zsa zt.set.length zsc), (.slice zaa zt.args.length zac), (.int .i64 zt.mn), (.int .i64 zt.mx), (.bool zt.neg)]) (b := bo) rfl agg25 siz25 rfl (Bo.cells rfl) ?_
   exact ⟨⟨_, rfl, by show ReIn _ _ (wrapT k zt G) _; rw [hw0 (by omega)]; exact ReIn.mono (fun y hy => .inl hy) zt (ReIn.chg hS5 (fun y hy h => by have h1 := hS y hy; have h2 : y = bo := h; omega) zt hz9)⟩, E⟩
  ·have kh0l := h0l
   replace h0l := of_decide_eq_false h0l
   refine Wp_seq_region ?_
   refine qV (r_eql (k := .i64) (a := (G.length : Int)) (b := 1) rfl rfl) ?_
   refine qA (.bool (decide (((G.length : Int) : Int) = 1))) rfl ?_
   refine WpL_nil ?_
   refine Wp_cond (b := decide (((G.length : Int) : Int) = 1)) rfl (fun h1l => ?_) (fun h1l => ?_)
   ·have kh1l := h1l
    replace h1l := of_decide_eq_true h1l
    obtain ⟨x, hx⟩ := get_of_lt (l := G) (i := 0) (by omega)
    obtain ⟨lb, hlb1, hlb2, hlb3, hcl⟩ := hocl.resolve_left (fun h => by rw [h] at hx; simp at hx)
    subst hlb3
    obtain ⟨xs, hcx, hrx⟩ := hcl 0 x hx
    have hrx0 := hrx
    obtain ⟨sa, sc, aa, ac, rfl, _, _, _⟩ := hrx.form
    have hS5 : Chg (fun y => y = bo) (wc) (wc) := Chg.refl _ _
    refine Wp_seq_region ?_
    refine qM (.slice (some ⟨lb, 0, none⟩) G.length lc4) rfl ?_
    refine qV (r_indexSlice (b := lb) (o := 0) (len := G.length) (cap := lc4) (i := 0) (o' := 0) rfl rfl rfl Tryz.underlying23 siz25 (by omega) (by omega)) ?_
    refine qV (r_loadAgg (vs := [(I6 x.kind), (.slice sa x.set.length sc), (.slice aa x.args.length ac), (I6 x.mn), (I6 x.mx), (.bool x.neg)]) rfl agg25 siz25 rfl (hcx)) ?_
    refine s_storeAgg (b := bo) (o := 0) (c' := (R6 x sa sc aa ac)) rfl rfl (by simp [Value.oneCell']) siz25 rfl Bo (by first | (simp; done) | exact Nat.le_of_ble_eq_true rfl) rfl ?_
    intro w6 S6
    replace hS5 := S6.chg
    replace Bz := S6.keep (by omega) Bz
    replace E := S6.step E (by first | exact Or.inl (by omega) | exact Or.inr rfl | exact Or.inr (by assumption) | exact Or.inr (by simp) | exact Or.inr (by omega) | exact Or.inr (by dsimp only; omega))
    replace Bo := S6.blk
    refine WpL_nil (Wp_ret (inB_ret (thn_ret ?_)))
    refine fin_agg Tryz.results161 (vs := [(.int .i64 x.kind), (.slice sa x.set.length sc), (.slice aa x.args.length ac), (.int .i64 x.mn), (.int .i64 x.mx), (.bool x.neg)]) (b := bo) rfl agg25 siz25 rfl (Bo.cells rfl) ?_
    exact ⟨⟨_, rfl, by show ReIn _ _ (wrapT k zt G) _; rw [hw1 x (by omega) hx]; exact ReIn.mono (fun y hy => .inl hy) x (ReIn.chg hS5 (fun y hy h => by have h1 := hS y hy; have h2 : y = bo := h; omega) x hrx0)⟩, E⟩
   ·have kh1l := h1l
    replace h1l := of_decide_eq_false h1l
    have hS5 : Chg (fun y => y = bo) (wc) (wc) := Chg.refl _ _
    refine Wp_skip (inB_normal (thn_normal (Wp_seq_region ?_)))
    refine qM (I6 k) rfl ?_
    refine qM (.slice la4 G.length lc4) rfl ?_
    refine qV (r_build (ps := [(0, (I6 k)), (2, (.slice la4 G.length lc4))]) (v := (.agg #[(I6 k), (.slice none 0 0), (.slice la4 G.length lc4), (I6 0), (I6 0), (.bool false)])) rfl (by kernel_rfl)) ?_
    refine s_storeAgg (b := bo) (o := 0) (c' := #[(I6 k), (.slice none 0 0), (.slice la4 G.length lc4), (I6 0), (I6 0), (.bool false)]) rfl rfl (by simp [Value.oneCell']) siz25 rfl Bo (by first | (simp; done) | exact Nat.le_of_ble_eq_true rfl) rfl ?_
    intro w7 S7
    replace hS5 := S7.chg
    replace Bz := S7.keep (by omega) Bz
    replace E := S7.step E (by first | exact Or.inl (by omega) | exact Or.inr rfl | exact Or.inr (by assumption) | exact Or.inr (by simp) | exact Or.inr (by omega) | exact Or.inr (by dsimp only; omega))
    replace Bo := S7.blk
    refine WpL_nil (Wp_ret ?_)
    refine fin_agg Tryz.results161 (vs := [(.int .i64 k), (.slice none 0 0), (.slice la4 G.length lc4), (.int .i64 0), (.int .i64 0), (.bool false)]) (b := bo) rfl agg25 siz25 rfl (Bo.cells rfl) ?_
    refine ⟨⟨_, rfl, ?_⟩, E⟩
    show ReIn _ _ (wrapT k zt G) _
    rw [hw2 (by omega)]
    refine ReIn.of (set := []) (SlIn.nil _ _ _ _ _) hoc ?_
    rcases hocl with h | ⟨ob, hob1, hob2, hob3, hclo⟩
    ·exact .inl h
    ·refine .inr ⟨ob, 0, .inr (by omega), hob3, resin_of fun i t ht => ?_⟩
     obtain ⟨vs, h6, h7⟩ := hclo i t ht
     exact ⟨vs, h6.chg hS5 (fun h => by have h' : ob = bo := h; omega), ReIn.mono (fun y hy => .inl hy) t (ReIn.chg hS5 (fun y hy h => by have h1 := hS y hy; have h2 : y = bo := h; omega) t h7)⟩
end Go.Proofs
namespace Go.Proofs
open Go Go.Eng Go.Sort
set_option maxRecDepth 100000
/-- A value that is an expression within some blocks. -/
def reG (S : Nat → Prop) (x : Re) : Fct := fun v w => ∃ sa sc aa ac, v = .agg #[.int .i64 x.kind, .slice sa x.set.length sc, .slice aa x.args.length ac, .int .i64 x.mn, .int .i64 x.mx, .bool x.neg] ∧ ReIn S w x [.int .i64 x.kind, .slice sa x.set.length sc, .slice aa x.args.length ac, .int .i64 x.mn, .int .i64 x.mx, .bool x.neg]
theorem reG_ext (S : Nat → Prop) (x : Re) : Stable (reG S x) := by
 rintro v w w' e ⟨sa, sc, aa, ac, h1, h2⟩
 exact ⟨sa, sc, aa, ac, h1, ReIn.ext e x h2⟩
theorem reG_of {S S' : Nat → Prop} {x : Re} {v : Value} {w : World} (hS : ∀ b, S' b → S b) (h : ∃ us : List Value, v = .agg us.toArray ∧ ReIn S' w x us) : reG S x v w := by
 obtain ⟨us, rfl, h⟩ := h
 have h2 := ReIn.mono hS x h
 obtain ⟨sa, sc, aa, ac, rfl, _⟩ := h2.form
 exact ⟨sa, sc, aa, ac, rfl, h2⟩
theorem rs_in {S : Nat → Prop} {w : World} {t : Re} {sa aa : Option Addr} {k m x : Int} {n sc n' ac : Nat} {ng : Bool} (h : ReIn S w t [.int .i64 k, .slice sa n sc, .slice aa n' ac, .int .i64 m, .int .i64 x, .bool ng]) : RsIn S w (.slice aa n' ac) t.args := by
 obtain ⟨sa', sc', aa', ac', h1, _, h2, h3⟩ := h.form
 simp only [List.cons.injEq, Value.slice.injEq, and_true] at h1
 obtain ⟨_, _, ⟨rfl, rfl, rfl⟩, _⟩ := h1
 exact ⟨_, _, rfl, h2, h3⟩
theorem rs_mono {S S' : Nat → Prop} {w : World} {v : Value} {ts : List Re} (hs : ∀ b, S b → S' b) (h : RsIn S w v ts) : RsIn S' w v ts := by
 obtain ⟨aa, ac, h1, h2, h3⟩ := h
 refine ⟨aa, ac, h1, h2, ?_⟩
 rcases h3 with h | ⟨b, o, h4, h5, h6⟩
 ·exact .inl h
 ·exact .inr ⟨b, o, hs b h4, h5, ResIn.mono hs ts h6⟩
theorem dall_in (w0 : World) : Ret Tryz.prog 163 #[] w0 fun v w => reG (fun b => w0.heap.size ≤ b) allT v w ∧ Ext w0 w := by
 refine Ret_of Tryz.func163 rfl Tryz.ntmps163 (Nat.le_of_ble_eq_true rfl) ?_
 have E : Chg none1 w0 w0 := Chg.refl _ _
 refine Wp_seq_region ?_
 refine s_alloc (c := #[(I6 0), (.slice none 0 0), (.slice none 0 0), (I6 0), (I6 0), (.bool false)]) (by decide) zer25 rfl ?_
 intro bo wo No
 have Fo := No.ge E
 replace E := E.ext No.ext
 have Bo := No.blk
 refine WpL_nil (Wp_seq_region ?_)
 refine WpL_enter rfl rfl (by decide) (r_callF (vs := []) Tryz.func120 nm120 bd120 rfl) (dnone_c _) ?_
 rintro _ w9 ⟨rfl, X9⟩
 replace Bo := X9.keep Bo
 replace E := E.ext X9
 refine s_buildSlice (ps := [(0, (.agg #[(I6 0), (.slice none 0 0), (.slice none 0 0), (I6 0), (I6 0), (.bool false)]))]) (c := #[(I6 0), (.slice none 0 0), (.slice none 0 0), (I6 0), (I6 0), (.bool false)]) (by decide) rfl Tryz.underlying23 siz25 zer25 (by decide) (by decide) (by kernel_rfl) ?_
 intro bp wp Np
 have Fp := Np.ge E
 have Op_bo := Np.lt Bo
 replace Bo := Np.keep Bo
 replace E := E.ext Np.ext
 have Bp := Np.blk
 refine qV (r_build (ps := [(0, (I6 8)), (2, (.slice (some ⟨bp, 0, none⟩) 1 1))]) (v := (.agg #[(I6 8), (.slice none 0 0), (.slice (some ⟨bp, 0, none⟩) 1 1), (I6 0), (I6 0), (.bool false)])) rfl (by kernel_rfl)) ?_
 refine s_storeAgg (b := bo) (o := 0) (c' := #[(I6 8), (.slice none 0 0), (.slice (some ⟨bp, 0, none⟩) 1 1), (I6 0), (I6 0), (.bool false)]) rfl rfl (by simp [Value.oneCell']) siz25 rfl Bo (by first | (simp; done) | exact Nat.le_of_ble_eq_true rfl) rfl ?_
 intro w1 S1
 replace Bp := S1.keep (by omega) Bp
 replace E := S1.step E (by first | exact Or.inl (by omega) | exact Or.inr rfl | exact Or.inr (by assumption) | exact Or.inr (by simp) | exact Or.inr (by omega) | exact Or.inr (by dsimp only; omega))
 replace Bo := S1.blk
 refine WpL_nil (Wp_ret ?_)
 refine fin_agg Tryz.results163 (vs := [(.int .i64 8), (.slice none 0 0), (.slice (some ⟨bp, 0, none⟩) 1 1), (.int .i64 0), (.int .i64 0), (.bool false)]) (b := bo) rfl agg25 siz25 rfl (Bo.cells rfl) ?_
 exact ⟨⟨_, _, _, _, rfl, ReIn.of (set := []) (args := [noneT]) (SlIn.nil _ _ _ _ _) (by simp) (.inr ⟨bp, 0, by show w0.heap.size ≤ bp; omega, rfl, ResIn.one (Bp.cells rfl) (re_empty _ _ 0)⟩)⟩, E⟩
theorem flat_noNeg {k : Int} {l : List Re} (h : ∀ x ∈ l, SimOk x) : ∀ x ∈ flatT k l, noNeg x = true := fun x hx => by
 obtain ⟨y, hy, ⟨_, h4⟩ | ⟨_, rfl⟩⟩ := flat_mem.1 hx
 ·exact sim_noNeg ((h y hy).a x h4)
 ·exact sim_noNeg (h x hy)
theorem sim_three {x : Re} (h : SimOk x) : (x.kind = 3 ∨ x.kind = 4 ∨ x.kind = 7 → x.args ≠ []) ∧ (x.kind = 8 → x.args ≠ []) := by
 refine ⟨fun hk e => ?_, fun hk e => ?_⟩
 ·have hn := h.n
  rcases hk with hk | hk | hk
  ·have := (hn.k3 hk).1; rw [e] at this; simp at this
  ·have := (hn.k4 hk).1; rw [e] at this; simp at this
  ·have := (hn.k7 hk).1; rw [e] at this; simp at this
 ·obtain ⟨y, hy, _⟩ := h.n.k8 hk
  rw [e] at hy; cases hy
theorem flat_sim {k : Int} {l : List Re} (h : ∀ x ∈ l, SimOk x) : ∀ x ∈ flatT k l, SimOk x := fun x hx => by
 obtain ⟨y, hy, ⟨_, h4⟩ | ⟨_, rfl⟩⟩ := flat_mem.1 hx
 ·exact (h y hy).a x h4
 ·exact h x hy
theorem nodeS_eq (t : Re) : nodeS t = nodeK t.kind t.set t.args t.mn t.mx t.neg := by cases t; rfl
section
variable {t : Re}
theorem ns3 (h : t.kind = 3) : nodeS t = catD t.args := by rw [nodeS_eq]; unfold nodeK; simp [h]
theorem ns4 (h : t.kind = 4) : nodeS t = choR t.kind t.args isAllB isNoneB noneT := by rw [nodeS_eq]; unfold nodeK; simp [h]
theorem ns7 (h : t.kind = 7) : nodeS t = choR t.kind t.args isNoneB isAllB allT := by rw [nodeS_eq]; unfold nodeK; simp [h]
theorem ns5 {x : Re} (h : t.kind = 5) (hx : t.args.headD noneT = x) : nodeS t = if x.kind = 0 ∨ x.kind = 1 then emptyT else if x.kind = 5 then x else t := by rw [nodeS_eq]; unfold nodeK; rw [hx]; simp [h]; cases t; simp [Re.kind] at h; subst h; rfl
theorem ns6 {x : Re} (h : t.kind = 6) (hx : t.args.headD noneT = x) : nodeS t = if t.mx = 0 ∨ x.kind = 1 ∨ (x.kind = 0 ∧ t.mn = 0) then emptyT else if x.kind = 0 ∨ (t.mn = 1 ∧ t.mx = 1) then x else t := by rw [nodeS_eq]; unfold nodeK; rw [hx]; simp [h]; cases t; simp [Re.kind] at h; subst h; rfl
theorem ns8 {x : Re} (h : t.kind = 8) (hx : t.args.headD noneT = x) : nodeS t = if x.kind = 8 then x.args.headD noneT else t := by rw [nodeS_eq]; unfold nodeK; rw [hx]; simp [h]; cases t; simp [Re.kind] at h; subst h; rfl
theorem nsn (h : t.kind ≠ 3 ∧ t.kind ≠ 4 ∧ t.kind ≠ 5 ∧ t.kind ≠ 6 ∧ t.kind ≠ 7 ∧ t.kind ≠ 8) : nodeS t = t := by rw [nodeS_eq]; unfold nodeK; simp [h]; cases t; rfl
end
set_option maxHeartbeats 4000000 in
theorem dnode_c (w0 : World) (S : Nat → Prop) (t : Re) (vs : List Value) (ht : ReIn S w0 t vs) (hS : ∀ x, S x → x < w0.heap.size) (hp : PreN t.kind t.set t.args t.mn t.mx t.neg) (ha : ∀ y ∈ t.args, SimOk y) (hsz : Re.sizes t.args ≤ 1000000) :
  Ret Tryz.prog 115 #[.agg vs.toArray] w0 fun r w => (∃ us, r = .agg us.toArray ∧ ReIn (fun b => S b ∨ w0.heap.size ≤ b) w (nodeS t) us) ∧ Ext w0 w := by
 have ht0 := ht
 obtain ⟨sa, sc, aa, ac, rfl, hset, hlen, hargs⟩ := ht.form
 have hRs : RsIn S w0 (.slice aa t.args.length ac) t.args := rs_in ht0
 obtain ⟨N, hN⟩ : ∃ N, N = nodeS t := ⟨_, rfl⟩
 rw [← hN]
 refine Ret_of Tryz.func115 rfl Tryz.ntmps115 (Nat.le_of_ble_eq_true rfl) ?_
 have E : Chg none1 w0 w0 := Chg.refl _ _
 refine Wp_seq_region ?_
 refine s_box (v := (.agg (R6 t sa sc aa ac))) (c := (R6 t sa sc aa ac)) (by decide) rfl rfl ?_
 intro br wr Nr
 have Fr := Nr.ge E
 replace E := E.ext Nr.ext
 have Br := Nr.blk
 refine s_alloc (c := #[(I6 0), (.slice none 0 0), (.slice none 0 0), (I6 0), (I6 0), (.bool false)]) (by decide) zer25 rfl ?_
 intro bo wo No
 have Fo := No.ge E
 have Oo_br := No.lt Br
 replace Br := No.keep Br
 replace E := E.ext No.ext
 have Bo := No.blk
 refine WpL_nil (Wp_seq (Wp_seq_region ?_))
 refine qF br 0 0 rfl Tryz.underlying25 rfl siz3 rfl ?_
 refine qV (r_load (v := (I6 t.kind)) rfl flat3 (Br.cell rfl)) ?_
 refine WpL_nil (Wp_block (Wp_seq_region ?_))
 refine qV (r_eql (k := .i64) (a := t.kind) (b := 3) rfl rfl) ?_
 refine qA (.bool (decide ((t.kind : Int) = 3))) rfl ?_
 refine WpL_nil ?_
 obtain ⟨n1, hn1⟩ : ∃ n1, n1 = wo.heap.size := ⟨_, rfl⟩
 have hob : br < n1 ∧ bo < n1 ∧ w0.heap.size ≤ bo ∧ w0.heap.size ≤ n1 := ⟨by rw [hn1]; exact Br.lt, by rw [hn1]; exact Bo.lt, by omega, by rw [hn1]; exact E.size⟩
 refine Wp_cond (b := decide ((t.kind : Int) = 3)) rfl (fun h3 => ?_) (fun h3 => ?_)
 ·have kh3 := h3
  replace h3 := of_decide_eq_true h3
  have hN3 : N = catD t.args := hN.trans (ns3 h3)
  refine Wp_seq_region ?_
  refine qF br 0 2 rfl Tryz.underlying25 rfl siz23 rfl ?_
  refine qV (r_load (v := (.slice aa t.args.length ac)) rfl flat23 (Br.cell rfl)) ?_
  refine WpL_enter rfl rfl (by decide) (r_callF (vs := [(.slice aa t.args.length ac)]) Tryz.func118 nm118 bd118 rfl) ((dcat_c _ S _ t.args (hRs.ext E) (fun x hx => by have := hS x hx; have := E.size; omega) (fun x hm hk => (sim_three (ha x hm)).1 (.inl hk)) hsz).mono (R' := fun r w => reG (fun b => S b ∨ n1 ≤ b) N r w ∧ Ext wo w) (fun r w h => ⟨reG_of (S' := fun b => S b ∨ wo.heap.size ≤ b) (fun b hb => by rcases hb with h1 | h1; exact .inl h1; exact .inr (by omega)) (by rw [hN3]; exact h.1), h.2⟩)) ?_
  rintro _ w9 ⟨⟨xa, xc, ya, yc, rfl, hR⟩, X9⟩
  replace Br := X9.keep Br
  replace Bo := X9.keep Bo
  replace E := E.ext X9
  refine s_storeAgg (b := bo) (o := 0) (c' := (R6 N xa xc ya yc)) rfl rfl (by simp [Value.oneCell']) siz25 rfl Bo (by first | (simp; done) | exact Nat.le_of_ble_eq_true rfl) rfl ?_
  intro w2 S2
  replace hR := ReIn.chg S2.chg (fun y hy h => by have h2 : y = bo := h; rcases hy with h1 | h1; have := hS y h1; omega; omega) _ hR
  replace Br := S2.keep (by omega) Br
  replace E := S2.step E (by first | exact Or.inl (by omega) | exact Or.inr rfl | exact Or.inr (by assumption) | exact Or.inr (by simp) | exact Or.inr (by omega) | exact Or.inr (by dsimp only; omega))
  replace Bo := S2.blk
  refine WpL_nil (Wp_ret (inB_ret (thn_ret ?_)))
  refine fin_agg Tryz.results115 (vs := [(.int .i64 N.kind), (.slice xa N.set.length xc), (.slice ya N.args.length yc), (.int .i64 N.mn), (.int .i64 N.mx), (.bool N.neg)]) (b := bo) rfl agg25 siz25 rfl (Bo.cells rfl) ?_
  exact ⟨⟨_, rfl, ReIn.mono (fun y hy => by rcases hy with h1 | h1; exact .inl h1; exact .inr (by omega)) _ hR⟩, E⟩
 ·have kh3 := h3
  replace h3 := of_decide_eq_false h3
  refine Wp_seq_region ?_
  refine qV (r_eql (k := .i64) (a := t.kind) (b := 4) rfl rfl) ?_
  refine qA (.bool (decide ((t.kind : Int) = 4))) rfl ?_
  refine WpL_nil ?_
  refine Wp_cond (b := decide ((t.kind : Int) = 4)) rfl (fun h4 => ?_) (fun h4 => ?_)
  ·have kh4 := h4
   replace h4 := of_decide_eq_true h4
   have hN4 : N = choR t.kind t.args isAllB isNoneB noneT := hN.trans (ns4 h4)
   have hz_4 : w0.heap.size ≤ wo.heap.size := E.size
   have lz_4_br : br < wo.heap.size := Br.lt
   have lz_4_bo : bo < wo.heap.size := Bo.lt
   refine Wp_seq ?_
   obtain ⟨Fs4, hFs4⟩ : ∃ Fs : List Fact, Fs = [.eq (P6 br 0), .eq (I6 t.kind), .eq (P6 br 2), .eq (.slice aa t.args.length ac), .eq (.agg #[(I6 0), (.slice none 0 0), (.slice none 0 0), (I6 0), (I6 0), (.bool false)]), .gen (reG (fun b => S b ∨ n1 ≤ b) N) (reG_ext _ _), .eq undef] := ⟨_, rfl⟩
   refine Wp_dagP [true, true, true, true, true, true, false] [6] [15, 16, 17, 18, 19, 20, 105] [[], [0], [], [2], [], [1, 3, 4], []] Fs4 hFs4 mixed (by kernel_rfl) (by kernel_rfl) (by kernel_rfl) (by kernel_rfl) ?_ ?_
   ·intro wd X0
    refine DagStepsP.cons (fun s' w' X U H => Or.inl ⟨?_, ?_⟩) ?_
    ·exact Guarded_none rfl
    ·exact Does_val (r_fieldAddr (b := br) (o := 0) (o' := 0) (U 1 rfl) Tryz.underlying25 rfl siz3 rfl) (Ext.refl _) rfl
    refine DagStepsP.cons (fun s' w' X U H => Or.inl ⟨?_, ?_⟩) ?_
    ·exact Guarded_none rfl
    ·have e15 : s' 15 = (.pointer (some ⟨br, 0, none⟩)) := H 0 rfl 15 (.eq (.pointer (some ⟨br, 0, none⟩))) rfl (by rw [hFs4]; rfl)
     exact Does_val (r_load (v := (I6 t.kind)) e15 flat3 (((X0.trans X).keep Br).cell rfl)) (Ext.refl _) rfl
    refine DagStepsP.cons (fun s' w' X U H => Or.inl ⟨?_, ?_⟩) ?_
    ·exact Guarded_none rfl
    ·exact Does_val (r_fieldAddr (b := br) (o := 0) (o' := 2) (U 1 rfl) Tryz.underlying25 rfl siz23 rfl) (Ext.refl _) rfl
    refine DagStepsP.cons (fun s' w' X U H => Or.inl ⟨?_, ?_⟩) ?_
    ·exact Guarded_none rfl
    ·have e17 : s' 17 = (.pointer (some ⟨br, 2, none⟩)) := H 2 rfl 17 (.eq (.pointer (some ⟨br, 2, none⟩))) rfl (by rw [hFs4]; rfl)
     exact Does_val (r_load (v := (.slice aa t.args.length ac)) e17 flat23 (((X0.trans X).keep Br).cell rfl)) (Ext.refl _) rfl
    refine DagStepsP.cons (fun s' w' X U H => Or.inl ⟨?_, ?_⟩) ?_
    ·exact Guarded_none rfl
    ·exact Does_enter (r_callF (vs := []) Tryz.func120 nm120 bd120 rfl) (dnone_c _)
    refine DagStepsP.cons (fun s' w' X U H => Or.inl ⟨?_, ?_⟩) ?_
    ·exact Guarded_none rfl
    ·have e16 : s' 16 = (.int .i64 t.kind) := H 1 rfl 16 (.eq (.int .i64 t.kind)) rfl (by rw [hFs4]; rfl)
     have e18 : s' 18 = (.slice aa t.args.length ac) := H 3 rfl 18 (.eq (.slice aa t.args.length ac)) rfl (by rw [hFs4]; rfl)
     have e19 : s' 19 = (.agg #[(.int .i64 0), (.slice none 0 0), (.slice none 0 0), (.int .i64 0), (.int .i64 0), (.bool false)]) := H 4 rfl 19 (.eq (.agg #[(.int .i64 0), (.slice none 0 0), (.slice none 0 0), (.int .i64 0), (.int .i64 0), (.bool false)])) rfl (by rw [hFs4]; rfl)
     exact Does_enter (r_callF (vs := [(I6 t.kind), (.slice aa t.args.length ac), (.func (.func 162) #[] #[]), (.func (.func 136) #[] #[]), (.agg #[(I6 0), (.slice none 0 0), (.slice none 0 0), (I6 0), (I6 0), (.bool false)])]) Tryz.func161 nm161 bd161 (lst5 e16 e18 rfl rfl e19)) ((choice_c _ S t.kind _ _ _ t.args isAllB isNoneB noneT _ (hRs.ext (Ext.trans E (X0.trans X))) (re_empty _ _ _) (fun x hx => by have := hS x hx; have := E.size; have := X0.size; have := X.size; omega) (fun x hm hk => (sim_three (ha x hm)).1 (by omega)) hsz (flat_noNeg ha) (fun w x vs hm hx => CallV.mk (first := #[]) (cap := #[]) Tryz.func162 nm162 bd162 rfl (disall_c w x vs hx (sim_three (ha x hm)).2)) (fun w x vs hm hx => CallV.mk (first := #[]) (cap := #[]) Tryz.func136 nm136 bd136 rfl (disnone_c w x vs hx))).mono (fun r w h => ⟨reG_of (S' := fun b => S b ∨ w'.heap.size ≤ b) (fun b hb => by rcases hb with h1 | h1; exact .inl h1; exact .inr (by have := X0.size; have := X.size; omega)) (by rw [hN4]; exact h.1), h.2⟩))
    refine DagStepsP.tail ?_
    exact DagStepsP.nil
   ·intro s' w4 X4 U H
    obtain ⟨xa20, xc20, ya20, yc20, e20, r20⟩ := H 5 rfl 20 (.gen (reG (fun b => S b ∨ n1 ≤ b) N) (reG_ext _ _)) rfl (by rw [hFs4]; rfl)
    obtain ⟨j4, rfl⟩ := Fits.out (σ := s') (l := [(2, (.pointer (some ⟨bo, 0, none⟩))), (20, (.agg #[(.int .i64 N.kind), (.slice xa20 N.set.length xc20), (.slice ya20 N.args.length yc20), (.int .i64 N.mn), (.int .i64 N.mx), (.bool N.neg)]))]) ⟨U 2 rfl, e20, trivial⟩
    clear U H
    replace Br := X4.keep Br
    replace Bo := X4.keep Bo
    replace E := E.ext X4
    refine s_storeAgg (b := bo) (o := 0) (c' := (R6 N xa20 xc20 ya20 yc20)) rfl rfl (by simp [Value.oneCell']) siz25 rfl Bo (by first | (simp; done) | exact Nat.le_of_ble_eq_true rfl) rfl ?_
    intro w5 S5
    replace r20 := ReIn.chg S5.chg (fun y hy h => by have h2 : y = bo := h; rcases hy with h1 | h1; have := hS y h1; omega; omega) _ r20
    replace Br := S5.keep (by omega) Br
    replace E := S5.step E (by first | exact Or.inl (by omega) | exact Or.inr rfl | exact Or.inr (by assumption) | exact Or.inr (by simp) | exact Or.inr (by omega) | exact Or.inr (by dsimp only; omega))
    replace Bo := S5.blk
    refine WpL_nil (thn_normal (Wp_ret (inB_ret (thn_ret ?_))))
    refine fin_agg Tryz.results115 (vs := [(.int .i64 N.kind), (.slice xa20 N.set.length xc20), (.slice ya20 N.args.length yc20), (.int .i64 N.mn), (.int .i64 N.mx), (.bool N.neg)]) (b := bo) rfl agg25 siz25 rfl (Bo.cells rfl) ?_
    exact ⟨⟨_, rfl, ReIn.mono (fun y hy => by rcases hy with h1 | h1; exact .inl h1; exact .inr (by omega)) _ r20⟩, E⟩
  ·have kh4 := h4
   replace h4 := of_decide_eq_false h4
   refine Wp_seq_region ?_
   refine qV (r_eql (k := .i64) (a := t.kind) (b := 7) rfl rfl) ?_
   refine qA (.bool (decide ((t.kind : Int) = 7))) rfl ?_
   refine WpL_nil ?_
   refine Wp_cond (b := decide ((t.kind : Int) = 7)) rfl (fun h7 => ?_) (fun h7 => ?_)
   ·have kh7 := h7
    replace h7 := of_decide_eq_true h7
    have hN7 : N = choR t.kind t.args isNoneB isAllB allT := hN.trans (ns7 h7)
    have hz_7 : w0.heap.size ≤ wo.heap.size := E.size
    have lz_7_br : br < wo.heap.size := Br.lt
    have lz_7_bo : bo < wo.heap.size := Bo.lt
    refine Wp_seq ?_
    obtain ⟨Fs7, hFs7⟩ : ∃ Fs : List Fact, Fs = [.eq (P6 br 0), .eq (I6 t.kind), .eq (P6 br 2), .eq (.slice aa t.args.length ac), .gen (reG (fun b => S b ∨ n1 ≤ b) allT) (reG_ext _ _), .gen (reG (fun b => S b ∨ n1 ≤ b) N) (reG_ext _ _), .eq undef] := ⟨_, rfl⟩
    refine Wp_dagP [true, true, true, true, true, true, false] [6] [23, 24, 25, 26, 27, 28, 105] [[], [0], [], [2], [], [1, 3, 4], []] Fs7 hFs7 mixed (by kernel_rfl) (by kernel_rfl) (by kernel_rfl) (by kernel_rfl) ?_ ?_
    ·intro wd X0
     refine DagStepsP.cons (fun s' w' X U H => Or.inl ⟨?_, ?_⟩) ?_
     ·exact Guarded_none rfl
     ·exact Does_val (r_fieldAddr (b := br) (o := 0) (o' := 0) (U 1 rfl) Tryz.underlying25 rfl siz3 rfl) (Ext.refl _) rfl
     refine DagStepsP.cons (fun s' w' X U H => Or.inl ⟨?_, ?_⟩) ?_
     ·exact Guarded_none rfl
     ·have e23 : s' 23 = (.pointer (some ⟨br, 0, none⟩)) := H 0 rfl 23 (.eq (.pointer (some ⟨br, 0, none⟩))) rfl (by rw [hFs7]; rfl)
      exact Does_val (r_load (v := (I6 t.kind)) e23 flat3 (((X0.trans X).keep Br).cell rfl)) (Ext.refl _) rfl
     refine DagStepsP.cons (fun s' w' X U H => Or.inl ⟨?_, ?_⟩) ?_
     ·exact Guarded_none rfl
     ·exact Does_val (r_fieldAddr (b := br) (o := 0) (o' := 2) (U 1 rfl) Tryz.underlying25 rfl siz23 rfl) (Ext.refl _) rfl
     refine DagStepsP.cons (fun s' w' X U H => Or.inl ⟨?_, ?_⟩) ?_
     ·exact Guarded_none rfl
     ·have e25 : s' 25 = (.pointer (some ⟨br, 2, none⟩)) := H 2 rfl 25 (.eq (.pointer (some ⟨br, 2, none⟩))) rfl (by rw [hFs7]; rfl)
      exact Does_val (r_load (v := (.slice aa t.args.length ac)) e25 flat23 (((X0.trans X).keep Br).cell rfl)) (Ext.refl _) rfl
     refine DagStepsP.cons (fun s' w' X U H => Or.inl ⟨?_, ?_⟩) ?_
     ·exact Guarded_none rfl
     ·exact Does_enter (r_callF (vs := []) Tryz.func163 nm163 bd163 rfl) ((dall_in _).mono (fun r w h => ⟨(by obtain ⟨⟨a1, a2, a3, a4, h1, h2⟩, _⟩ := h; exact ⟨a1, a2, a3, a4, h1, ReIn.mono (fun b hb => .inr (by have := X0.size; have := X.size; have hb' : _ ≤ b := hb; omega)) _ h2⟩ : reG (fun b => S b ∨ n1 ≤ b) allT r w), h.2⟩))
     refine DagStepsP.cons (fun s' w' X U H => Or.inl ⟨?_, ?_⟩) ?_
     ·exact Guarded_none rfl
     ·have e24 : s' 24 = (.int .i64 t.kind) := H 1 rfl 24 (.eq (.int .i64 t.kind)) rfl (by rw [hFs7]; rfl)
      have e26 : s' 26 = (.slice aa t.args.length ac) := H 3 rfl 26 (.eq (.slice aa t.args.length ac)) rfl (by rw [hFs7]; rfl)
      obtain ⟨za27, zc27, ua27, uc27, e27, r27⟩ := H 4 rfl 27 (.gen (reG (fun b => S b ∨ n1 ≤ b) allT) (reG_ext _ _)) rfl (by rw [hFs7]; rfl)
      exact Does_enter (r_callF (vs := [(I6 t.kind), (.slice aa t.args.length ac), (.func (.func 136) #[] #[]), (.func (.func 162) #[] #[]), (.agg (R6 allT za27 zc27 ua27 uc27))]) Tryz.func161 nm161 bd161 (lst5 e24 e26 rfl rfl e27)) ((choice_c _ (fun b => (S b ∨ n1 ≤ b) ∧ b < w'.heap.size) t.kind _ _ _ t.args isNoneB isAllB allT _ (RsIn.lt (rs_mono (fun b hb => .inl hb) (hRs.ext (Ext.trans E (X0.trans X))))) (ReIn.lt _ r27) (fun x hx => hx.2) (fun x hm hk => (sim_three (ha x hm)).1 (by omega)) hsz (flat_noNeg ha) (fun w x vs hm hx => CallV.mk (first := #[]) (cap := #[]) Tryz.func136 nm136 bd136 rfl (disnone_c w x vs hx)) (fun w x vs hm hx => CallV.mk (first := #[]) (cap := #[]) Tryz.func162 nm162 bd162 rfl (disall_c w x vs hx (sim_three (flat_sim ha x hm)).2))).mono (fun r w h => ⟨reG_of (S' := fun b => ((S b ∨ n1 ≤ b) ∧ b < w'.heap.size) ∨ w'.heap.size ≤ b) (fun b hb => by rcases hb with h1 | h1; exact h1.1; exact .inr (by have := X0.size; have := X.size; omega)) (by rw [hN7]; exact h.1), h.2⟩))
     refine DagStepsP.tail ?_
     exact DagStepsP.nil
    ·intro s' w7 X7 U H
     obtain ⟨xa28, xc28, ya28, yc28, e28, r28⟩ := H 5 rfl 28 (.gen (reG (fun b => S b ∨ n1 ≤ b) N) (reG_ext _ _)) rfl (by rw [hFs7]; rfl)
     obtain ⟨j7, rfl⟩ := Fits.out (σ := s') (l := [(2, (.pointer (some ⟨bo, 0, none⟩))), (28, (.agg #[(.int .i64 N.kind), (.slice xa28 N.set.length xc28), (.slice ya28 N.args.length yc28), (.int .i64 N.mn), (.int .i64 N.mx), (.bool N.neg)]))]) ⟨U 2 rfl, e28, trivial⟩
     clear U H
     replace Br := X7.keep Br
     replace Bo := X7.keep Bo
     replace E := E.ext X7
     refine s_storeAgg (b := bo) (o := 0) (c' := (R6 N xa28 xc28 ya28 yc28)) rfl rfl (by simp [Value.oneCell']) siz25 rfl Bo (by first | (simp; done) | exact Nat.le_of_ble_eq_true rfl) rfl ?_
     intro w8 S8
     replace r28 := ReIn.chg S8.chg (fun y hy h => by have h2 : y = bo := h; rcases hy with h1 | h1; have := hS y h1; omega; omega) _ r28
     replace Br := S8.keep (by omega) Br
     replace E := S8.step E (by first | exact Or.inl (by omega) | exact Or.inr rfl | exact Or.inr (by assumption) | exact Or.inr (by simp) | exact Or.inr (by omega) | exact Or.inr (by dsimp only; omega))
     replace Bo := S8.blk
     refine WpL_nil (thn_normal (Wp_ret (inB_ret (thn_ret ?_))))
     refine fin_agg Tryz.results115 (vs := [(.int .i64 N.kind), (.slice xa28 N.set.length xc28), (.slice ya28 N.args.length yc28), (.int .i64 N.mn), (.int .i64 N.mx), (.bool N.neg)]) (b := bo) rfl agg25 siz25 rfl (Bo.cells rfl) ?_
     exact ⟨⟨_, rfl, ReIn.mono (fun y hy => by rcases hy with h1 | h1; exact .inl h1; exact .inr (by omega)) _ r28⟩, E⟩
   ·have kh7 := h7
    replace h7 := of_decide_eq_false h7
    refine Wp_seq_region ?_
    refine qV (r_eql (k := .i64) (a := t.kind) (b := 5) rfl rfl) ?_
    refine qA (.bool (decide ((t.kind : Int) = 5))) rfl ?_
    refine WpL_nil ?_
    refine Wp_cond (b := decide ((t.kind : Int) = 5)) rfl (fun h5 => ?_) (fun h5 => ?_)
    ·have kh5 := h5
     replace h5 := of_decide_eq_true h5
     have hone := hp.one (by omega)
     obtain ⟨x, hx⟩ := get_of_lt (l := t.args) (i := 0) (by omega)
     have hxm := List.mem_of_getElem? hx
     have hxo := ha x hxm
     have hhd : t.args.headD noneT = x := headD_get hx
     obtain ⟨ab, ao, hab, rfl, hres⟩ := hargs.resolve_left (fun h => by rw [h] at hx; cases hx)
     obtain ⟨us, hus, hxt⟩ := hres.get hx
     have hxt0 := hxt
     obtain ⟨xsa, xsc, xaa, xac, rfl, _, hxlen, hxargs⟩ := hxt.form
     refine Wp_seq_region ?_
     refine qF br 0 2 rfl Tryz.underlying25 rfl siz23 rfl ?_
     refine qV (r_load (v := (.slice (some ⟨ab, ao, none⟩) t.args.length ac)) rfl flat23 (Br.cell rfl)) ?_
     refine qV (r_indexSlice (b := ab) (o := ao) (len := t.args.length) (cap := ac) (i := 0) (o' := ao + 0 * 6) rfl rfl rfl Tryz.underlying23 siz25 (by omega) (by omega)) ?_
     refine qV (r_loadAgg (vs := [(I6 x.kind), (.slice xsa x.set.length xsc), (.slice xaa x.args.length xac), (I6 x.mn), (I6 x.mx), (.bool x.neg)]) rfl agg25 siz25 rfl (hus.ext E)) ?_
     have hN5 := hN.trans (ns5 h5 hhd)
     refine s_allocStore (v := (.agg (R6 x xsa xsc xaa xac))) (c := (R6 x xsa xsc xaa xac)) (n := 6) (by decide) zer25 rfl siz25 rfl rfl rfl (by simp [Value.oneCell']) ?_
     intro bx wx Nx
     have Fx := Nx.ge E
     have Ox_br := Nx.lt Br
     have Ox_bo := Nx.lt Bo
     replace Br := Nx.keep Br
     replace Bo := Nx.keep Bo
     replace E := E.ext Nx.ext
     have Bx := Nx.blk
     refine WpL_nil (Wp_seq_region ?_)
     refine qF bx 0 0 rfl Tryz.underlying25 rfl siz3 rfl ?_
     refine qV (r_load (v := (I6 x.kind)) rfl flat3 (Bx.cell rfl)) ?_
     refine WpL_nil (Wp_block (Wp_seq (Wp_seq_region ?_)))
     refine qV (r_eql (k := .i64) (a := x.kind) (b := 0) rfl rfl) ?_
     refine qA (.bool (decide ((x.kind : Int) = 0))) rfl ?_
     refine WpL_nil ?_
     refine Wp_cond (b := decide ((x.kind : Int) = 0)) rfl (fun k0 => ?_) (fun k0 => ?_)
     ·have kk0 := k0
      replace k0 := of_decide_eq_true k0
      have hN1 : N = emptyT := by rw [hN5, if_pos (.inl k0)]
      refine Wp_skip (thn_normal ?_)
      refine Wp_cond_true (congrArg Value.bool kk0) ?_
      refine Wp_seq_region ?_
      refine WpL_enter rfl rfl (by decide) (r_callF (vs := []) Tryz.func117 nm117 bd117 rfl) (dempty_c _) ?_
      rintro _ w29 ⟨rfl, X29⟩
      replace Br := X29.keep Br
      replace Bo := X29.keep Bo
      replace Bx := X29.keep Bx
      replace E := E.ext X29
      refine s_storeAgg (b := bo) (o := 0) (c' := #[(I6 1), (.slice none 0 0), (.slice none 0 0), (I6 0), (I6 0), (.bool false)]) rfl rfl (by simp [Value.oneCell']) siz25 rfl Bo (by first | (simp; done) | exact Nat.le_of_ble_eq_true rfl) rfl ?_
      intro w11 S11
      replace Br := S11.keep (by omega) Br
      replace Bx := S11.keep (by omega) Bx
      replace E := S11.step E (by first | exact Or.inl (by omega) | exact Or.inr rfl | exact Or.inr (by assumption) | exact Or.inr (by simp) | exact Or.inr (by omega) | exact Or.inr (by dsimp only; omega))
      replace Bo := S11.blk
      refine WpL_nil (Wp_ret (inB_ret (inB_ret (thn_ret ?_))))
      refine fin_agg Tryz.results115 (vs := [(.int .i64 1), (.slice none 0 0), (.slice none 0 0), (.int .i64 0), (.int .i64 0), (.bool false)]) (b := bo) rfl agg25 siz25 rfl (Bo.cells rfl) ?_
      exact ⟨⟨_, rfl, by rw [hN1]; exact re_empty _ _ _⟩, E⟩
     ·have kk0 := k0
      replace k0 := of_decide_eq_false k0
      refine Wp_region ?_
      refine qV (r_eql (k := .i64) (a := x.kind) (b := 1) rfl rfl) ?_
      refine qA (.bool (decide ((x.kind : Int) = 1))) rfl ?_
      refine WpL_nil (thn_normal ?_)
      refine Wp_cond (b := decide ((x.kind : Int) = 1)) rfl (fun k1 => ?_) (fun k1 => ?_)
      ·have kk1 := k1
       replace k1 := of_decide_eq_true k1
       have hN1 : N = emptyT := by rw [hN5, if_pos (.inr k1)]
       refine Wp_seq_region ?_
       refine WpL_enter rfl rfl (by decide) (r_callF (vs := []) Tryz.func117 nm117 bd117 rfl) (dempty_c _) ?_
       rintro _ w29 ⟨rfl, X29⟩
       replace Br := X29.keep Br
       replace Bo := X29.keep Bo
       replace Bx := X29.keep Bx
       replace E := E.ext X29
       refine s_storeAgg (b := bo) (o := 0) (c' := #[(I6 1), (.slice none 0 0), (.slice none 0 0), (I6 0), (I6 0), (.bool false)]) rfl rfl (by simp [Value.oneCell']) siz25 rfl Bo (by first | (simp; done) | exact Nat.le_of_ble_eq_true rfl) rfl ?_
       intro w13 S13
       replace Br := S13.keep (by omega) Br
       replace Bx := S13.keep (by omega) Bx
       replace E := S13.step E (by first | exact Or.inl (by omega) | exact Or.inr rfl | exact Or.inr (by assumption) | exact Or.inr (by simp) | exact Or.inr (by omega) | exact Or.inr (by dsimp only; omega))
       replace Bo := S13.blk
       refine WpL_nil (Wp_ret (inB_ret (inB_ret (thn_ret ?_))))
       refine fin_agg Tryz.results115 (vs := [(.int .i64 1), (.slice none 0 0), (.slice none 0 0), (.int .i64 0), (.int .i64 0), (.bool false)]) (b := bo) rfl agg25 siz25 rfl (Bo.cells rfl) ?_
       exact ⟨⟨_, rfl, by rw [hN1]; exact re_empty _ _ _⟩, E⟩
      ·have kk1 := k1
       replace k1 := of_decide_eq_false k1
       refine Wp_seq_region ?_
       refine qV (r_eql (k := .i64) (a := x.kind) (b := 5) rfl rfl) ?_
       refine qA (.bool (decide ((x.kind : Int) = 5))) rfl ?_
       refine WpL_nil ?_
       refine Wp_cond (b := decide ((x.kind : Int) = 5)) rfl (fun k5 => ?_) (fun k5 => ?_)
       ·have kk5 := k5
        replace k5 := of_decide_eq_true k5
        have hN1 : N = x := by rw [hN5, if_neg (by omega), if_pos k5]
        have hR : ReIn S (wx) x _ := ReIn.ext E x hxt0
        refine Wp_seq_region ?_
        refine qV (r_loadAgg (vs := [(I6 x.kind), (.slice xsa x.set.length xsc), (.slice xaa x.args.length xac), (I6 x.mn), (I6 x.mx), (.bool x.neg)]) rfl agg25 siz25 rfl (Bx.cells rfl)) ?_
        refine s_storeAgg (b := bo) (o := 0) (c' := (R6 x xsa xsc xaa xac)) rfl rfl (by simp [Value.oneCell']) siz25 rfl Bo (by first | (simp; done) | exact Nat.le_of_ble_eq_true rfl) rfl ?_
        intro w15 S15
        replace hR := ReIn.chg S15.chg (fun y hy h => by have h2 : y = bo := h; have := hS y hy; omega) x hR
        replace Br := S15.keep (by omega) Br
        replace Bx := S15.keep (by omega) Bx
        replace E := S15.step E (by first | exact Or.inl (by omega) | exact Or.inr rfl | exact Or.inr (by assumption) | exact Or.inr (by simp) | exact Or.inr (by omega) | exact Or.inr (by dsimp only; omega))
        replace Bo := S15.blk
        refine WpL_nil (Wp_ret (inB_ret (inB_ret (thn_ret ?_))))
        refine fin_agg Tryz.results115 (vs := [(.int .i64 x.kind), (.slice xsa x.set.length xsc), (.slice xaa x.args.length xac), (.int .i64 x.mn), (.int .i64 x.mx), (.bool x.neg)]) (b := bo) rfl agg25 siz25 rfl (Bo.cells rfl) ?_
        exact ⟨⟨_, rfl, by rw [hN1]; exact ReIn.mono (fun y hy => .inl hy) x hR⟩, E⟩
       ·have kk5 := k5
        replace k5 := of_decide_eq_false k5
        have hN1 : N = t := by rw [hN5, if_neg (by omega), if_neg k5]
        have hR : ReIn S (wx) t _ := ReIn.ext E t ht0
        refine Wp_skip (inB_normal (inB_normal (thn_normal (Wp_seq_region ?_))))
        refine qV (r_loadAgg (vs := [(I6 t.kind), (.slice sa t.set.length sc), (.slice (some ⟨ab, ao, none⟩) t.args.length ac), (I6 t.mn), (I6 t.mx), (.bool t.neg)]) rfl agg25 siz25 rfl (Br.cells rfl)) ?_
        refine s_storeAgg (b := bo) (o := 0) (c' := (R6 t sa sc (some ⟨ab, ao, none⟩) ac)) rfl rfl (by simp [Value.oneCell']) siz25 rfl Bo (by first | (simp; done) | exact Nat.le_of_ble_eq_true rfl) rfl ?_
        intro w16 S16
        replace hR := ReIn.chg S16.chg (fun y hy h => by have h2 : y = bo := h; have := hS y hy; omega) t hR
        replace Br := S16.keep (by omega) Br
        replace Bx := S16.keep (by omega) Bx
        replace E := S16.step E (by first | exact Or.inl (by omega) | exact Or.inr rfl | exact Or.inr (by assumption) | exact Or.inr (by simp) | exact Or.inr (by omega) | exact Or.inr (by dsimp only; omega))
        replace Bo := S16.blk
        refine WpL_nil (Wp_ret ?_)
        refine fin_agg Tryz.results115 (vs := [(.int .i64 t.kind), (.slice sa t.set.length sc), (.slice (some ⟨ab, ao, none⟩) t.args.length ac), (.int .i64 t.mn), (.int .i64 t.mx), (.bool t.neg)]) (b := bo) rfl agg25 siz25 rfl (Bo.cells rfl) ?_
        exact ⟨⟨_, rfl, by rw [hN1]; exact ReIn.mono (fun y hy => .inl hy) t hR⟩, E⟩
    ·have kh5 := h5
     replace h5 := of_decide_eq_false h5
     refine Wp_seq_region ?_
     refine qV (r_eql (k := .i64) (a := t.kind) (b := 6) rfl rfl) ?_
     refine qA (.bool (decide ((t.kind : Int) = 6))) rfl ?_
     refine WpL_nil ?_
     refine Wp_cond (b := decide ((t.kind : Int) = 6)) rfl (fun h6 => ?_) (fun h6 => ?_)
     ·have kh6 := h6
      replace h6 := of_decide_eq_true h6
      have hone := hp.one (by omega)
      obtain ⟨x, hx⟩ := get_of_lt (l := t.args) (i := 0) (by omega)
      have hxm := List.mem_of_getElem? hx
      have hxo := ha x hxm
      have hhd : t.args.headD noneT = x := headD_get hx
      obtain ⟨ab, ao, hab, rfl, hres⟩ := hargs.resolve_left (fun h => by rw [h] at hx; cases hx)
      obtain ⟨us, hus, hxt⟩ := hres.get hx
      have hxt0 := hxt
      obtain ⟨xsa, xsc, xaa, xac, rfl, _, hxlen, hxargs⟩ := hxt.form
      refine Wp_seq_region ?_
      refine qF br 0 2 rfl Tryz.underlying25 rfl siz23 rfl ?_
      refine qV (r_load (v := (.slice (some ⟨ab, ao, none⟩) t.args.length ac)) rfl flat23 (Br.cell rfl)) ?_
      refine qV (r_indexSlice (b := ab) (o := ao) (len := t.args.length) (cap := ac) (i := 0) (o' := ao + 0 * 6) rfl rfl rfl Tryz.underlying23 siz25 (by omega) (by omega)) ?_
      refine qV (r_loadAgg (vs := [(I6 x.kind), (.slice xsa x.set.length xsc), (.slice xaa x.args.length xac), (I6 x.mn), (I6 x.mx), (.bool x.neg)]) rfl agg25 siz25 rfl (hus.ext E)) ?_
      have hN6 := hN.trans (ns6 h6 hhd)
      refine s_allocStore (v := (.agg (R6 x xsa xsc xaa xac))) (c := (R6 x xsa xsc xaa xac)) (n := 6) (by decide) zer25 rfl siz25 rfl rfl rfl (by simp [Value.oneCell']) ?_
      intro bx wx Nx
      have Fx := Nx.ge E
      have Ox_br := Nx.lt Br
      have Ox_bo := Nx.lt Bo
      replace Br := Nx.keep Br
      replace Bo := Nx.keep Bo
      replace E := E.ext Nx.ext
      have Bx := Nx.blk
      refine WpL_nil (Wp_block (Wp_seq_region ?_))
      refine qF br 0 4 rfl Tryz.underlying25 rfl siz3 rfl ?_
      refine qV (r_load (v := (I6 t.mx)) rfl flat3 (Br.cell rfl)) ?_
      refine qV (r_eql (k := .i64) (a := t.mx) (b := 0) rfl rfl) ?_
      refine qM (.bool (decide ((t.mx : Int) = 0))) rfl ?_
      rcases Bool.eq_false_or_eq_true (decide ((t.mx : Int) = 0)) with gm | gm
      ·have kgm := gm
       replace kgm := of_decide_eq_true kgm
       have hN1 : N = emptyT := by rw [hN6, if_pos (.inl kgm)]
       refine WpL_guard_no (oj := _) rfl rfl (by decide) (v := .bool true) (congrArg Value.bool gm) (Or.inl rfl) ?_
       refine WpL_guard_no (oj := _) rfl rfl (by decide) (v := .bool true) (congrArg Value.bool gm) (Or.inl rfl) ?_
       refine WpL_guard_no (oj := _) rfl rfl (by decide) (v := .bool true) (congrArg Value.bool gm) (Or.inl rfl) ?_
       refine qV (r_pick (b := decide ((t.mx : Int) = 0)) (v := (.bool true)) rfl (by rw [gm]; rfl)) ?_
       refine qM (.bool true) rfl ?_
       refine WpL_guard_no (oj := _) rfl rfl (by decide) (v := .bool true) rfl (Or.inl rfl) ?_
       refine WpL_guard_no (oj := _) rfl rfl (by decide) (v := .bool true) rfl (Or.inl rfl) ?_
       refine WpL_guard_no (oj := _) rfl rfl (by decide) (v := .bool true) rfl (Or.inl rfl) ?_
       refine WpL_guard_no (oj := _) rfl rfl (by decide) (v := .bool true) rfl (Or.inl rfl) ?_
       refine WpL_guard_no (oj := _) rfl rfl (by decide) (v := undef) rfl (Or.inr rfl) ?_
       refine WpL_guard_no (oj := _) rfl rfl (by decide) (v := undef) rfl (Or.inr rfl) ?_
       refine WpL_guard_no (oj := _) rfl rfl (by decide) (v := undef) rfl (Or.inr rfl) ?_
       refine WpL_guard_no (oj := _) rfl rfl (by decide) (v := .bool true) rfl (Or.inl rfl) ?_
       refine qV (r_pick (b := true) (v := (.bool true)) rfl rfl) ?_
       refine qA (.bool true) rfl ?_
       refine WpL_nil ?_
       refine Wp_cond_true rfl ?_
       refine Wp_seq_region ?_
       refine WpL_enter rfl rfl (by decide) (r_callF (vs := []) Tryz.func117 nm117 bd117 rfl) (dempty_c _) ?_
       rintro _ w29 ⟨rfl, X29⟩
       replace Br := X29.keep Br
       replace Bo := X29.keep Bo
       replace Bx := X29.keep Bx
       replace E := E.ext X29
       refine s_storeAgg (b := bo) (o := 0) (c' := #[(I6 1), (.slice none 0 0), (.slice none 0 0), (I6 0), (I6 0), (.bool false)]) rfl rfl (by simp [Value.oneCell']) siz25 rfl Bo (by first | (simp; done) | exact Nat.le_of_ble_eq_true rfl) rfl ?_
       intro w19 S19
       replace Br := S19.keep (by omega) Br
       replace Bx := S19.keep (by omega) Bx
       replace E := S19.step E (by first | exact Or.inl (by omega) | exact Or.inr rfl | exact Or.inr (by assumption) | exact Or.inr (by simp) | exact Or.inr (by omega) | exact Or.inr (by dsimp only; omega))
       replace Bo := S19.blk
       refine WpL_nil (Wp_ret (inB_ret (inB_ret (thn_ret ?_))))
       refine fin_agg Tryz.results115 (vs := [(.int .i64 1), (.slice none 0 0), (.slice none 0 0), (.int .i64 0), (.int .i64 0), (.bool false)]) (b := bo) rfl agg25 siz25 rfl (Bo.cells rfl) ?_
       exact ⟨⟨_, rfl, by rw [hN1]; exact re_empty _ _ _⟩, E⟩
      ·have kgm := gm
       replace kgm := of_decide_eq_false kgm
       refine WpL_guard_yes (oj := _) rfl rfl (by decide) (congrArg Value.bool gm) ?_
       refine qF bx 0 0 rfl Tryz.underlying25 rfl siz3 rfl ?_
       refine WpL_guard_yes (oj := _) rfl rfl (by decide) (congrArg Value.bool gm) ?_
       refine qV (r_load (v := (I6 x.kind)) rfl flat3 (Bx.cell rfl)) ?_
       refine WpL_guard_yes (oj := _) rfl rfl (by decide) (congrArg Value.bool gm) ?_
       refine qV (r_eql (k := .i64) (a := x.kind) (b := 1) rfl rfl) ?_
       refine qV (r_pick (b := decide ((t.mx : Int) = 0)) (v := (.bool (decide ((x.kind : Int) = 1)))) rfl (by rw [gm]; rfl)) ?_
       refine qM (.bool (decide ((x.kind : Int) = 1))) rfl ?_
       rcases Bool.eq_false_or_eq_true (decide ((x.kind : Int) = 1)) with g1 | g1
       ·have kg1 := g1
        replace kg1 := of_decide_eq_true kg1
        have hN1 : N = emptyT := by rw [hN6, if_pos (.inr (.inl kg1))]
        refine WpL_guard_no (oj := _) rfl rfl (by decide) (v := .bool true) (congrArg Value.bool g1) (Or.inl rfl) ?_
        refine WpL_guard_no (oj := _) rfl rfl (by decide) (v := .bool true) (congrArg Value.bool g1) (Or.inl rfl) ?_
        refine WpL_guard_no (oj := _) rfl rfl (by decide) (v := .bool true) (congrArg Value.bool g1) (Or.inl rfl) ?_
        refine WpL_guard_no (oj := _) rfl rfl (by decide) (v := .bool true) (congrArg Value.bool g1) (Or.inl rfl) ?_
        refine WpL_guard_no (oj := _) rfl rfl (by decide) (v := undef) rfl (Or.inr rfl) ?_
        refine WpL_guard_no (oj := _) rfl rfl (by decide) (v := undef) rfl (Or.inr rfl) ?_
        refine WpL_guard_no (oj := _) rfl rfl (by decide) (v := undef) rfl (Or.inr rfl) ?_
        refine WpL_guard_no (oj := _) rfl rfl (by decide) (v := .bool true) (congrArg Value.bool g1) (Or.inl rfl) ?_
        refine qV (r_pick (b := decide ((x.kind : Int) = 1)) (v := (.bool true)) rfl (by rw [g1]; rfl)) ?_
        refine qA (.bool true) rfl ?_
        refine WpL_nil ?_
        refine Wp_cond_true rfl ?_
        refine Wp_seq_region ?_
        refine WpL_enter rfl rfl (by decide) (r_callF (vs := []) Tryz.func117 nm117 bd117 rfl) (dempty_c _) ?_
        rintro _ w29 ⟨rfl, X29⟩
        replace Br := X29.keep Br
        replace Bo := X29.keep Bo
        replace Bx := X29.keep Bx
        replace E := E.ext X29
        refine s_storeAgg (b := bo) (o := 0) (c' := #[(I6 1), (.slice none 0 0), (.slice none 0 0), (I6 0), (I6 0), (.bool false)]) rfl rfl (by simp [Value.oneCell']) siz25 rfl Bo (by first | (simp; done) | exact Nat.le_of_ble_eq_true rfl) rfl ?_
        intro w21 S21
        replace Br := S21.keep (by omega) Br
        replace Bx := S21.keep (by omega) Bx
        replace E := S21.step E (by first | exact Or.inl (by omega) | exact Or.inr rfl | exact Or.inr (by assumption) | exact Or.inr (by simp) | exact Or.inr (by omega) | exact Or.inr (by dsimp only; omega))
        replace Bo := S21.blk
        refine WpL_nil (Wp_ret (inB_ret (inB_ret (thn_ret ?_))))
        refine fin_agg Tryz.results115 (vs := [(.int .i64 1), (.slice none 0 0), (.slice none 0 0), (.int .i64 0), (.int .i64 0), (.bool false)]) (b := bo) rfl agg25 siz25 rfl (Bo.cells rfl) ?_
        exact ⟨⟨_, rfl, by rw [hN1]; exact re_empty _ _ _⟩, E⟩
       ·have kg1 := g1
        replace kg1 := of_decide_eq_false kg1
        refine WpL_guard_yes (oj := _) rfl rfl (by decide) (congrArg Value.bool g1) ?_
        refine qF bx 0 0 rfl Tryz.underlying25 rfl siz3 rfl ?_
        refine WpL_guard_yes (oj := _) rfl rfl (by decide) (congrArg Value.bool g1) ?_
        refine qV (r_load (v := (I6 x.kind)) rfl flat3 (Bx.cell rfl)) ?_
        refine WpL_guard_yes (oj := _) rfl rfl (by decide) (congrArg Value.bool g1) ?_
        refine qV (r_eql (k := .i64) (a := x.kind) (b := 0) rfl rfl) ?_
        refine WpL_guard_yes (oj := _) rfl rfl (by decide) (congrArg Value.bool g1) ?_
        refine qM (.bool (decide ((x.kind : Int) = 0))) rfl ?_
        rcases Bool.eq_false_or_eq_true (decide ((x.kind : Int) = 0)) with g0 | g0
        ·have kg0 := g0
         replace kg0 := of_decide_eq_true kg0
         refine WpL_guard_yes (oj := _) rfl rfl (by decide) (congrArg Value.bool g0) ?_
         refine qF br 0 3 rfl Tryz.underlying25 rfl siz3 rfl ?_
         refine WpL_guard_yes (oj := _) rfl rfl (by decide) (congrArg Value.bool g0) ?_
         refine qV (r_load (v := (I6 t.mn)) rfl flat3 (Br.cell rfl)) ?_
         refine WpL_guard_yes (oj := _) rfl rfl (by decide) (congrArg Value.bool g0) ?_
         refine qV (r_eql (k := .i64) (a := t.mn) (b := 0) rfl rfl) ?_
         refine WpL_guard_yes (oj := _) rfl rfl (by decide) (congrArg Value.bool g1) ?_
         refine qV (r_pick (b := decide ((x.kind : Int) = 0)) (v := (.bool (decide ((t.mn : Int) = 0)))) rfl (by rw [g0]; rfl)) ?_
         refine qV (r_pick (b := decide ((x.kind : Int) = 1)) (v := (.bool (decide ((t.mn : Int) = 0)))) rfl (by rw [g1]; rfl)) ?_
         refine qA (.bool (decide ((t.mn : Int) = 0))) rfl ?_
         refine WpL_nil ?_
         refine Wp_cond (b := decide ((t.mn : Int) = 0)) rfl (fun gz => ?_) (fun gz => ?_)
         ·have kgz := gz
          replace gz := of_decide_eq_true gz
          have hN1 : N = emptyT := by rw [hN6, if_pos (.inr (.inr ⟨kg0, gz⟩))]
          refine Wp_seq_region ?_
          refine WpL_enter rfl rfl (by decide) (r_callF (vs := []) Tryz.func117 nm117 bd117 rfl) (dempty_c _) ?_
          rintro _ w29 ⟨rfl, X29⟩
          replace Br := X29.keep Br
          replace Bo := X29.keep Bo
          replace Bx := X29.keep Bx
          replace E := E.ext X29
          refine s_storeAgg (b := bo) (o := 0) (c' := #[(I6 1), (.slice none 0 0), (.slice none 0 0), (I6 0), (I6 0), (.bool false)]) rfl rfl (by simp [Value.oneCell']) siz25 rfl Bo (by first | (simp; done) | exact Nat.le_of_ble_eq_true rfl) rfl ?_
          intro w24 S24
          replace Br := S24.keep (by omega) Br
          replace Bx := S24.keep (by omega) Bx
          replace E := S24.step E (by first | exact Or.inl (by omega) | exact Or.inr rfl | exact Or.inr (by assumption) | exact Or.inr (by simp) | exact Or.inr (by omega) | exact Or.inr (by dsimp only; omega))
          replace Bo := S24.blk
          refine WpL_nil (Wp_ret (inB_ret (inB_ret (thn_ret ?_))))
          refine fin_agg Tryz.results115 (vs := [(.int .i64 1), (.slice none 0 0), (.slice none 0 0), (.int .i64 0), (.int .i64 0), (.bool false)]) (b := bo) rfl agg25 siz25 rfl (Bo.cells rfl) ?_
          exact ⟨⟨_, rfl, by rw [hN1]; exact re_empty _ _ _⟩, E⟩
         ·have kgz := gz
          replace gz := of_decide_eq_false gz
          refine Wp_seq_region ?_
          refine qF bx 0 0 rfl Tryz.underlying25 rfl siz3 rfl ?_
          refine qV (r_load (v := (I6 x.kind)) rfl flat3 (Bx.cell rfl)) ?_
          refine qV (r_eql (k := .i64) (a := x.kind) (b := 0) rfl rfl) ?_
          refine qM (.bool (decide ((x.kind : Int) = 0))) rfl ?_
          refine WpL_guard_no (oj := _) rfl rfl (by decide) (v := .bool true) (congrArg Value.bool g0) (Or.inl rfl) ?_
          refine WpL_guard_no (oj := _) rfl rfl (by decide) (v := .bool true) (congrArg Value.bool g0) (Or.inl rfl) ?_
          refine WpL_guard_no (oj := _) rfl rfl (by decide) (v := .bool true) (congrArg Value.bool g0) (Or.inl rfl) ?_
          refine WpL_guard_no (oj := _) rfl rfl (by decide) (v := .bool true) (congrArg Value.bool g0) (Or.inl rfl) ?_
          refine WpL_guard_no (oj := _) rfl rfl (by decide) (v := undef) rfl (Or.inr rfl) ?_
          refine WpL_guard_no (oj := _) rfl rfl (by decide) (v := undef) rfl (Or.inr rfl) ?_
          refine WpL_guard_no (oj := _) rfl rfl (by decide) (v := undef) rfl (Or.inr rfl) ?_
          refine WpL_guard_no (oj := _) rfl rfl (by decide) (v := .bool true) (congrArg Value.bool g0) (Or.inl rfl) ?_
          refine qV (r_pick (b := decide ((x.kind : Int) = 0)) (v := (.bool true)) rfl (by rw [g0]; rfl)) ?_
          refine qA (.bool true) rfl ?_
          refine WpL_nil ?_
          refine Wp_cond_true rfl ?_
          refine Wp_seq_region ?_
          refine qV (r_loadAgg (vs := [(I6 x.kind), (.slice xsa x.set.length xsc), (.slice xaa x.args.length xac), (I6 x.mn), (I6 x.mx), (.bool x.neg)]) rfl agg25 siz25 rfl (Bx.cells rfl)) ?_
          refine s_storeAgg (b := bo) (o := 0) (c' := (R6 x xsa xsc xaa xac)) rfl rfl (by simp [Value.oneCell']) siz25 rfl Bo (by first | (simp; done) | exact Nat.le_of_ble_eq_true rfl) rfl ?_
          intro w25 S25
          replace Br := S25.keep (by omega) Br
          replace Bx := S25.keep (by omega) Bx
          replace E := S25.step E (by first | exact Or.inl (by omega) | exact Or.inr rfl | exact Or.inr (by assumption) | exact Or.inr (by simp) | exact Or.inr (by omega) | exact Or.inr (by dsimp only; omega))
          replace Bo := S25.blk
          refine WpL_nil (Wp_ret (inB_ret (inB_ret (thn_ret ?_))))
          refine fin_agg Tryz.results115 (vs := [(.int .i64 x.kind), (.slice xsa x.set.length xsc), (.slice xaa x.args.length xac), (.int .i64 x.mn), (.int .i64 x.mx), (.bool x.neg)]) (b := bo) rfl agg25 siz25 rfl (Bo.cells rfl) ?_
          have hN1 : N = x := by rw [hN6, if_neg (by omega), if_pos (.inl kg0)]
          have hR : ReIn S (w25) x _ := ReIn.ext E x hxt0
          exact ⟨⟨_, rfl, by rw [hN1]; exact ReIn.mono (fun y hy => .inl hy) x hR⟩, E⟩
        ·have kg0 := g0
         replace kg0 := of_decide_eq_false kg0
         refine WpL_guard_no (oj := _) rfl rfl (by decide) (v := .bool false) (congrArg Value.bool g0) (Or.inl rfl) ?_
         refine WpL_guard_no (oj := _) rfl rfl (by decide) (v := .bool false) (congrArg Value.bool g0) (Or.inl rfl) ?_
         refine WpL_guard_no (oj := _) rfl rfl (by decide) (v := .bool false) (congrArg Value.bool g0) (Or.inl rfl) ?_
         refine WpL_guard_yes (oj := _) rfl rfl (by decide) (congrArg Value.bool g1) ?_
         refine qV (r_pick (b := decide ((x.kind : Int) = 0)) (v := (.bool false)) rfl (by rw [g0]; rfl)) ?_
         refine qV (r_pick (b := decide ((x.kind : Int) = 1)) (v := (.bool false)) rfl (by rw [g1]; rfl)) ?_
         refine qA (.bool false) rfl ?_
         refine WpL_nil ?_
         refine Wp_cond_false rfl ?_
         refine Wp_seq_region ?_
         refine qF bx 0 0 rfl Tryz.underlying25 rfl siz3 rfl ?_
         refine qV (r_load (v := (I6 x.kind)) rfl flat3 (Bx.cell rfl)) ?_
         refine qV (r_eql (k := .i64) (a := x.kind) (b := 0) rfl rfl) ?_
         refine qM (.bool (decide ((x.kind : Int) = 0))) rfl ?_
         refine WpL_guard_yes (oj := _) rfl rfl (by decide) (congrArg Value.bool g0) ?_
         refine qF br 0 3 rfl Tryz.underlying25 rfl siz3 rfl ?_
         refine WpL_guard_yes (oj := _) rfl rfl (by decide) (congrArg Value.bool g0) ?_
         refine qV (r_load (v := (I6 t.mn)) rfl flat3 (Br.cell rfl)) ?_
         refine WpL_guard_yes (oj := _) rfl rfl (by decide) (congrArg Value.bool g0) ?_
         refine qV (r_eql (k := .i64) (a := t.mn) (b := 1) rfl rfl) ?_
         refine WpL_guard_yes (oj := _) rfl rfl (by decide) (congrArg Value.bool g0) ?_
         refine qM (.bool (decide ((t.mn : Int) = 1))) rfl ?_
         rcases Bool.eq_false_or_eq_true (decide ((t.mn : Int) = 1)) with g2 | g2
         ·have kg2 := g2
          replace kg2 := of_decide_eq_true kg2
          refine WpL_guard_yes (oj := _) rfl rfl (by decide) (congrArg Value.bool g2) ?_
          refine qF br 0 4 rfl Tryz.underlying25 rfl siz3 rfl ?_
          refine WpL_guard_yes (oj := _) rfl rfl (by decide) (congrArg Value.bool g2) ?_
          refine qV (r_load (v := (I6 t.mx)) rfl flat3 (Br.cell rfl)) ?_
          refine WpL_guard_yes (oj := _) rfl rfl (by decide) (congrArg Value.bool g2) ?_
          refine qV (r_eql (k := .i64) (a := t.mx) (b := 1) rfl rfl) ?_
          refine WpL_guard_yes (oj := _) rfl rfl (by decide) (congrArg Value.bool g0) ?_
          refine qV (r_pick (b := decide ((t.mn : Int) = 1)) (v := (.bool (decide ((t.mx : Int) = 1)))) rfl (by rw [g2]; rfl)) ?_
          refine qV (r_pick (b := decide ((x.kind : Int) = 0)) (v := (.bool (decide ((t.mx : Int) = 1)))) rfl (by rw [g0]; rfl)) ?_
          refine qA (.bool (decide ((t.mx : Int) = 1))) rfl ?_
          refine WpL_nil ?_
          refine Wp_cond (b := decide ((t.mx : Int) = 1)) rfl (fun g3 => ?_) (fun g3 => ?_)
          ·have kg3 := g3
           replace g3 := of_decide_eq_true g3
           have hN1 : N = x := by rw [hN6, if_neg (by omega), if_pos (.inr ⟨kg2, g3⟩)]
           have hR : ReIn S (wx) x _ := ReIn.ext E x hxt0
           refine Wp_seq_region ?_
           refine qV (r_loadAgg (vs := [(I6 x.kind), (.slice xsa x.set.length xsc), (.slice xaa x.args.length xac), (I6 x.mn), (I6 x.mx), (.bool x.neg)]) rfl agg25 siz25 rfl (Bx.cells rfl)) ?_
           refine s_storeAgg (b := bo) (o := 0) (c' := (R6 x xsa xsc xaa xac)) rfl rfl (by simp [Value.oneCell']) siz25 rfl Bo (by first | (simp; done) | exact Nat.le_of_ble_eq_true rfl) rfl ?_
           intro w28 S28
           replace hR := ReIn.chg S28.chg (fun y hy h => by have h2 : y = bo := h; have := hS y hy; omega) x hR
           replace Br := S28.keep (by omega) Br
           replace Bx := S28.keep (by omega) Bx
           replace E := S28.step E (by first | exact Or.inl (by omega) | exact Or.inr rfl | exact Or.inr (by assumption) | exact Or.inr (by simp) | exact Or.inr (by omega) | exact Or.inr (by dsimp only; omega))
           replace Bo := S28.blk
           refine WpL_nil (Wp_ret (inB_ret (inB_ret (thn_ret ?_))))
           refine fin_agg Tryz.results115 (vs := [(.int .i64 x.kind), (.slice xsa x.set.length xsc), (.slice xaa x.args.length xac), (.int .i64 x.mn), (.int .i64 x.mx), (.bool x.neg)]) (b := bo) rfl agg25 siz25 rfl (Bo.cells rfl) ?_
           exact ⟨⟨_, rfl, by rw [hN1]; exact ReIn.mono (fun y hy => .inl hy) x hR⟩, E⟩
          ·have kg3 := g3
           replace g3 := of_decide_eq_false g3
           have hN1 : N = t := by rw [hN6, if_neg (by omega), if_neg (by omega)]
           have hR : ReIn S (wx) t _ := ReIn.ext E t ht0
           refine Wp_skip (inB_normal (inB_normal (thn_normal (Wp_seq_region ?_))))
           refine qV (r_loadAgg (vs := [(I6 t.kind), (.slice sa t.set.length sc), (.slice (some ⟨ab, ao, none⟩) t.args.length ac), (I6 t.mn), (I6 t.mx), (.bool t.neg)]) rfl agg25 siz25 rfl (Br.cells rfl)) ?_
           refine s_storeAgg (b := bo) (o := 0) (c' := (R6 t sa sc (some ⟨ab, ao, none⟩) ac)) rfl rfl (by simp [Value.oneCell']) siz25 rfl Bo (by first | (simp; done) | exact Nat.le_of_ble_eq_true rfl) rfl ?_
           intro w29 S29
           replace hR := ReIn.chg S29.chg (fun y hy h => by have h2 : y = bo := h; have := hS y hy; omega) t hR
           replace Br := S29.keep (by omega) Br
           replace Bx := S29.keep (by omega) Bx
           replace E := S29.step E (by first | exact Or.inl (by omega) | exact Or.inr rfl | exact Or.inr (by assumption) | exact Or.inr (by simp) | exact Or.inr (by omega) | exact Or.inr (by dsimp only; omega))
           replace Bo := S29.blk
           refine WpL_nil (Wp_ret ?_)
           refine fin_agg Tryz.results115 (vs := [(.int .i64 t.kind), (.slice sa t.set.length sc), (.slice (some ⟨ab, ao, none⟩) t.args.length ac), (.int .i64 t.mn), (.int .i64 t.mx), (.bool t.neg)]) (b := bo) rfl agg25 siz25 rfl (Bo.cells rfl) ?_
           exact ⟨⟨_, rfl, by rw [hN1]; exact ReIn.mono (fun y hy => .inl hy) t hR⟩, E⟩
         ·have kg2 := g2
          replace kg2 := of_decide_eq_false kg2
          have hN1 : N = t := by rw [hN6, if_neg (by omega), if_neg (by omega)]
          have hR : ReIn S (wx) t _ := ReIn.ext E t ht0
          refine WpL_guard_no (oj := _) rfl rfl (by decide) (v := .bool false) (congrArg Value.bool g2) (Or.inl rfl) ?_
          refine WpL_guard_no (oj := _) rfl rfl (by decide) (v := .bool false) (congrArg Value.bool g2) (Or.inl rfl) ?_
          refine WpL_guard_no (oj := _) rfl rfl (by decide) (v := .bool false) (congrArg Value.bool g2) (Or.inl rfl) ?_
          refine WpL_guard_yes (oj := _) rfl rfl (by decide) (congrArg Value.bool g0) ?_
          refine qV (r_pick (b := decide ((t.mn : Int) = 1)) (v := (.bool false)) rfl (by rw [g2]; rfl)) ?_
          refine qV (r_pick (b := decide ((x.kind : Int) = 0)) (v := (.bool false)) rfl (by rw [g0]; rfl)) ?_
          refine qA (.bool false) rfl ?_
          refine WpL_nil ?_
          refine Wp_cond_false rfl ?_
          refine Wp_skip (inB_normal (inB_normal (thn_normal (Wp_seq_region ?_))))
          refine qV (r_loadAgg (vs := [(I6 t.kind), (.slice sa t.set.length sc), (.slice (some ⟨ab, ao, none⟩) t.args.length ac), (I6 t.mn), (I6 t.mx), (.bool t.neg)]) rfl agg25 siz25 rfl (Br.cells rfl)) ?_
          refine s_storeAgg (b := bo) (o := 0) (c' := (R6 t sa sc (some ⟨ab, ao, none⟩) ac)) rfl rfl (by simp [Value.oneCell']) siz25 rfl Bo (by first | (simp; done) | exact Nat.le_of_ble_eq_true rfl) rfl ?_
          intro w30 S30
          replace hR := ReIn.chg S30.chg (fun y hy h => by have h2 : y = bo := h; have := hS y hy; omega) t hR
          replace Br := S30.keep (by omega) Br
          replace Bx := S30.keep (by omega) Bx
          replace E := S30.step E (by first | exact Or.inl (by omega) | exact Or.inr rfl | exact Or.inr (by assumption) | exact Or.inr (by simp) | exact Or.inr (by omega) | exact Or.inr (by dsimp only; omega))
          replace Bo := S30.blk
          refine WpL_nil (Wp_ret ?_)
          refine fin_agg Tryz.results115 (vs := [(.int .i64 t.kind), (.slice sa t.set.length sc), (.slice (some ⟨ab, ao, none⟩) t.args.length ac), (.int .i64 t.mn), (.int .i64 t.mx), (.bool t.neg)]) (b := bo) rfl agg25 siz25 rfl (Bo.cells rfl) ?_
          exact ⟨⟨_, rfl, by rw [hN1]; exact ReIn.mono (fun y hy => .inl hy) t hR⟩, E⟩
     ·have kh6 := h6
      replace h6 := of_decide_eq_false h6
      refine Wp_seq_region ?_
      refine qV (r_eql (k := .i64) (a := t.kind) (b := 8) rfl rfl) ?_
      refine qA (.bool (decide ((t.kind : Int) = 8))) rfl ?_
      refine WpL_nil ?_
      refine Wp_cond (b := decide ((t.kind : Int) = 8)) rfl (fun h8 => ?_) (fun h8 => ?_)
      ·have kh8 := h8
       replace h8 := of_decide_eq_true h8
       have hone := hp.one (by omega)
       obtain ⟨x, hx⟩ := get_of_lt (l := t.args) (i := 0) (by omega)
       have hxm := List.mem_of_getElem? hx
       have hxo := ha x hxm
       have hhd : t.args.headD noneT = x := headD_get hx
       obtain ⟨ab, ao, hab, rfl, hres⟩ := hargs.resolve_left (fun h => by rw [h] at hx; cases hx)
       obtain ⟨us, hus, hxt⟩ := hres.get hx
       have hxt0 := hxt
       obtain ⟨xsa, xsc, xaa, xac, rfl, _, hxlen, hxargs⟩ := hxt.form
       refine Wp_seq_region ?_
       refine qF br 0 2 rfl Tryz.underlying25 rfl siz23 rfl ?_
       refine qV (r_load (v := (.slice (some ⟨ab, ao, none⟩) t.args.length ac)) rfl flat23 (Br.cell rfl)) ?_
       refine qV (r_indexSlice (b := ab) (o := ao) (len := t.args.length) (cap := ac) (i := 0) (o' := ao + 0 * 6) rfl rfl rfl Tryz.underlying23 siz25 (by omega) (by omega)) ?_
       refine qV (r_loadAgg (vs := [(I6 x.kind), (.slice xsa x.set.length xsc), (.slice xaa x.args.length xac), (I6 x.mn), (I6 x.mx), (.bool x.neg)]) rfl agg25 siz25 rfl (hus.ext E)) ?_
       have hN8 := hN.trans (ns8 h8 hhd)
       refine s_allocStore (v := (.agg (R6 x xsa xsc xaa xac))) (c := (R6 x xsa xsc xaa xac)) (n := 6) (by decide) zer25 rfl siz25 rfl rfl rfl (by simp [Value.oneCell']) ?_
       intro bx wx Nx
       have Fx := Nx.ge E
       have Ox_br := Nx.lt Br
       have Ox_bo := Nx.lt Bo
       replace Br := Nx.keep Br
       replace Bo := Nx.keep Bo
       replace E := E.ext Nx.ext
       have Bx := Nx.blk
       refine WpL_nil (Wp_seq_region ?_)
       refine qF bx 0 0 rfl Tryz.underlying25 rfl siz3 rfl ?_
       refine qV (r_load (v := (I6 x.kind)) rfl flat3 (Bx.cell rfl)) ?_
       refine qV (r_eql (k := .i64) (a := x.kind) (b := 8) rfl rfl) ?_
       refine WpL_nil ?_
       refine Wp_cond (b := decide ((x.kind : Int) = 8)) rfl (fun k8 => ?_) (fun k8 => ?_)
       ·have kk8 := k8
        replace k8 := of_decide_eq_true k8
        obtain ⟨y, hy⟩ := get_of_lt (l := x.args) (i := 0) (List.length_pos_iff.2 ((sim_three hxo).2 k8))
        obtain ⟨yb, yo, hyb, rfl, hyres⟩ := hxargs.resolve_left ((sim_three hxo).2 k8)
        have hypl := lt_of_get hy
        obtain ⟨ys, hyc, hyt⟩ := hyres.get hy
        have hyt0 := hyt
        obtain ⟨ysa, ysc, yaa, yac, rfl, _, _, _⟩ := hyt.form
        refine Wp_seq_region ?_
        refine qF bx 0 2 rfl Tryz.underlying25 rfl siz23 rfl ?_
        refine qV (r_load (v := (.slice (some ⟨yb, yo, none⟩) x.args.length xac)) rfl flat23 (Bx.cell rfl)) ?_
        refine qV (r_indexSlice (b := yb) (o := yo) (len := x.args.length) (cap := xac) (i := 0) (o' := yo + 0 * 6) rfl rfl rfl Tryz.underlying23 siz25 (by omega) (by omega)) ?_
        refine qV (r_loadAgg (vs := [(I6 y.kind), (.slice ysa y.set.length ysc), (.slice yaa y.args.length yac), (I6 y.mn), (I6 y.mx), (.bool y.neg)]) rfl agg25 siz25 rfl (hyc.ext E)) ?_
        have hN1 : N = y := by rw [hN8, if_pos k8, headD_get hy]
        have hR : ReIn S (wx) y _ := ReIn.ext E y hyt0
        refine s_storeAgg (b := bo) (o := 0) (c' := (R6 y ysa ysc yaa yac)) rfl rfl (by simp [Value.oneCell']) siz25 rfl Bo (by first | (simp; done) | exact Nat.le_of_ble_eq_true rfl) rfl ?_
        intro w33 S33
        replace hR := ReIn.chg S33.chg (fun y hy h => by have h2 : y = bo := h; have := hS y hy; omega) y hR
        replace Br := S33.keep (by omega) Br
        replace Bx := S33.keep (by omega) Bx
        replace E := S33.step E (by first | exact Or.inl (by omega) | exact Or.inr rfl | exact Or.inr (by assumption) | exact Or.inr (by simp) | exact Or.inr (by omega) | exact Or.inr (by dsimp only; omega))
        replace Bo := S33.blk
        refine WpL_nil (Wp_ret (inB_ret (thn_ret ?_)))
        refine fin_agg Tryz.results115 (vs := [(.int .i64 y.kind), (.slice ysa y.set.length ysc), (.slice yaa y.args.length yac), (.int .i64 y.mn), (.int .i64 y.mx), (.bool y.neg)]) (b := bo) rfl agg25 siz25 rfl (Bo.cells rfl) ?_
        exact ⟨⟨_, rfl, by rw [hN1]; exact ReIn.mono (fun y hy => .inl hy) y hR⟩, E⟩
       ·have kk8 := k8
        replace k8 := of_decide_eq_false k8
        have hN1 : N = t := by rw [hN8, if_neg k8]
        have hR : ReIn S (wx) t _ := ReIn.ext E t ht0
        refine Wp_skip (inB_normal (thn_normal (Wp_seq_region ?_)))
        refine qV (r_loadAgg (vs := [(I6 t.kind), (.slice sa t.set.length sc), (.slice (some ⟨ab, ao, none⟩) t.args.length ac), (I6 t.mn), (I6 t.mx), (.bool t.neg)]) rfl agg25 siz25 rfl (Br.cells rfl)) ?_
        refine s_storeAgg (b := bo) (o := 0) (c' := (R6 t sa sc (some ⟨ab, ao, none⟩) ac)) rfl rfl (by simp [Value.oneCell']) siz25 rfl Bo (by first | (simp; done) | exact Nat.le_of_ble_eq_true rfl) rfl ?_
        intro w34 S34
        replace hR := ReIn.chg S34.chg (fun y hy h => by have h2 : y = bo := h; have := hS y hy; omega) t hR
        replace Br := S34.keep (by omega) Br
        replace Bx := S34.keep (by omega) Bx
        replace E := S34.step E (by first | exact Or.inl (by omega) | exact Or.inr rfl | exact Or.inr (by assumption) | exact Or.inr (by simp) | exact Or.inr (by omega) | exact Or.inr (by dsimp only; omega))
        replace Bo := S34.blk
        refine WpL_nil (Wp_ret ?_)
        refine fin_agg Tryz.results115 (vs := [(.int .i64 t.kind), (.slice sa t.set.length sc), (.slice (some ⟨ab, ao, none⟩) t.args.length ac), (.int .i64 t.mn), (.int .i64 t.mx), (.bool t.neg)]) (b := bo) rfl agg25 siz25 rfl (Bo.cells rfl) ?_
        exact ⟨⟨_, rfl, by rw [hN1]; exact ReIn.mono (fun y hy => .inl hy) t hR⟩, E⟩
      ·have kh8 := h8
       replace h8 := of_decide_eq_false h8
       have hN1 : N = t := hN.trans (nsn ⟨h3, h4, h5, h6, h7, h8⟩)
       have hR : ReIn S (wo) t _ := ReIn.ext E t ht0
       refine Wp_skip (inB_normal (thn_normal (Wp_seq_region ?_)))
       refine qV (r_loadAgg (vs := [(I6 t.kind), (.slice sa t.set.length sc), (.slice aa t.args.length ac), (I6 t.mn), (I6 t.mx), (.bool t.neg)]) rfl agg25 siz25 rfl (Br.cells rfl)) ?_
       refine s_storeAgg (b := bo) (o := 0) (c' := (R6 t sa sc aa ac)) rfl rfl (by simp [Value.oneCell']) siz25 rfl Bo (by first | (simp; done) | exact Nat.le_of_ble_eq_true rfl) rfl ?_
       intro w35 S35
       replace hR := ReIn.chg S35.chg (fun y hy h => by have h2 : y = bo := h; have := hS y hy; omega) t hR
       replace Br := S35.keep (by omega) Br
       replace E := S35.step E (by first | exact Or.inl (by omega) | exact Or.inr rfl | exact Or.inr (by assumption) | exact Or.inr (by simp) | exact Or.inr (by omega) | exact Or.inr (by dsimp only; omega))
       replace Bo := S35.blk
       refine WpL_nil (Wp_ret ?_)
       refine fin_agg Tryz.results115 (vs := [(.int .i64 t.kind), (.slice sa t.set.length sc), (.slice aa t.args.length ac), (.int .i64 t.mn), (.int .i64 t.mx), (.bool t.neg)]) (b := bo) rfl agg25 siz25 rfl (Bo.cells rfl) ?_
       exact ⟨⟨_, rfl, by rw [hN1]; exact ReIn.mono (fun y hy => .inl hy) t hR⟩, E⟩
end Go.Proofs
namespace Go.Proofs
open Go Go.Eng Go.Sort
set_option maxRecDepth 100000
theorem simR_node (t : Re) : simR t = nodeS (.mk t.kind t.set (t.args.map simR) t.mn t.mx t.neg) := simR_eq t
/-- Rows that grow: expressions within some blocks. -/
theorem rowsin_snoc {S : Nat → Prop} {w : World} {ts : List Re} {rows : List (List Value)} {x : Re} {r : List Value} (h : RowsIn S w ts rows) (hx : ReIn S w x r) : RowsIn S w (ts ++ [x]) (rows ++ [r]) := RowsIn.append (RowsIn.single hx) h
theorem tl_put {T A : Nat → Prop} {w w' : World} {b : Nat} {c : Array Value} {e : TypeId} (h : ∀ y, T y → A y ∧ y < w.heap.size) (x : Put w w' b c e) : ∀ y, T y → A y ∧ y < w'.heap.size := fun y hy => ⟨(h y hy).1, Nat.lt_of_lt_of_le (h y hy).2 x.chg.size⟩
theorem tl_ext {T A : Nat → Prop} {w w' : World} (h : ∀ y, T y → A y ∧ y < w.heap.size) (x : Ext w w') : ∀ y, T y → A y ∧ y < w'.heap.size := fun y hy => ⟨(h y hy).1, Nat.lt_of_lt_of_le (h y hy).2 x.size⟩
theorem usesBs_get {ks : List Int} : ∀ {ts : List Re} {i : Nat} {x : Re}, usesBs ks ts = false → ts[i]? = some x → usesB ks x = false
  | [], i, x, _, h => by simp at h
  | t :: ts, 0, x, h, hx => by simp at hx; subst hx; simp only [usesBs, Bool.or_eq_false_iff] at h; exact h.1
  | t :: ts, i + 1, x, h, hx => by simp only [usesBs, Bool.or_eq_false_iff] at h; exact usesBs_get h.2 (by simpa using hx)
set_option maxHeartbeats 4000000 in
theorem dsim_c : ∀ (n : Nat) (t : Re) (w0 : World) (S : Nat → Prop) (vs : List Value), t.size ≤ n → n ≤ 1000000 → okRe t → usesB [9, 10] t = false → ReIn S w0 t vs → (∀ x, S x → x < w0.heap.size) →
    Ret Tryz.prog 58 #[.agg vs.toArray] w0 fun r w => (∃ us, r = .agg us.toArray ∧ ReIn (fun b => S b ∨ w0.heap.size ≤ b) w (simR t) us) ∧ Ext w0 w := by
  intro n
  induction n with
  | zero => intro t w0 S vs h; have := t.size_pos; omega
  | succ n ih =>
  intro t w0 S vs hn hnb hok hu ht hS
  have ht0 := ht
  obtain ⟨sa, sc, aa, ac, rfl, hset, hlen, hargs⟩ := ht.form
  have hal := len_lt_size t
  have hu2 : usesBs [9, 10] t.args = false := by cases t; exact (uses_cons hu).2
  have hk9 : t.kind ≠ 9 ∧ t.kind ≠ 10 := by cases t with | mk k s a m x g => have h1 := (uses_cons hu).1; constructor <;> intro e <;> simp only [Re.kind] at e <;> subst e <;> simp at h1
  have hssz := simRs_size (okRe_args hok)
  rw [simRs_map] at hssz
  have hsz := t.size_eq
  rw [simR_node]
  refine Ret_of Tryz.func58 rfl Tryz.ntmps58 (Nat.le_of_ble_eq_true rfl) ?_
  have E : Chg none1 w0 w0 := Chg.refl _ _
  refine Wp_seq_region ?_
  refine s_box (v := (.agg (R6 t sa sc aa ac))) (c := (R6 t sa sc aa ac)) (by decide) rfl rfl ?_
  intro br wr Nr
  have Fr := Nr.ge E
  replace E := E.ext Nr.ext
  have Br := Nr.blk
  refine s_alloc (c := #[(I6 0), (.slice none 0 0), (.slice none 0 0), (I6 0), (I6 0), (.bool false)]) (by decide) zer25 rfl ?_
  intro bo wo No
  have Fo := No.ge E
  have Oo_br := No.lt Br
  replace Br := No.keep Br
  replace E := E.ext No.ext
  have Bo := No.blk
  refine WpL_nil (Wp_seq_region ?_)
  refine qF br 0 2 rfl Tryz.underlying25 rfl siz23 rfl ?_
  refine qV (r_load (v := (.slice aa t.args.length ac)) rfl flat23 (Br.cell rfl)) ?_
  refine qV (r_lenSlice (ad := aa) (n := t.args.length) (cap := ac) Tryz.underlying23 rfl) ?_
  obtain ⟨n1, hn1⟩ : ∃ n1, n1 = wo.heap.size := ⟨_, rfl⟩
  have hob : br < n1 ∧ bo < n1 ∧ w0.heap.size ≤ bo ∧ w0.heap.size ≤ br ∧ w0.heap.size ≤ n1 := ⟨by rw [hn1]; exact Br.lt, by rw [hn1]; exact Bo.lt, by omega, by omega, by rw [hn1]; exact E.size⟩
  have hn1w : n1 ≤ wo.heap.size := by omega
  refine s_makeOwn (n := t.args.length) (base := n1) (size := 6) (bytes := 80) (by decide) Tryz.underlying23 siz25 byt25 zer25 rfl rfl (by omega) (by omega) (hn1w) ?_
  intro w1 X1 hO0
  replace Br := X1.keep Br
  replace Bo := X1.keep Bo
  replace hn1w := Nat.le_trans hn1w X1.size
  replace E := E.ext X1
  refine qA (.slice (some ⟨wo.heap.size, 0, none⟩) 0 t.args.length) rfl ?_
  refine WpL_nil (Wp_seq (Wp_seq_region ?_))
  refine qF br 0 2 rfl Tryz.underlying25 rfl siz23 rfl ?_
  refine qV (r_load (v := (.slice aa t.args.length ac)) rfl flat23 (Br.cell rfl)) ?_
  refine qV (r_lenSlice (ad := aa) (n := t.args.length) (cap := ac) Tryz.underlying23 rfl) ?_
  refine qM (I6 0) rfl ?_
  refine WpL_nil (Wp_block ?_)
  refine Wp_loop (fun nn_ σ W2 => ∃ (i : Nat) (la : Option Addr) (lc : Nat) (rows : List (List Value)) (T : Nat → Prop), (∃ jj_, σ = upds jj_ [(1, (P6 br 0)), (2, (P6 bo 0)), (11, (.slice aa t.args.length ac)), (12, (I6 (t.args.length : Int))), (13, (I6 (i : Int))), (3, (.slice la i lc))]) ∧ Chg none1 w0 W2 ∧ Blk W2 br (R6 t sa sc aa ac) 25 ∧ Blk W2 bo #[(I6 0), (.slice none 0 0), (.slice none 0 0), (I6 0), (I6 0), (.bool false)] 25 ∧ (i ≤ t.args.length) ∧ (W2.ownsRow n1 TRe 6 (.slice la i lc) i rows.flatten) ∧ (RowsIn T W2 ((t.args.take i).map simR) rows) ∧ (n1 ≤ W2.heap.size) ∧ (∀ y, T y → (S y ∨ n1 ≤ y) ∧ y < W2.heap.size) ∧ (∀ b, (Value.slice la i lc).ownBlock = some b → ¬ T b) ∧ nn_ = t.args.length - i) (n := t.args.length - 0) ?_ ?_
  · exact ⟨0, some ⟨wo.heap.size, 0, none⟩, t.args.length, [], (fun _ => False), Fits.out ⟨rfl, rfl, rfl, rfl, rfl, rfl, trivial⟩, E, Br, Bo, Nat.zero_le _, hO0, rfl, hn1w, (fun y h => h.elim), (fun b _ h => h), rfl⟩
  · clear E Br Bo
    rintro _ _ W2 ⟨i, la, lc, rows, T, ⟨j2, rfl⟩, E, Br, Bo, hi, hO, hR, hbs, hT, hTn, rfl⟩
    refine Wp_seq_region ?_
    refine qV (r_lss (k := .i64) (a := (i : Int)) (b := (t.args.length : Int)) rfl rfl) ?_
    refine WpL_nil (Wp_seq ?_)
    refine Wp_cond (b := decide (((i : Int) : Int) < (t.args.length : Int))) rfl (fun hlt => ?_) (fun hlt => ?_)
    · have khlt := hlt
      replace hlt := of_decide_eq_true hlt
      obtain ⟨x, hx⟩ := get_of_lt (l := t.args) (i := i) (by omega)
      have hxo := okRes_get (okRe_args hok) hx
      have hxu : usesB [9, 10] x = false := usesBs_get hu2 hx
      have hxz := Re.size_arg hx
      obtain ⟨ab, ao, hab, rfl, hres⟩ := hargs.resolve_left (fun h => by rw [h] at hx; cases hx)
      obtain ⟨us, hus, hxt⟩ := hres.get hx
      have hxt0 := hxt
      obtain ⟨xsa, xsc, xaa, xac, rfl, _, _, _⟩ := hxt.form
      obtain ⟨M, hM⟩ : ∃ M, M = simR x := ⟨_, rfl⟩
      refine Wp_skip (thn_normal (Wp_seq (Wp_block (Wp_seq_region ?_))))
      refine qV (r_indexSlice (b := ab) (o := ao) (len := t.args.length) (cap := ac) (i := i) (o' := ao + i * 6) rfl rfl rfl Tryz.underlying23 siz25 (by omega) (by omega)) ?_
      refine qV (r_loadAgg (vs := [(I6 x.kind), (.slice xsa x.set.length xsc), (.slice xaa x.args.length xac), (I6 x.mn), (I6 x.mx), (.bool x.neg)]) rfl agg25 siz25 rfl (hus.ext E)) ?_
      refine s_allocStore (v := (.agg (R6 x xsa xsc xaa xac))) (c := (R6 x xsa xsc xaa xac)) (n := 6) (by decide) zer25 rfl siz25 rfl rfl rfl (by simp [Value.oneCell']) ?_
      intro bu wu Nu
      have Fu := Nu.ge E
      have Ou_br := Nu.lt Br
      have Ou_bo := Nu.lt Bo
      replace Br := Nu.keep Br
      replace Bo := Nu.keep Bo
      replace hO := own_ext hO Nu.ext
      replace hR := RowsIn.ext Nu.ext hR
      replace hbs := Nat.le_trans hbs Nu.ext.size
      replace hT := tl_ext hT Nu.ext
      replace E := E.ext Nu.ext
      have Bu := Nu.blk
      refine WpL_nil (Wp_region ?_)
      refine qM (.slice la i lc) rfl ?_
      refine qV (r_loadAgg (vs := [(I6 x.kind), (.slice xsa x.set.length xsc), (.slice xaa x.args.length xac), (I6 x.mn), (I6 x.mx), (.bool x.neg)]) rfl agg25 siz25 rfl (Bu.cells rfl)) ?_
      obtain ⟨n2, hn2⟩ : ∃ n2, n2 = (wu).heap.size := ⟨_, rfl⟩
      have hn12 : n1 ≤ n2 := by rw [hn2]; exact hbs
      have hOb : ∀ b, (Value.slice la i lc).ownBlock = some b → n1 ≤ b ∧ b < n2 := fun b hb => ⟨(hO.lt b hb).1, by rw [hn2]; exact (hO.lt b hb).2⟩
      refine WpL_enter rfl rfl (by decide) (r_callF (vs := [(.agg (R6 x xsa xsc xaa xac))]) Tryz.func58 nm58 bd58 rfl) ((ih x _ S _ (by omega) (by omega) hxo hxu (ReIn.ext E x hxt0) (fun y hy => by have := hS y hy; have := E.size; omega)).mono (R' := fun r w => reG (fun b => S b ∨ n2 ≤ b) M r w ∧ Ext wu w) (fun r w h => ⟨reG_of (S' := fun b => S b ∨ _ ≤ b) (fun b hb => by rcases hb with h1 | h1; exact .inl h1; exact .inr (by rw [hn2]; exact h1)) (by rw [hM]; exact h.1), h.2⟩)) ?_
      rintro _ w9 ⟨⟨ma, mc, pa, pc, rfl, hX⟩, X9⟩
      replace Br := X9.keep Br
      replace Bo := X9.keep Bo
      replace Bu := X9.keep Bu
      replace hO := own_ext hO X9
      replace hR := RowsIn.ext X9 hR
      replace hbs := Nat.le_trans hbs X9.size
      replace hT := tl_ext hT X9
      replace E := E.ext X9
      have hXl := ReIn.lt M hX
      refine s_buildSlice (ps := [(0, (.agg (R6 M ma mc pa pc)))]) (c := (R6 M ma mc pa pc)) (by decide) rfl Tryz.underlying23 siz25 zer25 (by decide) (by decide) (by kernel_rfl) ?_
      intro bz wz Nz
      have Fz := Nz.ge E
      have Oz_br := Nz.lt Br
      have Oz_bo := Nz.lt Bo
      have Oz_bu := Nz.lt Bu
      replace Br := Nz.keep Br
      replace Bo := Nz.keep Bo
      replace Bu := Nz.keep Bu
      replace hO := own_ext hO Nz.ext
      replace hR := RowsIn.ext Nz.ext hR
      replace hbs := Nat.le_trans hbs Nz.ext.size
      replace hT := tl_ext hT Nz.ext
      replace hXl := ReIn.ext Nz.ext M hXl
      replace E := E.ext Nz.ext
      have Bz := Nz.blk
      have hQ9 : True := trivial
      refine s_append (base := n1) (n := i) (m := 1) (xs := rows.flatten) (news := [(I6 M.kind), (.slice ma M.set.length mc), (.slice pa M.args.length pc), (I6 M.mn), (I6 M.mx), (.bool M.neg)]) (size := 6) (bytes := 80) (v := (.slice la i lc)) (by decide) Tryz.underlying23 siz25 byt25 zer25 rfl (by decide) rfl hO rfl (rfl) (Bz.cells rfl) (by simp [Value.oneCell']) (by unfold maxLen; omega) (by omega) (hbs) ?_
      intro v9 w39 Ov9 Cv9 Dv9
      replace Br := Cv9.keep (fun h => by have := (hO.lt _ h).1; omega) Br
      replace Bo := Cv9.keep (fun h => by have := (hO.lt _ h).1; omega) Bo
      replace E := E.step Cv9 (fun x hx h => absurd (hO.lt x h).1 (by omega))
      obtain ⟨la2, lc2, rfl⟩ := own_form Ov9
      have hT2 : ∀ y, (T y ∨ ((S y ∨ n2 ≤ y) ∧ y < w9.heap.size)) → (S y ∨ n1 ≤ y) ∧ y < (w39).heap.size ∧ (Value.slice la i lc).ownBlock ≠ some y := by
        intro y hy
        have hz1 := Nz.ext.size
        have hz2 := Cv9.size
        rcases hy with hy | ⟨hy, hy2⟩
        · exact ⟨(hT y hy).1, by have := (hT y hy).2; omega, fun hb => hTn y hb hy⟩
        · refine ⟨hy.imp id (fun h => by have := X9.size; omega), by omega, fun hb => ?_⟩
          have h9 := hOb y hb
          rcases hy with h1 | h1
          · have := hS y h1; omega
          · omega
      have hR9 : RowsIn (fun y => T y ∨ ((S y ∨ n2 ≤ y) ∧ y < w9.heap.size)) (w39) ((t.args.take (i + 1)).map simR) (rows ++ [[.int .i64 M.kind, .slice ma M.set.length mc, .slice pa M.args.length pc, .int .i64 M.mn, .int .i64 M.mx, .bool M.neg]]) := by
        rw [List.take_add_one, hx, Option.toList_some, List.map_append, List.map_cons, List.map_nil, ← hM]
        exact rowsin_snoc (RowsIn.mono (fun y hy => .inl hy) (RowsIn.chg Cv9 (fun y hy hm => hTn y hm hy) hR)) (ReIn.mono (fun y hy => .inr hy) M (ReIn.chg Cv9 (fun y hy hm => (hT2 y (.inr hy)).2.2 hm) M hXl))
      refine qA (.slice la2 (i + 1) lc2) rfl ?_
      refine WpL_nil (inB_normal (thn_normal (Wp_region ?_)))
      refine qV (r_add (k := .i64) (a := (i : Int)) (b := 1) (c := (i : Int) + 1) rfl rfl (wI64 (by omega))) ?_
      refine qM (I6 ((i : Int) + 1)) rfl ?_
      refine WpL_nil (thn_normal ?_)
      exact ⟨t.args.length - (i + 1), by omega, i + 1, la2, lc2, rows ++ [[.int .i64 M.kind, .slice ma M.set.length mc, .slice pa M.args.length pc, .int .i64 M.mn, .int .i64 M.mx, .bool M.neg]], (fun y => T y ∨ ((S y ∨ n2 ≤ y) ∧ y < w9.heap.size)), Fits.out ⟨rfl, rfl, rfl, rfl, rfl, rfl, trivial⟩, E, Br, Bo, (by omega), (by simpa using Ov9), hR9, Nat.le_trans hbs Cv9.size, (fun y hy => ⟨(hT2 y hy).1, (hT2 y hy).2.1⟩), (fun b hb hy => by rcases Dv9 b hb with h | h; exact (hT2 b hy).2.2 h; have hz1 := Nz.ext.size; rcases hy with hy | hy; have := (hT b hy).2; omega; have := hy.2; omega), rfl⟩
    · have khlt := hlt
      replace hlt := of_decide_eq_false hlt
      have hii : i = t.args.length := by omega
      rw [hii] at hO hR hTn
      rw [hii]
      rw [List.take_length] at hR
      refine Wp_exit (thn_exit (thn_exit (inB_here (thn_normal (Wp_seq_region ?_)))))
      refine qM (.slice la t.args.length lc) rfl ?_
      refine qF br 0 2 rfl Tryz.underlying25 rfl siz23 rfl ?_
      refine s_store (b := br) (o := 2) (c' := (R6 t sa sc la lc)) (v := (.slice la t.args.length lc)) rfl rfl rfl siz23 Br (by simp) rfl ?_
      intro w4 S4
      replace hO := own_chg hO S4.chg (fun y hy h => by have h2 : y = br := h; have := (hO.lt y hy).1; omega)
      replace hR := RowsIn.chg S4.chg (fun y hy h => by have h2 : y = br := h; rcases (hT y hy).1 with h1 | h1; have := hS y h1; omega; omega) hR
      replace hT := tl_put hT S4
      replace hbs := Nat.le_trans hbs S4.chg.size
      replace Bo := S4.keep (by omega) Bo
      replace E := S4.step E (by first | exact Or.inl (by omega) | exact Or.inr rfl | exact Or.inr (by assumption) | exact Or.inr (by simp) | exact Or.inr (by omega) | exact Or.inr (by dsimp only; omega))
      replace Br := S4.blk
      refine WpL_nil (Wp_seq_region ?_)
      refine qV (r_loadAgg (vs := [(I6 t.kind), (.slice sa t.set.length sc), (.slice la t.args.length lc), (I6 t.mn), (I6 t.mx), (.bool t.neg)]) rfl agg25 siz25 rfl (Br.cells rfl)) ?_
      have hml : (t.args.map simR).length = t.args.length := List.length_map _
      obtain ⟨hoc, hocl⟩ := own_res hO hR hml
      have hTS : ReIn (fun y => (S y ∨ n1 ≤ y) ∧ y < (w4).heap.size) (w4) (.mk t.kind t.set (t.args.map simR) t.mn t.mx t.neg) [.int .i64 t.kind, .slice sa t.set.length sc, .slice la t.args.length lc, .int .i64 t.mn, .int .i64 t.mx, .bool t.neg] := by
        have h9 := ReIn.of (S := fun y => (S y ∨ n1 ≤ y) ∧ y < (w4).heap.size) (w := w4) (k := t.kind) (set := t.set) (args := t.args.map simR) (mn := t.mn) (mx := t.mx) (ng := t.neg) (sa := sa) (sc := sc) (aa := la) (ac := lc) (SlIn.mono (SlIn.chg hset E (fun _ _ f => f)) fun y hy => ⟨.inl hy, by have := hS y hy; have := E.size; omega⟩) (by rw [hml]; exact hoc) (by
          rcases hocl with h | ⟨ob, hob1, hob2, hob3, hclo⟩
          · exact .inl h
          · exact .inr ⟨ob, 0, ⟨.inr hob1, hob2⟩, hob3, resin_of fun i t ht => by obtain ⟨vs, h6, h7⟩ := hclo i t ht; exact ⟨vs, h6, ReIn.mono (fun y hy => hT y hy) t h7⟩⟩)
        rw [hml] at h9
        exact h9
      obtain ⟨N, hN⟩ : ∃ N, N = nodeS (.mk t.kind t.set (t.args.map simR) t.mn t.mx t.neg) := ⟨_, rfl⟩
      have hnb1 : n1 ≤ (w4).heap.size := hbs
      refine WpL_enter rfl rfl (by decide) (r_callF (vs := [(.agg (R6 t sa sc la lc))]) Tryz.func115 nm115 bd115 rfl) ((dnode_c _ _ _ _ hTS (fun y hy => hy.2) (pre_of hok hk9.1 hk9.2 hml) (fun y hy => simRs_ok (okRe_args hok) hu2 y (by rw [simRs_map]; exact hy)) (by show Re.sizes (t.args.map simR) ≤ 1000000; omega)).mono (R' := fun r w => reG (fun b => S b ∨ n1 ≤ b) N r w ∧ Ext _ w) (fun r w h => ⟨reG_of (S' := fun b => ((S b ∨ n1 ≤ b) ∧ b < _) ∨ _ ≤ b) (fun b hb => by rcases hb with h1 | h1; exact h1.1; exact .inr (Nat.le_trans hnb1 h1)) (by rw [hN]; exact h.1), h.2⟩)) ?_
      rintro _ w49 ⟨⟨xa, xc, ya, yc, rfl, hR4⟩, X49⟩
      replace Br := X49.keep Br
      replace Bo := X49.keep Bo
      replace E := E.ext X49
      refine s_storeAgg (b := bo) (o := 0) (c' := (R6 N xa xc ya yc)) rfl rfl (by simp [Value.oneCell']) siz25 rfl Bo (by first | (simp; done) | exact Nat.le_of_ble_eq_true rfl) rfl ?_
      intro w5 S5
      replace hR4 := ReIn.chg S5.chg (fun y hy h => by have h2 : y = bo := h; rcases hy with h1 | h1; have := hS y h1; omega; omega) _ hR4
      replace Br := S5.keep (by omega) Br
      replace E := S5.step E (by first | exact Or.inl (by omega) | exact Or.inr rfl | exact Or.inr (by assumption) | exact Or.inr (by simp) | exact Or.inr (by omega) | exact Or.inr (by dsimp only; omega))
      replace Bo := S5.blk
      refine WpL_nil (Wp_ret ?_)
      refine fin_agg Tryz.results58 (vs := [(.int .i64 N.kind), (.slice xa N.set.length xc), (.slice ya N.args.length yc), (.int .i64 N.mn), (.int .i64 N.mx), (.bool N.neg)]) (b := bo) rfl agg25 siz25 rfl (Bo.cells rfl) ?_
      exact ⟨⟨_, rfl, by rw [← hN]; exact ReIn.mono (fun y hy => by rcases hy with h1 | h1; exact .inl h1; exact .inr (by omega)) _ hR4⟩, E⟩
end Go.Proofs
namespace Go.Proofs
open Go Go.Eng Go.Sort
set_option maxRecDepth 100000
def rsG (S : Nat → Prop) (l : List Re) : Fct := fun v w => ∃ b, v = .slice (some ⟨b, 0, none⟩) l.length l.length ∧ RsIn S w (.slice (some ⟨b, 0, none⟩) l.length l.length) l
theorem rsG_ext (S : Nat → Prop) (l : List Re) : Stable (rsG S l) := by
 rintro v w w' e ⟨b, h1, h2⟩
 exact ⟨b, h1, RsIn.ext h2 e⟩
section
variable {N : Nat} {σ : Env} {w : World} {dst : Option Tmp} {ty : TypeId} {pos : String} {af : Array Edge} {g : Option (Nat × Bool)} {S : Nat → Prop} {X Y : Re} {x y z : Operand} {sa aa sa' aa' : Option Addr} {sc ac sc' ac' : Nat}
theorem Does_two (hx : ev σ x = .agg #[.int .i64 X.kind, .slice sa X.set.length sc, .slice aa X.args.length ac, .int .i64 X.mn, .int .i64 X.mx, .bool X.neg]) (hy : ev σ y = .agg #[.int .i64 Y.kind, .slice sa' Y.set.length sc', .slice aa' Y.args.length ac', .int .i64 Y.mn, .int .i64 Y.mx, .bool Y.neg]) (h1 : ReIn S w X [.int .i64 X.kind, .slice sa X.set.length sc, .slice aa X.args.length ac, .int .i64 X.mn, .int .i64 X.mx, .bool X.neg]) (h2 : ReIn S w Y [.int .i64 Y.kind, .slice sa' Y.set.length sc', .slice aa' Y.args.length ac', .int .i64 Y.mn, .int .i64 Y.mx, .bool Y.neg]) (hS : ∀ b, w.heap.size ≤ b → S b) :
  Does Tryz.prog N ⟨dst, .buildSlice 23 2 #[(0, x), (1, y)], ty, pos, af, g⟩ (rsG S [X, Y]) σ w := by
 have hn := New.mk' w (#[.int .i64 X.kind, .slice sa X.set.length sc, .slice aa X.args.length ac, .int .i64 X.mn, .int .i64 X.mx, .bool X.neg, .int .i64 Y.kind, .slice sa' Y.set.length sc', .slice aa' Y.args.length ac', .int .i64 Y.mn, .int .i64 Y.mx, .bool Y.neg]) TRe
 refine Does_val (run_buildSlice (parts := [(0, x), (1, y)]) (ps := [(0, .agg #[.int .i64 X.kind, .slice sa X.set.length sc, .slice aa X.args.length ac, .int .i64 X.mn, .int .i64 X.mx, .bool X.neg]), (1, .agg #[.int .i64 Y.kind, .slice sa' Y.set.length sc', .slice aa' Y.args.length ac', .int .i64 Y.mn, .int .i64 Y.mx, .bool Y.neg])]) (by simp only [List.map, hx, hy]) Tryz.underlying23 siz25 zer25 (by decide) (by decide) (by kernel_rfl)) hn.ext ⟨_, rfl, ?_⟩
 exact ⟨_, _, rfl, by simp, .inr ⟨_, 0, hS _ (Nat.le_refl _), rfl, ResIn.two (hn.blk.cells (by rfl)) (ReIn.ext hn.ext _ h1) (hn.blk.cells (by rfl)) (ReIn.ext hn.ext _ h2)⟩⟩
theorem Does_oneR (hx : ev σ x = .agg #[.int .i64 X.kind, .slice sa X.set.length sc, .slice aa X.args.length ac, .int .i64 X.mn, .int .i64 X.mx, .bool X.neg]) (h1 : ReIn S w X [.int .i64 X.kind, .slice sa X.set.length sc, .slice aa X.args.length ac, .int .i64 X.mn, .int .i64 X.mx, .bool X.neg]) (hS : ∀ b, w.heap.size ≤ b → S b) :
  Does Tryz.prog N ⟨dst, .buildSlice 23 1 #[(0, x)], ty, pos, af, g⟩ (rsG S [X]) σ w := by
 have hn := New.mk' w #[.int .i64 X.kind, .slice sa X.set.length sc, .slice aa X.args.length ac, .int .i64 X.mn, .int .i64 X.mx, .bool X.neg] TRe
 refine Does_val (run_buildSlice (parts := [(0, x)]) (ps := [(0, .agg #[.int .i64 X.kind, .slice sa X.set.length sc, .slice aa X.args.length ac, .int .i64 X.mn, .int .i64 X.mx, .bool X.neg])]) (by simp only [List.map, hx]) Tryz.underlying23 siz25 zer25 (by decide) (by decide) (by kernel_rfl)) hn.ext ⟨_, rfl, ?_⟩
 exact ⟨_, _, rfl, by simp, .inr ⟨_, 0, hS _ (Nat.le_refl _), rfl, ResIn.one (hn.blk.cells (by rfl)) (ReIn.ext hn.ext _ h1)⟩⟩
theorem rs_mk {b n : Nat} {l : List Re} {k m x : Int} (h : RsIn S w (.slice (some ⟨b, 0, none⟩) n n) l) (hn : l.length = n) : ReIn S w (.mk k [] l m x false) [.int .i64 k, .slice none 0 0, .slice (some ⟨b, 0, none⟩) l.length l.length, .int .i64 m, .int .i64 x, .bool false] := by
 subst hn
 obtain ⟨aa, ac, h1, h2, h3⟩ := h
 simp only [Value.slice.injEq, true_and] at h1
 obtain ⟨rfl, rfl⟩ := h1
 exact ReIn.of (set := []) (SlIn.nil _ _ _ _ _) h2 h3
theorem Does_node4 {b n : Nat} {l : List Re} (hx : ev σ x = .slice (some ⟨b, 0, none⟩) n n) (h : RsIn S w (.slice (some ⟨b, 0, none⟩) n n) l) (hn : l.length = n) :
  Does Tryz.prog N ⟨dst, .build 25 #[(0, .const (.int .i64 4)), (2, x)], ty, pos, af, g⟩ (reG S (.mk 4 [] l 0 0 false)) σ w := by
 subst hn
 exact Does_val (r_build (parts := [(0, .const (I6 4)), (2, x)]) (ps := [(0, .int .i64 4), (2, .slice (some ⟨b, 0, none⟩) l.length l.length)]) (v := .agg #[.int .i64 4, .slice none 0 0, .slice (some ⟨b, 0, none⟩) l.length l.length, .int .i64 0, .int .i64 0, .bool false]) (by simp only [List.map, hx]; rfl) (by kernel_rfl)) (Ext.refl _) ⟨none, 0, some ⟨b, 0, none⟩, l.length, rfl, rs_mk h rfl⟩
theorem Does_node6 {b n : Nat} {l : List Re} {m u : Int} (hx : ev σ x = .slice (some ⟨b, 0, none⟩) n n) (hy : ev σ y = .int .i64 m) (hz : ev σ z = .int .i64 u) (h : RsIn S w (.slice (some ⟨b, 0, none⟩) n n) l) (hn : l.length = n) :
  Does Tryz.prog N ⟨dst, .build 25 #[(0, .const (.int .i64 6)), (2, x), (3, y), (4, z)], ty, pos, af, g⟩ (reG S (.mk 6 [] l m u false)) σ w := by
 subst hn
 exact Does_val (r_build (parts := [(0, .const (I6 6)), (2, x), (3, y), (4, z)]) (ps := [(0, .int .i64 6), (2, .slice (some ⟨b, 0, none⟩) l.length l.length), (3, .int .i64 m), (4, .int .i64 u)]) (v := .agg #[.int .i64 6, .slice none 0 0, .slice (some ⟨b, 0, none⟩) l.length l.length, .int .i64 m, .int .i64 u, .bool false]) (by simp only [List.map, hx, hy, hz]; rfl) (by kernel_rfl)) (Ext.refl _) ⟨none, 0, some ⟨b, 0, none⟩, l.length, rfl, rs_mk h rfl⟩
end
set_option maxHeartbeats 1000000 in
theorem clonere_c (w0 : World) (S : Nat → Prop) (v : Value) (ts : List Re) (h : RsIn S w0 v ts) (hne : ts ≠ []) (hl : ts.length ≤ 1000000) :
  Ret Tryz.prog 119 #[v] w0 fun r w => (∃ a c, r = .slice a ts.length c ∧ RsIn (fun b => S b ∨ w0.heap.size ≤ b) w r ts) ∧ Ext w0 w := by
 obtain ⟨aa, c, rfl, hlen, h3⟩ := h
 obtain ⟨b, o, hSb, rfl, hres⟩ := h3.resolve_left hne
 have hpos := List.length_pos_iff.2 hne
 obtain ⟨rows, hrows, hcells⟩ := ResIn.rows hres
 obtain ⟨base, hbase⟩ : ∃ base, base = w0.heap.size := ⟨_, rfl⟩
 refine Ret_of Tryz.func119 rfl Tryz.ntmps119 (Nat.le_of_ble_eq_true rfl) ?_
 have E : Chg none1 w0 w0 := Chg.refl _ _
 refine Wp_seq_region ?_
 refine qA (.slice none 0 0) rfl ?_
 refine WpL_nil (Wp_seq (Wp_seq_region ?_))
 refine qM (.slice (some ⟨b, o, none⟩) ts.length c) rfl ?_
 refine WpL_val (v := (.bool false)) rfl rfl (by decide) (r_eqlNil (a := some ⟨b, o, none⟩) Tryz.underlying23 rfl rfl) ?_
 refine WpL_nil ?_
 refine Wp_cond_false rfl ?_
 refine Wp_skip (thn_normal (Wp_seq_region ?_))
 refine s_build0 (by decide) Tryz.underlying23 siz25 ?_
 intro bq wq Nq
 have Fq := Nq.ge E
 replace E := E.ext Nq.ext
 have Bq := Nq.blk
 refine qM (.slice (some ⟨b, o, none⟩) ts.length c) rfl ?_
 have hown := own_empty (base := base) (size := 6) Bq (by omega)
 have hbs : base ≤ wq.heap.size := by have := Nq.ext.size; omega
 refine s_append (base := base) (n := 0) (m := ts.length) (xs := []) (news := rows.flatten) (size := 6) (bytes := 80) (v := (.slice (some ⟨bq, 0, none⟩) 0 0)) (by decide) Tryz.underlying23 siz25 byt25 zer25 rfl (by decide) rfl hown rfl (by rw [rows_len hrows.six, hrows.len]) (hcells.ext Nq.ext) (hrows.one) (by unfold maxLen; omega) (by omega) (hbs) ?_
 intro v9 w29 Ov9 Cv9 Dv9
 replace E := E.step Cv9 (fun x hx h => absurd (hown.lt x h).1 (by omega))
 obtain ⟨la, lc, rfl⟩ := own_form Ov9
 refine qA (.slice la (0 + ts.length) lc) rfl ?_
 refine WpL_nil (Wp_ret ?_)
 refine fin_tmp Tryz.results119 (v := (.slice la (0 + ts.length) lc)) rfl ?_
 simp only [Nat.zero_add, List.nil_append] at Ov9
 obtain ⟨hoc, hocl⟩ := own_res Ov9 (hrows.ext E) rfl
 simp only [Nat.zero_add]
 refine ⟨⟨la, lc, rfl, la, lc, rfl, hoc, ?_⟩, E⟩
 rcases hocl with h | ⟨ob, hob1, hob2, hob3, hclo⟩
 ·exact .inl h
 ·exact .inr ⟨ob, 0, .inr (by omega), hob3, resin_of fun i t ht => by obtain ⟨vs, h6, h7⟩ := hclo i t ht; exact ⟨vs, h6, ReIn.mono (fun y hy => .inl hy) t h7⟩⟩
/-- The derivative of smaller expressions, as a contract. -/
def StepOkD (c : Int) (n : Nat) : Prop := ∀ (t : Re) (w0 : World) (S : Nat → Prop) (vs : List Value), t.size < n → SimOk t → ReIn S w0 t vs → (∀ x, S x → x < w0.heap.size) →
  Ret Tryz.prog 60 #[.agg vs.toArray, .int .i64 c] w0 fun r w => (∃ us, r = .agg us.toArray ∧ ReIn (fun b => S b ∨ w0.heap.size ≤ b) w (stepR c t) us) ∧ Ext w0 w
section
variable {c : Int} {t x : Re}
theorem stepR_eq (c : Int) (t : Re) : stepR c t = if t.kind = 2 then (if inS t.set c = true then emptyT else noneT) else if t.kind = 3 then stepC c t.args else if t.kind = 4 ∨ t.kind = 7 ∨ t.kind = 8 then nodeK t.kind [] (stepRs c t.args) 0 0 false else if t.kind = 5 then catD [(stepRs c t.args).headD noneT, t] else if t.kind = 6 then catD [(stepRs c t.args).headD noneT, nodeK 6 [] [t.args.headD noneT] (max 0 (t.mn - 1)) (t.mx - 1) false] else noneT := by
 cases t; simp only [stepR]; rfl
theorem st2 (h : t.kind = 2) : stepR c t = if inS t.set c = true then emptyT else noneT := by rw [stepR_eq]; simp [h]
theorem st3 (h : t.kind = 3) : stepR c t = stepC c t.args := by rw [stepR_eq]; simp [h]
theorem st478 (h : t.kind = 4 ∨ t.kind = 7 ∨ t.kind = 8) : stepR c t = nodeS (.mk t.kind [] (t.args.map (stepR c)) 0 0 false) := by rw [stepR_eq, if_neg (by omega), if_neg (by omega), if_pos h, stepRs_map]; rfl
theorem st5 (h : t.kind = 5) (ha : t.args = [x]) : stepR c t = catD [stepR c x, t] := by rw [stepR_eq, if_neg (by omega), if_neg (by omega), if_neg (by omega), if_pos h, ha]; rfl
theorem st6 (h : t.kind = 6) (ha : t.args = [x]) : stepR c t = catD [stepR c x, nodeS (.mk 6 [] [x] (max 0 (t.mn - 1)) (t.mx - 1) false)] := by rw [stepR_eq, if_neg (by omega), if_neg (by omega), if_neg (by omega), if_neg (by omega), if_pos h, ha]; rfl
theorem stn (h : t.kind = 0 ∨ t.kind = 1) : stepR c t = noneT := by rw [stepR_eq, if_neg (by omega), if_neg (by omega), if_neg (by omega), if_neg (by omega), if_neg (by omega)]
end
end Go.Proofs
namespace Go.Proofs
open Go Go.Eng Go.Sort
set_option maxRecDepth 100000
set_option maxHeartbeats 1000000 in
theorem step_k2 (c : Int) (n : Nat) (ih : StepOkD c n) (t : Re) (hn : t.size ≤ n) (h300 : t.size ≤ 300) (hok : SimOk t) (hk : t.kind = 2) (w0 : World) (S : Nat → Prop) (vs : List Value) (ht : ReIn S w0 t vs) (hS : ∀ x, S x → x < w0.heap.size) :
  Ret Tryz.prog 60 #[.agg vs.toArray, .int .i64 c] w0 fun r w => (∃ us, r = .agg us.toArray ∧ ReIn (fun b => S b ∨ w0.heap.size ≤ b) w (stepR c t) us) ∧ Ext w0 w := by
 have ht0 := ht
 obtain ⟨sa, sc, aa, ac, rfl, hset, hlen, hargs⟩ := ht.form
 have hRs : RsIn S w0 (.slice aa t.args.length ac) t.args := rs_in ht0
 have hal := len_lt_size t
 have hszt := t.size_eq
 refine Ret_of Tryz.func60 rfl Tryz.ntmps60 (Nat.le_of_ble_eq_true rfl) ?_
 have E : Chg none1 w0 w0 := Chg.refl _ _
 refine Wp_seq_region ?_
 refine s_box (v := (.agg (R6 t sa sc aa ac))) (c := (R6 t sa sc aa ac)) (by decide) rfl rfl ?_
 intro br wr Nr
 have Fr := Nr.ge E
 replace E := E.ext Nr.ext
 have Br := Nr.blk
 refine s_alloc (c := #[(I6 0), (.slice none 0 0), (.slice none 0 0), (I6 0), (I6 0), (.bool false)]) (by decide) zer25 rfl ?_
 intro bo wo No
 have Fo := No.ge E
 have Oo_br := No.lt Br
 replace Br := No.keep Br
 replace E := E.ext No.ext
 have Bo := No.blk
 refine WpL_nil (Wp_seq (Wp_seq_region ?_))
 refine qF br 0 0 rfl Tryz.underlying25 rfl siz3 rfl ?_
 refine qV (r_load (v := (I6 t.kind)) rfl flat3 (Br.cell rfl)) ?_
 refine WpL_nil (Wp_block (Wp_seq_region ?_))
 refine qV (r_eql (k := .i64) (a := t.kind) (b := 2) rfl rfl) ?_
 refine qA (.bool (decide ((t.kind : Int) = 2))) rfl ?_
 refine WpL_nil ?_
 have hc1 : (decide ((t.kind : Int) = 2)) = true := decide_eq_true hk
 refine Wp_cond_true (congrArg Value.bool hc1) ?_
 refine Wp_seq_region ?_
 refine qF br 0 1 rfl Tryz.underlying25 rfl siz22 rfl ?_
 refine qV (r_load (v := (.slice sa t.set.length sc)) rfl flat22 (Br.cell rfl)) ?_
 refine qM (I6 c) rfl ?_
 refine WpL_enter rfl rfl (by decide) (r_callF (vs := [(.slice sa t.set.length sc), (I6 c)]) Tryz.func116 nm116 bd116 rfl) (in_c _ _ t.set c (hset.at.ext E)) ?_
 rintro _ w9 ⟨rfl, X9⟩
 replace Br := X9.keep Br
 replace Bo := X9.keep Bo
 replace E := E.ext X9
 refine WpL_nil ?_
 refine Wp_cond (b := inS t.set c) rfl (fun hin => ?_) (fun hin => ?_)
 ·have khin := hin
  refine Wp_seq_region ?_
  refine WpL_enter rfl rfl (by decide) (r_callF (vs := []) Tryz.func117 nm117 bd117 rfl) (dempty_c _) ?_
  rintro _ w29 ⟨rfl, X29⟩
  replace Br := X29.keep Br
  replace Bo := X29.keep Bo
  replace E := E.ext X29
  refine s_storeAgg (b := bo) (o := 0) (c' := #[(I6 1), (.slice none 0 0), (.slice none 0 0), (I6 0), (I6 0), (.bool false)]) rfl rfl (by simp [Value.oneCell']) siz25 rfl Bo (by first | (simp; done) | exact Nat.le_of_ble_eq_true rfl) rfl ?_
  intro w3 S3
  replace Br := S3.keep (by omega) Br
  replace E := S3.step E (by first | exact Or.inl (by omega) | exact Or.inr rfl | exact Or.inr (by assumption) | exact Or.inr (by simp) | exact Or.inr (by omega) | exact Or.inr (by dsimp only; omega))
  replace Bo := S3.blk
  refine WpL_nil (Wp_ret (inB_ret (thn_ret ?_)))
  refine fin_agg Tryz.results60 (vs := [(.int .i64 1), (.slice none 0 0), (.slice none 0 0), (.int .i64 0), (.int .i64 0), (.bool false)]) (b := bo) rfl agg25 siz25 rfl (Bo.cells rfl) ?_
  exact ⟨⟨_, rfl, by rw [st2 hk, if_pos hin]; exact re_empty _ _ _⟩, E⟩
 ·have khin := hin
  refine Wp_skip (inB_normal (thn_normal (Wp_seq_region ?_)))
  refine WpL_enter rfl rfl (by decide) (r_callF (vs := []) Tryz.func120 nm120 bd120 rfl) (dnone_c _) ?_
  rintro _ w29 ⟨rfl, X29⟩
  replace Br := X29.keep Br
  replace Bo := X29.keep Bo
  replace E := E.ext X29
  refine s_storeAgg (b := bo) (o := 0) (c' := #[(I6 0), (.slice none 0 0), (.slice none 0 0), (I6 0), (I6 0), (.bool false)]) rfl rfl (by simp [Value.oneCell']) siz25 rfl Bo (by first | (simp; done) | exact Nat.le_of_ble_eq_true rfl) rfl ?_
  intro w4 S4
  replace Br := S4.keep (by omega) Br
  replace E := S4.step E (by first | exact Or.inl (by omega) | exact Or.inr rfl | exact Or.inr (by assumption) | exact Or.inr (by simp) | exact Or.inr (by omega) | exact Or.inr (by dsimp only; omega))
  replace Bo := S4.blk
  refine WpL_nil (Wp_ret ?_)
  refine fin_agg Tryz.results60 (vs := [(.int .i64 0), (.slice none 0 0), (.slice none 0 0), (.int .i64 0), (.int .i64 0), (.bool false)]) (b := bo) rfl agg25 siz25 rfl (Bo.cells rfl) ?_
  exact ⟨⟨_, rfl, by rw [st2 hk, if_neg (by rw [hin]; decide)]; exact re_empty _ _ _⟩, E⟩
set_option maxHeartbeats 1000000 in
theorem step_k0 (c : Int) (n : Nat) (ih : StepOkD c n) (t : Re) (hn : t.size ≤ n) (h300 : t.size ≤ 300) (hok : SimOk t) (hk : t.kind = 0 ∨ t.kind = 1) (w0 : World) (S : Nat → Prop) (vs : List Value) (ht : ReIn S w0 t vs) (hS : ∀ x, S x → x < w0.heap.size) :
  Ret Tryz.prog 60 #[.agg vs.toArray, .int .i64 c] w0 fun r w => (∃ us, r = .agg us.toArray ∧ ReIn (fun b => S b ∨ w0.heap.size ≤ b) w (stepR c t) us) ∧ Ext w0 w := by
 have ht0 := ht
 obtain ⟨sa, sc, aa, ac, rfl, hset, hlen, hargs⟩ := ht.form
 have hRs : RsIn S w0 (.slice aa t.args.length ac) t.args := rs_in ht0
 have hal := len_lt_size t
 have hszt := t.size_eq
 refine Ret_of Tryz.func60 rfl Tryz.ntmps60 (Nat.le_of_ble_eq_true rfl) ?_
 have E : Chg none1 w0 w0 := Chg.refl _ _
 refine Wp_seq_region ?_
 refine s_box (v := (.agg (R6 t sa sc aa ac))) (c := (R6 t sa sc aa ac)) (by decide) rfl rfl ?_
 intro br wr Nr
 have Fr := Nr.ge E
 replace E := E.ext Nr.ext
 have Br := Nr.blk
 refine s_alloc (c := #[(I6 0), (.slice none 0 0), (.slice none 0 0), (I6 0), (I6 0), (.bool false)]) (by decide) zer25 rfl ?_
 intro bo wo No
 have Fo := No.ge E
 have Oo_br := No.lt Br
 replace Br := No.keep Br
 replace E := E.ext No.ext
 have Bo := No.blk
 refine WpL_nil (Wp_seq (Wp_seq_region ?_))
 refine qF br 0 0 rfl Tryz.underlying25 rfl siz3 rfl ?_
 refine qV (r_load (v := (I6 t.kind)) rfl flat3 (Br.cell rfl)) ?_
 refine WpL_nil (Wp_block (Wp_seq_region ?_))
 refine qV (r_eql (k := .i64) (a := t.kind) (b := 2) rfl rfl) ?_
 refine qA (.bool (decide ((t.kind : Int) = 2))) rfl ?_
 refine WpL_nil ?_
 have hc1 : (decide ((t.kind : Int) = 2)) = false := decide_eq_false (by omega)
 refine Wp_cond_false (congrArg Value.bool hc1) ?_
 refine Wp_seq_region ?_
 refine qV (r_eql (k := .i64) (a := t.kind) (b := 3) rfl rfl) ?_
 refine qA (.bool (decide ((t.kind : Int) = 3))) rfl ?_
 refine WpL_nil ?_
 have hc2 : (decide ((t.kind : Int) = 3)) = false := decide_eq_false (by omega)
 refine Wp_cond_false (congrArg Value.bool hc2) ?_
 refine Wp_seq (Wp_seq_region ?_)
 refine qV (r_eql (k := .i64) (a := t.kind) (b := 4) rfl rfl) ?_
 refine qA (.bool (decide ((t.kind : Int) = 4))) rfl ?_
 refine WpL_nil ?_
 have hc3 : (decide ((t.kind : Int) = 4)) = false := decide_eq_false (by omega)
 refine Wp_cond_false (congrArg Value.bool hc3) ?_
 refine Wp_seq_region ?_
 refine qV (r_eql (k := .i64) (a := t.kind) (b := 7) rfl rfl) ?_
 refine qA (.bool (decide ((t.kind : Int) = 7))) rfl ?_
 refine WpL_nil ?_
 have hc4 : (decide ((t.kind : Int) = 7)) = false := decide_eq_false (by omega)
 refine Wp_cond_false (congrArg Value.bool hc4) ?_
 refine Wp_region ?_
 refine qV (r_eql (k := .i64) (a := t.kind) (b := 8) rfl rfl) ?_
 refine qA (.bool (decide ((t.kind : Int) = 8))) rfl ?_
 refine WpL_nil (thn_normal ?_)
 have hc5 : (decide ((t.kind : Int) = 8)) = false := decide_eq_false (by omega)
 refine Wp_cond_false (congrArg Value.bool hc5) ?_
 refine Wp_seq_region ?_
 refine qV (r_eql (k := .i64) (a := t.kind) (b := 5) rfl rfl) ?_
 refine qA (.bool (decide ((t.kind : Int) = 5))) rfl ?_
 refine WpL_nil ?_
 have hc6 : (decide ((t.kind : Int) = 5)) = false := decide_eq_false (by omega)
 refine Wp_cond_false (congrArg Value.bool hc6) ?_
 refine Wp_seq_region ?_
 refine qV (r_eql (k := .i64) (a := t.kind) (b := 6) rfl rfl) ?_
 refine qA (.bool (decide ((t.kind : Int) = 6))) rfl ?_
 refine WpL_nil ?_
 have hc7 : (decide ((t.kind : Int) = 6)) = false := decide_eq_false (by omega)
 refine Wp_cond_false (congrArg Value.bool hc7) ?_
 refine Wp_skip (inB_normal (thn_normal (Wp_seq_region ?_)))
 refine WpL_enter rfl rfl (by decide) (r_callF (vs := []) Tryz.func120 nm120 bd120 rfl) (dnone_c _) ?_
 rintro _ w29 ⟨rfl, X29⟩
 replace Br := X29.keep Br
 replace Bo := X29.keep Bo
 replace E := E.ext X29
 refine s_storeAgg (b := bo) (o := 0) (c' := #[(I6 0), (.slice none 0 0), (.slice none 0 0), (I6 0), (I6 0), (.bool false)]) rfl rfl (by simp [Value.oneCell']) siz25 rfl Bo (by first | (simp; done) | exact Nat.le_of_ble_eq_true rfl) rfl ?_
 intro w8 S8
 replace Br := S8.keep (by omega) Br
 replace E := S8.step E (by first | exact Or.inl (by omega) | exact Or.inr rfl | exact Or.inr (by assumption) | exact Or.inr (by simp) | exact Or.inr (by omega) | exact Or.inr (by dsimp only; omega))
 replace Bo := S8.blk
 refine WpL_nil (Wp_ret ?_)
 refine fin_agg Tryz.results60 (vs := [(.int .i64 0), (.slice none 0 0), (.slice none 0 0), (.int .i64 0), (.int .i64 0), (.bool false)]) (b := bo) rfl agg25 siz25 rfl (Bo.cells rfl) ?_
 exact ⟨⟨_, rfl, by rw [stn hk]; exact re_empty _ _ _⟩, E⟩
set_option maxHeartbeats 1000000 in
theorem step_k5 (c : Int) (n : Nat) (ih : StepOkD c n) (t : Re) (hn : t.size ≤ n) (h300 : t.size ≤ 300) (hok : SimOk t) (hk : t.kind = 5) (w0 : World) (S : Nat → Prop) (vs : List Value) (ht : ReIn S w0 t vs) (hS : ∀ x, S x → x < w0.heap.size) :
  Ret Tryz.prog 60 #[.agg vs.toArray, .int .i64 c] w0 fun r w => (∃ us, r = .agg us.toArray ∧ ReIn (fun b => S b ∨ w0.heap.size ≤ b) w (stepR c t) us) ∧ Ext w0 w := by
 have ht0 := ht
 obtain ⟨sa, sc, aa, ac, rfl, hset, hlen, hargs⟩ := ht.form
 have hRs : RsIn S w0 (.slice aa t.args.length ac) t.args := rs_in ht0
 have hal := len_lt_size t
 have hszt := t.size_eq
 refine Ret_of Tryz.func60 rfl Tryz.ntmps60 (Nat.le_of_ble_eq_true rfl) ?_
 have E : Chg none1 w0 w0 := Chg.refl _ _
 refine Wp_seq_region ?_
 refine s_box (v := (.agg (R6 t sa sc aa ac))) (c := (R6 t sa sc aa ac)) (by decide) rfl rfl ?_
 intro br wr Nr
 have Fr := Nr.ge E
 replace E := E.ext Nr.ext
 have Br := Nr.blk
 refine s_alloc (c := #[(I6 0), (.slice none 0 0), (.slice none 0 0), (I6 0), (I6 0), (.bool false)]) (by decide) zer25 rfl ?_
 intro bo wo No
 have Fo := No.ge E
 have Oo_br := No.lt Br
 replace Br := No.keep Br
 replace E := E.ext No.ext
 have Bo := No.blk
 refine WpL_nil (Wp_seq (Wp_seq_region ?_))
 refine qF br 0 0 rfl Tryz.underlying25 rfl siz3 rfl ?_
 refine qV (r_load (v := (I6 t.kind)) rfl flat3 (Br.cell rfl)) ?_
 refine WpL_nil (Wp_block (Wp_seq_region ?_))
 refine qV (r_eql (k := .i64) (a := t.kind) (b := 2) rfl rfl) ?_
 refine qA (.bool (decide ((t.kind : Int) = 2))) rfl ?_
 refine WpL_nil ?_
 obtain ⟨n1, hn1⟩ : ∃ n1, n1 = wo.heap.size := ⟨_, rfl⟩
 have hob : br < n1 ∧ bo < n1 ∧ w0.heap.size ≤ bo ∧ w0.heap.size ≤ n1 := ⟨by rw [hn1]; exact Br.lt, by rw [hn1]; exact Bo.lt, by omega, by rw [hn1]; exact E.size⟩
 have hn1w : n1 ≤ wo.heap.size := by omega
 have E1 : Ext wo wo := Ext.refl _
 have hc1 : (decide ((t.kind : Int) = 2)) = false := decide_eq_false (by omega)
 refine Wp_cond_false (congrArg Value.bool hc1) ?_
 refine Wp_seq_region ?_
 refine qV (r_eql (k := .i64) (a := t.kind) (b := 3) rfl rfl) ?_
 refine qA (.bool (decide ((t.kind : Int) = 3))) rfl ?_
 refine WpL_nil ?_
 have hc2 : (decide ((t.kind : Int) = 3)) = false := decide_eq_false (by omega)
 refine Wp_cond_false (congrArg Value.bool hc2) ?_
 refine Wp_seq (Wp_seq_region ?_)
 refine qV (r_eql (k := .i64) (a := t.kind) (b := 4) rfl rfl) ?_
 refine qA (.bool (decide ((t.kind : Int) = 4))) rfl ?_
 refine WpL_nil ?_
 have hc3 : (decide ((t.kind : Int) = 4)) = false := decide_eq_false (by omega)
 refine Wp_cond_false (congrArg Value.bool hc3) ?_
 refine Wp_seq_region ?_
 refine qV (r_eql (k := .i64) (a := t.kind) (b := 7) rfl rfl) ?_
 refine qA (.bool (decide ((t.kind : Int) = 7))) rfl ?_
 refine WpL_nil ?_
 have hc4 : (decide ((t.kind : Int) = 7)) = false := decide_eq_false (by omega)
 refine Wp_cond_false (congrArg Value.bool hc4) ?_
 refine Wp_region ?_
 refine qV (r_eql (k := .i64) (a := t.kind) (b := 8) rfl rfl) ?_
 refine qA (.bool (decide ((t.kind : Int) = 8))) rfl ?_
 refine WpL_nil (thn_normal ?_)
 have hc5 : (decide ((t.kind : Int) = 8)) = false := decide_eq_false (by omega)
 refine Wp_cond_false (congrArg Value.bool hc5) ?_
 refine Wp_seq_region ?_
 refine qV (r_eql (k := .i64) (a := t.kind) (b := 5) rfl rfl) ?_
 refine qA (.bool (decide ((t.kind : Int) = 5))) rfl ?_
 refine WpL_nil ?_
 have hc6 : (decide ((t.kind : Int) = 5)) = true := decide_eq_true hk
 refine Wp_cond_true (congrArg Value.bool hc6) ?_
 obtain ⟨x, hax, hx0⟩ : ∃ x, t.args = [x] ∧ SimOk x := by obtain ⟨y, hy, _⟩ := hok.n.k5 hk; exact ⟨y, hy, hok.a y (by rw [hy]; simp)⟩
 have hx : t.args[0]? = some x := by rw [hax]; rfl
 have hal1 : t.args.length = 1 := by rw [hax]; rfl
 have hxz := Re.size_arg hx
 obtain ⟨ab, ao, hab, rfl, hres⟩ := hargs.resolve_left (fun h => by rw [h] at hx; cases hx)
 obtain ⟨us, hus, hxt⟩ := hres.get hx
 have hxt0 := hxt
 obtain ⟨xsa, xsc, xaa, xac, rfl, _, _, _⟩ := hxt.form
 have hsm := step_small (c := c) hx0 (by omega)
 obtain ⟨N, hN⟩ : ∃ N, N = stepR c t := ⟨_, rfl⟩
 obtain ⟨D, hD⟩ : ∃ D, D = stepR c x := ⟨_, rfl⟩
 have hN5 : N = catD [D, t] := by rw [hN, hD]; exact st5 hk hax
 have hz_7 : w0.heap.size ≤ wo.heap.size := E.size
 have lz_7_br : br < wo.heap.size := Br.lt
 have lz_7_bo : bo < wo.heap.size := Bo.lt
 refine Wp_seq ?_
 obtain ⟨Fs7, hFs7⟩ : ∃ Fs : List Fact, Fs = [.eq (P6 br 2), .eq (.slice (some ⟨ab, ao, none⟩) t.args.length ac), .eq (.pointer (some ⟨ab, ao + 0 * 6, none⟩)), .eq (.agg (R6 x xsa xsc xaa xac)), .eq (I6 c), .gen (reG (fun b => S b ∨ n1 ≤ b) D) (reG_ext _ _), .eq (.agg (R6 t sa sc (some ⟨ab, ao, none⟩) ac)), .gen (rsG (fun b => S b ∨ n1 ≤ b) [D, t]) (rsG_ext _ _), .gen (reG (fun b => S b ∨ n1 ≤ b) N) (reG_ext _ _), .eq undef] := ⟨_, rfl⟩
 refine Wp_dagP [true, true, true, true, true, true, true, true, true, false] [9] [75, 76, 77, 78, 79, 80, 81, 82, 83, 119] [[], [0], [1], [2], [], [3, 4], [], [5, 6], [5, 7], []] Fs7 hFs7 mixed (by kernel_rfl) (by kernel_rfl) (by kernel_rfl) (by kernel_rfl) ?_ ?_
 ·intro wd X0
  refine DagStepsP.cons (fun s' w' X U H => Or.inl ⟨?_, ?_⟩) ?_
  ·exact Guarded_none rfl
  ·exact Does_val (r_fieldAddr (b := br) (o := 0) (o' := 2) (U 2 rfl) Tryz.underlying25 rfl siz23 rfl) (Ext.refl _) rfl
  refine DagStepsP.cons (fun s' w' X U H => Or.inl ⟨?_, ?_⟩) ?_
  ·exact Guarded_none rfl
  ·have e75 : s' 75 = (.pointer (some ⟨br, 2, none⟩)) := H 0 rfl 75 (.eq (.pointer (some ⟨br, 2, none⟩))) rfl (by rw [hFs7]; rfl)
   exact Does_val (r_load (v := (.slice (some ⟨ab, ao, none⟩) t.args.length ac)) e75 flat23 (((X0.trans X).keep Br).cell rfl)) (Ext.refl _) rfl
  refine DagStepsP.cons (fun s' w' X U H => Or.inl ⟨?_, ?_⟩) ?_
  ·exact Guarded_none rfl
  ·have e76 : s' 76 = (.slice (some ⟨ab, ao, none⟩) t.args.length ac) := H 1 rfl 76 (.eq (.slice (some ⟨ab, ao, none⟩) t.args.length ac)) rfl (by rw [hFs7]; rfl)
   exact Does_val (r_indexSlice (b := ab) (o := ao) (len := t.args.length) (cap := ac) (i := 0) (o' := ao + 0 * 6) e76 rfl rfl Tryz.underlying23 siz25 (by omega) (by omega)) (Ext.refl _) rfl
  refine DagStepsP.cons (fun s' w' X U H => Or.inl ⟨?_, ?_⟩) ?_
  ·exact Guarded_none rfl
  ·have e77 : s' 77 = (.pointer (some ⟨ab, ao + 0 * 6, none⟩)) := H 2 rfl 77 (.eq (.pointer (some ⟨ab, ao + 0 * 6, none⟩))) rfl (by rw [hFs7]; rfl)
   exact Does_val (r_loadAgg (vs := [(I6 x.kind), (.slice xsa x.set.length xsc), (.slice xaa x.args.length xac), (I6 x.mn), (I6 x.mx), (.bool x.neg)]) e77 agg25 siz25 rfl (hus.ext (Ext.trans E (X0.trans X)))) (Ext.refl _) rfl
  refine DagStepsP.cons (fun s' w' X U H => Or.inl ⟨?_, ?_⟩) ?_
  ·exact Guarded_none rfl
  ·exact Does_val (r_move (v := (I6 c)) (U 1 rfl)) (Ext.refl _) rfl
  refine DagStepsP.cons (fun s' w' X U H => Or.inl ⟨?_, ?_⟩) ?_
  ·exact Guarded_none rfl
  ·have e78 : s' 78 = (.agg #[(.int .i64 x.kind), (.slice xsa x.set.length xsc), (.slice xaa x.args.length xac), (.int .i64 x.mn), (.int .i64 x.mx), (.bool x.neg)]) := H 3 rfl 78 (.eq (.agg #[(.int .i64 x.kind), (.slice xsa x.set.length xsc), (.slice xaa x.args.length xac), (.int .i64 x.mn), (.int .i64 x.mx), (.bool x.neg)])) rfl (by rw [hFs7]; rfl)
   have e79 : s' 79 = (.int .i64 c) := H 4 rfl 79 (.eq (.int .i64 c)) rfl (by rw [hFs7]; rfl)
   exact Does_enter (r_callF (vs := [(.agg (R6 x xsa xsc xaa xac)), (I6 c)]) Tryz.func60 nm60 bd60 (lst2 e78 e79)) ((ih x _ S _ (by omega) hx0 (ReIn.ext (Ext.trans E (X0.trans X)) x hxt0) (fun y hy => by have := hS y hy; have := E.size; have := X0.size; have := X.size; omega)).mono (fun r w h => ⟨reG_of (S' := fun b => S b ∨ w'.heap.size ≤ b) (fun b hb => by rcases hb with h1 | h1; exact .inl h1; exact .inr (by have := E.size; have := X0.size; have := X.size; omega)) (by rw [hD]; exact h.1), h.2⟩))
  refine DagStepsP.cons (fun s' w' X U H => Or.inl ⟨?_, ?_⟩) ?_
  ·exact Guarded_none rfl
  ·exact Does_val (r_loadAgg (vs := [(I6 t.kind), (.slice sa t.set.length sc), (.slice (some ⟨ab, ao, none⟩) t.args.length ac), (I6 t.mn), (I6 t.mx), (.bool t.neg)]) (U 2 rfl) agg25 siz25 rfl (((X0.trans X).keep Br).cells rfl)) (Ext.refl _) rfl
  refine DagStepsP.cons (fun s' w' X U H => Or.inl ⟨?_, ?_⟩) ?_
  ·exact Guarded_none rfl
  ·obtain ⟨xa80, xc80, ya80, yc80, e80, r80⟩ := H 5 rfl 80 (.gen (reG (fun b => S b ∨ n1 ≤ b) D) (reG_ext _ _)) rfl (by rw [hFs7]; rfl)
   have e81 : s' 81 = (.agg #[(.int .i64 t.kind), (.slice sa t.set.length sc), (.slice (some ⟨ab, ao, none⟩) t.args.length ac), (.int .i64 t.mn), (.int .i64 t.mx), (.bool t.neg)]) := H 6 rfl 81 (.eq (.agg #[(.int .i64 t.kind), (.slice sa t.set.length sc), (.slice (some ⟨ab, ao, none⟩) t.args.length ac), (.int .i64 t.mn), (.int .i64 t.mx), (.bool t.neg)])) rfl (by rw [hFs7]; rfl)
   exact Does_two e80 e81 r80 (ReIn.mono (fun y hy => .inl hy) t (ReIn.ext (Ext.trans E (X0.trans X)) t ht0)) (fun b hb => .inr (by have := E.size; have := X0.size; have := X.size; omega))
  refine DagStepsP.cons (fun s' w' X U H => Or.inl ⟨?_, ?_⟩) ?_
  ·exact Guarded_none rfl
  ·obtain ⟨b82, e82, q82⟩ := H 7 rfl 82 (.gen (rsG (fun b => S b ∨ n1 ≤ b) [D, t]) (rsG_ext _ _)) rfl (by rw [hFs7]; rfl)
   exact Does_enter (r_callF (vs := [(.slice (some ⟨b82, 0, none⟩) 2 2)]) Tryz.func118 nm118 bd118 (lst1 e82)) ((dcat_c _ (fun b => (S b ∨ n1 ≤ b) ∧ b < w'.heap.size) _ [D, t] (RsIn.lt q82) (fun y hy => hy.2) (fun y hm hk => by rcases List.mem_cons.1 hm with rfl | hm; exact (sim_three (by rw [hD]; exact step_ok c hx0)).1 (.inl hk); simp at hm; subst hm; omega) (by simp only [Re.sizes]; rw [hD]; omega)).mono (fun r w h => ⟨reG_of (S' := fun b => ((S b ∨ n1 ≤ b) ∧ b < w'.heap.size) ∨ w'.heap.size ≤ b) (fun b hb => by rcases hb with h1 | h1; exact h1.1; exact .inr (by have := E.size; have := X0.size; have := X.size; omega)) (by rw [hN5]; exact h.1), h.2⟩))
  refine DagStepsP.tail ?_
  exact DagStepsP.nil
 ·intro s' w7 X7 U H
  obtain ⟨xa83, xc83, ya83, yc83, e83, r83⟩ := H 8 rfl 83 (.gen (reG (fun b => S b ∨ n1 ≤ b) N) (reG_ext _ _)) rfl (by rw [hFs7]; rfl)
  obtain ⟨j7, rfl⟩ := Fits.out (σ := s') (l := [(4, (.pointer (some ⟨bo, 0, none⟩))), (83, (.agg #[(.int .i64 N.kind), (.slice xa83 N.set.length xc83), (.slice ya83 N.args.length yc83), (.int .i64 N.mn), (.int .i64 N.mx), (.bool N.neg)]))]) ⟨U 4 rfl, e83, trivial⟩
  clear U H
  replace Br := X7.keep Br
  replace Bo := X7.keep Bo
  replace E := E.ext X7
  refine s_storeAgg (b := bo) (o := 0) (c' := (R6 N xa83 xc83 ya83 yc83)) rfl rfl (by simp [Value.oneCell']) siz25 rfl Bo (by first | (simp; done) | exact Nat.le_of_ble_eq_true rfl) rfl ?_
  intro w8 S8
  replace r83 := ReIn.chg S8.chg (fun y hy h => by have h2 : y = bo := h; rcases hy with h1 | h1; have := hS y h1; omega; omega) _ r83
  replace Br := S8.keep (by omega) Br
  replace E := S8.step E (by first | exact Or.inl (by omega) | exact Or.inr rfl | exact Or.inr (by assumption) | exact Or.inr (by simp) | exact Or.inr (by omega) | exact Or.inr (by dsimp only; omega))
  replace Bo := S8.blk
  refine WpL_nil (thn_normal (Wp_ret (inB_ret (thn_ret ?_))))
  refine fin_agg Tryz.results60 (vs := [(.int .i64 N.kind), (.slice xa83 N.set.length xc83), (.slice ya83 N.args.length yc83), (.int .i64 N.mn), (.int .i64 N.mx), (.bool N.neg)]) (b := bo) rfl agg25 siz25 rfl (Bo.cells rfl) ?_
  exact ⟨⟨_, rfl, by rw [← hN]; exact ReIn.mono (fun y hy => by rcases hy with h1 | h1; exact .inl h1; exact .inr (by omega)) _ r83⟩, E⟩
end Go.Proofs
