/- Contracts and plain lemmas, part 2. -/
import Derived.Tactics
import Derived.Deep.Quiet
import Derived.Laws.AppendOwn
import Derived.KernelRfl
import Derived.Laws.Entries
import Derived.Laws.Build
import Derived.Below
import Derived.RowKit3
import Derived.StillTail
import Derived.Sort.Grow
import Derived.Deep.Draws
import Derived.Test.YtgifkdbbgffemaaDoorChecked
import Derived.Laws.StructEq
import Derived.MapKept
import Derived.Laws.BytesArg
import Derived.DeepKeys3
import Derived.Shelf.SlSortCmp.WholeK
import Derived.Test.YtgifkdbbgffemaaDoorProg
import Derived.Test.YtgifkdbbgffemaaDoorFo1
namespace Go.Proofs
open Go Go.Eng
set_option maxRecDepth 100000
theorem ints_idx_c (w0 : World) (v fv : Value) (l : List (Int)) (p : Int → Bool) (hs : IntsAt w0 v l) (hf : ∀ (w : World) (x : Int), Ext w0 w → x ∈ l → CallV Tryd.prog fv #[.int .i64 x] w fun r w' => r = .bool (p x) ∧ Ext w w') :
    Ret Tryd.prog 70 #[v, fv] w0 fun r w => r = .int .i64 (idx p l) ∧ Ext w0 w := by
  obtain ⟨a, c, rfl⟩ := SlAt.form hs
  have hlen : l.length ≤ 9223372036854775807 := by simpa using SlAt.le hs
  simp only [List.length_map] at hs ⊢
  refine Ret_of Tryd.func70 rfl Tryd.ntmps70 (Nat.le_of_ble_eq_true rfl) ?_
  have E : Chg none1 w0 w0 := Chg.refl _ _
  refine Wp_seq_region ?_
  refine WpL_val rfl rfl (by decide) (r_assign (v := (.int .i64 0)) rfl) ?_
  refine WpL_nil ?_
  refine Wp_seq ?_
  refine Wp_seq_region ?_
  refine WpL_val rfl rfl (by decide) (r_move (v := (.slice a l.length c)) rfl) ?_
  refine WpL_val rfl rfl (by decide) (r_lenSlice (ad := a) (n := l.length) (cap := c) Tryd.underlying22 rfl) ?_
  refine WpL_val rfl rfl (by decide) (r_move (v := (.int .i64 0)) rfl) ?_
  refine WpL_nil ?_
  refine Wp_block ?_
  refine Wp_loop (fun nn_ σ W1 => ∃ (k : Nat), (∃ jj_, σ = upds jj_ [(0, (.slice a l.length c)), (1, fv), (7, (.int .i64 ((l.length : Nat) : Int))), (8, (.int .i64 ((k : Nat) : Int)))]) ∧ Chg none1 w0 W1 ∧ (k ≤ l.length) ∧ (∀ (i : Nat) (y : Int), i < k → l[i]? = some y → p y = false) ∧ nn_ = l.length - k) (n := l.length - 0) ?_ ?_
  · exact ⟨0, Fits.out ⟨rfl, rfl, rfl, rfl, trivial⟩, E, Nat.zero_le _, (fun i y h => absurd h (Nat.not_lt_zero _)), rfl⟩
  · clear E
    rintro _ _ W1 ⟨k, ⟨j1, rfl⟩, E, hk, hno, rfl⟩
    refine Wp_seq_region ?_
    refine WpL_val rfl rfl (by decide) (r_lss (k := .i64) (a := ((k : Nat) : Int)) (b := ((l.length : Nat) : Int)) rfl rfl) ?_
    refine WpL_nil ?_
    refine Wp_seq ?_
    refine Wp_cond (b := decide ((((k : Nat) : Int) : Int) < ((l.length : Nat) : Int))) rfl (fun hlt => ?_) (fun hlt => ?_)
    · have khlt := hlt
      replace hlt := of_decide_eq_true hlt
      obtain ⟨x, hx⟩ := get_of_lt (l := l) (i := k) (by omega)
      obtain ⟨b, o, rfl, hcells⟩ := ints_cells hs (by omega)
      refine Wp_skip ?_
      refine thn_normal ?_
      refine Wp_seq ?_
      refine Wp_block ?_
      refine Wp_seq_region ?_
      refine WpL_val rfl rfl (by decide) (r_move (v := (.int .i64 ((k : Nat) : Int))) rfl) ?_
      refine WpL_val rfl rfl (by decide) (r_assign (v := (.int .i64 ((k : Nat) : Int))) rfl) ?_
      refine WpL_nil ?_
      refine Wp_seq_region ?_
      refine WpL_val rfl rfl (by decide) (r_move (v := fv) rfl) ?_
      refine WpL_val rfl rfl (by decide) (r_move (v := (.slice (some ⟨b, o, none⟩) l.length c)) rfl) ?_
      refine WpL_val rfl rfl (by decide) (r_move (v := (.int .i64 ((k : Nat) : Int))) rfl) ?_
      refine WpL_val rfl rfl (by decide) (r_indexSlice (b := b) (o := o) (len := l.length) (cap := c) (i := k) (o' := o + k) rfl rfl rfl Tryd.underlying22 siz3 (by omega) (by omega)) ?_
      refine WpL_val rfl rfl (by decide) (r_load (v := (.int .i64 x)) rfl flat3 (E.cell (fun f => f) (hcells k x hx))) ?_
      refine WpL_callV (fv := fv) (vs := [(.int .i64 x)]) (by decide) rfl rfl (hf _ x E (List.mem_of_getElem? hx)) ?_
      rintro _ w9 ⟨rfl, X9⟩
      replace E := E.ext X9
      refine WpL_nil ?_
      refine Wp_cond (b := p x) rfl (fun hp => ?_) (fun hp => ?_)
      · have khp := hp
        refine Wp_seq_region ?_
        refine WpL_val rfl rfl (by decide) (r_move (v := (.int .i64 ((k : Nat) : Int))) rfl) ?_
        refine WpL_val rfl rfl (by decide) (r_assign (v := (.int .i64 ((k : Nat) : Int))) rfl) ?_
        refine WpL_nil ?_
        refine Wp_ret ?_
        refine inB_ret ?_
        refine thn_ret ?_
        refine thn_ret ?_
        refine inB_ret ?_
        refine thn_ret ?_
        refine fin_tmp Tryd.results70 (v := (.int .i64 ((k : Nat) : Int))) rfl ?_
        exact ⟨int_eq (idx_hit hx hp hno).symm, E⟩
      · have khp := hp
        refine Wp_skip ?_
        refine inB_normal ?_
        refine thn_normal ?_
        refine Wp_region ?_
        refine WpL_val rfl rfl (by decide) (r_add (k := .i64) (a := ((k : Nat) : Int)) (b := 1) (c := ((k : Nat) : Int) + 1) rfl rfl (wI64 (by omega))) ?_
        refine WpL_val rfl rfl (by decide) (r_move (v := (.int .i64 (((k : Nat) : Int) + 1))) rfl) ?_
        refine WpL_nil ?_
        refine thn_normal ?_
        exact ⟨l.length - (k + 1), by omega, k + 1, Fits.out ⟨rfl, rfl, rfl, rfl, trivial⟩, E, (by omega), below_next hx hp hno, rfl⟩
    · have khlt := hlt
      replace hlt := of_decide_eq_false hlt
      have hkk : k = l.length := by omega
      refine Wp_exit ?_
      refine thn_exit ?_
      refine thn_exit ?_
      refine inB_here ?_
      refine thn_normal ?_
      refine Wp_seq_region ?_
      refine WpL_val rfl rfl (by decide) (r_assign (v := (.int .i64 (-1))) rfl) ?_
      refine WpL_nil ?_
      refine Wp_ret ?_
      refine fin_tmp Tryd.results70 (v := (.int .i64 (-1))) rfl ?_
      exact ⟨int_eq (idx_miss fun i y hy => hno i y (by have := lt_of_get hy; omega) hy).symm, E⟩
theorem ints_has_c (w0 : World) (v fv : Value) (l : List (Int)) (p : Int → Bool) (hs : IntsAt w0 v l) (hf : ∀ (w : World) (x : Int), Ext w0 w → x ∈ l → CallV Tryd.prog fv #[.int .i64 x] w fun r w' => r = .bool (p x) ∧ Ext w w') :
    Ret Tryd.prog 59 #[v, fv] w0 fun r w => r = .bool (l.any p) ∧ Ext w0 w := by
  refine Ret_of Tryd.func59 rfl Tryd.ntmps59 (Nat.le_of_ble_eq_true rfl) ?_
  have E : Chg none1 w0 w0 := Chg.refl _ _
  refine Wp_seq_region ?_
  refine WpL_val rfl rfl (by decide) (r_assign (v := (.bool false)) rfl) ?_
  refine WpL_nil ?_
  refine Wp_seq_region ?_
  refine WpL_val rfl rfl (by decide) (r_move (v := v) rfl) ?_
  refine WpL_val rfl rfl (by decide) (r_move (v := fv) rfl) ?_
  refine WpL_enter rfl rfl (by decide) (r_callF (vs := [v, fv]) Tryd.func70 nm70 bd70 rfl) (ints_idx_c _ v fv l p hs hf) ?_
  rintro _ w9 ⟨rfl, X9⟩
  replace E := E.ext X9
  refine WpL_val rfl rfl (by decide) (r_geq (k := .i64) (a := idx p l) (b := 0) rfl rfl) ?_
  refine WpL_val rfl rfl (by decide) (r_assign (v := (.bool (decide ((0 : Int) ≤ idx p l)))) rfl) ?_
  refine WpL_nil ?_
  refine Wp_ret ?_
  refine fin_tmp Tryd.results59 (v := (.bool (decide ((0 : Int) ≤ idx p l)))) rfl ?_
  exact ⟨bool_eq (idx_any p l), E⟩
theorem errs_idx_c (w0 : World) (v fv : Value) (l : List (Int)) (p : Int → Bool) (hs : IntsAt w0 v l) (hf : ∀ (w : World) (x : Int), Ext w0 w → x ∈ l → CallV Tryd.prog fv #[.int .i64 x] w fun r w' => r = .bool (p x) ∧ Ext w w') :
    Ret Tryd.prog 56 #[v, fv] w0 fun r w => r = .int .i64 (idx p l) ∧ Ext w0 w := by
  obtain ⟨a, c, rfl⟩ := SlAt.form hs
  have hlen : l.length ≤ 9223372036854775807 := by simpa using SlAt.le hs
  simp only [List.length_map] at hs ⊢
  refine Ret_of Tryd.func56 rfl Tryd.ntmps56 (Nat.le_of_ble_eq_true rfl) ?_
  have E : Chg none1 w0 w0 := Chg.refl _ _
  refine Wp_seq_region ?_
  refine WpL_val rfl rfl (by decide) (r_assign (v := (.int .i64 0)) rfl) ?_
  refine WpL_nil ?_
  refine Wp_seq ?_
  refine Wp_seq_region ?_
  refine WpL_val rfl rfl (by decide) (r_move (v := (.slice a l.length c)) rfl) ?_
  refine WpL_val rfl rfl (by decide) (r_lenSlice (ad := a) (n := l.length) (cap := c) Tryd.underlying77 rfl) ?_
  refine WpL_val rfl rfl (by decide) (r_move (v := (.int .i64 0)) rfl) ?_
  refine WpL_nil ?_
  refine Wp_block ?_
  refine Wp_loop (fun nn_ σ W1 => ∃ (k : Nat), (∃ jj_, σ = upds jj_ [(0, (.slice a l.length c)), (1, fv), (7, (.int .i64 ((l.length : Nat) : Int))), (8, (.int .i64 ((k : Nat) : Int)))]) ∧ Chg none1 w0 W1 ∧ (k ≤ l.length) ∧ (∀ (i : Nat) (y : Int), i < k → l[i]? = some y → p y = false) ∧ nn_ = l.length - k) (n := l.length - 0) ?_ ?_
  · exact ⟨0, Fits.out ⟨rfl, rfl, rfl, rfl, trivial⟩, E, Nat.zero_le _, (fun i y h => absurd h (Nat.not_lt_zero _)), rfl⟩
  · clear E
    rintro _ _ W1 ⟨k, ⟨j1, rfl⟩, E, hk, hno, rfl⟩
    refine Wp_seq_region ?_
    refine WpL_val rfl rfl (by decide) (r_lss (k := .i64) (a := ((k : Nat) : Int)) (b := ((l.length : Nat) : Int)) rfl rfl) ?_
    refine WpL_nil ?_
    refine Wp_seq ?_
    refine Wp_cond (b := decide ((((k : Nat) : Int) : Int) < ((l.length : Nat) : Int))) rfl (fun hlt => ?_) (fun hlt => ?_)
    · have khlt := hlt
      replace hlt := of_decide_eq_true hlt
      obtain ⟨x, hx⟩ := get_of_lt (l := l) (i := k) (by omega)
      obtain ⟨b, o, rfl, hcells⟩ := ints_cells hs (by omega)
      refine Wp_skip ?_
      refine thn_normal ?_
      refine Wp_seq ?_
      refine Wp_block ?_
      refine Wp_seq_region ?_
      refine WpL_val rfl rfl (by decide) (r_move (v := (.int .i64 ((k : Nat) : Int))) rfl) ?_
      refine WpL_val rfl rfl (by decide) (r_assign (v := (.int .i64 ((k : Nat) : Int))) rfl) ?_
      refine WpL_nil ?_
      refine Wp_seq_region ?_
      refine WpL_val rfl rfl (by decide) (r_move (v := fv) rfl) ?_
      refine WpL_val rfl rfl (by decide) (r_move (v := (.slice (some ⟨b, o, none⟩) l.length c)) rfl) ?_
      refine WpL_val rfl rfl (by decide) (r_move (v := (.int .i64 ((k : Nat) : Int))) rfl) ?_
      refine WpL_val rfl rfl (by decide) (r_indexSlice (b := b) (o := o) (len := l.length) (cap := c) (i := k) (o' := o + k) rfl rfl rfl Tryd.underlying77 siz34 (by omega) (by omega)) ?_
      refine WpL_val rfl rfl (by decide) (r_load (v := (.int .i64 x)) rfl flat34 (E.cell (fun f => f) (hcells k x hx))) ?_
      refine WpL_callV (fv := fv) (vs := [(.int .i64 x)]) (by decide) rfl rfl (hf _ x E (List.mem_of_getElem? hx)) ?_
      rintro _ w9 ⟨rfl, X9⟩
      replace E := E.ext X9
      refine WpL_nil ?_
      refine Wp_cond (b := p x) rfl (fun hp => ?_) (fun hp => ?_)
      · have khp := hp
        refine Wp_seq_region ?_
        refine WpL_val rfl rfl (by decide) (r_move (v := (.int .i64 ((k : Nat) : Int))) rfl) ?_
        refine WpL_val rfl rfl (by decide) (r_assign (v := (.int .i64 ((k : Nat) : Int))) rfl) ?_
        refine WpL_nil ?_
        refine Wp_ret ?_
        refine inB_ret ?_
        refine thn_ret ?_
        refine thn_ret ?_
        refine inB_ret ?_
        refine thn_ret ?_
        refine fin_tmp Tryd.results56 (v := (.int .i64 ((k : Nat) : Int))) rfl ?_
        exact ⟨int_eq (idx_hit hx hp hno).symm, E⟩
      · have khp := hp
        refine Wp_skip ?_
        refine inB_normal ?_
        refine thn_normal ?_
        refine Wp_region ?_
        refine WpL_val rfl rfl (by decide) (r_add (k := .i64) (a := ((k : Nat) : Int)) (b := 1) (c := ((k : Nat) : Int) + 1) rfl rfl (wI64 (by omega))) ?_
        refine WpL_val rfl rfl (by decide) (r_move (v := (.int .i64 (((k : Nat) : Int) + 1))) rfl) ?_
        refine WpL_nil ?_
        refine thn_normal ?_
        exact ⟨l.length - (k + 1), by omega, k + 1, Fits.out ⟨rfl, rfl, rfl, rfl, trivial⟩, E, (by omega), below_next hx hp hno, rfl⟩
    · have khlt := hlt
      replace hlt := of_decide_eq_false hlt
      have hkk : k = l.length := by omega
      refine Wp_exit ?_
      refine thn_exit ?_
      refine thn_exit ?_
      refine inB_here ?_
      refine thn_normal ?_
      refine Wp_seq_region ?_
      refine WpL_val rfl rfl (by decide) (r_assign (v := (.int .i64 (-1))) rfl) ?_
      refine WpL_nil ?_
      refine Wp_ret ?_
      refine fin_tmp Tryd.results56 (v := (.int .i64 (-1))) rfl ?_
      exact ⟨int_eq (idx_miss fun i y hy => hno i y (by have := lt_of_get hy; omega) hy).symm, E⟩
theorem errs_has_c (w0 : World) (v fv : Value) (l : List (Int)) (p : Int → Bool) (hs : IntsAt w0 v l) (hf : ∀ (w : World) (x : Int), Ext w0 w → x ∈ l → CallV Tryd.prog fv #[.int .i64 x] w fun r w' => r = .bool (p x) ∧ Ext w w') :
    Ret Tryd.prog 38 #[v, fv] w0 fun r w => r = .bool (l.any p) ∧ Ext w0 w := by
  refine Ret_of Tryd.func38 rfl Tryd.ntmps38 (Nat.le_of_ble_eq_true rfl) ?_
  have E : Chg none1 w0 w0 := Chg.refl _ _
  refine Wp_seq_region ?_
  refine WpL_val rfl rfl (by decide) (r_assign (v := (.bool false)) rfl) ?_
  refine WpL_nil ?_
  refine Wp_seq_region ?_
  refine WpL_val rfl rfl (by decide) (r_move (v := v) rfl) ?_
  refine WpL_val rfl rfl (by decide) (r_move (v := fv) rfl) ?_
  refine WpL_enter rfl rfl (by decide) (r_callF (vs := [v, fv]) Tryd.func56 nm56 bd56 rfl) (errs_idx_c _ v fv l p hs hf) ?_
  rintro _ w9 ⟨rfl, X9⟩
  replace E := E.ext X9
  refine WpL_val rfl rfl (by decide) (r_geq (k := .i64) (a := idx p l) (b := 0) rfl rfl) ?_
  refine WpL_val rfl rfl (by decide) (r_assign (v := (.bool (decide ((0 : Int) ≤ idx p l)))) rfl) ?_
  refine WpL_nil ?_
  refine Wp_ret ?_
  refine fin_tmp Tryd.results38 (v := (.bool (decide ((0 : Int) ≤ idx p l)))) rfl ?_
  exact ⟨bool_eq (idx_any p l), E⟩
theorem spans_idx_c (w0 : World) (v fv : Value) (l : List (Int × Int)) (p : Int × Int → Bool) (hs : SpansAt w0 v l) (hf : ∀ (w : World) (x : Int × Int), Ext w0 w → x ∈ l → CallV Tryd.prog fv #[.agg #[.int .i64 x.1, .int .i64 x.2]] w fun r w' => r = .bool (p x) ∧ Ext w w') :
    Ret Tryd.prog 71 #[v, fv] w0 fun r w => r = .int .i64 (idx p l) ∧ Ext w0 w := by
  obtain ⟨a, c, rfl⟩ := SlAt.form hs
  have hlen : l.length ≤ 9223372036854775807 := by simpa using SlAt.le hs
  simp only [List.length_map] at hs ⊢
  refine Ret_of Tryd.func71 rfl Tryd.ntmps71 (Nat.le_of_ble_eq_true rfl) ?_
  have E : Chg none1 w0 w0 := Chg.refl _ _
  refine Wp_seq_region ?_
  refine WpL_val rfl rfl (by decide) (r_assign (v := (.int .i64 0)) rfl) ?_
  refine WpL_nil ?_
  refine Wp_seq ?_
  refine Wp_seq_region ?_
  refine WpL_val rfl rfl (by decide) (r_move (v := (.slice a l.length c)) rfl) ?_
  refine WpL_val rfl rfl (by decide) (r_lenSlice (ad := a) (n := l.length) (cap := c) Tryd.underlying24 rfl) ?_
  refine WpL_val rfl rfl (by decide) (r_move (v := (.int .i64 0)) rfl) ?_
  refine WpL_nil ?_
  refine Wp_block ?_
  refine Wp_loop (fun nn_ σ W1 => ∃ (k : Nat), (∃ jj_, σ = upds jj_ [(0, (.slice a l.length c)), (1, fv), (7, (.int .i64 ((l.length : Nat) : Int))), (8, (.int .i64 ((k : Nat) : Int)))]) ∧ Chg none1 w0 W1 ∧ (k ≤ l.length) ∧ (∀ (i : Nat) (y : Int × Int), i < k → l[i]? = some y → p y = false) ∧ nn_ = l.length - k) (n := l.length - 0) ?_ ?_
  · exact ⟨0, Fits.out ⟨rfl, rfl, rfl, rfl, trivial⟩, E, Nat.zero_le _, (fun i y h => absurd h (Nat.not_lt_zero _)), rfl⟩
  · clear E
    rintro _ _ W1 ⟨k, ⟨j1, rfl⟩, E, hk, hno, rfl⟩
    refine Wp_seq_region ?_
    refine WpL_val rfl rfl (by decide) (r_lss (k := .i64) (a := ((k : Nat) : Int)) (b := ((l.length : Nat) : Int)) rfl rfl) ?_
    refine WpL_nil ?_
    refine Wp_seq ?_
    refine Wp_cond (b := decide ((((k : Nat) : Int) : Int) < ((l.length : Nat) : Int))) rfl (fun hlt => ?_) (fun hlt => ?_)
    · have khlt := hlt
      replace hlt := of_decide_eq_true hlt
      obtain ⟨x, hx⟩ := get_of_lt (l := l) (i := k) (by omega)
      obtain ⟨b, o, rfl, hcells⟩ := spans_cells hs (by omega)
      refine Wp_skip ?_
      refine thn_normal ?_
      refine Wp_seq ?_
      refine Wp_block ?_
      refine Wp_seq_region ?_
      refine WpL_val rfl rfl (by decide) (r_move (v := (.int .i64 ((k : Nat) : Int))) rfl) ?_
      refine WpL_val rfl rfl (by decide) (r_assign (v := (.int .i64 ((k : Nat) : Int))) rfl) ?_
      refine WpL_nil ?_
      refine Wp_seq_region ?_
      refine WpL_val rfl rfl (by decide) (r_move (v := fv) rfl) ?_
      refine WpL_val rfl rfl (by decide) (r_move (v := (.slice (some ⟨b, o, none⟩) l.length c)) rfl) ?_
      refine WpL_val rfl rfl (by decide) (r_move (v := (.int .i64 ((k : Nat) : Int))) rfl) ?_
      refine WpL_val rfl rfl (by decide) (r_indexSlice (b := b) (o := o) (len := l.length) (cap := c) (i := k) (o' := o + k * 2) rfl rfl rfl Tryd.underlying24 siz82 (by omega) (by omega)) ?_
      refine WpL_val rfl rfl (by decide) (r_loadAgg (vs := [(.int .i64 x.1), (.int .i64 x.2)]) rfl agg82 siz82 rfl ((hcells k x hx).ext E)) ?_
      refine WpL_callV (fv := fv) (vs := [(.agg #[(.int .i64 x.1), (.int .i64 x.2)])]) (by decide) rfl rfl (hf _ x E (List.mem_of_getElem? hx)) ?_
      rintro _ w9 ⟨rfl, X9⟩
      replace E := E.ext X9
      refine WpL_nil ?_
      refine Wp_cond (b := p x) rfl (fun hp => ?_) (fun hp => ?_)
      · have khp := hp
        refine Wp_seq_region ?_
        refine WpL_val rfl rfl (by decide) (r_move (v := (.int .i64 ((k : Nat) : Int))) rfl) ?_
        refine WpL_val rfl rfl (by decide) (r_assign (v := (.int .i64 ((k : Nat) : Int))) rfl) ?_
        refine WpL_nil ?_
        refine Wp_ret ?_
        refine inB_ret ?_
        refine thn_ret ?_
        refine thn_ret ?_
        refine inB_ret ?_
        refine thn_ret ?_
        refine fin_tmp Tryd.results71 (v := (.int .i64 ((k : Nat) : Int))) rfl ?_
        exact ⟨int_eq (idx_hit hx hp hno).symm, E⟩
      · have khp := hp
        refine Wp_skip ?_
        refine inB_normal ?_
        refine thn_normal ?_
        refine Wp_region ?_
        refine WpL_val rfl rfl (by decide) (r_add (k := .i64) (a := ((k : Nat) : Int)) (b := 1) (c := ((k : Nat) : Int) + 1) rfl rfl (wI64 (by omega))) ?_
        refine WpL_val rfl rfl (by decide) (r_move (v := (.int .i64 (((k : Nat) : Int) + 1))) rfl) ?_
        refine WpL_nil ?_
        refine thn_normal ?_
        exact ⟨l.length - (k + 1), by omega, k + 1, Fits.out ⟨rfl, rfl, rfl, rfl, trivial⟩, E, (by omega), below_next hx hp hno, rfl⟩
    · have khlt := hlt
      replace hlt := of_decide_eq_false hlt
      have hkk : k = l.length := by omega
      refine Wp_exit ?_
      refine thn_exit ?_
      refine thn_exit ?_
      refine inB_here ?_
      refine thn_normal ?_
      refine Wp_seq_region ?_
      refine WpL_val rfl rfl (by decide) (r_assign (v := (.int .i64 (-1))) rfl) ?_
      refine WpL_nil ?_
      refine Wp_ret ?_
      refine fin_tmp Tryd.results71 (v := (.int .i64 (-1))) rfl ?_
      exact ⟨int_eq (idx_miss fun i y hy => hno i y (by have := lt_of_get hy; omega) hy).symm, E⟩
theorem spans_has_c (w0 : World) (v fv : Value) (l : List (Int × Int)) (p : Int × Int → Bool) (hs : SpansAt w0 v l) (hf : ∀ (w : World) (x : Int × Int), Ext w0 w → x ∈ l → CallV Tryd.prog fv #[.agg #[.int .i64 x.1, .int .i64 x.2]] w fun r w' => r = .bool (p x) ∧ Ext w w') :
    Ret Tryd.prog 63 #[v, fv] w0 fun r w => r = .bool (l.any p) ∧ Ext w0 w := by
  refine Ret_of Tryd.func63 rfl Tryd.ntmps63 (Nat.le_of_ble_eq_true rfl) ?_
  have E : Chg none1 w0 w0 := Chg.refl _ _
  refine Wp_seq_region ?_
  refine WpL_val rfl rfl (by decide) (r_assign (v := (.bool false)) rfl) ?_
  refine WpL_nil ?_
  refine Wp_seq_region ?_
  refine WpL_val rfl rfl (by decide) (r_move (v := v) rfl) ?_
  refine WpL_val rfl rfl (by decide) (r_move (v := fv) rfl) ?_
  refine WpL_enter rfl rfl (by decide) (r_callF (vs := [v, fv]) Tryd.func71 nm71 bd71 rfl) (spans_idx_c _ v fv l p hs hf) ?_
  rintro _ w9 ⟨rfl, X9⟩
  replace E := E.ext X9
  refine WpL_val rfl rfl (by decide) (r_geq (k := .i64) (a := idx p l) (b := 0) rfl rfl) ?_
  refine WpL_val rfl rfl (by decide) (r_assign (v := (.bool (decide ((0 : Int) ≤ idx p l)))) rfl) ?_
  refine WpL_nil ?_
  refine Wp_ret ?_
  refine fin_tmp Tryd.results63 (v := (.bool (decide ((0 : Int) ≤ idx p l)))) rfl ?_
  exact ⟨bool_eq (idx_any p l), E⟩
theorem in1_c (w0 : World) (s : Int × Int) (r : Int) (b : Nat) (hB : Blk w0 b #[.int .i64 r] 3) :
    Ret Tryd.prog 64 #[.agg #[.int .i64 s.1, .int .i64 s.2], .pointer (some ⟨b, 0, none⟩)] w0 fun v w => v = .bool (decide (s.1 ≤ r) && decide (r ≤ s.2)) ∧ Ext w0 w := by
  refine Ret_of Tryd.func64 rfl Tryd.ntmps64 (Nat.le_of_ble_eq_true rfl) ?_
  have E : Chg none1 w0 w0 := Chg.refl _ _
  refine Wp_seq_region ?_
  refine s_box (v := (.agg #[(.int .i64 s.1), (.int .i64 s.2)])) (c := #[(.int .i64 s.1), (.int .i64 s.2)]) (by decide) rfl rfl ?_
  intro b1 w1 N1
  have F1 := N1.ge E
  have O1_b := N1.lt hB
  replace hB := N1.keep hB
  replace E := E.ext N1.ext
  have B1 := N1.blk
  refine WpL_val rfl rfl (by decide) (r_assign (v := (.bool false)) rfl) ?_
  refine WpL_nil ?_
  refine Wp_seq_region ?_
  refine WpL_val rfl rfl (by decide) (r_fieldAddr (b := b1) (o := 0) (o' := 0) rfl Tryd.underlying82 rfl siz3 rfl) ?_
  refine WpL_val rfl rfl (by decide) (r_load (v := (.int .i64 s.1)) rfl flat3 (B1.cell rfl)) ?_
  refine WpL_val rfl rfl (by decide) (r_load (v := (.int .i64 r)) rfl flat3 (hB.cell rfl)) ?_
  obtain ⟨e2, he2⟩ : ∃ e, (decide ((s.1 : Int) ≤ r)) = e := ⟨_, rfl⟩
  refine WpL_val rfl rfl (by decide) ((r_leq (k := .i64) (a := s.1) (b := r) rfl rfl).trans (by rw [he2]; try rfl)) ?_
  refine WpL_val rfl rfl (by decide) (r_move (v := (.bool e2)) rfl) ?_
  refine WpL_guard_any (oj := _) (gv := (.bool e2)) (u := (bif e2 then (.int .i64 r) else undef)) rfl rfl (by decide) (by decide) rfl (by cases e2 <;> first | exact Or.inr ⟨Or.inl rfl, rfl⟩ | exact Or.inr ⟨Or.inr rfl, rfl⟩ | exact Or.inl ⟨rfl, r_load (v := (.int .i64 r)) rfl flat3 (hB.cell rfl)⟩) ?_
  refine WpL_guard_any (oj := _) (gv := (.bool e2)) (u := (bif e2 then (.pointer (some ⟨b1, 1, none⟩)) else undef)) rfl rfl (by decide) (by decide) rfl (by cases e2 <;> first | exact Or.inr ⟨Or.inl rfl, rfl⟩ | exact Or.inr ⟨Or.inr rfl, rfl⟩ | exact Or.inl ⟨rfl, r_fieldAddr (b := b1) (o := 0) (o' := 1) rfl Tryd.underlying82 rfl siz3 rfl⟩) ?_
  refine WpL_guard_any (oj := _) (gv := (.bool e2)) (u := (bif e2 then (.int .i64 s.2) else undef)) rfl rfl (by decide) (by decide) rfl (by cases e2 <;> first | exact Or.inr ⟨Or.inl rfl, rfl⟩ | exact Or.inr ⟨Or.inr rfl, rfl⟩ | exact Or.inl ⟨rfl, r_load (v := (.int .i64 s.2)) rfl flat3 (B1.cell rfl)⟩) ?_
  obtain ⟨e3, he3⟩ : ∃ e, (decide ((r : Int) ≤ s.2)) = e := ⟨_, rfl⟩
  refine WpL_guard_any (oj := _) (gv := (.bool e2)) (u := (bif e2 then (.bool e3) else undef)) rfl rfl (by decide) (by decide) rfl (by cases e2 <;> first | exact Or.inr ⟨Or.inl rfl, rfl⟩ | exact Or.inr ⟨Or.inr rfl, rfl⟩ | exact Or.inl ⟨rfl, (r_leq (k := .i64) (a := r) (b := s.2) rfl rfl).trans (by rw [he3]; try rfl)⟩) ?_
  obtain ⟨e4, he4⟩ : ∃ e, (e2 && e3) = e := ⟨_, rfl⟩
  refine WpL_val rfl rfl (by decide) (r_pick (b := e2) (v := .bool e4) rfl (by rw [← he4]; cases e2 <;> rfl)) ?_
  refine WpL_val rfl rfl (by decide) (r_assign (v := (.bool e4)) rfl) ?_
  refine WpL_nil ?_
  subst he4
  subst he3
  subst he2
  refine Wp_ret ?_
  refine fin_tmp Tryd.results64 (v := (.bool ((decide ((s.1 : Int) ≤ r)) && (decide ((r : Int) ≤ s.2))))) rfl ?_
  exact ⟨rfl, E⟩
theorem in_c (w0 : World) (v : Value) (l : List (Int × Int)) (r : Int) (hs : SpansAt w0 v l) :
    Ret Tryd.prog 48 #[v, .int .i64 r] w0 fun u w => u = .bool (inS l r) ∧ Ext w0 w := by
  refine Ret_of Tryd.func48 rfl Tryd.ntmps48 (Nat.le_of_ble_eq_true rfl) ?_
  have E : Chg none1 w0 w0 := Chg.refl _ _
  refine Wp_seq_region ?_
  refine s_box (v := (.int .i64 r)) (c := #[(.int .i64 r)]) (by decide) rfl rfl ?_
  intro b1 w1 N1
  have F1 := N1.ge E
  replace E := E.ext N1.ext
  have B1 := N1.blk
  refine WpL_val rfl rfl (by decide) (r_assign (v := (.bool false)) rfl) ?_
  refine WpL_nil ?_
  refine Wp_seq_region ?_
  refine WpL_val rfl rfl (by decide) (r_move (v := v) rfl) ?_
  refine WpL_val rfl rfl (by decide) (r_makeFunc (vs := []) (us := [(.pointer (some ⟨b1, 0, none⟩))]) rfl rfl) ?_
  refine WpL_enter rfl rfl (by decide) (r_callF (vs := [v, (.func (.func 64) #[] #[(.pointer (some ⟨b1, 0, none⟩))])]) Tryd.func63 nm63 bd63 rfl) (spans_has_c _ v _ l (fun s => decide (s.1 ≤ r) && decide (r ≤ s.2)) (hs.ext E) (fun w x hE _ => CallV.mk (first := #[]) (cap := #[.pointer (some ⟨b1, 0, none⟩)]) Tryd.func64 nm64 bd64 rfl (in1_c w x r b1 (hE.keep B1)))) ?_
  rintro _ w9 ⟨rfl, X9⟩
  replace B1 := X9.keep B1
  replace E := E.ext X9
  refine WpL_val rfl rfl (by decide) (r_assign (v := (.bool (inS l r))) rfl) ?_
  refine WpL_nil ?_
  refine Wp_ret ?_
  refine fin_tmp Tryd.results48 (v := (.bool (inS l r))) rfl ?_
  exact ⟨rfl, E⟩
def runeB (r : Int) : Bool := decide (0 ≤ r) && decide (r ≤ 1114111)
theorem rune_c (r : Int) (w0 : World) : Ret Tryd.prog 36 #[.int .i64 r] w0 fun u w => u = .bool (runeB r) ∧ Ext w0 w := by
  refine Ret_of Tryd.func36 rfl Tryd.ntmps36 (Nat.le_of_ble_eq_true rfl) ?_
  have E : Chg none1 w0 w0 := Chg.refl _ _
  refine Wp_seq_region ?_
  refine WpL_val rfl rfl (by decide) (r_assign (v := (.bool false)) rfl) ?_
  refine WpL_nil ?_
  refine Wp_seq_region ?_
  refine WpL_val rfl rfl (by decide) (r_move (v := (.int .i64 r)) rfl) ?_
  obtain ⟨e1, he1⟩ : ∃ e, (decide ((0 : Int) ≤ r)) = e := ⟨_, rfl⟩
  refine WpL_val rfl rfl (by decide) ((r_geq (k := .i64) (a := r) (b := 0) rfl rfl).trans (by rw [he1]; try rfl)) ?_
  refine WpL_val rfl rfl (by decide) (r_move (v := (.bool e1)) rfl) ?_
  refine WpL_guard_any (oj := _) (gv := (.bool e1)) (u := (bif e1 then (.int .i64 r) else undef)) rfl rfl (by decide) (by decide) rfl (by cases e1 <;> first | exact Or.inr ⟨Or.inl rfl, rfl⟩ | exact Or.inr ⟨Or.inr rfl, rfl⟩ | exact Or.inl ⟨rfl, r_move (v := (.int .i64 r)) rfl⟩) ?_
  obtain ⟨e2, he2⟩ : ∃ e, (decide ((r : Int) ≤ 1114111)) = e := ⟨_, rfl⟩
  refine WpL_guard_any (oj := _) (gv := (.bool e1)) (u := (bif e1 then (.bool e2) else undef)) rfl rfl (by decide) (by decide) rfl (by cases e1 <;> first | exact Or.inr ⟨Or.inl rfl, rfl⟩ | exact Or.inr ⟨Or.inr rfl, rfl⟩ | exact Or.inl ⟨rfl, (r_leq (k := .i64) (a := r) (b := 1114111) rfl rfl).trans (by rw [he2]; try rfl)⟩) ?_
  obtain ⟨e3, he3⟩ : ∃ e, (e1 && e2) = e := ⟨_, rfl⟩
  refine WpL_val rfl rfl (by decide) (r_pick (b := e1) (v := .bool e3) rfl (by rw [← he3]; cases e1 <;> rfl)) ?_
  refine WpL_val rfl rfl (by decide) (r_assign (v := (.bool e3)) rfl) ?_
  refine WpL_nil ?_
  subst he3
  subst he2
  subst he1
  refine Wp_ret ?_
  refine fin_tmp Tryd.results36 (v := (.bool ((decide ((0 : Int) ≤ r)) && (decide ((r : Int) ≤ 1114111))))) rfl ?_
  exact ⟨rfl, E⟩
theorem runes1_c (r : Int) (w0 : World) : Ret Tryd.prog 60 #[.int .i64 r] w0 fun u w => u = .bool (!runeB r) ∧ Ext w0 w := by
  refine Ret_of Tryd.func60 rfl Tryd.ntmps60 (Nat.le_of_ble_eq_true rfl) ?_
  have E : Chg none1 w0 w0 := Chg.refl _ _
  refine Wp_seq_region ?_
  refine WpL_val rfl rfl (by decide) (r_assign (v := (.bool false)) rfl) ?_
  refine WpL_nil ?_
  refine Wp_seq_region ?_
  refine WpL_val rfl rfl (by decide) (r_move (v := (.int .i64 r)) rfl) ?_
  refine WpL_enter rfl rfl (by decide) (r_callF (vs := [(.int .i64 r)]) Tryd.func36 nm36 bd36 rfl) (rune_c r _) ?_
  rintro _ w9 ⟨rfl, X9⟩
  replace E := E.ext X9
  refine WpL_val rfl rfl (by decide) (r_not (b := runeB r) rfl) ?_
  refine WpL_val rfl rfl (by decide) (r_assign (v := (.bool (!(runeB r)))) rfl) ?_
  refine WpL_nil ?_
  refine Wp_ret ?_
  refine fin_tmp Tryd.results60 (v := (.bool (!(runeB r)))) rfl ?_
  exact ⟨rfl, E⟩
theorem runes_c (w0 : World) (v : Value) (l : List Int) (hs : IntsAt w0 v l) :
    Ret Tryd.prog 42 #[v] w0 fun u w => u = .bool (!(l.any fun r => !runeB r)) ∧ Ext w0 w := by
  refine Ret_of Tryd.func42 rfl Tryd.ntmps42 (Nat.le_of_ble_eq_true rfl) ?_
  have E : Chg none1 w0 w0 := Chg.refl _ _
  refine Wp_seq_region ?_
  refine WpL_val rfl rfl (by decide) (r_assign (v := (.bool false)) rfl) ?_
  refine WpL_nil ?_
  refine Wp_seq_region ?_
  refine WpL_val rfl rfl (by decide) (r_move (v := v) rfl) ?_
  refine WpL_enter rfl rfl (by decide) (r_callF (vs := [v, (.func (.func 60) #[] #[])]) Tryd.func59 nm59 bd59 rfl) (ints_has_c _ v _ l (fun r => !runeB r) hs (fun w x hE _ => CallV.mk (first := #[]) (cap := #[]) Tryd.func60 nm60 bd60 rfl (runes1_c x w))) ?_
  rintro _ w9 ⟨rfl, X9⟩
  replace E := E.ext X9
  refine WpL_val rfl rfl (by decide) (r_not (b := (l.any fun r => !runeB r)) rfl) ?_
  refine WpL_val rfl rfl (by decide) (r_assign (v := (.bool (!(l.any fun r => !runeB r)))) rfl) ?_
  refine WpL_nil ?_
  refine Wp_ret ?_
  refine fin_tmp Tryd.results42 (v := (.bool (!(l.any fun r => !runeB r)))) rfl ?_
  exact ⟨rfl, E⟩
theorem good1_c (e : Int) (w0 : World) : Ret Tryd.prog 39 #[.int .i64 e] w0 fun u w => u = .bool (decide (e ≠ 0)) ∧ Ext w0 w := by
  refine Ret_of Tryd.func39 rfl Tryd.ntmps39 (Nat.le_of_ble_eq_true rfl) ?_
  have E : Chg none1 w0 w0 := Chg.refl _ _
  refine Wp_seq_region ?_
  refine WpL_val rfl rfl (by decide) (r_assign (v := (.bool false)) rfl) ?_
  refine WpL_nil ?_
  refine Wp_seq_region ?_
  refine WpL_val rfl rfl (by decide) (r_move (v := (.int .i64 e)) rfl) ?_
  refine WpL_val rfl rfl (by decide) (r_neq (k := .i64) (a := e) (b := 0) rfl rfl) ?_
  refine WpL_val rfl rfl (by decide) (r_assign (v := (.bool (decide ((e : Int) ≠ 0)))) rfl) ?_
  refine WpL_nil ?_
  refine Wp_ret ?_
  refine fin_tmp Tryd.results39 (v := (.bool (decide ((e : Int) ≠ 0)))) rfl ?_
  exact ⟨rfl, E⟩
theorem good_c (w0 : World) (v : Value) (l : List Int) (hs : IntsAt w0 v l) :
    Ret Tryd.prog 20 #[v] w0 fun u w => u = .bool (!(l.any fun e => decide (e ≠ 0))) ∧ Ext w0 w := by
  refine Ret_of Tryd.func20 rfl Tryd.ntmps20 (Nat.le_of_ble_eq_true rfl) ?_
  have E : Chg none1 w0 w0 := Chg.refl _ _
  refine Wp_seq_region ?_
  refine WpL_val rfl rfl (by decide) (r_assign (v := (.bool false)) rfl) ?_
  refine WpL_nil ?_
  refine Wp_seq_region ?_
  refine WpL_val rfl rfl (by decide) (r_move (v := v) rfl) ?_
  refine WpL_enter rfl rfl (by decide) (r_callF (vs := [v, (.func (.func 39) #[] #[])]) Tryd.func38 nm38 bd38 rfl) (errs_has_c _ v _ l (fun e => decide (e ≠ 0)) hs (fun w x hE _ => CallV.mk (first := #[]) (cap := #[]) Tryd.func39 nm39 bd39 rfl (good1_c x w))) ?_
  rintro _ w9 ⟨rfl, X9⟩
  replace E := E.ext X9
  refine WpL_val rfl rfl (by decide) (r_not (b := (l.any fun e => decide (e ≠ 0))) rfl) ?_
  refine WpL_val rfl rfl (by decide) (r_assign (v := (.bool (!(l.any fun e => decide (e ≠ 0))))) rfl) ?_
  refine WpL_nil ?_
  refine Wp_ret ?_
  refine fin_tmp Tryd.results20 (v := (.bool (!(l.any fun e => decide (e ≠ 0))))) rfl ?_
  exact ⟨rfl, E⟩
end Go.Proofs
namespace Go.Proofs
open Go Go.Eng
set_option maxRecDepth 100000
abbrev Sp := Int × Int
def vSp (s : Sp) : Prop := 0 ≤ s.1 ∧ s.1 ≤ s.2 ∧ s.2 ≤ 1114111
structure Canon (l : List Sp) : Prop where
  ok : ∀ s ∈ l, vSp s
  gap : l.Pairwise fun s t => s.2 + 2 ≤ t.1
theorem leLt (a b : Int) : a ≤ b ∨ b < a := by omega
theorem ltLe (a b : Int) : a < b ∨ b ≤ a := by omega
theorem inS_iff {l : List Sp} {r : Int} : inS l r = true ↔ ∃ s ∈ l, s.1 ≤ r ∧ r ≤ s.2 := by
  unfold inS
  simp [List.any_eq_true]
theorem inS_cons (s : Sp) (l : List Sp) (r : Int) : inS (s :: l) r = ((decide (s.1 ≤ r) && decide (r ≤ s.2)) || inS l r) := rfl
theorem inS_append (a b : List Sp) (r : Int) : inS (a ++ b) r = (inS a r || inS b r) := by
  unfold inS; rw [List.any_append]
theorem inS_nil (r : Int) : inS [] r = false := rfl
theorem inS_perm {a b : List Sp} (h : a.Perm b) (r : Int) : inS a r = inS b r := by
  rw [Bool.eq_iff_iff, inS_iff, inS_iff]
  exact ⟨fun ⟨s, hs, q⟩ => ⟨s, h.mem_iff.1 hs, q⟩, fun ⟨s, hs, q⟩ => ⟨s, h.mem_iff.2 hs, q⟩⟩
theorem Canon.nil : Canon [] := ⟨fun _ h => (by cases h), List.Pairwise.nil⟩
theorem Canon.one {s : Sp} (h : vSp s) : Canon [s] := ⟨fun t ht => by rw [List.mem_singleton] at ht; subst ht; exact h, List.pairwise_singleton _ _⟩
theorem Canon.tail {s : Sp} {l : List Sp} (h : Canon (s :: l)) : Canon l := ⟨fun t ht => h.ok t (List.mem_cons_of_mem _ ht), (List.pairwise_cons.1 h.gap).2⟩
theorem Canon.head {s : Sp} {l : List Sp} (h : Canon (s :: l)) : vSp s := h.ok s List.mem_cons_self
theorem Canon.far {s : Sp} {l : List Sp} (h : Canon (s :: l)) : ∀ t ∈ l, s.2 + 2 ≤ t.1 := (List.pairwise_cons.1 h.gap).1
theorem Canon.cons {s : Sp} {l : List Sp} (h1 : vSp s) (h2 : ∀ t ∈ l, s.2 + 2 ≤ t.1) (h3 : Canon l) : Canon (s :: l) :=
  ⟨fun t ht => by rcases List.mem_cons.1 ht with rfl | ht; exact h1; exact h3.ok t ht, List.pairwise_cons.2 ⟨h2, h3.gap⟩⟩
theorem canon_low {s : Sp} {l : List Sp} (h : Canon (s :: l)) {r : Int} (hr : r ≤ s.2 + 1) : inS l r = false := by
  cases e : inS l r with
  | false => rfl
  | true =>
    obtain ⟨t, ht, h1, _⟩ := inS_iff.1 e
    have := h.far t ht
    omega
theorem canon_below {s : Sp} {l : List Sp} (h : Canon (s :: l)) {r : Int} (hr : r < s.1) : inS (s :: l) r = false := by
  have hv := h.head
  rw [inS_cons, canon_low h (by unfold vSp at hv; omega), Bool.or_false, decide_eq_false (by omega)]; rfl
theorem canon_unique : ∀ {a b : List Sp}, Canon a → Canon b → (∀ r, inS a r = inS b r) → a = b
  | [], [], _, _, _ => rfl
  | [], t :: b, _, hb, h => by
    have hv := hb.head
    unfold vSp at hv
    have := h t.1
    rw [inS_nil, inS_cons, decide_eq_true (Int.le_refl _), decide_eq_true (by omega)] at this
    simp at this
  | s :: a, [], ha, _, h => by
    have hv := ha.head
    unfold vSp at hv
    have := h s.1
    rw [inS_nil, inS_cons, decide_eq_true (Int.le_refl _), decide_eq_true (by omega)] at this
    simp at this
  | s :: a, t :: b, ha, hb, h => by
    have hv := ha.head
    have hu := hb.head
    unfold vSp at hv hu
    have self : ∀ {s : Sp} {l : List Sp} {r : Int}, s.1 ≤ r → r ≤ s.2 → inS (s :: l) r = true := fun h1 h2 => by
      rw [inS_cons, decide_eq_true h1, decide_eq_true h2]; rfl
    have e1 : s.1 = t.1 := by
      rcases Int.lt_trichotomy s.1 t.1 with h1 | h1 | h1
      · have h2 := h s.1
        rw [self (Int.le_refl _) (by omega), canon_below hb h1] at h2
        cases h2
      · exact h1
      · have h2 := h t.1
        rw [self (s := t) (Int.le_refl _) (by omega), canon_below ha h1] at h2
        cases h2
    have e2 : s.2 = t.2 := by
      rcases Int.lt_trichotomy s.2 t.2 with h1 | h1 | h1
      · have h2 := h (s.2 + 1)
        rw [self (s := t) (by omega) (by omega), inS_cons, canon_low ha (Int.le_refl _), decide_eq_false (p := s.2 + 1 ≤ s.2) (by omega)] at h2
        simp at h2
      · exact h1
      · have h2 := h (t.2 + 1)
        rw [self (s := s) (by omega) (by omega), inS_cons, canon_low hb (Int.le_refl _), decide_eq_false (p := t.2 + 1 ≤ t.2) (by omega)] at h2
        simp at h2
    have e3 : s = t := Prod.ext e1 e2
    subst e3
    have e4 : a = b := canon_unique ha.tail hb.tail fun r => by
      rcases leLt r (s.2 + 1) with h1 | h1
      · rw [canon_low ha h1, canon_low hb h1]
      · have h2 := h r
        rw [inS_cons, inS_cons, decide_eq_false (p := r ≤ s.2) (by omega)] at h2
        simpa using h2
    rw [e4]
def jstep (out : List Sp) (s : Sp) : List Sp := match out.getLast? with
  | some c => if s.1 ≤ c.2 + 1 then out.dropLast ++ [(c.1, max c.2 s.2)] else out ++ [s]
  | none => [s]
def joinF (l : List Sp) : List Sp := l.foldl jstep []
theorem jstep_snoc (o : List Sp) (c s : Sp) : jstep (o ++ [c]) s = if s.1 ≤ c.2 + 1 then o ++ [(c.1, max c.2 s.2)] else o ++ [c] ++ [s] := by
  unfold jstep; simp
theorem jstep_nil (s : Sp) : jstep [] s = [s] := rfl
structure JInv (out l : List Sp) (m : Int) : Prop where
  can : Canon out
  low : ∀ s ∈ out, s.1 ≤ m
  mem : ∀ r, inS out r = inS l r
  len : out.length ≤ l.length
theorem snoc_cases {α : Type} (l : List α) : l = [] ∨ ∃ o c, l = o ++ [c] := by
  rcases List.eq_nil_or_concat l with h | ⟨o, c, h⟩
  · exact .inl h
  · exact .inr ⟨o, c, by simpa using h⟩
theorem canon_snoc {o : List Sp} {c : Sp} : Canon (o ++ [c]) ↔ Canon o ∧ vSp c ∧ ∀ t ∈ o, t.2 + 2 ≤ c.1 := by
  constructor
  · intro h
    have h1 := List.pairwise_append.1 h.gap
    exact ⟨⟨fun t ht => h.ok t (by simp [ht]), h1.1⟩, h.ok c (by simp), fun t ht => h1.2.2 t ht c (by simp)⟩
  · rintro ⟨h1, h2, h3⟩
    refine ⟨fun t ht => ?_, List.pairwise_append.2 ⟨h1.gap, List.pairwise_singleton _ _, fun t ht u hu => ?_⟩⟩
    · rcases List.mem_append.1 ht with ht | ht
      · exact h1.ok t ht
      · rw [List.mem_singleton] at ht; subst ht; exact h2
    · rw [List.mem_singleton] at hu; subst hu; exact h3 t ht
theorem jstep_inv {out l : List Sp} {m : Int} {s : Sp} (h : JInv out l m) (hs : vSp s) (hm : m ≤ s.1) : JInv (jstep out s) (l ++ [s]) s.1 := by
  rcases snoc_cases out with rfl | ⟨o, c, rfl⟩
  · rw [jstep_nil]
    refine ⟨Canon.one hs, fun t ht => by rw [List.mem_singleton] at ht; subst ht; exact Int.le_refl _, fun r => ?_, by simp⟩
    rw [inS_append, ← h.mem r]; rfl
  · obtain ⟨h1, h2, h3⟩ := canon_snoc.1 h.can
    have hc := h.low c (by simp)
    unfold vSp at h2 hs
    rw [jstep_snoc]
    split
    · rename_i h4
      have hmx : max c.2 s.2 = c.2 ∨ max c.2 s.2 = s.2 := by omega
      have hge : c.2 ≤ max c.2 s.2 ∧ s.2 ≤ max c.2 s.2 := by omega
      refine ⟨canon_snoc.2 ⟨h1, ⟨h2.1, by simp only; omega, by simp only; omega⟩, h3⟩, fun t ht => ?_, fun r => ?_, ?_⟩
      · rcases List.mem_append.1 ht with ht | ht
        · have := h.low t (by simp [ht]); omega
        · rw [List.mem_singleton] at ht; subst ht; simp only; omega
      · have hr := h.mem r
        rw [inS_append] at hr
        rw [inS_append, inS_append, ← hr]
        have e : inS [(c.1, max c.2 s.2)] r = (inS [c] r || inS [s] r) := by
          rw [Bool.eq_iff_iff]
          simp only [inS_cons, inS_nil, Bool.or_false, Bool.or_eq_true, Bool.and_eq_true, decide_eq_true_eq]
          constructor
          · intro ⟨q1, q2⟩; omega
          · rintro (⟨q1, q2⟩ | ⟨q1, q2⟩) <;> omega
        rw [e, Bool.or_assoc]
      · have := h.len; simp at this ⊢; omega
    · rename_i h4
      refine ⟨canon_snoc.2 ⟨h.can, hs, fun t ht => ?_⟩, fun t ht => ?_, fun r => ?_, ?_⟩
      · rcases List.mem_append.1 ht with ht | ht
        · have := h3 t ht; omega
        · rw [List.mem_singleton] at ht; subst ht; omega
      · rcases List.mem_append.1 ht with ht | ht
        · have := h.low t ht; omega
        · rw [List.mem_singleton] at ht; subst ht; exact Int.le_refl _
      · rw [inS_append _ [s], inS_append l, h.mem r]
      · have := h.len; simp at this ⊢; omega
theorem foldl_inv : ∀ (r : List Sp) {out l : List Sp} {m : Int}, JInv out l m → (∀ s ∈ r, vSp s ∧ m ≤ s.1) → r.Pairwise (fun s t => s.1 ≤ t.1) → ∃ m', JInv (r.foldl jstep out) (l ++ r) m'
  | [], out, l, m, h, _, _ => ⟨m, by simpa using h⟩
  | s :: r, out, l, m, h, hv, hp => by
    have h1 := hv s List.mem_cons_self
    have h2 := List.pairwise_cons.1 hp
    obtain ⟨m', h3⟩ := foldl_inv r (jstep_inv h h1.1 h1.2) (fun t ht => ⟨(hv t (List.mem_cons_of_mem _ ht)).1, h2.1 t ht⟩) h2.2
    exact ⟨m', by simpa using h3⟩
theorem joinF_all {l : List Sp} (hv : ∀ s ∈ l, vSp s) (hp : l.Pairwise (fun s t => s.1 ≤ t.1)) : Canon (joinF l) ∧ (∀ r, inS (joinF l) r = inS l r) ∧ (joinF l).length ≤ l.length := by
  obtain ⟨m, h⟩ := foldl_inv l (out := []) (l := []) (m := 0) ⟨Canon.nil, fun _ h => by (cases h), fun _ => rfl, Nat.le_refl _⟩ (fun s hs => ⟨hv s hs, (hv s hs).1⟩) hp
  exact ⟨h.can, h.mem, h.len⟩
/-- What joining makes of a list, in whatever order the spans come: by sorting. -/
def JoinOf (l out : List Sp) : Prop := ∃ l', l'.Perm l ∧ l'.Pairwise (fun s t => s.1 ≤ t.1) ∧ out = joinF l'
theorem JoinOf.all {l out : List Sp} (h : JoinOf l out) (hv : ∀ s ∈ l, vSp s) : Canon out ∧ (∀ r, inS out r = inS l r) ∧ out.length ≤ l.length := by
  obtain ⟨l', h1, h2, rfl⟩ := h
  have h3 := joinF_all (fun s hs => hv s (h1.mem_iff.1 hs)) h2
  exact ⟨h3.1, fun r => (h3.2.1 r).trans (inS_perm h1 r), by rw [← h1.length_eq]; exact h3.2.2⟩
def restL (p : Int) : List Sp → List Sp
  | [] => if p ≤ 1114111 then [(p, 1114111)] else []
  | s :: r => if p < s.1 then (p, s.1 - 1) :: restL (s.2 + 1) r else restL (s.2 + 1) r
theorem restL_all : ∀ (l : List Sp) (p : Int), Canon l → 0 ≤ p → (∀ s ∈ l, p ≤ s.1) →
    Canon (restL p l) ∧ (∀ t ∈ restL p l, p ≤ t.1) ∧ (∀ r, p ≤ r → r ≤ 1114111 → inS (restL p l) r = !inS l r)
  | [], p, _, h0, _ => by
    unfold restL
    split
    · rename_i h
      refine ⟨Canon.one ⟨h0, h, by omega⟩, fun t ht => by rw [List.mem_singleton] at ht; subst ht; exact Int.le_refl _, fun r h1 h2 => ?_⟩
      rw [inS_cons, inS_nil, decide_eq_true h1, decide_eq_true h2]; rfl
    · exact ⟨Canon.nil, fun t ht => (by cases ht), fun r h1 h2 => by omega⟩
  | s :: r, p, hc, h0, hp => by
    have hv := hc.head
    have hps := hp s List.mem_cons_self
    unfold vSp at hv
    obtain ⟨h1, h2, h3⟩ := restL_all r (s.2 + 1) hc.tail (by omega) (fun t ht => by have := hc.far t ht; omega)
    have hin : ∀ q, s.2 + 1 ≤ q → q ≤ 1114111 → inS (restL (s.2 + 1) r) q = !inS (s :: r) q := fun q q1 q2 => by
      rw [h3 q q1 q2, inS_cons, decide_eq_false (p := q ≤ s.2) (by omega), Bool.and_false, Bool.false_or]
    have hno : ∀ q, q ≤ s.2 → inS (restL (s.2 + 1) r) q = false := fun q hq => by
      cases e : inS (restL (s.2 + 1) r) q with
      | false => rfl
      | true => obtain ⟨t, ht, q1, _⟩ := inS_iff.1 e; have := h2 t ht; omega
    have hyes : ∀ q, s.1 ≤ q → q ≤ s.2 → inS (s :: r) q = true := fun q q1 q2 => by rw [inS_cons, decide_eq_true q1, decide_eq_true q2]; rfl
    unfold restL
    split
    · rename_i hlt
      refine ⟨Canon.cons ⟨h0, by simp only; omega, by simp only; omega⟩ (fun t ht => by have := h2 t ht; simp only; omega) h1, fun t ht => ?_, fun q q1 q2 => ?_⟩
      · rcases List.mem_cons.1 ht with rfl | ht
        · exact Int.le_refl _
        · have := h2 t ht; omega
      · rw [inS_cons]
        rcases ltLe q s.1 with h4 | h4
        · rw [decide_eq_true (p := p ≤ q) q1, decide_eq_true (p := q ≤ s.1 - 1) (by omega), canon_below hc h4]; rfl
        · rw [decide_eq_false (p := q ≤ s.1 - 1) (by omega), Bool.and_false, Bool.false_or]
          rcases ltLe s.2 q with h5 | h5
          · exact hin q (by omega) q2
          · rw [hno q h5, hyes q h4 h5]; rfl
    · rename_i hlt
      refine ⟨h1, fun t ht => by have := h2 t ht; omega, fun q q1 q2 => ?_⟩
      rcases ltLe s.2 q with h5 | h5
      · exact hin q (by omega) q2
      · rw [hno q h5, hyes q (by omega) h5]; rfl
theorem canon_out {l : List Sp} (h : Canon l) {r : Int} (hr : r < 0 ∨ 1114111 < r) : inS l r = false := by
  cases e : inS l r with
  | false => rfl
  | true => obtain ⟨t, ht, q1, q2⟩ := inS_iff.1 e; have := h.ok t ht; unfold vSp at this; omega
def notS (l : List Sp) : List Sp := restL 0 l
theorem notS_canon {l : List Sp} (h : Canon l) : Canon (notS l) := (restL_all l 0 h (Int.le_refl _) fun s hs => (h.ok s hs).1).1
theorem notS_mem {l : List Sp} (h : Canon l) {r : Int} (h0 : 0 ≤ r) (h1 : r ≤ 1114111) : inS (notS l) r = !inS l r := (restL_all l 0 h (Int.le_refl _) fun s hs => (h.ok s hs).1).2.2 r h0 h1
theorem canon_ext {a b : List Sp} (ha : Canon a) (hb : Canon b) (h : ∀ r, 0 ≤ r → r ≤ 1114111 → inS a r = inS b r) : a = b :=
  canon_unique ha hb fun r => by
    rcases ltLe r 0 with h1 | h1
    · rw [canon_out ha (.inl h1), canon_out hb (.inl h1)]
    · rcases ltLe 1114111 r with h2 | h2
      · rw [canon_out ha (.inr h2), canon_out hb (.inr h2)]
      · exact h r h1 h2
end Go.Proofs
namespace Go.Proofs
open Go Go.Eng
set_option maxRecDepth 100000
abbrev TSp : Nat := 82
theorem own_low {w : World} {base base' e size n : Nat} {v : Value} {xs : List Value} (h : w.ownsRow base e size v n xs) (hb : base' ≤ base) : w.ownsRow base' e size v n xs := by
  obtain ⟨h1, h2⟩ := h
  refine ⟨h1, h2.imp id ?_⟩
  rintro ⟨g, cap, cur, a, b, r⟩
  exact ⟨g, cap, cur, a, Nat.le_trans hb b, r⟩
/-- A list of spans that lies in memory of one's own. -/
def OwnS (w : World) (base : Nat) (r : Value) (l : List Sp) : Prop := (∃ a c, r = .slice a l.length c) ∧ w.ownsRow base TSp 2 r l.length (l.map spanV).flatten
theorem OwnS.at {w : World} {base : Nat} {r : Value} {l : List Sp} (h : OwnS w base r l) : SpansAt w r l :=
  own_slat h.2 (by intro x hx; simp only [List.mem_map] at hx; obtain ⟨p, _, rfl⟩ := hx; rfl) (by simp) (by decide)
theorem OwnS.ext {w w' : World} {base : Nat} {r : Value} {l : List Sp} (h : OwnS w base r l) (e : Ext w w') : OwnS w' base r l := ⟨h.1, own_ext h.2 e⟩
theorem spanV_snoc (l : List Sp) (s : Sp) : ((l ++ [s]).map spanV).flatten = (l.map spanV).flatten ++ [.int .i64 s.1, .int .i64 s.2] := by simp [spanV]
set_option maxHeartbeats 1000000 in
theorem clones_c (w0 : World) (v : Value) (l : List Sp) (h : SpansAt w0 v l) (hl : l.length ≤ 8796093022208) :
    Ret Tryd.prog 52 #[v] w0 fun r w => OwnS w w0.heap.size r l ∧ Ext w0 w := by
  obtain ⟨a, c, rfl⟩ := SlAt.form h
  simp only [List.length_map] at h ⊢
  obtain ⟨base, hbase⟩ : ∃ base, base = w0.heap.size := ⟨_, rfl⟩
  rw [← hbase]
  refine Ret_of Tryd.func52 rfl Tryd.ntmps52 (Nat.le_of_ble_eq_true rfl) ?_
  have E : Chg none1 w0 w0 := Chg.refl _ _
  refine Wp_seq_region ?_
  refine WpL_val rfl rfl (by decide) (r_assign (v := (.slice none 0 0)) rfl) ?_
  refine WpL_nil ?_
  refine Wp_seq ?_
  refine Wp_seq_region ?_
  refine WpL_val rfl rfl (by decide) (r_move (v := (.slice a l.length c)) rfl) ?_
  refine WpL_val (v := (.bool a.isNone)) rfl rfl (by decide) (r_eqlNil Tryd.underlying24 rfl rfl) ?_
  refine WpL_nil ?_
  refine Wp_cond (b := a.isNone) rfl (fun hn => ?_) (fun hn => ?_)
  · have khn := hn
    have hl0 : l.length = 0 := by rcases Nat.eq_zero_or_pos l.length with h0 | h0; exact h0; obtain ⟨b, o, rfl, _⟩ := spans_cells h h0; simp at hn
    have hl1 : l = [] := List.eq_nil_of_length_eq_zero hl0
    refine Wp_seq_region ?_
    refine WpL_val rfl rfl (by decide) (r_assign (v := (.slice none 0 0)) rfl) ?_
    refine WpL_nil ?_
    refine Wp_ret ?_
    refine thn_ret ?_
    refine fin_tmp Tryd.results52 (v := (.slice none 0 0)) rfl ?_
    subst hl1; exact ⟨⟨⟨none, 0, rfl⟩, World.ownsRow_nil _ _ _ _⟩, E⟩
  · have khn := hn
    rcases Bool.eq_false_or_eq_true (decide (l.length = 0)) with hz | hz
    · have khz := hz
      replace khz := of_decide_eq_true khz
      refine Wp_skip ?_
      refine thn_normal ?_
      refine Wp_seq_region ?_
      refine s_build0 (by decide) Tryd.underlying24 siz82 ?_
      intro bq wq Nq
      have Fq := Nq.ge E
      replace E := E.ext Nq.ext
      have Bq := Nq.blk
      refine WpL_val rfl rfl (by decide) (r_move (v := (.slice a l.length c)) rfl) ?_
      refine WpL_val rfl rfl (by decide) (r_append0 Tryd.underlying24 siz82 (a' := a) (c' := c) rfl (Nat.le_refl _) (by show Value.slice a l.length c = _; rw [khz])) ?_
      refine WpL_val rfl rfl (by decide) (r_assign (v := (.slice (some ⟨bq, 0, none⟩) 0 0)) rfl) ?_
      refine WpL_nil ?_
      refine Wp_ret ?_
      refine fin_tmp Tryd.results52 (v := (.slice (some ⟨bq, 0, none⟩) 0 0)) rfl ?_
      have hl1 : l = [] := List.eq_nil_of_length_eq_zero khz
      subst hl1; exact ⟨⟨⟨_, 0, rfl⟩, own_empty (base := base) (size := 2) Bq (by omega)⟩, E⟩
    · have khz := hz
      replace khz := of_decide_eq_false khz
      obtain ⟨b, o, rfl, hcl⟩ := spans_cells h (by omega)
      refine Wp_skip ?_
      refine thn_normal ?_
      refine Wp_seq_region ?_
      refine s_build0 (by decide) Tryd.underlying24 siz82 ?_
      intro bq wq Nq
      have Fq := Nq.ge E
      replace E := E.ext Nq.ext
      have Bq := Nq.blk
      refine WpL_val rfl rfl (by decide) (r_move (v := (.slice (some ⟨b, o, none⟩) l.length c)) rfl) ?_
      have hown := own_empty (base := base) (size := 2) Bq (by omega)
      have hbs : base ≤ wq.heap.size := by have := Nq.ext.size; omega
      refine s_append (base := base) (n := 0) (m := l.length) (xs := []) (news := (l.map spanV).flatten) (size := 2) (bytes := 16) (v := (.slice (some ⟨bq, 0, none⟩) 0 0)) (by decide) Tryd.underlying24 siz82 byt82 zer82 rfl (by decide) rfl hown rfl (spans_six l) ((spans_flat hcl).ext Nq.ext) (spans_one l) (by unfold maxLen; omega) (by omega) (hbs) ?_
      intro v9 w29 Ov9 Cv9 Dv9
      replace E := E.step Cv9 (fun x hx h => absurd (hown.lt x h).1 (by omega))
      obtain ⟨la, lc, rfl⟩ := own_form Ov9
      refine WpL_val rfl rfl (by decide) (r_assign (v := (.slice la (0 + l.length) lc)) rfl) ?_
      refine WpL_nil ?_
      refine Wp_ret ?_
      refine fin_tmp Tryd.results52 (v := (.slice la (0 + l.length) lc)) rfl ?_
      simp only [Nat.zero_add, List.nil_append] at Ov9 ⊢
      exact ⟨⟨⟨la, lc, rfl⟩, Ov9⟩, E⟩
def SpssAt (w : World) (v : Value) (ll : List (List Sp)) : Prop := ∃ vs : List Value, SlAt w 1 v (vs.map fun x => [x]) ∧ vs.length = ll.length ∧ ∀ (i : Nat) (u : Value) (l : List Sp), vs[i]? = some u → ll[i]? = some l → SpansAt w u l
theorem SpssAt.ext {w w' : World} {v : Value} {ll : List (List Sp)} (h : SpssAt w v ll) (e : Ext w w') : SpssAt w' v ll := by
  obtain ⟨vs, h1, h2, h3⟩ := h
  exact ⟨vs, h1.ext e, h2, fun i u l hu hl => (h3 i u l hu hl).ext e⟩
theorem SpssAt.form {w : World} {v : Value} {ll : List (List Sp)} (h : SpssAt w v ll) : ∃ a c, v = .slice a ll.length c ∧ ll.length ≤ c ∧ ll.length ≤ 9223372036854775807 := by
  obtain ⟨vs, h1, h2, _⟩ := h
  obtain ⟨a, c, rfl⟩ := h1.form
  have := h1.cap
  have := h1.le
  simp only [List.length_map] at *
  rw [h2] at *
  exact ⟨a, c, rfl, by omega, by omega⟩
end Go.Proofs
namespace Go.Eng
open Go
section
variable {κ ν : Type} [DecidableEq κ]
def getM : List (κ × ν) → κ → Option ν
  | [], _ => none
  | p :: r, k => if p.1 = k then some p.2 else getM r k
def putM : List (κ × ν) → κ → ν → List (κ × ν)
  | [], k, v => [(k, v)]
  | p :: r, k, v => if p.1 = k then (k, v) :: r else p :: putM r k v
def findM (eV : ν → Value) : List (κ × ν) → κ → Nat → Option (Nat × Value)
  | [], _, _ => none
  | p :: r, k, i => if p.1 = k then some (i, eV p.2) else findM eV r k (i + 1)
theorem findM_some {eV : ν → Value} : ∀ {es : List (κ × ν)} {k : κ} {i : Nat} {v : ν}, getM es k = some v → ∃ j, findM eV es k i = some (i + j, eV v) ∧ es[j]? = some (k, v) ∧ ∀ u, putM es k u = es.set j (k, u)
  | [], _, _, _, h => by cases h
  | p :: r, k, i, v, h => by
    unfold getM at h
    unfold findM
    split at h
    · rename_i he
      cases h
      rw [if_pos he]
      exact ⟨0, rfl, by obtain ⟨a, b⟩ := p; simp at he; subst he; rfl, fun u => by unfold putM; rw [if_pos he]; rfl⟩
    · rename_i hne
      rw [if_neg hne]
      obtain ⟨j, h1, h2, h3⟩ := findM_some (eV := eV) (i := i + 1) h
      exact ⟨j + 1, by rw [h1]; congr 2; omega, by simpa using h2, fun u => by unfold putM; rw [if_neg hne, h3 u]; rfl⟩
theorem putM_none : ∀ {es : List (κ × ν)} {k : κ} (v : ν), getM es k = none → putM es k v = es ++ [(k, v)]
  | [], _, _, _ => rfl
  | p :: r, k, v, h => by
    unfold getM at h
    unfold putM
    split at h
    · cases h
    · rename_i hne; rw [if_neg hne, putM_none v h]; rfl
theorem getM_isSome {es : List (κ × ν)} {k : κ} : (getM es k).isSome = true ↔ k ∈ es.map (·.1) := by
  induction es with
  | nil => simp [getM]
  | cons p r ih =>
    unfold getM
    by_cases h : p.1 = k
    · simp [h]
    · rw [if_neg h, ih]
      simp [Ne.symm h]
def KeysOk (es : List (κ × ν)) : Prop := (es.map (·.1)).Nodup
omit [DecidableEq κ] in
theorem KeysOk.nil : KeysOk ([] : List (κ × ν)) := List.nodup_nil
theorem KeysOk.put {es : List (κ × ν)} (h : KeysOk es) (k : κ) (v : ν) : KeysOk (putM es k v) := by
  cases hg : getM es k with
  | none =>
    rw [putM_none v hg]
    unfold KeysOk
    rw [List.map_append, List.nodup_append]
    refine ⟨h, by simp, fun a ha b hb => ?_⟩
    simp at hb
    subst hb
    intro he
    subst he
    have := getM_isSome.2 ha
    rw [hg] at this; cases this
  | some u =>
    obtain ⟨j, _, h2, h3⟩ := findM_some (eV := fun _ => undef) (i := 0) hg
    rw [h3 v]
    unfold KeysOk
    have : (es.set j (k, v)).map (·.1) = es.map (·.1) := by
      apply List.ext_getElem?
      intro i
      rw [List.getElem?_map, List.getElem?_map, List.getElem?_set]
      by_cases hi : j = i
      · subst hi
        have hlt := lt_of_get h2
        rw [if_pos rfl, if_pos hlt, h2]; rfl
      · simp [hi]
    rw [this]; exact h
end
/-- A map in memory: its entries in the order in which the keys came. -/
def ents {κ ν : Type} (ek : κ → Value) (eV : ν → Value) (es : List (κ × ν)) : List MapEntry := es.zipIdx.map fun p => { key := ek p.1.1, val := eV p.1.2, born := p.2 }
def MapAt {κ ν : Type} (w : World) (b : Nat) (ek : κ → Value) (eV : ν → Value) (es : List (κ × ν)) : Prop := w.heap[b]? = some (.map (ents ek eV es).toArray es.length)
section
variable {κ ν : Type} {ek : κ → Value} {eV : ν → Value} {es : List (κ × ν)} {w w' : World} {b : Nat}
theorem MapAt.lt (h : MapAt w b ek eV es) : b < w.heap.size := (Array.getElem?_eq_some_iff.1 h).1
theorem Chg.keepM {M : Nat → Prop} (h : Chg M w w') (hm : ¬ M b) (hb : MapAt w b ek eV es) : MapAt w' b ek eV es := (h.blk b hb.lt hm).trans hb
theorem Ext.keepM (h : Ext w w') (hb : MapAt w b ek eV es) : MapAt w' b ek eV es := Chg.keepM h (fun f => f) hb
theorem New.keepM {n : Nat} {c : Array Value} {t : TypeId} (h : New w w' n c t) (hb : MapAt w b ek eV es) : MapAt w' b ek eV es := h.ext.keepM hb
theorem Put.keepM {n : Nat} {c : Array Value} {t : TypeId} (h : Put w w' n c t) (hne : b ≠ n) (hb : MapAt w b ek eV es) : MapAt w' b ek eV es := h.chg.keepM hne hb
end
/-- A new object that is no row of cells. -/
structure NewO (w w' : World) (b : Nat) (o : Obj) : Prop where
  at' : w'.heap[b]? = some o
  ext : Ext w w'
  eq : b = w.heap.size
  size : w'.heap.size = w.heap.size + 1
theorem NewO.mk' (w : World) (o : Obj) : NewO w { w with heap := w.heap.push o } w.heap.size o :=
  ⟨by simp, ⟨rfl, rfl, rfl, Nat.le_refl _, by simp, fun x hx _ => by simp [Array.getElem?_push, Nat.ne_of_lt hx]⟩, rfl, by simp⟩
section
variable {w w' : World} {b : Nat} {o : Obj}
theorem NewO.keep (h : NewO w w' b o) {b' : Nat} {c' : Array Value} {t' : TypeId} (hb : Blk w b' c' t') : Blk w' b' c' t' := h.ext.keep hb
theorem NewO.lt (h : NewO w w' b o) {b' : Nat} {c' : Array Value} {t' : TypeId} (hb : Blk w b' c' t') : b' < b := by rw [h.eq]; exact hb.lt
theorem NewO.ge (h : NewO w w' b o) {w0 : World} {M : Nat → Prop} (e : Chg M w0 w) : w0.heap.size ≤ b := by rw [h.eq]; exact e.size
variable {κ ν : Type} {ek : κ → Value} {eV : ν → Value} {es : List (κ × ν)} {b' : Nat}
theorem NewO.keepM (h : NewO w w' b o) (hb : MapAt w b' ek eV es) : MapAt w' b' ek eV es := h.ext.keepM hb
end
/-- An object that is no row of cells is replaced. -/
structure PutO (w w' : World) (b : Nat) (o : Obj) : Prop where
  at' : w'.heap[b]? = some o
  chg : Chg (fun x => x = b) w w'
  size : w'.heap.size = w.heap.size
theorem PutO.mk' {w : World} {b : Nat} (o : Obj) (hb : b < w.heap.size) : PutO w { w with heap := w.heap.setIfInBounds b o } b o :=
  ⟨by simp [hb], ⟨rfl, rfl, rfl, Nat.le_refl _, by simp, fun x hx hne => by simp [Array.getElem?_setIfInBounds, Ne.symm hne]⟩, by simp⟩
section
variable {w w' : World} {b : Nat} {o : Obj}
theorem PutO.keep (h : PutO w w' b o) {b' : Nat} {c' : Array Value} {t' : TypeId} (hne : b' ≠ b) (hb : Blk w b' c' t') : Blk w' b' c' t' := h.chg.keep hne hb
theorem PutO.step (h : PutO w w' b o) {w0 : World} {M : Nat → Prop} (e : Chg M w0 w) (hb : w0.heap.size ≤ b ∨ M b) : Chg M w0 w' :=
  e.step h.chg fun x hx hm => by subst hm; rcases hb with hb | hb; omega; exact hb
variable {κ ν : Type} {ek : κ → Value} {eV : ν → Value} {es : List (κ × ν)} {b' : Nat}
theorem PutO.keepM (h : PutO w w' b o) (hne : b' ≠ b) (hb : MapAt w b' ek eV es) : MapAt w' b' ek eV es := h.chg.keepM hne hb
end
def kBool (x : Bool) : Value := .bool x
def IterAt (w : World) (it b n : Nat) (seen : List Nat) : Prop := w.heap[it]? = some (.mapIter (some b) n seen.toArray n)
theorem IterAt.lt {w : World} {it b n : Nat} {seen : List Nat} (h : IterAt w it b n seen) : it < w.heap.size := (Array.getElem?_eq_some_iff.1 h).1
theorem IterAt.chg {M : Nat → Prop} {w w' : World} {it b n : Nat} {seen : List Nat} (h : IterAt w it b n seen) (c : Chg M w w') (hm : ¬ M it) : IterAt w' it b n seen := (c.blk it h.lt hm).trans h
theorem IterAt.ext {w w' : World} {it b n : Nat} {seen : List Nat} (h : IterAt w it b n seen) (c : Ext w w') : IterAt w' it b n seen := h.chg c fun f => f
end Go.Eng
namespace Go.Proofs
open Go Go.Eng Go.Sort
structure LSt (To e sz : Nat) (w : World) (base : Nat) (vo : Value) (vs : List Value) (ns : List (Nat × List Value)) : Prop where
  o : w.ownsRow base To 1 vo ns.length vs
  len : vs.length = ns.length
  inn : ∀ (i : Nat) v p, vs[i]? = some v → ns[i]? = some p → w.ownsRow base e sz v p.1 p.2
  apo : ∀ (i : Nat) v b, vs[i]? = some v → v.ownBlock = some b → vo.ownBlock ≠ some b
theorem LSt.chg {M : Nat → Prop} {To e sz base : Nat} {w w' : World} {vo : Value} {vs : List Value} {ns : List (Nat × List Value)} (h : LSt To e sz w base vo vs ns) (c : Chg M w w') (hM : ∀ b, base ≤ b → b < w.heap.size → ¬ M b) : LSt To e sz w' base vo vs ns :=
  ⟨own_chg h.o c fun k hk => hM k (h.o.lt k hk).1 (h.o.lt k hk).2, h.len, fun i v l hv hl => own_chg (h.inn i v l hv hl) c fun k hk => hM k ((h.inn i v l hv hl).lt k hk).1 ((h.inn i v l hv hl).lt k hk).2, h.apo⟩
theorem LSt.ext {To e sz base : Nat} {w w' : World} {vo : Value} {vs : List Value} {ns : List (Nat × List Value)} (h : LSt To e sz w base vo vs ns) (c : Ext w w') : LSt To e sz w' base vo vs ns := h.chg c fun _ _ _ f => f
theorem LSt.on {To e sz base n : Nat} {w : World} {vo : Value} {vs : List Value} {ns : List (Nat × List Value)} (h : LSt To e sz w base vo vs ns) (hn : n = ns.length) : w.ownsRow base To 1 vo n vs := by subst hn; exact h.o
/-- A slice that was made later is appended. -/
theorem LSt.push {To e sz base bu n m : Nat} {w w' : World} {vo v' u : Value} {vs us : List Value} {ns : List (Nat × List Value)} (h : LSt To e sz w base vo vs ns) (hn : n = ns.length) (hu : w.ownsRow bu e sz u m us) (hb : base ≤ bu) (hbu : ∀ k, vo.ownBlock = some k → k < bu)
    (Ov : w'.ownsRow base To 1 v' (n + 1) (vs ++ [u])) (Cv : Chg (fun x => vo.ownBlock = some x) w w') (Wv : ∀ k, v'.ownBlock = some k → vo.ownBlock = some k ∨ w.heap.size ≤ k) : LSt To e sz w' base v' (vs ++ [u]) (ns ++ [(m, us)]) := by
  have hold : ∀ (i : Nat) v, (vs ++ [u])[i]? = some v → vs[i]? = some v ∨ (i = vs.length ∧ v = u) := by
    intro i v hv
    rcases Nat.lt_or_ge i vs.length with h1 | h1
    · left; rwa [List.getElem?_append_left h1] at hv
    · right
      rw [List.getElem?_append_right h1] at hv
      have h2 := lt_of_get hv
      simp at h2
      obtain rfl : i = vs.length := by omega
      simp at hv
      exact ⟨rfl, hv.symm⟩
  have hun : ∀ b, u.ownBlock = some b → vo.ownBlock ≠ some b := fun b hb' e' => by
    have h1 := hbu b e'
    have h2 := (hu.lt b hb').1
    omega
  refine ⟨by rw [List.length_append, ← hn]; exact Ov, by simp [h.len], ?_, ?_⟩
  · intro i v p hv hp
    rcases hold i v hv with h1 | ⟨h1, rfl⟩
    · rw [List.getElem?_append_left (by have := lt_of_get h1; have := h.len; omega)] at hp
      exact own_chg (h.inn i v p h1 hp) Cv fun k hk => h.apo i v k h1 hk
    · rw [h1, h.len] at hp
      simp at hp
      subst hp
      exact own_low (own_chg hu Cv fun k hk => hun k hk) hb
  · intro i v b hv hb1 hb2
    rcases hold i v hv with h1 | ⟨_, rfl⟩
    · rcases Wv b hb2 with h2 | h2
      · exact h.apo i v b h1 hb1 h2
      · obtain ⟨p, hp⟩ := get_of_lt (l := ns) (i := i) (by have := lt_of_get h1; have := h.len; omega)
        have := ((h.inn i v p h1 hp).lt b hb1).2
        omega
    · rcases Wv b hb2 with h2 | h2
      · exact hun b hb1 h2
      · have := (hu.lt b hb1).2; omega
theorem own_writeG {w w' : World} {base e size n cap g i : Nat} {xs : List Value} {cur : Array Value} {v : Value} (h : w.ownsRow base e size (.slice (some ⟨g, 0, none⟩) n cap) n xs) (hB : Blk w g cur e) (hi : i < n * size) (hB' : Blk w' g (cur.setIfInBounds i v) e) : w'.ownsRow base e size (.slice (some ⟨g, 0, none⟩) n cap) n (xs.set i v) := by
  rcases h.2 with ⟨h1, _⟩ | ⟨g', cap', cur', hv, hbg, hg, hnc, hcm, hcs, htake⟩
  · simp at h1
  · simp only [Value.slice.injEq, Option.some.injEq, Addr.mk.injEq, and_true] at hv
    obtain ⟨rfl, _, rfl⟩ := hv
    unfold Blk at hB hB'
    rw [hB] at hg
    simp only [Option.some.injEq, Obj.cells.injEq, and_true] at hg
    obtain ⟨rfl, _⟩ := hg
    refine ⟨by simpa using h.1, .inr ⟨g, cap, _, rfl, hbg, hB', hnc, hcm, by simpa using hcs, ?_⟩⟩
    rw [← htake, Array.toList_setIfInBounds, List.take_set]
theorem own_blkG {w : World} {base e size n cap g : Nat} {xs : List Value} (h : w.ownsRow base e size (.slice (some ⟨g, 0, none⟩) n cap) n xs) : ∃ cur, Blk w g cur e ∧ n * size ≤ cur.size := by
  rcases h.2 with ⟨h1, _⟩ | ⟨g', cap', cur', hv, hbg, hg, hnc, hcm, hcs, htake⟩
  · simp at h1
  · simp only [Value.slice.injEq, Option.some.injEq, Addr.mk.injEq, and_true] at hv
    obtain ⟨rfl, _, rfl⟩ := hv
    exact ⟨cur', hg, by rw [hcs]; exact Nat.mul_le_mul_right _ hnc⟩
/-- The same, and no two members share a block: a member may grow. -/
structure GSt (To e sz : Nat) (w : World) (base : Nat) (vo : Value) (vs : List Value) (ns : List (Nat × List Value)) : Prop where
  l : LSt To e sz w base vo vs ns
  ap : ∀ (i j : Nat) v u b, vs[i]? = some v → vs[j]? = some u → v.ownBlock = some b → u.ownBlock = some b → i = j
theorem GSt.chg {M : Nat → Prop} {To e sz base : Nat} {w w' : World} {vo : Value} {vs : List Value} {ns : List (Nat × List Value)} (h : GSt To e sz w base vo vs ns) (c : Chg M w w') (hM : ∀ b, base ≤ b → b < w.heap.size → ¬ M b) : GSt To e sz w' base vo vs ns := ⟨h.l.chg c hM, h.ap⟩
theorem GSt.ext {To e sz base : Nat} {w w' : World} {vo : Value} {vs : List Value} {ns : List (Nat × List Value)} (h : GSt To e sz w base vo vs ns) (c : Ext w w') : GSt To e sz w' base vo vs ns := ⟨h.l.ext c, h.ap⟩
/-- One member grows, and its new slice is stored in the outer one. -/
theorem GSt.grow {To e sz : Nat} {w w' w2 : World} {base g cap k n m m' : Nat} {v v' : Value} {vs : List Value} {ns : List (Nat × List Value)} {xs xs' : List Value} {cur : Array Value} (h : GSt To e sz w base (.slice (some ⟨g, 0, none⟩) n cap) vs ns) (hn : n = ns.length) (hv : vs[k]? = some v) (hp : ns[k]? = some (m, xs))
    (Ov : w'.ownsRow base e sz v' m' xs') (Cv : Chg (fun x => v.ownBlock = some x) w w') (Wv : ∀ k, v'.ownBlock = some k → v.ownBlock = some k ∨ w.heap.size ≤ k)
    (hB : Blk w' g cur To) (P2 : Put w' w2 g (cur.setIfInBounds k v') To) : GSt To e sz w2 base (.slice (some ⟨g, 0, none⟩) n cap) (vs.set k v') (ns.set k (m', xs')) := by
  have hkl := lt_of_get hv
  have hgv : v.ownBlock ≠ some g := fun e => h.l.apo k v g hv e rfl
  have hgl := (h.l.o.lt g rfl).2
  have hv'g : v'.ownBlock ≠ some g := fun e => by rcases Wv g e with h1 | h1; exact hgv h1; omega
  have ho1 : w'.ownsRow base To 1 (.slice (some ⟨g, 0, none⟩) n cap) ns.length vs := own_chg h.l.o Cv fun q hq => by cases hq; exact hgv
  rw [← hn] at ho1
  have ho2 := own_writeG ho1 hB (i := k) (by have := h.l.len; omega) P2.blk
  have hset : ∀ (i : Nat) u, (vs.set k v')[i]? = some u → (i = k ∧ u = v') ∨ (i ≠ k ∧ vs[i]? = some u) := by
    intro i u hu
    rw [List.getElem?_set] at hu
    split at hu
    · rename_i he
      exact .inl ⟨he.symm, (Option.some.inj hu).symm⟩
    · rename_i he
      exact .inr ⟨fun e => he e.symm, hu⟩
  have hsome : ∀ (i : Nat) u, vs[i]? = some u → ∃ q, ns[i]? = some q := fun i u hu => get_of_lt (by have := lt_of_get hu; have := h.l.len; omega)
  have hne : ∀ (i : Nat) u b, i ≠ k → vs[i]? = some u → u.ownBlock = some b → v.ownBlock ≠ some b ∧ v'.ownBlock ≠ some b ∧ b ≠ g := by
    intro i u b hi hu hb
    have h1 : v.ownBlock ≠ some b := fun e => hi (h.ap i k u v b hu hv hb e)
    refine ⟨h1, fun e => ?_, fun e => h.l.apo i u b hu hb (by rw [e]; rfl)⟩
    rcases Wv b e with h2 | h2
    · exact h1 h2
    · obtain ⟨q, hq⟩ := hsome i u hu
      have := ((h.l.inn i u q hu hq).lt b hb).2
      omega
  refine ⟨⟨by rw [List.length_set, ← hn]; exact ho2, by simp [h.l.len], ?_, ?_⟩, ?_⟩
  · intro i u q hu hq
    rcases hset i u hu with ⟨rfl, rfl⟩ | ⟨h1, h2⟩
    · rw [List.getElem?_set, if_pos rfl, if_pos (by have := h.l.len; omega)] at hq
      have hq' := Option.some.inj hq
      subst hq'
      exact own_chg Ov P2.chg fun b hb e => hv'g (e ▸ hb)
    · rw [List.getElem?_set, if_neg (fun e => h1 e.symm)] at hq
      exact own_chg (own_chg (h.l.inn i u q h2 hq) Cv fun b hb => (hne i u b h1 h2 hb).1) P2.chg fun b hb e => (hne i u b h1 h2 hb).2.2 e
  · intro i u b hu hb
    rcases hset i u hu with ⟨rfl, rfl⟩ | ⟨h1, h2⟩
    · intro e; cases e; exact hv'g hb
    · exact h.l.apo i u b h2 hb
  · intro i j u z b hu hz hb hb'
    rcases hset i u hu with ⟨rfl, rfl⟩ | ⟨h1, h2⟩ <;> rcases hset j z hz with ⟨rfl, rfl⟩ | ⟨h3, h4⟩
    · rfl
    · exact absurd hb (hne j z b h3 h4 hb').2.1
    · exact absurd hb' (hne i u b h1 h2 hb).2.1
    · exact h.ap i j u z b h2 h4 hb hb'
end Go.Proofs
namespace Go.Eng
open Go
inductive DagStepsP (P : Program) (N : Nat) (ds : List Nat) (Fs : List Fact) (σ : Env) (w : World) : List Oper → List (List Nat) → List Bool → List Fact → Prop where
  | nil : DagStepsP P N ds Fs σ w [] [] [] []
  | cons {o : Oper} {ws : List Nat} {F : Fact} {l : List Oper} {wss : List (List Nat)} {hs : List Bool} {Gs : List Fact} : DagStep P N ds Fs σ w o ws F → DagStepsP P N ds Fs σ w l wss hs Gs → DagStepsP P N ds Fs σ w (o :: l) (ws :: wss) (true :: hs) (F :: Gs)
  | tail {o : Oper} {ws : List Nat} {F : Fact} {l : List Oper} {wss : List (List Nat)} {hs : List Bool} {Gs : List Fact} : DagStepsP P N ds Fs σ w l wss hs Gs → DagStepsP P N ds Fs σ w (o :: l) (ws :: wss) (false :: hs) (F :: Gs)
theorem DagStepsP.get {P : Program} {N : Nat} {ds : List Nat} {Fs : List Fact} {σ : Env} {w : World} : ∀ {l : List Oper} {wss : List (List Nat)} {hs : List Bool} {Gs : List Fact}, DagStepsP P N ds Fs σ w l wss hs Gs → ∀ {j : Nat} {o : Oper}, l[j]? = some o → hs[j]? = some true → ∃ ws F, wss[j]? = some ws ∧ Gs[j]? = some F ∧ DagStep P N ds Fs σ w o ws F
  | _, _, _, _, .nil, j, o, h, _ => by simp at h
  | _, _, _, _, .cons h1 h2, 0, o, h, _ => by simp at h; subst h; exact ⟨_, _, rfl, rfl, h1⟩
  | _, _, _, _, .tail h2, 0, o, h, ht => by simp at ht
  | _, _, _, _, .cons h1 h2, j + 1, o, h, ht => by
    obtain ⟨ws, F, a, b, c⟩ := h2.get (j := j) (by simpa using h) (by simpa using ht)
    exact ⟨ws, F, by simpa using a, by simpa using b, c⟩
  | _, _, _, _, .tail h2, j + 1, o, h, ht => by
    obtain ⟨ws, F, a, b, c⟩ := h2.get (j := j) (by simpa using h) (by simpa using ht)
    exact ⟨ws, F, by simpa using a, by simpa using b, c⟩
end Go.Eng
namespace Go.Eng
open Go
def two (c1 c2 : Nat) (M1 M2 : Nat → Prop) (p : Nat) : Nat → Prop := bif Nat.beq p c1 then M1 else bif Nat.beq p c2 then M2 else none1
/-- An operation that is sure to be yet to come when operation i is done. -/
def gone (wss : List (List Nat)) (i j : Nat) : Bool := Nat.beq j i || (wss.getD j []).contains i
def Past (wss : List (List Nat)) (Ms : Nat → Nat → Prop) (i : Nat) : Nat → Prop := fun y => ∃ j, gone wss i j = false ∧ Ms j y
theorem two_or {c1 c2 : Nat} {M1 M2 : Nat → Prop} {p y : Nat} (h : two c1 c2 M1 M2 p y) : (p = c1 ∧ M1 y) ∨ (p = c2 ∧ M2 y) := by
  unfold two at h
  cases h1 : Nat.beq p c1 with
  | true => rw [h1] at h; exact .inl ⟨Nat.eq_of_beq_eq_true h1, h⟩
  | false =>
    rw [h1] at h
    cases h2 : Nat.beq p c2 with
    | true => rw [h2] at h; exact .inr ⟨Nat.eq_of_beq_eq_true h2, h⟩
    | false => rw [h2] at h; exact h.elim
section
variable {wss : List (List Nat)} {c1 c2 i y : Nat} {M1 M2 : Nat → Prop}
theorem Past.or (h : Past wss (two c1 c2 M1 M2) i y) : M1 y ∨ M2 y := by
  obtain ⟨j, _, h2⟩ := h
  rcases two_or h2 with h | h
  · exact .inl h.2
  · exact .inr h.2
theorem Past.none (hg : gone wss i c1 = true) (hg2 : gone wss i c2 = true) (h : Past wss (two c1 c2 M1 M2) i y) : False := by
  obtain ⟨j, h1, h2⟩ := h
  rcases two_or h2 with h | h
  · rw [h.1, hg] at h1; cases h1
  · rw [h.1, hg2] at h1; cases h1
end
/-- A fact of a value that may also speak of the values of the operations ahead of it. -/
abbrev FctE := Env → Fct
def HoldsX (ds : List Nat) (Fs : List FctE) (j : Nat) (σ : Env) (w : World) : Prop := ∀ d F, ds[j]? = some d → Fs[j]? = some F → F σ (σ d) w
def DagStepX (P : Program) (N : Nat) (ds : List Nat) (Fs : List FctE) (σ : Env) (w : World) (Ms : Nat → Nat → Prop) (all : List (List Nat)) (i : Nat) (o : Oper) (ws : List Nat) (F : FctE) : Prop :=
  ∀ σ' w', Chg (Past all Ms i) w w' → (∀ t, ds.contains t = false → σ' t = σ t) → (∀ j, ws.contains j = true → HoldsX ds Fs j σ' w') → DoesT (Ms i) P N o (fun v w => F σ' (Go.Eng.valOf o v) w) σ' w'
def StabX (Ms : Nat → Nat → Prop) (i : Nat) (ws : List Nat) (F : FctE) : Prop := ∀ p, p ≠ i → ws.contains p = false → ∀ σ v w w', Chg (Ms p) w w' → F σ v w → F σ v w'
def LocX (ds : List Nat) (ws : List Nat) (F : FctE) : Prop := ∀ σ1 σ2 : Env, (∀ j d, ws.contains j = true → ds[j]? = some d → σ2 d = σ1 d) → ∀ v w, F σ1 v w → F σ2 v w
theorem StabX.eq {Ms : Nat → Nat → Prop} {i : Nat} {ws : List Nat} {u : Value} : StabX Ms i ws (fun _ v _ => v = u) := fun _ _ _ _ _ _ _ _ h => h
theorem LocX.const {ds ws : List Nat} {G : Fct} : LocX ds ws (fun _ => G) := fun _ _ _ _ _ h => h
inductive DagStepsX (P : Program) (N : Nat) (ds : List Nat) (Fs : List FctE) (σ : Env) (w : World) (Ms : Nat → Nat → Prop) (all : List (List Nat)) : Nat → List Oper → List (List Nat) → List FctE → Prop where
  | nil {i : Nat} : DagStepsX P N ds Fs σ w Ms all i [] [] []
  | cons {i : Nat} {o : Oper} {l : List Oper} {ws : List Nat} {wss : List (List Nat)} {F : FctE} {Gs : List FctE} (s : StabX Ms i ws F) (lc : LocX ds ws F) (h : DagStepX P N ds Fs σ w Ms all i o ws F) (t : DagStepsX P N ds Fs σ w Ms all (i + 1) l wss Gs) : DagStepsX P N ds Fs σ w Ms all i (o :: l) (ws :: wss) (F :: Gs)
theorem DagStepsX.get {P : Program} {N : Nat} {ds : List Nat} {Fs : List FctE} {σ : Env} {w : World} {Ms : Nat → Nat → Prop} {all : List (List Nat)} : ∀ {i : Nat} {l : List Oper} {wss : List (List Nat)} {Gs : List FctE}, DagStepsX P N ds Fs σ w Ms all i l wss Gs → ∀ {j : Nat} {o : Oper}, l[j]? = some o → ∃ ws F, wss[j]? = some ws ∧ Gs[j]? = some F ∧ StabX Ms (i + j) ws F ∧ LocX ds ws F ∧ DagStepX P N ds Fs σ w Ms all (i + j) o ws F
  | _, _, _, _, .nil, j, o, h => by simp at h
  | i, _, _, _, .cons s lc h t, 0, o, ho => by
    simp at ho; subst ho
    exact ⟨_, _, rfl, rfl, s, lc, h⟩
  | i, _, _, _, .cons s lc h t, j + 1, o, ho => by
    simp at ho
    obtain ⟨ws, F, h1, h2, h3, h5, h4⟩ := DagStepsX.get t ho
    exact ⟨ws, F, by simpa using h1, by simpa using h2, by rw [show i + (j + 1) = i + 1 + j from by omega]; exact h3, h5, by rw [show i + (j + 1) = i + 1 + j from by omega]; exact h4⟩
end Go.Eng
namespace Go.Eng
open Go
abbrev FctS := (Nat → Bool) → Env → Fct
def HoldsS (ds : List Nat) (Fs : List FctS) (S : Nat → Bool) (j : Nat) (σ : Env) (w : World) : Prop := ∀ d F, ds[j]? = some d → Fs[j]? = some F → F S σ (σ d) w
def insS (S : Nat → Bool) (i : Nat) : Nat → Bool := fun j => bif Nat.beq j i then true else S j
theorem insS_self (S : Nat → Bool) (i : Nat) : insS S i i = true := by simp [insS]
theorem insS_ne {S : Nat → Bool} {i j : Nat} (h : j ≠ i) : insS S i j = S j := by
  have : Nat.beq j i = false := by cases hb : Nat.beq j i; rfl; exact absurd (Nat.eq_of_beq_eq_true hb) h
  simp [insS, this]
def DagStepS (P : Program) (N : Nat) (ds : List Nat) (Fs : List FctS) (σ : Env) (w : World) (Ms : Nat → Nat → Prop) (cl : List (List Nat)) (i : Nat) (o : Oper) (ws : List Nat) (F : FctS) : Prop :=
  ∀ (S : Nat → Bool) σ' w', S i = false → (∀ j, (cl.getD j []).contains i = true → S j = false) → Chg (fun y => ∃ j, S j = true ∧ Ms j y) w w' → (∀ t, ds.contains t = false → σ' t = σ t) → (∀ j d, ds[j]? = some d → S j = false → σ' d = σ d) → (∀ j, ws.contains j = true → S j = true ∧ HoldsS ds Fs S j σ' w') →
    (Guarded ds o σ' ∧ DoesT (Ms i) P N o (fun v w => F (insS S i) σ' (Go.Eng.valOf o v) w) σ' w') ∨ (Unmet ds o σ' ∧ F (insS S i) σ' undef w')
/-- A fact lasts while other operations are done. -/
def StabS (Ms : Nat → Nat → Prop) (i : Nat) (ws : List Nat) (F : FctS) : Prop := ∀ p, p ≠ i → ws.contains p = false → ∀ S σ v w w', S i = true → S p = false → Chg (Ms p) w w' → F S σ v w → F (insS S p) σ v w'
/-- A fact speaks of the values of the operations that it waits for alone. -/
def LocS (ds : List Nat) (ws : List Nat) (F : FctS) : Prop := ∀ S (σ1 σ2 : Env), (∀ j d, ws.contains j = true → ds[j]? = some d → σ2 d = σ1 d) → ∀ v w, F S σ1 v w → F S σ2 v w
inductive DagStepsS (P : Program) (N : Nat) (ds : List Nat) (Fs : List FctS) (σ : Env) (w : World) (Ms : Nat → Nat → Prop) (cl : List (List Nat)) : Nat → List Oper → List (List Nat) → List Bool → List FctS → Prop where
  | nil {i : Nat} : DagStepsS P N ds Fs σ w Ms cl i [] [] [] []
  | cons {i : Nat} {o : Oper} {ws : List Nat} {F : FctS} {l : List Oper} {wss : List (List Nat)} {hs : List Bool} {Gs : List FctS} (s : StabS Ms i ws F) (lc : LocS ds ws F) (h : DagStepS P N ds Fs σ w Ms cl i o ws F) (t : DagStepsS P N ds Fs σ w Ms cl (i + 1) l wss hs Gs) : DagStepsS P N ds Fs σ w Ms cl i (o :: l) (ws :: wss) (true :: hs) (F :: Gs)
  | tail {i : Nat} {o : Oper} {ws : List Nat} {F : FctS} {l : List Oper} {wss : List (List Nat)} {hs : List Bool} {Gs : List FctS} (t : DagStepsS P N ds Fs σ w Ms cl (i + 1) l wss hs Gs) : DagStepsS P N ds Fs σ w Ms cl i (o :: l) (ws :: wss) (false :: hs) (F :: Gs)
theorem DagStepsS.get {P : Program} {N : Nat} {ds : List Nat} {Fs : List FctS} {σ : Env} {w : World} {Ms : Nat → Nat → Prop} {cl : List (List Nat)} : ∀ {i : Nat} {l : List Oper} {wss : List (List Nat)} {hs : List Bool} {Gs : List FctS}, DagStepsS P N ds Fs σ w Ms cl i l wss hs Gs → ∀ {j : Nat} {o : Oper}, l[j]? = some o → hs[j]? = some true → ∃ ws F, wss[j]? = some ws ∧ Gs[j]? = some F ∧ StabS Ms (i + j) ws F ∧ LocS ds ws F ∧ DagStepS P N ds Fs σ w Ms cl (i + j) o ws F
  | _, _, _, _, _, .nil, j, o, h, _ => by simp at h
  | i, _, _, _, _, .cons s lc h t, 0, o, ho, _ => by
    simp at ho; subst ho
    exact ⟨_, _, rfl, rfl, s, lc, h⟩
  | _, _, _, _, _, .tail t, 0, o, h, ht => by simp at ht
  | i, _, _, _, _, .cons s lc h t, j + 1, o, ho, ht => by
    obtain ⟨ws, F, h1, h2, h3, h5, h4⟩ := t.get (j := j) (by simpa using ho) (by simpa using ht)
    exact ⟨ws, F, by simpa using h1, by simpa using h2, by rw [show i + (j + 1) = i + 1 + j from by omega]; exact h3, h5, by rw [show i + (j + 1) = i + 1 + j from by omega]; exact h4⟩
  | i, _, _, _, _, .tail t, j + 1, o, ho, ht => by
    obtain ⟨ws, F, h1, h2, h3, h5, h4⟩ := t.get (j := j) (by simpa using ho) (by simpa using ht)
    exact ⟨ws, F, by simpa using h1, by simpa using h2, by rw [show i + (j + 1) = i + 1 + j from by omega]; exact h3, h5, by rw [show i + (j + 1) = i + 1 + j from by omega]; exact h4⟩
section
variable {Ms : Nat → Nat → Prop} {i : Nat} {ws ds : List Nat}
theorem StabS.eq {u : Value} : StabS Ms i ws (fun _ _ v _ => v = u) := fun _ _ _ _ _ _ _ _ _ _ _ h => h
theorem StabS.chg {F : Fct} {U : Nat → Prop} (hF : ∀ v w w', Chg U w w' → F v w → F v w') (hM : ∀ p y, p ≠ i → ws.contains p = false → Ms p y → U y) : StabS Ms i ws (fun _ _ => F) :=
  fun p h1 h2 _ _ v w w' _ _ x h => hF v w w' (x.mono fun y _ hy => hM p y h1 h2 hy) h
theorem StabS.till {F : Fct} {U : Nat → Prop} {c : Nat} (hF : ∀ v w w', Chg U w w' → F v w → F v w') (hM : ∀ p y, p ≠ i → ws.contains p = false → p ≠ c → Ms p y → U y) : StabS Ms i ws (fun S _ v w => S c = false → F v w) :=
  fun p h1 h2 S _ v w w' _ _ x h hc => by
    have hpc : p ≠ c := fun e => by subst e; rw [insS_self] at hc; cases hc
    rw [insS_ne (Ne.symm hpc)] at hc
    exact hF v w w' (x.mono fun y _ hy => hM p y h1 h2 hpc hy) (h hc)
theorem LocS.const {G : (Nat → Bool) → Fct} : LocS ds ws (fun S _ => G S) := fun _ _ _ _ _ _ h => h
end
def putF (sa n : Nat) (T : TypeId) (G : Fct) : FctS := fun _ s _ w => ∃ b vs, s sa = .pointer (some ⟨b, 0, none⟩) ∧ n ≤ b ∧ Blk w b vs T ∧ G (.agg vs) w
section
variable {Ms : Nat → Nat → Prop} {i : Nat} {ws ds : List Nat}
theorem StabS.put {sa n : Nat} {T : TypeId} {G : Fct} (hG : ∀ v w w', Ext w w' → G v w → G v w') (hM : ∀ p y, p ≠ i → ws.contains p = false → Ms p y → False) : StabS Ms i ws (putF sa n T G) :=
  fun p h1 h2 _ _ v w w' _ _ x h => by
    obtain ⟨b, vs, h3, h4, h5, h6⟩ := h
    have hx : Ext w w' := x.mono fun y _ hy => (hM p y h1 h2 hy).elim
    exact ⟨b, vs, h3, h4, Ext.keep hx h5, hG _ _ _ hx h6⟩
theorem LocS.put {sa n j : Nat} {T : TypeId} {G : Fct} (hj : ws.contains j = true) (hd : ds[j]? = some sa) : LocS ds ws (putF sa n T G) :=
  fun _ σ1 σ2 hs v w h => by
    obtain ⟨b, vs, h3, h4⟩ := h
    exact ⟨b, vs, by rw [hs j sa hj hd]; exact h3, h4⟩
end
end Go.Eng
namespace Go.Proofs
open Go Go.Eng
set_option maxRecDepth 100000
abbrev Grp := List (Int × Int)
abbrev Crs := Nat × Grp
abbrev CFn := Nat → Grp → List Crs
def G0 : Grp := List.replicate 10 (-1, -1)
def setOk (text : List Int) (set : List (Int × Int)) (p : Nat) : Bool := match text[p]? with | some x => inS set x | none => false
inductive Ins where
  | set (l : List (Int × Int))
  | split (x y : Nat)
  | jump (x : Nat)
  | opn (t : Nat)
  | cls (t n : Nat)
  | look (r : Re) (ng : Bool)
  | ent (n : Nat)
  | chk (n : Nat)
  | fin
abbrev Frg := Nat → Nat → Nat → List Ins × Nat
/-- One behind the other, from an instruction on, at a depth, with a number of places used. -/
def seqF : List Frg → Frg
  | [], _, _, t => ([], t)
  | f :: fs, a, d, t => let r := f a d t; let s := seqF fs (a + r.1.length) d r.2; (r.1 ++ s.1, s.2)
def altF (e : Nat) : List Frg → Frg
  | [], _, _, t => ([], t)
  | [f], a, d, t => f a d t
  | f :: g :: fs, a, d, t => let r := f (a + 1) d t; let n := a + 1 + r.1.length + 1; let s := altF e (g :: fs) n d r.2; (.split (a + 1) n :: (r.1 ++ .jump e :: s.1), s.2)
def itF (e : Nat) (f : Frg) : Nat → Frg
  | 0, _, _, t => ([], t)
  | n + 1, a, d, t => let r := f (a + 2) (d + 1) t; let s := itF e f n (a + 2 + r.1.length + 1) d r.2; (.split (a + 1) e :: .ent (d + 1) :: (r.1 ++ .chk (d + 1) :: s.1), s.2)
def noF : Frg := fun _ _ t => ([], t)
def starF (f : Frg) : Frg := fun a d t => let r := f (a + 2) (d + 1) t; (.split (a + 1) (a + 2 + r.1.length + 2) :: .ent (d + 1) :: (r.1 ++ [.chk (d + 1), .jump a]), r.2)
def frgK (k : Int) (set : List (Int × Int)) (L : List Frg) (arg : Re) (mn mx : Int) (ng : Bool) : Frg :=
  if k = 0 then fun _ _ t => ([.set []], t) else if k = 2 then fun _ _ t => ([.set set], t)
  else if k = 3 then seqF L else if k = 4 then fun a d t => altF (a + (altF 0 L a d t).1.length) L a d t
  else if k = 5 then starF (L.headD noF)
  else if k = 6 then fun a d t => let r := seqF (List.replicate mn.toNat (L.headD noF)) a d t
    let s := itF (a + r.1.length + (itF 0 (L.headD noF) (mx - mn).toNat (a + r.1.length) d r.2).1.length) (L.headD noF) (mx - mn).toNat (a + r.1.length) d r.2; (r.1 ++ s.1, s.2)
  else if k = 9 then fun a d t => let r := (L.headD noF) (a + 1) d (t + 1); (.opn t :: (r.1 ++ [.cls t mn.toNat]), r.2)
  else if k = 10 then fun _ _ t => ([.look arg ng], t)
  else noF
def arg0 : List Re → Re
  | [] => .mk 0 [] [] 0 0 false
  | t :: _ => t
mutual
def frgOf : Re → Frg
  | .mk k set args mn mx ng => frgK k set (frgsOf args) (arg0 args) mn mx ng
def frgsOf : List Re → List Frg
  | [] => []
  | t :: ts => frgOf t :: frgsOf ts
end
def progOf (r : Re) : List Ins := (frgOf r 0 0 0).1 ++ [.fin]
def tempsOf (r : Re) : Nat := (frgOf r 0 0 0).2
def many : Nat := 1048576
/-- What a program finds from a spot on: the groups and the end, or nothing. -/
inductive Res (text : List Int) : List Ins → Nat → Nat → Nat → List Int → Grp → Option (Grp × Nat) → Prop where
  | setN {code a p d B G l} : code[a]? = some (.set l) → setOk text l p = false → Res text code a p d B G none
  | setY {code a p d B G l o} : code[a]? = some (.set l) → setOk text l p = true → Res text code (a + 1) (p + 1) many B G o → Res text code a p d B G o
  | splitY {code a p d B G x y v} : code[a]? = some (.split x y) → Res text code x p d B G (some v) → Res text code a p d B G (some v)
  | splitN {code a p d B G x y o} : code[a]? = some (.split x y) → Res text code x p d B G none → Res text code y p d B G o → Res text code a p d B G o
  | jump {code a p d B G x o} : code[a]? = some (.jump x) → Res text code x p d B G o → Res text code a p d B G o
  | opn {code a p d B G t o} : code[a]? = some (.opn t) → t < B.length → Res text code (a + 1) p d (B.set t p) G o → Res text code a p d B G o
  | cls {code a p d B G t n x o} : code[a]? = some (.cls t n) → n < 10 → B[t]? = some x → Res text code (a + 1) p d B (G.set n (x, p)) o → Res text code a p d B G o
  | lookN {code a p d B G r ng o} : code[a]? = some (.look r ng) → Res text (progOf r) 0 p 0 (List.replicate (tempsOf r) 0) G0 o → o.isSome = ng → Res text code a p d B G none
  | lookY {code a p d B G r ng o o'} : code[a]? = some (.look r ng) → Res text (progOf r) 0 p 0 (List.replicate (tempsOf r) 0) G0 o → o.isSome ≠ ng → Res text code (a + 1) p d B G o' → Res text code a p d B G o'
  | ent {code a p d B G n o} : code[a]? = some (.ent n) → 1 ≤ n → n ≤ 1000000 → Res text code (a + 1) p (min d (n - 1)) B G o → Res text code a p d B G o
  | chkN {code a p d B G n} : code[a]? = some (.chk n) → d < n → Res text code a p d B G none
  | chkY {code a p d B G n o} : code[a]? = some (.chk n) → n ≤ d → Res text code (a + 1) p d B G o → Res text code a p d B G o
  | fin {code a p d B G} : code[a]? = some .fin → Res text code a p d B G (some (G, p))
end Go.Proofs
namespace Go.Proofs
open Go Go.Eng
set_option maxRecDepth 100000
def CodeAt (code : List Ins) (a : Nat) (l : List Ins) : Prop := ∀ (i : Nat) x, l[i]? = some x → code[a + i]? = some x
theorem CodeAt.left {code : List Ins} {a : Nat} {l m : List Ins} (h : CodeAt code a (l ++ m)) : CodeAt code a l := fun i x hx => h i x (by rw [List.getElem?_append_left (lt_of_get hx)]; exact hx)
theorem CodeAt.right {code : List Ins} {a : Nat} {l m : List Ins} (h : CodeAt code a (l ++ m)) : CodeAt code (a + l.length) m := fun i x hx => by
  have := h (l.length + i) x (by rw [List.getElem?_append_right (by omega), Nat.add_sub_cancel_left]; exact hx)
  rwa [← Nat.add_assoc] at this
theorem CodeAt.head {code : List Ins} {a : Nat} {x : Ins} {l : List Ins} (h : CodeAt code a (x :: l)) : code[a]? = some x := h 0 x rfl
theorem CodeAt.tail {code : List Ins} {a : Nat} {x : Ins} {l : List Ins} (h : CodeAt code a (x :: l)) : CodeAt code (a + 1) l := fun i y hy => by
  have := h (i + 1) y hy
  rwa [show a + (i + 1) = a + 1 + i by omega] at this
/-- A piece of a program follows courses. -/
def FragOk (text : List Int) (H : Nat) (C : Frg) (f : CFn) : Prop := ∀ code a d t, CodeAt code a (C a d t).1 → d + H < 1000000 → t ≤ (C a d t).2 ∧
  ∀ p dn (B : List Int) G (K : Crs → Option (Grp × Nat)), p ≤ text.length → (C a d t).2 ≤ B.length →
   (∀ q ∈ f p G, ∀ B' : List Int, B'.length = B.length → (∀ i, i < t → B'[i]? = B[i]?) → Res text code (a + (C a d t).1.length) q.1 (if q.1 = p then dn else many) B' q.2 (K q)) →
   Res text code a p dn B G ((f p G).findSome? K)
theorem FragOk.mono {text : List Int} {H H' : Nat} {C : Frg} {f : CFn} (h : FragOk text H C f) (hH : H ≤ H') : FragOk text H' C f := fun code a d t hc hd => h code a d t hc (by omega)
end Go.Proofs
namespace Go.Proofs
open Go Go.Eng Go.Sort
set_option maxRecDepth 100000
theorem SlAt.chg2 {M : Nat → Prop} {w w' : World} {k : Nat} {v : Value} {rows : List (List Value)} (h : SlAt w k v rows) (c : Chg M w w') (hM : rows = [] ∨ ∃ b, v.ownBlock = some b ∧ ¬ M b) : SlAt w' k v rows := by
  obtain ⟨a, cap, hv, hl, hc, h⟩ := h
  refine ⟨a, cap, hv, hl, hc, ?_⟩
  rcases h with h | ⟨b, o, ha, h⟩
  · exact .inl h
  · rcases hM with hM | ⟨b', hb', hM⟩
    · exact .inl hM
    · rw [hv, ha] at hb'
      cases hb'
      exact .inr ⟨b, o, ha, fun i r hr => (h i r hr).chg c hM⟩
abbrev TCd : Nat := 98
abbrev TPg : Nat := 94
abbrev iV (n : Nat) : Value := .int .i64 ((n : Nat) : Int)
abbrev nilS : Value := .slice none 0 0
abbrev nilP : Value := .pointer none
abbrev row8 (k x y n t : Nat) (s p : Value) (b : Bool) : List Value := [iV k, iV x, iV y, iV n, iV t, s, p, .bool b]
def RowF (F : Nat → Prop) (w : World) (pb : Nat) : Ins → List Value → Prop
  | .set l, row => ∃ sv, row = row8 0 0 0 0 0 sv nilP false ∧ SpansAt w sv l ∧ (l = [] ∨ ∃ b, sv.ownBlock = some b ∧ F b)
  | .split x y, row => row = row8 1 x y 0 0 nilS nilP false
  | .jump x, row => row = row8 2 x 0 0 0 nilS nilP false
  | .opn t, row => row = row8 3 0 0 0 t nilS nilP false
  | .cls t n, row => row = row8 4 0 0 n t nilS nilP false
  | .look _ ng, row => row = row8 5 0 0 0 0 nilS (.pointer (some ⟨pb, 0, none⟩)) ng
  | .ent n, row => row = row8 6 0 0 n 0 nilS nilP false
  | .chk n, row => row = row8 7 0 0 n 0 nilS nilP false
  | .fin, row => row = row8 8 0 0 0 0 nilS nilP false
theorem RowF.len {F : Nat → Prop} {w : World} {pb : Nat} {ins : Ins} {row : List Value} (h : RowF F w pb ins row) : row.length = 8 := by
  cases ins <;> simp only [RowF] at h
  · obtain ⟨sv, rfl, _⟩ := h; rfl
  all_goals (subst h; rfl)
theorem RowF.chg {F : Nat → Prop} {M : Nat → Prop} {w w' : World} {pb : Nat} {ins : Ins} {row : List Value} (h : RowF F w pb ins row) (c : Chg M w w') (hM : ∀ y, F y → ¬ M y) : RowF F w' pb ins row := by
  cases ins <;> simp only [RowF] at h ⊢
  · obtain ⟨sv, rfl, h1, h2⟩ := h
    refine ⟨sv, rfl, SlAt.chg2 h1 c ?_, h2⟩
    rcases h2 with rfl | ⟨b, h3, h4⟩
    · exact .inl rfl
    · exact .inr ⟨b, h3, hM b h4⟩
  all_goals exact h
theorem RowF.mono {F F' : Nat → Prop} {w : World} {pb : Nat} {ins : Ins} {row : List Value} (h : RowF F w pb ins row) (hF : ∀ y, F y → F' y) : RowF F' w pb ins row := by
  cases ins <;> simp only [RowF] at h ⊢
  · obtain ⟨sv, rfl, h1, h2⟩ := h
    exact ⟨sv, rfl, h1, h2.imp id fun ⟨b, h3, h4⟩ => ⟨b, h3, hF b h4⟩⟩
  all_goals exact h
inductive ProgAt (F : Nat → Prop) (w : World) : Nat → Re → Prop where
  | mk {b cb n cc : Nat} {r : Re} {rows : List (List Value)} {pbs : Nat → Nat} (hB : Blk w b #[.slice (some ⟨cb, 0, none⟩) n cc, iV (tempsOf r), iV 0] TPg) (hF : F b) (hF2 : F cb) (hb : n ≤ 1000) (htm : tempsOf r ≤ 1000) (hn : (progOf r).length = n) (hl : rows.length = n) (hc : CellsAt w cb 0 rows.flatten)
      (hr : ∀ (i : Nat) ins row, (progOf r)[i]? = some ins → rows[i]? = some row → RowF F w (pbs i) ins row) (hs : ∀ (i : Nat) r' ng, (progOf r)[i]? = some (.look r' ng) → ProgAt F w (pbs i) r') : ProgAt F w b r
theorem ProgAt.chg {F M : Nat → Prop} {w w' : World} (c : Chg M w w') (hM : ∀ y, F y → ¬ M y) {b : Nat} {r : Re} (h : ProgAt F w b r) : ProgAt F w' b r := by
  induction h with
  | mk hB hF hF2 hb htm hn hl hc hr hs ih => exact .mk (c.keep (hM _ hF) hB) hF hF2 hb htm hn hl (hc.chg c (hM _ hF2)) (fun i ins row h1 h2 => (hr i ins row h1 h2).chg c hM) ih
theorem ProgAt.mono {F F' : Nat → Prop} {w : World} (hF : ∀ y, F y → F' y) {b : Nat} {r : Re} (h : ProgAt F w b r) : ProgAt F' w b r := by
  induction h with
  | mk hB hF1 hF2 hb htm hn hl hc hr hs ih => exact .mk hB (hF _ hF1) (hF _ hF2) hb htm hn hl hc (fun i ins row h1 h2 => (hr i ins row h1 h2).mono hF) ih
def RowsAt (F : Nat → Prop) (w : World) (code : List Ins) (rows : List (List Value)) : Prop :=
  rows.length = code.length ∧ ∃ pbs : Nat → Nat, (∀ (i : Nat) ins row, code[i]? = some ins → rows[i]? = some row → RowF F w (pbs i) ins row) ∧ ∀ (i : Nat) r' ng, code[i]? = some (.look r' ng) → ProgAt F w (pbs i) r'
theorem RowsAt.chg {F M : Nat → Prop} {w w' : World} {code : List Ins} {rows : List (List Value)} (h : RowsAt F w code rows) (c : Chg M w w') (hM : ∀ y, F y → ¬ M y) : RowsAt F w' code rows :=
  let ⟨h1, pbs, h2, h3⟩ := h; ⟨h1, pbs, fun i ins row a b => (h2 i ins row a b).chg c hM, fun i r' ng a => (h3 i r' ng a).chg c hM⟩
theorem RowsAt.mono {F F' : Nat → Prop} {w : World} {code : List Ins} {rows : List (List Value)} (h : RowsAt F w code rows) (hF : ∀ y, F y → F' y) : RowsAt F' w code rows :=
  let ⟨h1, pbs, h2, h3⟩ := h; ⟨h1, pbs, fun i ins row a b => (h2 i ins row a b).mono hF, fun i r' ng a => (h3 i r' ng a).mono hF⟩
theorem RowsAt.nil (F : Nat → Prop) (w : World) : RowsAt F w [] [] := ⟨rfl, fun _ => 0, fun i ins row h => by simp at h, fun i r' ng h => by simp at h⟩
theorem RowsAt.snoc {F : Nat → Prop} {w : World} {code : List Ins} {rows : List (List Value)} {ins : Ins} {row : List Value} {pb : Nat} (h : RowsAt F w code rows) (hr : RowF F w pb ins row) (hp : ∀ r' ng, ins = .look r' ng → ProgAt F w pb r') : RowsAt F w (code ++ [ins]) (rows ++ [row]) := by
  obtain ⟨h1, pbs, h2, h3⟩ := h
  refine ⟨by simp [h1], fun i => if i = code.length then pb else pbs i, fun i x y hx hy => ?_, fun i r' ng hx => ?_⟩
  · rcases Nat.lt_or_ge i code.length with hi | hi
    · rw [List.getElem?_append_left hi] at hx
      rw [List.getElem?_append_left (by omega)] at hy
      dsimp only; rw [if_neg (by omega)]
      exact h2 i x y hx hy
    · have := lt_of_get hx
      simp at this
      obtain rfl : i = code.length := by omega
      rw [List.getElem?_append_right (Nat.le_refl _), Nat.sub_self] at hx
      rw [← h1, List.getElem?_append_right (Nat.le_refl _), Nat.sub_self] at hy
      simp at hx hy
      subst hx; subst hy
      dsimp only; rw [if_pos rfl]
      exact hr
  · rcases Nat.lt_or_ge i code.length with hi | hi
    · rw [List.getElem?_append_left hi] at hx
      dsimp only; rw [if_neg (by omega)]
      exact h3 i r' ng hx
    · have := lt_of_get hx
      simp at this
      obtain rfl : i = code.length := by omega
      rw [List.getElem?_append_right (Nat.le_refl _), Nat.sub_self] at hx
      simp at hx
      dsimp only; rw [if_pos rfl]
      exact hp r' ng hx
theorem RowsAt.set {F : Nat → Prop} {w : World} {code : List Ins} {rows : List (List Value)} {ins : Ins} {row : List Value} {j : Nat} (h : RowsAt F w code rows) (hr : ∀ pb, RowF F w pb ins row) (hp : ∀ r' ng, ins ≠ .look r' ng) : RowsAt F w (code.set j ins) (rows.set j row) := by
  obtain ⟨h1, pbs, h2, h3⟩ := h
  refine ⟨by simp [h1], pbs, fun i x y hx hy => ?_, fun i r' ng hx => ?_⟩
  · rw [List.getElem?_set] at hx hy
    by_cases hij : j = i
    · rw [if_pos hij] at hx hy
      split at hx
      · split at hy
        · cases hx; cases hy; exact hr _
        · cases hy
      · cases hx
    · rw [if_neg hij] at hx hy
      exact h2 i x y hx hy
  · rw [List.getElem?_set] at hx
    by_cases hij : j = i
    · rw [if_pos hij] at hx
      split at hx
      · cases hx; exact absurd rfl (hp r' ng)
      · cases hx
    · rw [if_neg hij] at hx
      exact h3 i r' ng hx
theorem flat8_get : ∀ {rows : List (List Value)} {i f : Nat} {row : List Value}, (∀ r ∈ rows, r.length = 8) → rows[i]? = some row → f < 8 → rows.flatten[i * 8 + f]? = row[f]?
  | [], i, f, row, _, h, _ => by simp at h
  | r :: rows, 0, f, row, h8, h, hf => by
    simp at h; subst h
    have := h8 r (by simp)
    rw [List.flatten_cons, Nat.zero_mul, Nat.zero_add, List.getElem?_append_left (by omega)]
  | r :: rows, i + 1, f, row, h8, h, hf => by
    have h1 := h8 r (by simp)
    have ih := flat8_get (rows := rows) (i := i) (f := f) (fun x hx => h8 x (by simp [hx])) (by simpa using h) hf
    rw [List.flatten_cons, List.getElem?_append_right (by omega), ← ih]
    congr 1
    omega
/-- A program that is being made. -/
structure PSt2 (F : Nat → Prop) (w : World) (base pb : Nat) (v : Value) (n : Nat) (code : List Ins) (t d : Nat) : Prop where
  blk : Blk w pb #[v, iV t, iV d] TPg
  rows : ∃ rows, w.ownsRow base TCd 8 v n rows.flatten ∧ RowsAt F w code rows
  len : code.length = n
  ho : ∀ b, v.ownBlock = some b → ¬ F b
  hp : ¬ F pb
  pb : pb < base
  bs : base ≤ w.heap.size
  fl : ∀ y, F y → y < w.heap.size
theorem PSt2.chg {F M : Nat → Prop} {w w' : World} {base pb : Nat} {v : Value} {n : Nat} {code : List Ins} {t d : Nat} (h : PSt2 F w base pb v n code t d) (c : Chg M w w') (hM : ∀ y, F y → ¬ M y) (h1 : ¬ M pb) (h2 : ∀ b, v.ownBlock = some b → ¬ M b) : PSt2 F w' base pb v n code t d := by
  obtain ⟨rows, h3, h4⟩ := h.rows
  exact ⟨c.keep h1 h.blk, ⟨rows, own_chg h3 c h2, h4.chg c hM⟩, h.len, h.ho, h.hp, h.pb, Nat.le_trans h.bs c.size, fun y hy => Nat.lt_of_lt_of_le (h.fl y hy) c.size⟩
theorem PSt2.ext {F : Nat → Prop} {w w' : World} {base pb : Nat} {v : Value} {n : Nat} {code : List Ins} {t d : Nat} (h : PSt2 F w base pb v n code t d) (c : Ext w w') : PSt2 F w' base pb v n code t d := h.chg c (fun _ _ f => f) (fun f => f) fun _ _ f => f
/-- A program that grew. -/
structure GrX (F : Nat → Prop) (w0 : World) (base pb : Nat) (v : Value) (F' : Nat → Prop) (v' : Value) (code' : List Ins) (t' d : Nat) (w : World) : Prop where
  sub : ∀ y, F y → F' y
  new : ∀ y, F' y → F y ∨ w0.heap.size ≤ y
  st : PSt2 F' w base pb v' code'.length code' t' d
  chg : Chg (fun y => y = pb ∨ v.ownBlock = some y) w0 w
  own : ∀ k, v'.ownBlock = some k → v.ownBlock = some k ∨ w0.heap.size ≤ k
def Grew (F : Nat → Prop) (w0 : World) (base pb : Nat) (v : Value) (code' : List Ins) (t' d : Nat) (w : World) : Prop := ∃ F' v', GrX F w0 base pb v F' v' code' t' d w
section
variable {F F' : Nat → Prop} {w0 w w2 : World} {base pb : Nat} {v v' : Value} {code code' : List Ins} {t t' d d' n : Nat}
theorem GrX.ext (h : GrX F w0 base pb v F' v' code' t' d w) (e : Ext w w2) : GrX F w0 base pb v F' v' code' t' d w2 :=
  ⟨h.sub, h.new, h.st.ext e, h.chg.ext e, h.own⟩
theorem GrX.step {F1 : Nat → Prop} {w1 : World} {v1 : Value} {c1 c2 : List Ins} {t1 t2 d1 d2 : Nat} (h : GrX F w0 base pb v F1 v1 c1 t1 d1 w1) (h2 : Grew F1 w1 base pb v1 c2 t2 d2 w2) : ∃ F2 v2, GrX F w0 base pb v F2 v2 c2 t2 d2 w2 ∧ (∀ y, F1 y → F2 y) ∧ (∀ y, F2 y → F1 y ∨ w1.heap.size ≤ y) ∧ Chg (fun y => y = pb ∨ v1.ownBlock = some y) w1 w2 ∧ ∀ k, v2.ownBlock = some k → v1.ownBlock = some k ∨ w1.heap.size ≤ k := by
  obtain ⟨F2, v2, b⟩ := h2
  have hs := h.chg.size
  refine ⟨F2, v2, ⟨fun y hy => b.sub y (h.sub y hy), fun y hy => ?_, b.st, h.chg.step b.chg fun x hx hm => ?_, fun k hk => ?_⟩, b.sub, b.new, b.chg, b.own⟩
  · rcases b.new y hy with h1 | h1
    · exact h.new y h1
    · exact .inr (by omega)
  · rcases hm with h1 | h1
    · exact .inl h1
    · rcases h.own x h1 with h3 | h3
      · exact .inr h3
      · omega
  · rcases b.own k hk with h1 | h1
    · exact h.own k h1
    · exact .inr (by omega)
theorem GrX.wb {wb : World} (h : GrX F w0 base pb v F' v' code' t' d w) (hp : ¬ F pb) (ho : ∀ b, v.ownBlock = some b → ¬ F b) (hF : ∀ y, y < wb.heap.size → F y) (hE : Ext wb w0) : Ext wb w :=
  hE.step h.chg fun x hx hm => by
    have := hF x hx
    rcases hm with h1 | h1
    · subst h1; exact absurd this hp
    · exact absurd this (ho x h1)
theorem PSt2.form (h : PSt2 F w base pb v n code t d) : ∃ a c, v = .slice a n c := by
  obtain ⟨rows, h1, _⟩ := h.rows
  exact own_form h1
/-- A write elsewhere, to a block that was made behind. -/
theorem GrX.other (h : GrX F w0 base pb v F' v' code' t' d w) {M : Nat → Prop} (c : Chg M w w2) (hM : ∀ y, M y → w0.heap.size ≤ y ∧ ¬ F' y ∧ y ≠ pb ∧ v'.ownBlock ≠ some y) : GrX F w0 base pb v F' v' code' t' d w2 :=
  ⟨h.sub, h.new, h.st.chg c (fun y hy hm => (hM y hm).2.1 hy) (fun hm => (hM _ hm).2.2.1 rfl) (fun b hb hm => (hM b hm).2.2.2 hb), h.chg.step c (fun x hx hm => absurd hx (by have := (hM x hm).1; omega)), h.own⟩
end
end Go.Proofs
namespace Go.Proofs
open Go Go.Eng
set_option maxRecDepth 100000
theorem walk_c {S : Type} (F : S → Re → Bool × S) (Inv : S → World → Prop) (M : Nat → Prop) (bd : Nat) (fv : Value) (wb : World)
    (hM : ∀ b, M b → wb.heap.size ≤ b ∧ b < bd) (hst : ∀ s w w', Inv s w → Ext w w' → Inv s w')
    (hf : ∀ s w t vs, bd ≤ w.heap.size → Ext wb w → Inv s w → ReAt wb t vs → CallV Tryd.prog fv #[.agg vs.toArray] w fun v w' => v = .bool (F s t).1 ∧ Chg M w w' ∧ Inv (F s t).2 w') :
    ∀ n t, t.size ≤ n → ∀ s w0 vs, bd ≤ w0.heap.size → Ext wb w0 → Inv s w0 → ReAt wb t vs →
      Ret Tryd.prog 33 #[.agg vs.toArray, fv] w0 fun v w' => v = .bool (walkF F t s).1 ∧ Chg M w0 w' ∧ Inv (walkF F t s).2 w' := by
  have toExt : ∀ {w w' : World}, Ext wb w → Chg M w w' → Ext wb w' := fun e c => Chg.step e c fun x hx hm => by have := (hM x hm).1; omega
  intro n
  induction n with
  | zero => intro t ht; have := t.size_pos; omega
  | succ n ih =>
  intro t hn s w0 vs hbd hE hI ht
  obtain ⟨sa, sc, aa, ac, rfl, hset, hlen, hargs⟩ := ht.form
  rw [walkF_eq]
  refine Ret_of Tryd.func33 rfl Tryd.ntmps33 (Nat.le_of_ble_eq_true rfl) ?_
  have E : Chg M w0 w0 := Chg.refl _ _
  refine Wp_seq_region ?_
  refine s_box (v := (.agg #[(.int .i64 t.kind), (.slice sa t.set.length sc), (.slice aa t.args.length ac), (.int .i64 t.mn), (.int .i64 t.mx), (.bool t.neg)])) (c := #[(.int .i64 t.kind), (.slice sa t.set.length sc), (.slice aa t.args.length ac), (.int .i64 t.mn), (.int .i64 t.mx), (.bool t.neg)]) (by decide) rfl rfl ?_
  intro b1 w1 N1
  have F1 := N1.ge E
  replace hI := hst _ _ _ hI N1.ext
  replace E := E.ext N1.ext
  have B1 := N1.blk
  refine WpL_val rfl rfl (by decide) (r_assign (v := (.bool false)) rfl) ?_
  refine WpL_nil ?_
  refine Wp_seq ?_
  refine Wp_seq_region ?_
  refine WpL_val rfl rfl (by decide) (r_move (v := fv) rfl) ?_
  refine WpL_val rfl rfl (by decide) (r_loadAgg (vs := [(.int .i64 t.kind), (.slice sa t.set.length sc), (.slice aa t.args.length ac), (.int .i64 t.mn), (.int .i64 t.mx), (.bool t.neg)]) rfl agg27 siz27 rfl (B1.cells rfl)) ?_
  refine WpL_callV (fv := fv) (vs := [(.agg #[(.int .i64 t.kind), (.slice sa t.set.length sc), (.slice aa t.args.length ac), (.int .i64 t.mn), (.int .i64 t.mx), (.bool t.neg)])]) (by decide) rfl rfl (hf s _ t _ (by have := N1.size; omega) (hE.trans N1.ext) hI ht) ?_
  rintro _ w2 ⟨rfl, C2, hI⟩
  replace B1 := C2.keep (fun h => by have := (hM _ h).2; omega) B1
  replace E := E.trans C2
  have hE2 : Ext wb w2 := toExt hE E
  have z2 : bd ≤ w2.heap.size := by have := C2.size; have := N1.size; omega
  refine WpL_val rfl rfl (by decide) (r_not (b := (F s t).1) rfl) ?_
  refine WpL_nil ?_
  refine Wp_cond (b := !((F s t).1)) rfl (fun h => ?_) (fun h => ?_)
  · have kh := h
    replace h := by simpa using h
    refine Wp_seq_region ?_
    refine WpL_val rfl rfl (by decide) (r_assign (v := (.bool false)) rfl) ?_
    refine WpL_nil ?_
    refine Wp_ret ?_
    refine thn_ret ?_
    refine fin_tmp Tryd.results33 (v := (.bool false)) rfl ?_
    exact ⟨by rw [if_neg (by simp [h])], E, by rw [if_neg (by simp [h])]; exact hI⟩
  · have kh := h
    replace h := by simpa using h
    rw [if_pos (by simpa using h)]
    generalize (F s t).2 = s1 at hI ⊢
    refine Wp_skip ?_
    refine thn_normal ?_
    refine Wp_seq ?_
    refine Wp_seq_region ?_
    refine WpL_val rfl rfl (by decide) (r_fieldAddr (b := b1) (o := 0) (o' := 2) rfl Tryd.underlying27 rfl siz25 rfl) ?_
    refine WpL_val rfl rfl (by decide) (r_load (v := (.slice aa t.args.length ac)) rfl flat25 (B1.cell rfl)) ?_
    refine WpL_val rfl rfl (by decide) (r_lenSlice (ad := aa) (n := t.args.length) (cap := ac) Tryd.underlying25 rfl) ?_
    refine WpL_val rfl rfl (by decide) (r_move (v := (.int .i64 0)) rfl) ?_
    refine WpL_nil ?_
    refine Wp_block ?_
    refine Wp_loop (fun nn_ σ W3 => ∃ (k : Nat) (s' : S), (∃ jj_, σ = upds jj_ [(1, fv), (12, (.slice aa t.args.length ac)), (13, (.int .i64 ((t.args.length : Nat) : Int))), (14, (.int .i64 ((k : Nat) : Int)))]) ∧ Chg M w0 W3 ∧ Blk W3 b1 #[(.int .i64 t.kind), (.slice sa t.set.length sc), (.slice aa t.args.length ac), (.int .i64 t.mn), (.int .i64 t.mx), (.bool t.neg)] 27 ∧ (k ≤ t.args.length) ∧ (bd ≤ W3.heap.size) ∧ (Inv s' W3) ∧ (walkFs F t.args s1 = walkFs F (t.args.drop k) s') ∧ nn_ = t.args.length - k) (n := t.args.length - 0) ?_ ?_
    · exact ⟨0, s1, Fits.out ⟨rfl, rfl, rfl, rfl, trivial⟩, E, B1, Nat.zero_le _, z2, hI, rfl, rfl⟩
    · clear E B1
      rintro _ _ W3 ⟨k, s', ⟨j3, rfl⟩, E, B1, hk, hz, hI, hrel, rfl⟩
      refine Wp_seq_region ?_
      refine WpL_val rfl rfl (by decide) (r_lss (k := .i64) (a := ((k : Nat) : Int)) (b := ((t.args.length : Nat) : Int)) rfl rfl) ?_
      refine WpL_nil ?_
      refine Wp_seq ?_
      refine Wp_cond (b := decide ((((k : Nat) : Int) : Int) < ((t.args.length : Nat) : Int))) rfl (fun hlt => ?_) (fun hlt => ?_)
      · have khlt := hlt
        replace hlt := of_decide_eq_true hlt
        have hlt' : k < t.args.length := by omega
        obtain ⟨x, hx⟩ : ∃ x, t.args[k]? = some x := ⟨_, List.getElem?_eq_getElem hlt'⟩
        obtain ⟨b, o, rfl, hres⟩ : ∃ b o, aa = some ⟨b, o, none⟩ ∧ ResAt wb b o t.args := by
          rcases hargs with h | h
          · rw [h] at hlt'; simp at hlt'
          · exact h
        obtain ⟨us, hus, hxt⟩ := hres.get hx
        have hEW : Ext wb _ := toExt hE E
        refine Wp_skip ?_
        refine thn_normal ?_
        refine Wp_seq ?_
        refine Wp_block ?_
        refine Wp_seq_region ?_
        refine WpL_val rfl rfl (by decide) (r_indexSlice (b := b) (o := o) (len := t.args.length) (cap := ac) (i := k) (o' := o + k * 6) rfl rfl rfl Tryd.underlying25 siz27 (by omega) (by omega)) ?_
        refine WpL_val rfl rfl (by decide) (r_loadAgg (vs := us) rfl agg27 siz27 hxt.len (hus.ext hEW)) ?_
        have hsz := Re.size_arg hx
        refine s_allocStore (v := (.agg us.toArray)) (c := us.toArray) (n := 6) (by decide) zer27 rfl siz27 rfl rfl (by simpa using hxt.len) (by simpa using ReAt.one hxt) ?_
        intro b5 w5 N5
        have F5 := N5.ge E
        have O5_b1 := N5.lt B1
        replace B1 := N5.keep B1
        replace hI := hst _ _ _ hI N5.ext
        replace E := E.ext N5.ext
        have B5 := N5.blk
        refine WpL_nil ?_
        refine Wp_seq_region ?_
        refine WpL_val rfl rfl (by decide) (r_loadAgg (vs := us) rfl agg27 siz27 hxt.len (B5.cells (by simp))) ?_
        refine WpL_val rfl rfl (by decide) (r_move (v := fv) rfl) ?_
        refine WpL_enter rfl rfl (by decide) (r_callF (vs := [(.agg us.toArray), fv]) Tryd.func33 nm33 bd33 rfl) (ih x (by omega) s' _ us (by have := N5.size; omega) (toExt hE E) hI hxt) ?_
        rintro _ w9 ⟨rfl, C9, hI⟩
        replace B1 := C9.keep (fun h => by have := (hM _ h).2; omega) B1
        replace B5 := C9.keep (fun h => by have := (hM _ h).2; omega) B5
        replace E := E.trans C9
        have hdr : t.args.drop k = x :: t.args.drop (k + 1) := by rw [List.drop_eq_getElem_cons hlt']; rw [List.getElem?_eq_getElem hlt'] at hx; cases hx; rfl
        rw [hdr, walkFs_cons] at hrel
        refine WpL_val rfl rfl (by decide) (r_not (b := (walkF F x s').1) rfl) ?_
        refine WpL_nil ?_
        refine Wp_cond (b := !((walkF F x s').1)) rfl (fun h2 => ?_) (fun h2 => ?_)
        · have kh2 := h2
          replace h2 := by simpa using h2
          refine Wp_seq_region ?_
          refine WpL_val rfl rfl (by decide) (r_assign (v := (.bool false)) rfl) ?_
          refine WpL_nil ?_
          refine Wp_ret ?_
          refine inB_ret ?_
          refine thn_ret ?_
          refine thn_ret ?_
          refine inB_ret ?_
          refine thn_ret ?_
          refine fin_tmp Tryd.results33 (v := (.bool false)) rfl ?_
          exact ⟨by rw [hrel, if_neg (by simp [h2])], E, by rw [hrel, if_neg (by simp [h2])]; exact hI⟩
        · have kh2 := h2
          replace h2 := by simpa using h2
          rw [if_pos (by simpa using h2)] at hrel
          refine Wp_skip ?_
          refine inB_normal ?_
          refine thn_normal ?_
          refine Wp_region ?_
          refine WpL_val rfl rfl (by decide) (r_add (k := .i64) (a := ((k : Nat) : Int)) (b := 1) (c := ((k : Nat) : Int) + 1) rfl rfl (wI64 (by omega))) ?_
          refine WpL_val rfl rfl (by decide) (r_move (v := (.int .i64 (((k : Nat) : Int) + 1))) rfl) ?_
          refine WpL_nil ?_
          refine thn_normal ?_
          exact ⟨t.args.length - (k + 1), by omega, k + 1, (walkF F x s').2, Fits.out ⟨rfl, rfl, rfl, rfl, trivial⟩, E, B1, (by omega), (by have := C9.size; have := N5.size; omega), hI, hrel, rfl⟩
      · have khlt := hlt
        replace hlt := of_decide_eq_false hlt
        have hkk : k = t.args.length := by omega
        rw [hkk, List.drop_length] at hrel
        refine Wp_exit ?_
        refine thn_exit ?_
        refine thn_exit ?_
        refine inB_here ?_
        refine thn_normal ?_
        refine Wp_seq_region ?_
        refine WpL_val rfl rfl (by decide) (r_assign (v := (.bool true)) rfl) ?_
        refine WpL_nil ?_
        refine Wp_ret ?_
        refine fin_tmp Tryd.results33 (v := (.bool true)) rfl ?_
        exact ⟨by rw [hrel]; rfl, E, by rw [hrel]; exact hI⟩
end Go.Proofs
namespace Go.Proofs
open Go Go.Eng
set_option maxRecDepth 100000
def nodeE (t : Re) : Int := if t.kind < 0 ∨ 10 < t.kind then 1 else if formB t = false then 3 else if t.kind = 2 then (if checkE t.set ≠ 0 then checkE t.set else if (t.set.length : Int) = 0 then 3 else 0)
  else if t.kind = 6 then (if t.mn < 0 ∨ t.mx < t.mn ∨ 8 < t.mx then 1 else 0) else if t.kind = 9 then (if t.mn < 0 ∨ 9 < t.mn then 1 else 0) else 0
set_option maxHeartbeats 800000 in
theorem node_c (wb w0 : World) (t : Re) (vs : List Value) (ht : ReAt wb t vs) (hE : Ext wb w0) :
    Ret Tryd.prog 66 #[.agg vs.toArray] w0 fun v w => v = .int .i64 (nodeE t) ∧ Ext w0 w := by
  have ht0 := ht
  obtain ⟨sa, sc, aa, ac, rfl, hset, hlen, hargs⟩ := ht.form
  refine Ret_of Tryd.func66 rfl Tryd.ntmps66 (Nat.le_of_ble_eq_true rfl) ?_
  have E : Chg none1 w0 w0 := Chg.refl _ _
  refine Wp_seq_region ?_
  refine s_box (v := (.agg #[(.int .i64 t.kind), (.slice sa t.set.length sc), (.slice aa t.args.length ac), (.int .i64 t.mn), (.int .i64 t.mx), (.bool t.neg)])) (c := #[(.int .i64 t.kind), (.slice sa t.set.length sc), (.slice aa t.args.length ac), (.int .i64 t.mn), (.int .i64 t.mx), (.bool t.neg)]) (by decide) rfl rfl ?_
  intro b1 w1 N1
  have F1 := N1.ge E
  replace E := E.ext N1.ext
  have B1 := N1.blk
  refine WpL_val rfl rfl (by decide) (r_assign (v := (.int .i64 0)) rfl) ?_
  refine WpL_nil ?_
  refine Wp_seq ?_
  refine Wp_seq_region ?_
  refine WpL_val rfl rfl (by decide) (r_fieldAddr (b := b1) (o := 0) (o' := 0) rfl Tryd.underlying27 rfl siz3 rfl) ?_
  refine WpL_val rfl rfl (by decide) (r_load (v := (.int .i64 t.kind)) rfl flat3 (B1.cell rfl)) ?_
  obtain ⟨e2, he2⟩ : ∃ e, (decide ((t.kind : Int) < 0)) = e := ⟨_, rfl⟩
  refine WpL_val rfl rfl (by decide) ((r_lss (k := .i64) (a := t.kind) (b := 0) rfl rfl).trans (by rw [he2]; try rfl)) ?_
  refine WpL_val rfl rfl (by decide) (r_move (v := (.bool e2)) rfl) ?_
  refine WpL_guard_any (oj := _) (gv := (.bool e2)) (u := (bif e2 then undef else (.pointer (some ⟨b1, 0, none⟩)))) rfl rfl (by decide) (by decide) rfl (by cases e2 <;> first | exact Or.inr ⟨Or.inl rfl, rfl⟩ | exact Or.inr ⟨Or.inr rfl, rfl⟩ | exact Or.inl ⟨rfl, r_fieldAddr (b := b1) (o := 0) (o' := 0) rfl Tryd.underlying27 rfl siz3 rfl⟩) ?_
  refine WpL_guard_any (oj := _) (gv := (.bool e2)) (u := (bif e2 then undef else (.int .i64 t.kind))) rfl rfl (by decide) (by decide) rfl (by cases e2 <;> first | exact Or.inr ⟨Or.inl rfl, rfl⟩ | exact Or.inr ⟨Or.inr rfl, rfl⟩ | exact Or.inl ⟨rfl, r_load (v := (.int .i64 t.kind)) rfl flat3 (B1.cell rfl)⟩) ?_
  obtain ⟨e3, he3⟩ : ∃ e, (decide ((10 : Int) < t.kind)) = e := ⟨_, rfl⟩
  refine WpL_guard_any (oj := _) (gv := (.bool e2)) (u := (bif e2 then undef else (.bool e3))) rfl rfl (by decide) (by decide) rfl (by cases e2 <;> first | exact Or.inr ⟨Or.inl rfl, rfl⟩ | exact Or.inr ⟨Or.inr rfl, rfl⟩ | exact Or.inl ⟨rfl, (r_gtr (k := .i64) (a := t.kind) (b := 10) rfl rfl).trans (by rw [he3]; try rfl)⟩) ?_
  obtain ⟨e4, he4⟩ : ∃ e, (e2 || e3) = e := ⟨_, rfl⟩
  refine WpL_val rfl rfl (by decide) (r_pick (b := e2) (v := .bool e4) rfl (by rw [← he4]; cases e2 <;> rfl)) ?_
  refine WpL_nil ?_
  subst he4
  subst he3
  subst he2
  refine Wp_cond (b := ((decide ((t.kind : Int) < 0)) || (decide ((10 : Int) < t.kind)))) rfl (fun hk => ?_) (fun hk => ?_)
  · have khk := hk
    simp at hk
    refine Wp_seq_region ?_
    refine WpL_val rfl rfl (by decide) (r_assign (v := (.int .i64 1)) rfl) ?_
    refine WpL_nil ?_
    refine Wp_ret ?_
    refine thn_ret ?_
    refine fin_tmp Tryd.results66 (v := (.int .i64 1)) rfl ?_
    exact ⟨int_eq (by unfold nodeE; rw [if_pos (by omega)]), E⟩
  · have khk := hk
    simp at hk
    refine Wp_skip ?_
    refine thn_normal ?_
    refine Wp_seq ?_
    refine Wp_seq_region ?_
    refine WpL_val rfl rfl (by decide) (r_loadAgg (vs := [(.int .i64 t.kind), (.slice sa t.set.length sc), (.slice aa t.args.length ac), (.int .i64 t.mn), (.int .i64 t.mx), (.bool t.neg)]) rfl agg27 siz27 rfl (B1.cells rfl)) ?_
    refine WpL_enter rfl rfl (by decide) (r_callF (vs := [(.agg #[(.int .i64 t.kind), (.slice sa t.set.length sc), (.slice aa t.args.length ac), (.int .i64 t.mn), (.int .i64 t.mx), (.bool t.neg)])]) Tryd.func72 nm72 bd72 rfl) (form_c wb _ t _ ht0) ?_
    rintro _ w9 ⟨rfl, X9⟩
    replace B1 := X9.keep B1
    replace E := E.ext X9
    refine WpL_val rfl rfl (by decide) (r_not (b := formB t) rfl) ?_
    refine WpL_nil ?_
    refine Wp_cond (b := !(formB t)) rfl (fun hf => ?_) (fun hf => ?_)
    · have khf := hf
      replace hf := by simpa using hf
      refine Wp_seq_region ?_
      refine WpL_val rfl rfl (by decide) (r_assign (v := (.int .i64 3)) rfl) ?_
      refine WpL_nil ?_
      refine Wp_ret ?_
      refine thn_ret ?_
      refine fin_tmp Tryd.results66 (v := (.int .i64 3)) rfl ?_
      exact ⟨int_eq (by unfold nodeE; rw [if_neg (by omega), if_pos hf]), E⟩
    · have khf := hf
      replace hf := by simpa using hf
      have hN : nodeE t = if t.kind = 2 then (if checkE t.set ≠ 0 then checkE t.set else if (t.set.length : Int) = 0 then 3 else 0) else if t.kind = 6 then (if t.mn < 0 ∨ t.mx < t.mn ∨ 8 < t.mx then 1 else 0) else if t.kind = 9 then (if t.mn < 0 ∨ 9 < t.mn then 1 else 0) else 0 := by unfold nodeE; rw [if_neg (by omega), if_neg (by simp [hf])]
      rw [hN]
      refine Wp_skip ?_
      refine thn_normal ?_
      refine Wp_seq ?_
      refine Wp_seq_region ?_
      refine WpL_val rfl rfl (by decide) (r_fieldAddr (b := b1) (o := 0) (o' := 0) rfl Tryd.underlying27 rfl siz3 rfl) ?_
      refine WpL_val rfl rfl (by decide) (r_load (v := (.int .i64 t.kind)) rfl flat3 (B1.cell rfl)) ?_
      refine WpL_nil ?_
      refine Wp_block ?_
      refine Wp_seq_region ?_
      refine WpL_val rfl rfl (by decide) (r_eql (k := .i64) (a := t.kind) (b := 2) rfl rfl) ?_
      refine WpL_val rfl rfl (by decide) (r_assign (v := (.bool (decide ((t.kind : Int) = 2)))) rfl) ?_
      refine WpL_nil ?_
      refine Wp_cond (b := decide ((t.kind : Int) = 2)) rfl (fun h2 => ?_) (fun h2 => ?_)
      · have kh2 := h2
        replace h2 := of_decide_eq_true h2
        rw [if_pos h2]
        refine Wp_seq ?_
        refine Wp_seq_region ?_
        refine WpL_val rfl rfl (by decide) (r_fieldAddr (b := b1) (o := 0) (o' := 1) rfl Tryd.underlying27 rfl siz24 rfl) ?_
        refine WpL_val rfl rfl (by decide) (r_load (v := (.slice sa t.set.length sc)) rfl flat24 (B1.cell rfl)) ?_
        refine WpL_enter rfl rfl (by decide) (r_callF (vs := [(.slice sa t.set.length sc)]) Tryd.func67 nm67 bd67 rfl) (rcheck_c _ _ t.set ((hset.ext hE).ext E)) ?_
        rintro _ w10 ⟨rfl, X10⟩
        replace B1 := X10.keep B1
        replace E := E.ext X10
        refine WpL_val rfl rfl (by decide) (r_assign (v := (.int .i64 (checkE t.set))) rfl) ?_
        refine WpL_nil ?_
        refine Wp_seq_region ?_
        refine WpL_val rfl rfl (by decide) (r_move (v := (.int .i64 (checkE t.set))) rfl) ?_
        refine WpL_val rfl rfl (by decide) (r_neq (k := .i64) (a := checkE t.set) (b := 0) rfl rfl) ?_
        refine WpL_nil ?_
        refine Wp_cond (b := decide ((checkE t.set : Int) ≠ 0)) rfl (fun h3 => ?_) (fun h3 => ?_)
        · have kh3 := h3
          replace h3 := of_decide_eq_true h3
          refine Wp_seq_region ?_
          refine WpL_val rfl rfl (by decide) (r_move (v := (.int .i64 (checkE t.set))) rfl) ?_
          refine WpL_val rfl rfl (by decide) (r_assign (v := (.int .i64 (checkE t.set))) rfl) ?_
          refine WpL_nil ?_
          refine Wp_ret ?_
          refine thn_ret ?_
          refine inB_ret ?_
          refine thn_ret ?_
          refine fin_tmp Tryd.results66 (v := (.int .i64 (checkE t.set))) rfl ?_
          exact ⟨int_eq (by rw [if_pos h3]), E⟩
        · have kh3 := h3
          replace h3 := of_decide_eq_false h3
          rw [if_neg h3]
          refine Wp_skip ?_
          refine thn_normal ?_
          refine Wp_seq_region ?_
          refine WpL_val rfl rfl (by decide) (r_fieldAddr (b := b1) (o := 0) (o' := 1) rfl Tryd.underlying27 rfl siz24 rfl) ?_
          refine WpL_val rfl rfl (by decide) (r_load (v := (.slice sa t.set.length sc)) rfl flat24 (B1.cell rfl)) ?_
          refine WpL_val rfl rfl (by decide) (r_lenSlice (ad := sa) (n := t.set.length) (cap := sc) Tryd.underlying24 rfl) ?_
          refine WpL_val rfl rfl (by decide) (r_eql (k := .i64) (a := ((t.set.length : Nat) : Int)) (b := 0) rfl rfl) ?_
          refine WpL_nil ?_
          refine Wp_cond (b := decide ((((t.set.length : Nat) : Int) : Int) = 0)) rfl (fun h4 => ?_) (fun h4 => ?_)
          · have kh4 := h4
            replace h4 := of_decide_eq_true h4
            refine Wp_seq_region ?_
            refine WpL_val rfl rfl (by decide) (r_assign (v := (.int .i64 3)) rfl) ?_
            refine WpL_nil ?_
            refine Wp_ret ?_
            refine inB_ret ?_
            refine thn_ret ?_
            refine fin_tmp Tryd.results66 (v := (.int .i64 3)) rfl ?_
            exact ⟨int_eq (by rw [if_pos h4]), E⟩
          · have kh4 := h4
            replace h4 := of_decide_eq_false h4
            refine Wp_skip ?_
            refine inB_normal ?_
            refine thn_normal ?_
            refine Wp_seq_region ?_
            refine WpL_val rfl rfl (by decide) (r_assign (v := (.int .i64 0)) rfl) ?_
            refine WpL_nil ?_
            refine Wp_ret ?_
            refine fin_tmp Tryd.results66 (v := (.int .i64 0)) rfl ?_
            exact ⟨int_eq (by rw [if_neg h4]), E⟩
      · have kh2 := h2
        replace h2 := of_decide_eq_false h2
        rw [if_neg h2]
        refine Wp_seq_region ?_
        refine WpL_val rfl rfl (by decide) (r_eql (k := .i64) (a := t.kind) (b := 6) rfl rfl) ?_
        refine WpL_val rfl rfl (by decide) (r_assign (v := (.bool (decide ((t.kind : Int) = 6)))) rfl) ?_
        refine WpL_nil ?_
        refine Wp_cond (b := decide ((t.kind : Int) = 6)) rfl (fun h6 => ?_) (fun h6 => ?_)
        · have kh6 := h6
          replace h6 := of_decide_eq_true h6
          rw [if_pos h6]
          refine Wp_seq_region ?_
          refine WpL_val rfl rfl (by decide) (r_fieldAddr (b := b1) (o := 0) (o' := 3) rfl Tryd.underlying27 rfl siz3 rfl) ?_
          refine WpL_val rfl rfl (by decide) (r_load (v := (.int .i64 t.mn)) rfl flat3 (B1.cell rfl)) ?_
          obtain ⟨e11, he11⟩ : ∃ e, (decide ((t.mn : Int) < 0)) = e := ⟨_, rfl⟩
          refine WpL_val rfl rfl (by decide) ((r_lss (k := .i64) (a := t.mn) (b := 0) rfl rfl).trans (by rw [he11]; try rfl)) ?_
          refine WpL_val rfl rfl (by decide) (r_move (v := (.bool e11)) rfl) ?_
          refine WpL_guard_any (oj := _) (gv := (.bool e11)) (u := (bif e11 then undef else (.pointer (some ⟨b1, 3, none⟩)))) rfl rfl (by decide) (by decide) rfl (by cases e11 <;> first | exact Or.inr ⟨Or.inl rfl, rfl⟩ | exact Or.inr ⟨Or.inr rfl, rfl⟩ | exact Or.inl ⟨rfl, r_fieldAddr (b := b1) (o := 0) (o' := 3) rfl Tryd.underlying27 rfl siz3 rfl⟩) ?_
          refine WpL_guard_any (oj := _) (gv := (.bool e11)) (u := (bif e11 then undef else (.int .i64 t.mn))) rfl rfl (by decide) (by decide) rfl (by cases e11 <;> first | exact Or.inr ⟨Or.inl rfl, rfl⟩ | exact Or.inr ⟨Or.inr rfl, rfl⟩ | exact Or.inl ⟨rfl, r_load (v := (.int .i64 t.mn)) rfl flat3 (B1.cell rfl)⟩) ?_
          refine WpL_guard_any (oj := _) (gv := (.bool e11)) (u := (bif e11 then undef else (.pointer (some ⟨b1, 4, none⟩)))) rfl rfl (by decide) (by decide) rfl (by cases e11 <;> first | exact Or.inr ⟨Or.inl rfl, rfl⟩ | exact Or.inr ⟨Or.inr rfl, rfl⟩ | exact Or.inl ⟨rfl, r_fieldAddr (b := b1) (o := 0) (o' := 4) rfl Tryd.underlying27 rfl siz3 rfl⟩) ?_
          refine WpL_guard_any (oj := _) (gv := (.bool e11)) (u := (bif e11 then undef else (.int .i64 t.mx))) rfl rfl (by decide) (by decide) rfl (by cases e11 <;> first | exact Or.inr ⟨Or.inl rfl, rfl⟩ | exact Or.inr ⟨Or.inr rfl, rfl⟩ | exact Or.inl ⟨rfl, r_load (v := (.int .i64 t.mx)) rfl flat3 (B1.cell rfl)⟩) ?_
          obtain ⟨e12, he12⟩ : ∃ e, (decide ((t.mx : Int) < t.mn)) = e := ⟨_, rfl⟩
          refine WpL_guard_any (oj := _) (gv := (.bool e11)) (u := (bif e11 then undef else (.bool e12))) rfl rfl (by decide) (by decide) rfl (by cases e11 <;> first | exact Or.inr ⟨Or.inl rfl, rfl⟩ | exact Or.inr ⟨Or.inr rfl, rfl⟩ | exact Or.inl ⟨rfl, (r_gtr (k := .i64) (a := t.mn) (b := t.mx) rfl rfl).trans (by rw [he12]; try rfl)⟩) ?_
          obtain ⟨e13, he13⟩ : ∃ e, (e11 || e12) = e := ⟨_, rfl⟩
          refine WpL_val rfl rfl (by decide) (r_pick (b := e11) (v := .bool e13) rfl (by rw [← he13]; cases e11 <;> rfl)) ?_
          refine WpL_val rfl rfl (by decide) (r_move (v := (.bool e13)) rfl) ?_
          refine WpL_guard_any (oj := _) (gv := (.bool e13)) (u := (bif e13 then undef else (.pointer (some ⟨b1, 4, none⟩)))) rfl rfl (by decide) (by decide) rfl (by cases e13 <;> first | exact Or.inr ⟨Or.inl rfl, rfl⟩ | exact Or.inr ⟨Or.inr rfl, rfl⟩ | exact Or.inl ⟨rfl, r_fieldAddr (b := b1) (o := 0) (o' := 4) rfl Tryd.underlying27 rfl siz3 rfl⟩) ?_
          refine WpL_guard_any (oj := _) (gv := (.bool e13)) (u := (bif e13 then undef else (.int .i64 t.mx))) rfl rfl (by decide) (by decide) rfl (by cases e13 <;> first | exact Or.inr ⟨Or.inl rfl, rfl⟩ | exact Or.inr ⟨Or.inr rfl, rfl⟩ | exact Or.inl ⟨rfl, r_load (v := (.int .i64 t.mx)) rfl flat3 (B1.cell rfl)⟩) ?_
          obtain ⟨e14, he14⟩ : ∃ e, (decide ((8 : Int) < t.mx)) = e := ⟨_, rfl⟩
          refine WpL_guard_any (oj := _) (gv := (.bool e13)) (u := (bif e13 then undef else (.bool e14))) rfl rfl (by decide) (by decide) rfl (by cases e13 <;> first | exact Or.inr ⟨Or.inl rfl, rfl⟩ | exact Or.inr ⟨Or.inr rfl, rfl⟩ | exact Or.inl ⟨rfl, (r_gtr (k := .i64) (a := t.mx) (b := 8) rfl rfl).trans (by rw [he14]; try rfl)⟩) ?_
          obtain ⟨e15, he15⟩ : ∃ e, (e13 || e14) = e := ⟨_, rfl⟩
          refine WpL_val rfl rfl (by decide) (r_pick (b := e13) (v := .bool e15) rfl (by rw [← he15]; cases e13 <;> rfl)) ?_
          refine WpL_nil ?_
          subst he15
          subst he14
          subst he13
          subst he12
          subst he11
          refine Wp_cond (b := (((decide ((t.mn : Int) < 0)) || (decide ((t.mx : Int) < t.mn))) || (decide ((8 : Int) < t.mx)))) rfl (fun h7 => ?_) (fun h7 => ?_)
          · have kh7 := h7
            simp at h7
            refine Wp_seq_region ?_
            refine WpL_val rfl rfl (by decide) (r_assign (v := (.int .i64 1)) rfl) ?_
            refine WpL_nil ?_
            refine Wp_ret ?_
            refine inB_ret ?_
            refine thn_ret ?_
            refine fin_tmp Tryd.results66 (v := (.int .i64 1)) rfl ?_
            exact ⟨int_eq (by rw [if_pos (by omega)]), E⟩
          · have kh7 := h7
            simp at h7
            refine Wp_skip ?_
            refine inB_normal ?_
            refine thn_normal ?_
            refine Wp_seq_region ?_
            refine WpL_val rfl rfl (by decide) (r_assign (v := (.int .i64 0)) rfl) ?_
            refine WpL_nil ?_
            refine Wp_ret ?_
            refine fin_tmp Tryd.results66 (v := (.int .i64 0)) rfl ?_
            exact ⟨int_eq (by rw [if_neg (by omega)]), E⟩
        · have kh6 := h6
          replace h6 := of_decide_eq_false h6
          rw [if_neg h6]
          refine Wp_seq_region ?_
          refine WpL_val rfl rfl (by decide) (r_eql (k := .i64) (a := t.kind) (b := 9) rfl rfl) ?_
          refine WpL_val rfl rfl (by decide) (r_assign (v := (.bool (decide ((t.kind : Int) = 9)))) rfl) ?_
          refine WpL_nil ?_
          refine Wp_cond (b := decide ((t.kind : Int) = 9)) rfl (fun h9 => ?_) (fun h9 => ?_)
          · have kh9 := h9
            replace h9 := of_decide_eq_true h9
            rw [if_pos h9]
            refine Wp_seq_region ?_
            refine WpL_val rfl rfl (by decide) (r_fieldAddr (b := b1) (o := 0) (o' := 3) rfl Tryd.underlying27 rfl siz3 rfl) ?_
            refine WpL_val rfl rfl (by decide) (r_load (v := (.int .i64 t.mn)) rfl flat3 (B1.cell rfl)) ?_
            obtain ⟨e18, he18⟩ : ∃ e, (decide ((t.mn : Int) < 0)) = e := ⟨_, rfl⟩
            refine WpL_val rfl rfl (by decide) ((r_lss (k := .i64) (a := t.mn) (b := 0) rfl rfl).trans (by rw [he18]; try rfl)) ?_
            refine WpL_val rfl rfl (by decide) (r_move (v := (.bool e18)) rfl) ?_
            refine WpL_guard_any (oj := _) (gv := (.bool e18)) (u := (bif e18 then undef else (.pointer (some ⟨b1, 3, none⟩)))) rfl rfl (by decide) (by decide) rfl (by cases e18 <;> first | exact Or.inr ⟨Or.inl rfl, rfl⟩ | exact Or.inr ⟨Or.inr rfl, rfl⟩ | exact Or.inl ⟨rfl, r_fieldAddr (b := b1) (o := 0) (o' := 3) rfl Tryd.underlying27 rfl siz3 rfl⟩) ?_
            refine WpL_guard_any (oj := _) (gv := (.bool e18)) (u := (bif e18 then undef else (.int .i64 t.mn))) rfl rfl (by decide) (by decide) rfl (by cases e18 <;> first | exact Or.inr ⟨Or.inl rfl, rfl⟩ | exact Or.inr ⟨Or.inr rfl, rfl⟩ | exact Or.inl ⟨rfl, r_load (v := (.int .i64 t.mn)) rfl flat3 (B1.cell rfl)⟩) ?_
            obtain ⟨e19, he19⟩ : ∃ e, (decide ((9 : Int) < t.mn)) = e := ⟨_, rfl⟩
            refine WpL_guard_any (oj := _) (gv := (.bool e18)) (u := (bif e18 then undef else (.bool e19))) rfl rfl (by decide) (by decide) rfl (by cases e18 <;> first | exact Or.inr ⟨Or.inl rfl, rfl⟩ | exact Or.inr ⟨Or.inr rfl, rfl⟩ | exact Or.inl ⟨rfl, (r_gtr (k := .i64) (a := t.mn) (b := 9) rfl rfl).trans (by rw [he19]; try rfl)⟩) ?_
            obtain ⟨e20, he20⟩ : ∃ e, (e18 || e19) = e := ⟨_, rfl⟩
            refine WpL_val rfl rfl (by decide) (r_pick (b := e18) (v := .bool e20) rfl (by rw [← he20]; cases e18 <;> rfl)) ?_
            refine WpL_nil ?_
            subst he20
            subst he19
            subst he18
            refine Wp_cond (b := ((decide ((t.mn : Int) < 0)) || (decide ((9 : Int) < t.mn)))) rfl (fun h8 => ?_) (fun h8 => ?_)
            · have kh8 := h8
              simp at h8
              refine Wp_seq_region ?_
              refine WpL_val rfl rfl (by decide) (r_assign (v := (.int .i64 1)) rfl) ?_
              refine WpL_nil ?_
              refine Wp_ret ?_
              refine inB_ret ?_
              refine thn_ret ?_
              refine fin_tmp Tryd.results66 (v := (.int .i64 1)) rfl ?_
              exact ⟨int_eq (by rw [if_pos (by omega)]), E⟩
            · have kh8 := h8
              simp at h8
              refine Wp_skip ?_
              refine inB_normal ?_
              refine thn_normal ?_
              refine Wp_seq_region ?_
              refine WpL_val rfl rfl (by decide) (r_assign (v := (.int .i64 0)) rfl) ?_
              refine WpL_nil ?_
              refine Wp_ret ?_
              refine fin_tmp Tryd.results66 (v := (.int .i64 0)) rfl ?_
              exact ⟨int_eq (by rw [if_neg (by omega)]), E⟩
          · have kh9 := h9
            replace h9 := of_decide_eq_false h9
            rw [if_neg h9]
            refine Wp_skip ?_
            refine inB_normal ?_
            refine thn_normal ?_
            refine Wp_seq_region ?_
            refine WpL_val rfl rfl (by decide) (r_assign (v := (.int .i64 0)) rfl) ?_
            refine WpL_nil ?_
            refine Wp_ret ?_
            refine fin_tmp Tryd.results66 (v := (.int .i64 0)) rfl ?_
            exact ⟨rfl, E⟩
end Go.Proofs
namespace Go.Proofs
open Go Go.Eng Go.Sort
set_option maxRecDepth 100000
/-- A program that is whole. -/
theorem PSt2.prog {F : Nat → Prop} {w : World} {base pb : Nat} {v : Value} {r : Re} (h : PSt2 F w base pb v (progOf r).length (progOf r) (tempsOf r) 0) (hb : (progOf r).length ≤ 1000) (htm : tempsOf r ≤ 1000) : ∃ cb, ProgAt (fun y => (F y ∨ y = pb) ∨ y = cb) w pb r ∧ cb < w.heap.size ∧ base ≤ cb := by
  obtain ⟨rows, h1, h2, pbs, h3, h4⟩ := h.rows
  obtain ⟨va, vc, rfl⟩ := own_form h1
  have hpos : 0 < (progOf r).length := by unfold progOf; simp
  have hlt := h1.lt
  obtain ⟨cb, rfl, _, hc⟩ := own_cells h1 hpos
  obtain ⟨h5, h6⟩ := hlt cb rfl
  exact ⟨cb, .mk (n := (progOf r).length) (cc := vc) h.blk (.inl (.inr rfl)) (.inr rfl) hb htm rfl h2 hc (fun i ins row a b => (h3 i ins row a b).mono fun y hy => .inl (.inl hy)) (fun i r' ng a => (h4 i r' ng a).mono fun y hy => .inl (.inl hy)), h6, h5⟩
end Go.Proofs
namespace Go.Proofs
open Go Go.Eng
set_option maxRecDepth 100000
/-- A list of numbers that rise, all below a bound. -/
def Rise : Nat → List Nat → Prop
  | _, [] => True
  | a, k :: l => a ≤ k ∧ Rise (k + 1) l
theorem Rise.mono {a b : Nat} (h : a ≤ b) : ∀ {l : List Nat}, Rise b l → Rise a l
  | [], _ => trivial
  | _ :: _, hr => ⟨Nat.le_trans h hr.1, hr.2⟩
theorem Rise.ge : ∀ {l : List Nat} {a : Nat}, Rise a l → ∀ k ∈ l, a ≤ k
  | _ :: l, a, h, k, hk => by
    rcases List.mem_cons.1 hk with rfl | hk
    · exact h.1
    · have := Rise.ge h.2 k hk; have := h.1; omega
end Go.Proofs
namespace Go.Proofs
open Go Go.Eng Go.Sort
set_option maxRecDepth 100000
theorem PSt2.block {F : Nat → Prop} {w : World} {base pb n : Nat} {a : Option Addr} {c m : Nat} {code : List Ins} {t d : Nat} (h : PSt2 F w base pb (.slice a m c) n code t d) (hn : 0 < n) : ∃ g cur, a = some ⟨g, 0, none⟩ ∧ Blk w g cur TCd ∧ n * 8 ≤ cur.size ∧ base ≤ g ∧ ¬ F g := by
  obtain ⟨rows, h1, _⟩ := h.rows
  obtain ⟨va, vc, e⟩ := own_form h1
  cases e
  have hlt := h1.lt
  obtain ⟨g, rfl, _, _⟩ := own_cells h1 hn
  obtain ⟨cur, h2, h3⟩ := own_blkG h1
  exact ⟨g, cur, rfl, h2, h3, (hlt g rfl).1, h.ho g rfl⟩
abbrev TIn : Nat := 3
/-- A block that is neither the program's nor frozen. -/
def Apt (F : Nat → Prop) (pb : Nat) (v : Value) (b : Nat) : Prop := ¬ F b ∧ b ≠ pb ∧ v.ownBlock ≠ some b
theorem Apt.step {F F2 : Nat → Prop} {w w2 : World} {base pb b : Nat} {v v2 : Value} {c : List Ins} {t d : Nat} (h : Apt F pb v b) (G : GrX F w base pb v F2 v2 c t d w2) (hb : b < w.heap.size) : Apt F2 pb v2 b :=
  ⟨fun hf => (G.new b hf).elim h.1 (fun h2 => by omega), h.2.1, fun e => (G.own b e).elim h.2.2 (fun h2 => by omega)⟩
theorem Apt.keep {F : Nat → Prop} {pb b : Nat} {v : Value} (h : Apt F pb v b) : ¬ (b = pb ∨ v.ownBlock = some b) := fun hm => hm.elim h.2.1 h.2.2
end Go.Proofs
namespace Go.Proofs
open Go Go.Eng
set_option maxRecDepth 100000
theorem below_tmod (x n : Int) (hn : 0 < n) : (if x.tmod n < 0 then x.tmod n + n else x.tmod n) = x % n := by
  have h := Int.tmod_eq_emod (a := x) (b := n)
  have h1 := Int.emod_nonneg x (Int.ne_of_gt hn)
  have h2 := Int.emod_lt_of_pos x hn
  have h3 : n.natAbs = n := by omega
  split at h <;> split <;> omega
theorem below_c (x n : Int) (hn : 0 < n) (hm : n ≤ 2000) (w0 : World) :
    Ret Tryd.prog 18 #[.int .i64 x, .int .i64 n] w0 fun v w => v = .int .i64 (x % n) ∧ w = w0 := by
  have hb := below_tmod x n hn
  have h1 := Int.emod_nonneg x (Int.ne_of_gt hn)
  have h2 := Int.emod_lt_of_pos x hn
  refine Ret_of Tryd.func18 rfl Tryd.ntmps18 (Nat.le_of_ble_eq_true rfl) ?_
  have E : Chg none1 w0 w0 := Chg.refl _ _
  refine Wp_seq_region ?_
  refine WpL_val rfl rfl (by decide) (r_assign (v := (.int .i64 0)) rfl) ?_
  refine WpL_nil ?_
  refine Wp_seq_region ?_
  refine WpL_val rfl rfl (by decide) (r_move (v := (.int .i64 x)) rfl) ?_
  refine WpL_val rfl rfl (by decide) (r_move (v := (.int .i64 n)) rfl) ?_
  refine WpL_val rfl rfl (by decide) (r_rem (k := .i64) (a := x) (b := n) (c := x.tmod n) rfl rfl (by omega) rfl) ?_
  refine WpL_val rfl rfl (by decide) (r_assign (v := (.int .i64 (x.tmod n))) rfl) ?_
  refine WpL_nil ?_
  refine Wp_seq ?_
  refine Wp_seq_region ?_
  refine WpL_val rfl rfl (by decide) (r_move (v := (.int .i64 (x.tmod n))) rfl) ?_
  refine WpL_val rfl rfl (by decide) (r_lss (k := .i64) (a := x.tmod n) (b := 0) rfl rfl) ?_
  refine WpL_nil ?_
  refine Wp_cond (b := decide ((x.tmod n : Int) < 0)) rfl (fun h => ?_) (fun h => ?_)
  · have kh := h
    replace h := of_decide_eq_true h
    rw [if_pos h] at hb
    refine Wp_region ?_
    refine WpL_val rfl rfl (by decide) (r_move (v := (.int .i64 (x.tmod n))) rfl) ?_
    refine WpL_val rfl rfl (by decide) (r_move (v := (.int .i64 n)) rfl) ?_
    refine WpL_val rfl rfl (by decide) (r_add (k := .i64) (a := x.tmod n) (b := n) (c := (x.tmod n) + n) rfl rfl (wI64 (by omega))) ?_
    refine WpL_val rfl rfl (by decide) (r_assign (v := (.int .i64 ((x.tmod n) + n))) rfl) ?_
    refine WpL_nil ?_
    refine thn_normal ?_
    refine Wp_seq_region ?_
    refine WpL_val rfl rfl (by decide) (r_move (v := (.int .i64 ((x.tmod n) + n))) rfl) ?_
    refine WpL_val rfl rfl (by decide) (r_assign (v := (.int .i64 ((x.tmod n) + n))) rfl) ?_
    refine WpL_nil ?_
    refine Wp_ret ?_
    refine fin_tmp Tryd.results18 (v := (.int .i64 ((x.tmod n) + n))) rfl ?_
    exact ⟨by rw [hb], rfl⟩
  · have kh := h
    replace h := of_decide_eq_false h
    rw [if_neg h] at hb
    refine Wp_skip ?_
    refine thn_normal ?_
    refine Wp_seq_region ?_
    refine WpL_val rfl rfl (by decide) (r_move (v := (.int .i64 (x.tmod n))) rfl) ?_
    refine WpL_val rfl rfl (by decide) (r_assign (v := (.int .i64 (x.tmod n))) rfl) ?_
    refine WpL_nil ?_
    refine Wp_ret ?_
    refine fin_tmp Tryd.results18 (v := (.int .i64 (x.tmod n))) rfl ?_
    exact ⟨by rw [hb], rfl⟩
end Go.Proofs
namespace Go.Proofs
open Go Go.Eng
set_option maxRecDepth 100000
def fitF (most : Int) : Int × Int → Re → Bool × (Int × Int) := fun s t =>
  let n := IntKind.i64.wrap (s.1 + 1)
  let e := if most < n then 2 else nodeE t
  (decide (e = 0), (n, e))
def fitsE (t : Re) (most : Int) : Int := (walkF (fitF most) t (0, 0)).2.2
theorem fits1_c (wb w0 : World) (t : Re) (vs : List Value) (ht : ReAt wb t vs) (hE : Ext wb w0) (b1' b2' b3' : Nat) (s : Int × Int) (most : Int) (h0 : wb.heap.size ≤ b2') (h12 : b2' < b1') (h13 : b1' < b3')
    (hB1 : Blk w0 b1' #[.int .i64 s.1] 3) (hB2 : Blk w0 b2' #[.int .i64 most] 3) (hB3 : Blk w0 b3' #[.int .i64 s.2] 34) :
    Ret Tryd.prog 65 #[.agg vs.toArray, .pointer (some ⟨b1', 0, none⟩), .pointer (some ⟨b2', 0, none⟩), .pointer (some ⟨b3', 0, none⟩)] w0
      fun v w => v = .bool (fitF most s t).1 ∧ Chg (fun x => x = b1' ∨ x = b3') w0 w ∧ Blk w b1' #[.int .i64 (fitF most s t).2.1] 3 ∧ Blk w b2' #[.int .i64 most] 3 ∧ Blk w b3' #[.int .i64 (fitF most s t).2.2] 34 := by
  have ht0 := ht
  obtain ⟨sa, sc, aa, ac, rfl, hset, hlen, hargs⟩ := ht.form
  refine Ret_of Tryd.func65 rfl Tryd.ntmps65 (Nat.le_of_ble_eq_true rfl) ?_
  have E : Chg (fun x => x = b1' ∨ x = b3') w0 w0 := Chg.refl _ _
  refine Wp_seq_region ?_
  refine s_box (v := (.agg #[(.int .i64 t.kind), (.slice sa t.set.length sc), (.slice aa t.args.length ac), (.int .i64 t.mn), (.int .i64 t.mx), (.bool t.neg)])) (c := #[(.int .i64 t.kind), (.slice sa t.set.length sc), (.slice aa t.args.length ac), (.int .i64 t.mn), (.int .i64 t.mx), (.bool t.neg)]) (by decide) rfl rfl ?_
  intro b1 w1 N1
  have F1 := N1.ge E
  have O1_b1' := N1.lt hB1
  have O1_b2' := N1.lt hB2
  have O1_b3' := N1.lt hB3
  replace hB1 := N1.keep hB1
  replace hB2 := N1.keep hB2
  replace hB3 := N1.keep hB3
  replace E := E.ext N1.ext
  have B1 := N1.blk
  refine WpL_val rfl rfl (by decide) (r_assign (v := (.bool false)) rfl) ?_
  refine WpL_nil ?_
  refine Wp_seq ?_
  refine Wp_seq_region ?_
  refine WpL_val rfl rfl (by decide) (r_load (v := (.int .i64 s.1)) rfl flat3 (hB1.cell rfl)) ?_
  refine WpL_val rfl rfl (by decide) (r_add (k := .i64) (a := s.1) (b := 1) (c := IntKind.i64.wrap (s.1 + 1)) rfl rfl (rfl)) ?_
  refine s_store (b := b1') (o := 0) (c' := #[(.int .i64 (IntKind.i64.wrap (s.1 + 1)))]) (v := (.int .i64 (IntKind.i64.wrap (s.1 + 1)))) rfl rfl rfl siz3 hB1 (by simp) rfl ?_
  intro w2 S2
  replace hB2 := S2.keep (by omega) hB2
  replace hB3 := S2.keep (by omega) hB3
  replace B1 := S2.keep (by omega) B1
  replace E := S2.step E (by first | exact Or.inl (by omega) | exact Or.inr rfl | exact Or.inr (by assumption) | exact Or.inr (by simp) | exact Or.inr (by omega) | exact Or.inr (by dsimp only; omega))
  replace hB1 := S2.blk
  refine WpL_nil ?_
  refine Wp_seq_region ?_
  refine WpL_val rfl rfl (by decide) (r_load (v := (.int .i64 (IntKind.i64.wrap (s.1 + 1)))) rfl flat3 (hB1.cell rfl)) ?_
  refine WpL_val rfl rfl (by decide) (r_load (v := (.int .i64 most)) rfl flat3 (hB2.cell rfl)) ?_
  refine WpL_val rfl rfl (by decide) (r_gtr (k := .i64) (a := IntKind.i64.wrap (s.1 + 1)) (b := most) rfl rfl) ?_
  refine WpL_nil ?_
  refine Wp_cond (b := decide ((most : Int) < IntKind.i64.wrap (s.1 + 1))) rfl (fun h => ?_) (fun h => ?_)
  · have kh := h
    replace h := of_decide_eq_true h
    refine Wp_region ?_
    refine s_store (b := b3') (o := 0) (c' := #[(.int .i64 2)]) (v := (.int .i64 2)) rfl rfl rfl siz34 hB3 (by simp) rfl ?_
    intro w4 S4
    replace hB1 := S4.keep (by omega) hB1
    replace hB2 := S4.keep (by omega) hB2
    replace B1 := S4.keep (by omega) B1
    replace E := S4.step E (by first | exact Or.inl (by omega) | exact Or.inr rfl | exact Or.inr (by assumption) | exact Or.inr (by simp) | exact Or.inr (by omega) | exact Or.inr (by dsimp only; omega))
    replace hB3 := S4.blk
    refine WpL_nil ?_
    refine thn_normal ?_
    refine Wp_seq_region ?_
    refine WpL_val rfl rfl (by decide) (r_load (v := (.int .i64 2)) rfl flat34 (hB3.cell rfl)) ?_
    refine WpL_val rfl rfl (by decide) (r_eql (k := .i64) (a := 2) (b := 0) rfl rfl) ?_
    refine WpL_val rfl rfl (by decide) (r_assign (v := (.bool false)) rfl) ?_
    refine WpL_nil ?_
    refine Wp_ret ?_
    refine fin_tmp Tryd.results65 (v := (.bool false)) rfl ?_
    exact ⟨by simp [fitF, h], E, by simpa [fitF] using hB1, hB2, by simpa [fitF, h] using hB3⟩
  · have kh := h
    replace h := of_decide_eq_false h
    refine Wp_region ?_
    refine WpL_val rfl rfl (by decide) (r_loadAgg (vs := [(.int .i64 t.kind), (.slice sa t.set.length sc), (.slice aa t.args.length ac), (.int .i64 t.mn), (.int .i64 t.mx), (.bool t.neg)]) rfl agg27 siz27 rfl (B1.cells rfl)) ?_
    refine WpL_enter rfl rfl (by decide) (r_callF (vs := [(.agg #[(.int .i64 t.kind), (.slice sa t.set.length sc), (.slice aa t.args.length ac), (.int .i64 t.mn), (.int .i64 t.mx), (.bool t.neg)])]) Tryd.func66 nm66 bd66 rfl) (node_c wb _ t _ ht0 (Chg.step hE E fun x hx hm => by rcases hm with hm | hm <;> omega)) ?_
    rintro _ w9 ⟨rfl, X9⟩
    replace hB1 := X9.keep hB1
    replace hB2 := X9.keep hB2
    replace hB3 := X9.keep hB3
    replace B1 := X9.keep B1
    replace E := E.ext X9
    refine s_store (b := b3') (o := 0) (c' := #[(.int .i64 (nodeE t))]) (v := (.int .i64 (nodeE t))) rfl rfl rfl siz34 hB3 (by simp) rfl ?_
    intro w5 S5
    replace hB1 := S5.keep (by omega) hB1
    replace hB2 := S5.keep (by omega) hB2
    replace B1 := S5.keep (by omega) B1
    replace E := S5.step E (by first | exact Or.inl (by omega) | exact Or.inr rfl | exact Or.inr (by assumption) | exact Or.inr (by simp) | exact Or.inr (by omega) | exact Or.inr (by dsimp only; omega))
    replace hB3 := S5.blk
    refine WpL_nil ?_
    refine thn_normal ?_
    refine Wp_seq_region ?_
    refine WpL_val rfl rfl (by decide) (r_load (v := (.int .i64 (nodeE t))) rfl flat34 (hB3.cell rfl)) ?_
    refine WpL_val rfl rfl (by decide) (r_eql (k := .i64) (a := nodeE t) (b := 0) rfl rfl) ?_
    refine WpL_val rfl rfl (by decide) (r_assign (v := (.bool (decide ((nodeE t : Int) = 0)))) rfl) ?_
    refine WpL_nil ?_
    refine Wp_ret ?_
    refine fin_tmp Tryd.results65 (v := (.bool (decide ((nodeE t : Int) = 0)))) rfl ?_
    exact ⟨by simp [fitF, h], E, by simpa [fitF] using hB1, hB2, by simpa [fitF, h] using hB3⟩
theorem fits_c (w0 : World) (t : Re) (vs : List Value) (ht : ReAt w0 t vs) (most : Int) :
    Ret Tryd.prog 51 #[.agg vs.toArray, .int .i64 most] w0 fun v w => v = .int .i64 (fitsE t most) ∧ Ext w0 w := by
  have ht0 := ht
  obtain ⟨sa, sc, aa, ac, rfl, hset, hlen, hargs⟩ := ht.form
  refine Ret_of Tryd.func51 rfl Tryd.ntmps51 (Nat.le_of_ble_eq_true rfl) ?_
  have E : Chg none1 w0 w0 := Chg.refl _ _
  refine Wp_seq_region ?_
  refine s_box (v := (.agg #[(.int .i64 t.kind), (.slice sa t.set.length sc), (.slice aa t.args.length ac), (.int .i64 t.mn), (.int .i64 t.mx), (.bool t.neg)])) (c := #[(.int .i64 t.kind), (.slice sa t.set.length sc), (.slice aa t.args.length ac), (.int .i64 t.mn), (.int .i64 t.mx), (.bool t.neg)]) (by decide) rfl rfl ?_
  intro b1 w1 N1
  have F1 := N1.ge E
  replace E := E.ext N1.ext
  have B1 := N1.blk
  refine s_box (v := (.int .i64 most)) (c := #[(.int .i64 most)]) (by decide) rfl rfl ?_
  intro b2 w2 N2
  have F2 := N2.ge E
  have O2_b1 := N2.lt B1
  replace B1 := N2.keep B1
  replace E := E.ext N2.ext
  have B2 := N2.blk
  refine WpL_val rfl rfl (by decide) (r_assign (v := (.int .i64 0)) rfl) ?_
  refine WpL_nil ?_
  refine Wp_seq_region ?_
  refine s_alloc (c := #[(.int .i64 0)]) (by decide) zer3 rfl ?_
  intro b3 w3 N3
  have F3 := N3.ge E
  have O3_b1 := N3.lt B1
  have O3_b2 := N3.lt B2
  replace B1 := N3.keep B1
  replace B2 := N3.keep B2
  replace E := E.ext N3.ext
  have B3 := N3.blk
  refine s_alloc (c := #[(.int .i64 0)]) (by decide) zer34 rfl ?_
  intro b4 w4 N4
  have F4 := N4.ge E
  have O4_b1 := N4.lt B1
  have O4_b2 := N4.lt B2
  have O4_b3 := N4.lt B3
  replace B1 := N4.keep B1
  replace B2 := N4.keep B2
  replace B3 := N4.keep B3
  replace E := E.ext N4.ext
  have B4 := N4.blk
  refine s_store (b := b3) (o := 0) (c' := #[(.int .i64 0)]) (v := (.int .i64 0)) rfl rfl rfl siz3 B3 (by simp) rfl ?_
  intro w5 S5
  replace B1 := S5.keep (by omega) B1
  replace B2 := S5.keep (by omega) B2
  replace B4 := S5.keep (by omega) B4
  replace E := S5.step E (by first | exact Or.inl (by omega) | exact Or.inr rfl | exact Or.inr (by assumption) | exact Or.inr (by simp) | exact Or.inr (by omega) | exact Or.inr (by dsimp only; omega))
  replace B3 := S5.blk
  refine s_store (b := b4) (o := 0) (c' := #[(.int .i64 0)]) (v := (.int .i64 0)) rfl rfl rfl siz34 B4 (by simp) rfl ?_
  intro w6 S6
  replace B1 := S6.keep (by omega) B1
  replace B2 := S6.keep (by omega) B2
  replace B3 := S6.keep (by omega) B3
  replace E := S6.step E (by first | exact Or.inl (by omega) | exact Or.inr rfl | exact Or.inr (by assumption) | exact Or.inr (by simp) | exact Or.inr (by omega) | exact Or.inr (by dsimp only; omega))
  replace B4 := S6.blk
  refine WpL_nil ?_
  refine Wp_seq_region ?_
  refine WpL_val rfl rfl (by decide) (r_loadAgg (vs := [(.int .i64 t.kind), (.slice sa t.set.length sc), (.slice aa t.args.length ac), (.int .i64 t.mn), (.int .i64 t.mx), (.bool t.neg)]) rfl agg27 siz27 rfl (B1.cells rfl)) ?_
  refine WpL_val rfl rfl (by decide) (r_makeFunc (vs := []) (us := [(.pointer (some ⟨b3, 0, none⟩)), (.pointer (some ⟨b2, 0, none⟩)), (.pointer (some ⟨b4, 0, none⟩))]) rfl rfl) ?_
  have hf : ∀ (s : Int × Int) (w : World) (t : Re) (vs : List Value), b4 + 1 ≤ w.heap.size → Ext w0 w → (Blk w b3 #[.int .i64 s.1] 3 ∧ Blk w b2 #[.int .i64 most] 3 ∧ Blk w b4 #[.int .i64 s.2] 34) → ReAt w0 t vs → CallV Tryd.prog (.func (.func 65) #[] #[.pointer (some ⟨b3, 0, none⟩), .pointer (some ⟨b2, 0, none⟩), .pointer (some ⟨b4, 0, none⟩)]) #[.agg vs.toArray] w fun v w' => v = .bool (fitF most s t).1 ∧ Chg (fun x => x = b3 ∨ x = b4) w w' ∧ (Blk w' b3 #[.int .i64 (fitF most s t).2.1] 3 ∧ Blk w' b2 #[.int .i64 most] 3 ∧ Blk w' b4 #[.int .i64 (fitF most s t).2.2] 34) := fun s w t vs _ hE hI ht => CallV.mk (first := #[]) (cap := #[.pointer (some ⟨b3, 0, none⟩), .pointer (some ⟨b2, 0, none⟩), .pointer (some ⟨b4, 0, none⟩)]) (args := #[.agg vs.toArray]) Tryd.func65 nm65 bd65 rfl (fits1_c w0 w t vs ht hE b3 b2 b4 s most (by omega) (by omega) (by omega) hI.1 hI.2.1 hI.2.2)
  refine WpL_enter rfl rfl (by decide) (r_callF (vs := [(.agg #[(.int .i64 t.kind), (.slice sa t.set.length sc), (.slice aa t.args.length ac), (.int .i64 t.mn), (.int .i64 t.mx), (.bool t.neg)]), (.func (.func 65) #[] #[(.pointer (some ⟨b3, 0, none⟩)), (.pointer (some ⟨b2, 0, none⟩)), (.pointer (some ⟨b4, 0, none⟩))])]) Tryd.func33 nm33 bd33 rfl) (walk_c (fitF most) (fun s w => Blk w b3 #[.int .i64 s.1] 3 ∧ Blk w b2 #[.int .i64 most] 3 ∧ Blk w b4 #[.int .i64 s.2] 34) (fun x => x = b3 ∨ x = b4) (b4 + 1) _ w0 (fun b hb => by omega) (fun s w w' hI e => ⟨e.keep hI.1, e.keep hI.2.1, e.keep hI.2.2⟩) hf t.size t (Nat.le_refl _) (0, 0) _ _ (by have := B4.lt; omega) E ⟨B3, B2, B4⟩ ht0) ?_
  rintro _ w9 ⟨rfl, C9, B3', B2', B4'⟩
  replace B1 := C9.keep (by omega) B1
  replace E := E.step C9 (by intro x hx hm; omega)
  refine WpL_nil ?_
  refine Wp_seq_region ?_
  refine WpL_val rfl rfl (by decide) (r_load (v := (.int .i64 ((walkF (fitF most) t (0, 0)).2.2))) rfl flat34 (B4'.cell rfl)) ?_
  refine WpL_val rfl rfl (by decide) (r_assign (v := (.int .i64 ((walkF (fitF most) t (0, 0)).2.2))) rfl) ?_
  refine WpL_nil ?_
  refine Wp_ret ?_
  refine fin_tmp Tryd.results51 (v := (.int .i64 ((walkF (fitF most) t (0, 0)).2.2))) rfl ?_
  exact ⟨rfl, E⟩
theorem check_c (w0 : World) (t : Re) (vs : List Value) (ht : ReAt w0 t vs) :
    Ret Tryd.prog 29 #[.agg vs.toArray] w0 fun v w => v = .int .i64 (fitsE t 40) ∧ Ext w0 w := by
  have ht0 := ht
  obtain ⟨sa, sc, aa, ac, rfl, hset, hlen, hargs⟩ := ht.form
  refine Ret_of Tryd.func29 rfl Tryd.ntmps29 (Nat.le_of_ble_eq_true rfl) ?_
  have E : Chg none1 w0 w0 := Chg.refl _ _
  refine Wp_seq_region ?_
  refine s_box (v := (.agg #[(.int .i64 t.kind), (.slice sa t.set.length sc), (.slice aa t.args.length ac), (.int .i64 t.mn), (.int .i64 t.mx), (.bool t.neg)])) (c := #[(.int .i64 t.kind), (.slice sa t.set.length sc), (.slice aa t.args.length ac), (.int .i64 t.mn), (.int .i64 t.mx), (.bool t.neg)]) (by decide) rfl rfl ?_
  intro b1 w1 N1
  have F1 := N1.ge E
  replace E := E.ext N1.ext
  have B1 := N1.blk
  refine WpL_val rfl rfl (by decide) (r_assign (v := (.int .i64 0)) rfl) ?_
  refine WpL_nil ?_
  refine Wp_seq_region ?_
  refine WpL_val rfl rfl (by decide) (r_loadAgg (vs := [(.int .i64 t.kind), (.slice sa t.set.length sc), (.slice aa t.args.length ac), (.int .i64 t.mn), (.int .i64 t.mx), (.bool t.neg)]) rfl agg27 siz27 rfl (B1.cells rfl)) ?_
  refine WpL_enter rfl rfl (by decide) (r_callF (vs := [(.agg #[(.int .i64 t.kind), (.slice sa t.set.length sc), (.slice aa t.args.length ac), (.int .i64 t.mn), (.int .i64 t.mx), (.bool t.neg)]), (.int .i64 40)]) Tryd.func51 nm51 bd51 rfl) (fits_c _ t _ (ReAt.ext E t ht0) 40) ?_
  rintro _ w9 ⟨rfl, X9⟩
  replace B1 := X9.keep B1
  replace E := E.ext X9
  refine WpL_val rfl rfl (by decide) (r_assign (v := (.int .i64 (fitsE t 40))) rfl) ?_
  refine WpL_nil ?_
  refine Wp_ret ?_
  refine fin_tmp Tryd.results29 (v := (.int .i64 (fitsE t 40))) rfl ?_
  exact ⟨rfl, E⟩
end Go.Proofs
namespace Go.Proofs
open Go Go.Eng
set_option maxRecDepth 100000
theorem ofInt32 (m : Nat) (h : m < 4294967296) : (BitVec.ofInt 32 (m : Int)).toNat = m := by
  rw [BitVec.toNat_ofInt]; omega
theorem bits_and {P : Program} {w : World} (m n : Nat) (hm : m < 4294967296) (hn : n < 4294967296) : (Op.intBits .and .u32 (m : Int) (n : Int)).run P w = .ok (.int .u32 ((m &&& n : Nat) : Int)) w := by
  have h1 : m &&& n < 4294967296 := Nat.lt_of_le_of_lt Nat.and_le_left hm
  show Result.ok (Value.int .u32 (IntKind.u32.wrap ((BitVec.ofInt 32 (m : Int) &&& BitVec.ofInt 32 (n : Int) : BitVec 32).toNat : Int))) w = _
  rw [BitVec.toNat_and, ofInt32 m hm, ofInt32 n hn, wU32 (by omega)]
theorem bits_or {P : Program} {w : World} (m n : Nat) (hm : m < 4294967296) (hn : n < 4294967296) : (Op.intBits .or .u32 (m : Int) (n : Int)).run P w = .ok (.int .u32 ((m ||| n : Nat) : Int)) w := by
  have h1 : m ||| n < 4294967296 := Nat.or_lt_two_pow (n := 32) hm hn
  show Result.ok (Value.int .u32 (IntKind.u32.wrap ((BitVec.ofInt 32 (m : Int) ||| BitVec.ofInt 32 (n : Int) : BitVec 32).toNat : Int))) w = _
  rw [BitVec.toNat_or, ofInt32 m hm, ofInt32 n hn, wU32 (by omega)]
theorem bits_andNot {P : Program} {w : World} (m n : Nat) (hm : m < 4294967296) (hn : n < 4294967296) : (Op.intBits .andNot .u32 (m : Int) (n : Int)).run P w = .ok (.int .u32 ((m &&& (4294967295 - n) : Nat) : Int)) w := by
  have h1 : m &&& (4294967295 - n) < 4294967296 := Nat.lt_of_le_of_lt Nat.and_le_left hm
  show Result.ok (Value.int .u32 (IntKind.u32.wrap ((BitVec.ofInt 32 (m : Int) &&& ~~~ BitVec.ofInt 32 (n : Int) : BitVec 32).toNat : Int))) w = _
  rw [BitVec.toNat_and, BitVec.toNat_not, ofInt32 m hm, ofInt32 n hn]
  simp only [Nat.reducePow, Nat.reduceSub]
  rw [wU32 (by omega)]
def tab32 : List Nat := [0, 1, 28, 2, 29, 14, 24, 3, 30, 22, 20, 15, 25, 17, 4, 8, 31, 27, 13, 23, 21, 19, 16, 7, 26, 12, 18, 6, 11, 5, 10, 9]
def TabOk (w : World) : Prop := ∀ (i v : Nat), tab32[i]? = some v → w.cell? ⟨0, i, none⟩ = some (.int .u8 (v : Int))
theorem TabOk.ext {w w' : World} (h : TabOk w) (e : Ext w w') : TabOk w' := fun i v hv => e.cell (h i v hv)
def tzIdx (k : Nat) : Nat := ((2 ^ k * 125613361) % 4294967296) / 134217728
theorem tz_tab : ∀ k, k < 32 → tab32[tzIdx k]? = some k ∧ tzIdx k < 32 := by decide
theorem low_lt {x k m : Nat} (h : x = 2 ^ (k + 1) * m + 2 ^ k) (hx : x < 4294967296) : k < 32 := by
  rcases Nat.lt_or_ge k 32 with h' | h'
  · exact h'
  · have := Nat.pow_le_pow_right (n := 2) (by omega) h'; omega
theorem tz_c (w0 : World) (x k m : Nat) (hx : x = 2 ^ (k + 1) * m + 2 ^ k) (hl : x < 4294967296) (hT : TabOk w0) :
    Ret Tryd.prog 27 #[.int .u32 (x : Int)] w0 fun v w => v = .int .i64 (k : Int) ∧ w = w0 := by
  have hk := low_lt hx hl
  have hp := Nat.two_pow_pos k
  have h0 : 0 < x := by omega
  have hn := low_neg hx hl
  simp only [Nat.reducePow] at hn
  obtain ⟨ht, hi⟩ := tz_tab k hk
  have hpl : 2 ^ k < 4294967296 := Nat.pow_lt_pow_right (n := 32) (by omega) hk
  refine Ret_of Tryd.func27 rfl Tryd.ntmps27 (Nat.le_of_ble_eq_true rfl) ?_
  have E : Chg none1 w0 w0 := Chg.refl _ _
  refine Wp_seq_region ?_
  refine WpL_val rfl rfl (by decide) (r_assign (v := (.int .i64 0)) rfl) ?_
  refine WpL_nil ?_
  refine Wp_seq ?_
  refine Wp_seq_region ?_
  refine WpL_val rfl rfl (by decide) (r_move (v := (.int .u32 (x : Int))) rfl) ?_
  refine WpL_val rfl rfl (by decide) (r_eql (k := .u32) (a := (x : Int)) (b := 0) rfl rfl) ?_
  refine WpL_nil ?_
  have hc1 : (decide (((x : Int) : Int) = 0)) = false := by simp; omega
  refine Wp_cond_false (congrArg Value.bool hc1) ?_
  refine Wp_skip ?_
  refine thn_normal ?_
  refine Wp_seq_region ?_
  refine WpL_val rfl rfl (by decide) (r_move (v := (.int .u32 (x : Int))) rfl) ?_
  refine WpL_val rfl rfl (by decide) (r_move (v := (.int .u32 (x : Int))) rfl) ?_
  refine WpL_val rfl rfl (by decide) (r_neg (k := .u32) (n := (x : Int)) (c := ((4294967296 - x : Nat) : Int)) rfl (by simp only [IntKind.wrap, IntKind.bits, IntKind.signed, Int.reducePow, Bool.false_and, Bool.false_eq_true, if_false]; omega)) ?_
  refine WpL_val rfl rfl (by decide) (r_bits (k := .u32) (a := (x : Int)) (b := ((4294967296 - x : Nat) : Int)) (v := .int .u32 ((2 ^ k : Nat) : Int)) rfl rfl (by simp) ((bits_and x (4294967296 - x) hl (by omega)).trans (by rw [hn]))) ?_
  refine WpL_val rfl rfl (by decide) (r_mul (k := .u32) (a := ((2 ^ k : Nat) : Int)) (b := 125613361) (c := (((2 ^ k * 125613361) % 4294967296 : Nat) : Int)) rfl rfl (by simp only [IntKind.wrap, IntKind.bits, IntKind.signed, Int.reducePow, Bool.false_and, Bool.false_eq_true, if_false]; omega)) ?_
  refine WpL_val rfl rfl (by decide) (r_shr (k := .u32) (a := (((2 ^ k * 125613361) % 4294967296 : Nat) : Int)) (b := 27) (c := ((tzIdx k : Nat) : Int)) (k' := .u64) rfl rfl (by omega) (by unfold tzIdx; simp only [IntKind.bits]; rw [Int.fdiv_eq_ediv_of_nonneg _ (by decide), show (2 : Int) ^ min (Int.toNat 27) 32 = 134217728 from by decide]; omega)) ?_
  refine WpL_val rfl rfl (by decide) (r_indexArr (b := 0) (o := 0) (i := tzIdx k) (o' := tzIdx k) rfl rfl rfl Tryd.underlying106 siz5 (by omega) (by omega)) ?_
  refine WpL_val rfl rfl (by decide) (r_load (v := (.int .u8 ((k : Nat) : Int))) rfl flat5 (hT _ _ ht)) ?_
  refine WpL_val rfl rfl (by decide) (r_convInt (k := .u8) (k' := .i64) (n := ((k : Nat) : Int)) (c := ((k : Nat) : Int)) ⟨_, Tryd.underlying5⟩ Tryd.underlying3 rfl (wI64 (by omega))) ?_
  refine WpL_val rfl rfl (by decide) (r_assign (v := (.int .i64 ((k : Nat) : Int))) rfl) ?_
  refine WpL_nil ?_
  refine Wp_ret ?_
  refine fin_tmp Tryd.results27 (v := (.int .i64 ((k : Nat) : Int))) rfl ?_
  exact ⟨rfl, rfl⟩
def rowArr (R : Nat → Nat → Bool) : Array Value := ((List.range 25).map fun i => Value.int .u32 ((maskN 25 (R i) : Nat) : Int)).toArray
theorem rowArr_size (R : Nat → Nat → Bool) : (rowArr R).size = 25 := by simp [rowArr]
theorem rowArr_get (R : Nat → Nat → Bool) {i : Nat} (h : i < 25) : (rowArr R)[i]? = some (.int .u32 ((maskN 25 (R i) : Nat) : Int)) := by simp [rowArr, h]
theorem rowArr_set {R R' : Nat → Nat → Bool} {i : Nat} {v : Int} (hi : i < 25) (hv : v = ((maskN 25 (R' i) : Nat) : Int)) (ho : ∀ i', i' < 25 → i' ≠ i → ∀ j, j < 25 → R' i' j = R i' j) :
    (rowArr R).setIfInBounds i (.int .u32 v) = rowArr R' := by
  apply Array.ext'
  apply List.ext_getElem?
  intro j
  simp only [rowArr, Array.toList_setIfInBounds, List.getElem?_set, List.length_map, List.length_range, List.getElem?_map]
  by_cases hj : i = j
  · subst hj; simp [hi, hv]
  · simp only [hj, if_false]
    by_cases h25 : j < 25
    · simp [h25, mask_congr (ho j h25 (Ne.symm hj))]
    · simp [h25]
theorem rowArr_congr {R R' : Nat → Nat → Bool} (h : ∀ i, i < 25 → ∀ j, j < 25 → R i j = R' i j) : rowArr R = rowArr R' := by
  simp only [rowArr]
  congr 1
  apply List.map_congr_left
  intro i hi
  simp at hi
  rw [mask_congr (h i hi)]
abbrev TR : Nat := 101
theorem mask_lt32 (f : Nat → Bool) : maskN 25 f < 4294967296 := Nat.lt_of_lt_of_le (maskN_lt 25 f) (by decide)
theorem shl1 {k : Nat} (h : k ≤ 25) : IntKind.u32.wrap (1 * 2 ^ (min ((k : Int)).toNat IntKind.u32.bits)) = ((2 ^ k : Nat) : Int) := by
  have h1 : (2 : Nat) ^ k ≤ 2 ^ 25 := Nat.pow_le_pow_right (by omega) h
  have h2 : min ((k : Int)).toNat IntKind.u32.bits = k := by simp [IntKind.bits]; omega
  rw [h2, Int.one_mul, show ((2 : Int) ^ k) = ((2 ^ k : Nat) : Int) from by simp]
  simp only [Nat.reducePow] at h1
  generalize (2 : Nat) ^ k = p at h1 ⊢
  exact wU32 (by omega)
theorem rsame_c (w0 : World) (n : Nat) (hn : n ≤ 24) :
    Ret Tryd.prog 47 #[.int .i64 (n : Int)] w0 fun v w => ∃ b, v = .pointer (some ⟨b, 0, none⟩) ∧ w0.heap.size ≤ b ∧ Blk w b (rowArr (idR n)) TR ∧ Ext w0 w := by
  refine Ret_of Tryd.func47 rfl Tryd.ntmps47 (Nat.le_of_ble_eq_true rfl) ?_
  have E : Chg none1 w0 w0 := Chg.refl _ _
  refine Wp_seq_region ?_
  refine WpL_val rfl rfl (by decide) (r_assign (v := (.pointer none)) rfl) ?_
  refine WpL_nil ?_
  refine Wp_seq_region ?_
  refine WpL_val rfl rfl (by decide) (r_build (ps := []) (v := (.agg #[(.int .u32 0), (.int .u32 0), (.int .u32 0), (.int .u32 0), (.int .u32 0), (.int .u32 0), (.int .u32 0), (.int .u32 0), (.int .u32 0), (.int .u32 0), (.int .u32 0), (.int .u32 0), (.int .u32 0), (.int .u32 0), (.int .u32 0), (.int .u32 0), (.int .u32 0), (.int .u32 0), (.int .u32 0), (.int .u32 0), (.int .u32 0), (.int .u32 0), (.int .u32 0), (.int .u32 0), (.int .u32 0)])) rfl (by kernel_rfl)) ?_
  refine s_box (v := (.agg #[(.int .u32 0), (.int .u32 0), (.int .u32 0), (.int .u32 0), (.int .u32 0), (.int .u32 0), (.int .u32 0), (.int .u32 0), (.int .u32 0), (.int .u32 0), (.int .u32 0), (.int .u32 0), (.int .u32 0), (.int .u32 0), (.int .u32 0), (.int .u32 0), (.int .u32 0), (.int .u32 0), (.int .u32 0), (.int .u32 0), (.int .u32 0), (.int .u32 0), (.int .u32 0), (.int .u32 0), (.int .u32 0)])) (c := #[(.int .u32 0), (.int .u32 0), (.int .u32 0), (.int .u32 0), (.int .u32 0), (.int .u32 0), (.int .u32 0), (.int .u32 0), (.int .u32 0), (.int .u32 0), (.int .u32 0), (.int .u32 0), (.int .u32 0), (.int .u32 0), (.int .u32 0), (.int .u32 0), (.int .u32 0), (.int .u32 0), (.int .u32 0), (.int .u32 0), (.int .u32 0), (.int .u32 0), (.int .u32 0), (.int .u32 0), (.int .u32 0)]) (by decide) rfl rfl ?_
  intro b1 w1 N1
  have F1 := N1.ge E
  replace E := E.ext N1.ext
  have B1 := N1.blk
  refine WpL_val rfl rfl (by decide) (r_assign (v := (.pointer (some ⟨b1, 0, none⟩))) rfl) ?_
  refine WpL_nil ?_
  refine Wp_seq ?_
  refine Wp_seq_region ?_
  refine WpL_val rfl rfl (by decide) (r_move (v := (.int .i64 ((n : Nat) : Int))) rfl) ?_
  refine WpL_val rfl rfl (by decide) (r_add (k := .i64) (a := ((n : Nat) : Int)) (b := 1) (c := ((n : Nat) : Int) + 1) rfl rfl (wI64 (by omega))) ?_
  refine WpL_val rfl rfl (by decide) (r_move (v := (.int .i64 0)) rfl) ?_
  refine WpL_nil ?_
  refine Wp_block ?_
  replace B1 : Blk w1 b1 (rowArr fun _ _ => false) TR := B1
  refine Wp_loop (fun nn_ σ W2 => ∃ (k : Nat), (∃ jj_, σ = upds jj_ [(3, (.pointer (some ⟨b1, 0, none⟩))), (8, (.int .i64 (((n : Nat) : Int) + 1))), (9, (.int .i64 ((k : Nat) : Int)))]) ∧ Chg none1 w0 W2 ∧ Blk W2 b1 (rowArr fun i j => decide (i < k) && decide (j = i)) 101 ∧ (k ≤ n + 1) ∧ nn_ = n + 1 - k) (n := n + 1 - 0) ?_ ?_
  · exact ⟨0, Fits.out ⟨rfl, rfl, rfl, trivial⟩, E, B1, Nat.zero_le _, rfl⟩
  · clear E B1
    rintro _ _ W2 ⟨k, ⟨j2, rfl⟩, E, B1, hk, rfl⟩
    refine Wp_seq_region ?_
    refine WpL_val rfl rfl (by decide) (r_lss (k := .i64) (a := ((k : Nat) : Int)) (b := ((n : Nat) : Int) + 1) rfl rfl) ?_
    refine WpL_nil ?_
    refine Wp_seq ?_
    refine Wp_cond (b := decide ((((k : Nat) : Int) : Int) < ((n : Nat) : Int) + 1)) rfl (fun hlt => ?_) (fun hlt => ?_)
    · have khlt := hlt
      replace hlt := of_decide_eq_true hlt
      refine Wp_skip ?_
      refine thn_normal ?_
      refine Wp_seq ?_
      refine Wp_block ?_
      refine Wp_seq_region ?_
      refine WpL_val rfl rfl (by decide) (r_move (v := (.int .i64 ((k : Nat) : Int))) rfl) ?_
      refine WpL_val rfl rfl (by decide) (r_assign (v := (.int .i64 ((k : Nat) : Int))) rfl) ?_
      refine WpL_nil ?_
      refine Wp_draw 6 mixed (by kernel_rfl) ?_
      intro w4 X4 _
      replace B1 := X4.keep B1
      replace E := E.ext X4
      refine WpT_val rfl rfl (by decide) (r_move (v := (.pointer (some ⟨b1, 0, none⟩))) rfl) ?_
      refine WpT_val rfl rfl (by decide) (r_move (v := (.int .i64 ((k : Nat) : Int))) rfl) ?_
      refine WpT_val rfl rfl (by decide) (r_move (v := (.int .i64 ((k : Nat) : Int))) rfl) ?_
      refine WpT_val rfl rfl (by decide) (r_shl (k := .u32) (a := 1) (b := ((k : Nat) : Int)) (c := ((2 ^ k : Nat) : Int)) (k' := .i64) rfl rfl (by omega) (shl1 (by omega))) ?_
      refine WpT_val rfl rfl (by decide) (r_nilCheck (a := ⟨b1, 0, none⟩) rfl) ?_
      refine WpT_val rfl rfl (by decide) (r_indexArr (b := b1) (o := 0) (i := k) (o' := k) rfl rfl rfl Tryd.underlying101 siz64 (by omega) (by omega)) ?_
      refine WpT_zero ?_
      refine s_store (b := b1) (o := k) (c' := rowArr fun i j => decide (i < k + 1) && decide (j = i)) (v := (.int .u32 ((2 ^ k : Nat) : Int))) rfl rfl rfl siz64 B1 (by rw [rowArr_size]; omega) (rowArr_set (by omega) (by rw [mask_one (n := 25) (i := k) (by omega)]; simp) (fun i' _ hne j _ => by rw [Bool.eq_iff_iff]; simp; omega)) ?_
      intro w5 S5
      replace E := S5.step E (by first | exact Or.inl (by omega) | exact Or.inr rfl | exact Or.inr (by assumption) | exact Or.inr (by simp) | exact Or.inr (by omega) | exact Or.inr (by dsimp only; omega))
      replace B1 := S5.blk
      refine WpL_nil ?_
      refine inB_normal ?_
      refine thn_normal ?_
      refine Wp_region ?_
      refine WpL_val rfl rfl (by decide) (r_add (k := .i64) (a := ((k : Nat) : Int)) (b := 1) (c := ((k : Nat) : Int) + 1) rfl rfl (wI64 (by omega))) ?_
      refine WpL_val rfl rfl (by decide) (r_move (v := (.int .i64 (((k : Nat) : Int) + 1))) rfl) ?_
      refine WpL_nil ?_
      refine thn_normal ?_
      exact ⟨n + 1 - (k + 1), by omega, k + 1, Fits.out ⟨rfl, rfl, rfl, trivial⟩, E, B1, (by omega), rfl⟩
    · have khlt := hlt
      replace hlt := of_decide_eq_false hlt
      obtain rfl : k = n + 1 := by omega
      have hR : rowArr (fun i j => decide (i < n + 1) && decide (j = i)) = rowArr (idR n) := rowArr_congr fun i _ j _ => by unfold idR; rw [Bool.eq_iff_iff]; simp; omega
      refine Wp_exit ?_
      refine thn_exit ?_
      refine thn_exit ?_
      refine inB_here ?_
      refine thn_normal ?_
      refine Wp_seq_region ?_
      refine WpL_val rfl rfl (by decide) (r_move (v := (.pointer (some ⟨b1, 0, none⟩))) rfl) ?_
      refine WpL_val rfl rfl (by decide) (r_assign (v := (.pointer (some ⟨b1, 0, none⟩))) rfl) ?_
      refine WpL_nil ?_
      refine Wp_ret ?_
      refine fin_tmp Tryd.results47 (v := (.pointer (some ⟨b1, 0, none⟩))) rfl ?_
      exact ⟨b1, rfl, by omega, by rw [← hR]; exact B1, E⟩
end Go.Proofs
namespace Go.Proofs
open Go Go.Eng
set_option maxRecDepth 100000
def outR (A B : Nat → Nat → Bool) (n i p : Nat) : Nat → Nat → Bool := fun i' k =>
  if i' < i then thenR A B n i' k else if i' = i then (List.range p).any fun j => A i j && B j k else false
theorem any_range_skip {f : Nat → Bool} {p q : Nat} (h : ∀ j, p ≤ j → j < q → f j = false) (hpq : p ≤ q) : (List.range q).any f = (List.range p).any f := by
  rw [Bool.eq_iff_iff]
  simp only [List.any_eq_true, List.mem_range]
  constructor
  · rintro ⟨j, hj, hf⟩
    rcases Nat.lt_or_ge j p with h' | h'
    · exact ⟨j, h', hf⟩
    · rw [h j h' hj] at hf; cases hf
  · rintro ⟨j, hj, hf⟩; exact ⟨j, by omega, hf⟩
theorem any_range_succ {f : Nat → Bool} {p : Nat} : (List.range (p + 1)).any f = ((List.range p).any f || f p) := by
  rw [List.range_succ]; simp
/-- What the lowest bit of what is left says. -/
theorem left_low {A : Nat → Bool} {p x k m : Nat} (hx : x = maskN 25 fun j => A j && decide (p ≤ j)) (hl : x = 2 ^ (k + 1) * m + 2 ^ k) :
    k < 25 ∧ A k = true ∧ p ≤ k ∧ (∀ j, p ≤ j → j < k → A j = false) ∧ x &&& (x - 1) = maskN 25 fun j => A j && decide (k + 1 ≤ j) := by
  have hb : ∀ j, x.testBit j = (decide (j < 25) && (A j && decide (p ≤ j))) := fun j => by rw [hx, maskN_bit]
  have hk := low_bit hl k
  rw [hb] at hk
  simp at hk
  have hlow : ∀ j, p ≤ j → j < k → A j = false := fun j h1 h2 => by
    have := low_bit hl j
    rw [hb, if_pos (by omega)] at this
    have hne : j ≠ k := by omega
    simpa [show j < 25 by omega, h1, hne] using this
  refine ⟨hk.1, hk.2.1, hk.2.2, hlow, mask_ext ?_ fun j hj => ?_⟩
  · exact Nat.lt_of_le_of_lt Nat.and_le_left (hx ▸ maskN_lt 25 _)
  · rw [low_clear hl, hb, Bool.eq_iff_iff]
    simp only [hj, decide_true, Bool.true_and, Bool.and_eq_true, decide_eq_true_eq]
    constructor
    · rintro ⟨⟨h1, h2⟩, h3⟩
      refine ⟨h1, ?_⟩
      rcases Nat.lt_or_ge j k with h | h
      · rw [hlow j h2 h] at h1; cases h1
      · omega
    · rintro ⟨h1, h2⟩; exact ⟨⟨h1, by omega⟩, by omega⟩
theorem outR_step {A B : Nat → Nat → Bool} {n i p k : Nat} (hlow : ∀ j, p ≤ j → j < k → A i j = false) (hpk : p ≤ k) (hA : A i k = true) (c : Nat) :
    (outR A B n i p i c || B k c) = outR A B n i (k + 1) i c := by
  simp only [outR, Nat.lt_irrefl, if_false, if_true]
  rw [any_range_succ, any_range_skip (p := p) (q := k) (fun j h1 h2 => by simp [hlow j h1 h2]) hpk, hA]
  simp
theorem outR_end {A B : Nat → Nat → Bool} {n i p : Nat} (hi : i ≤ n) (hp : p ≤ 25) (hz : maskN 25 (fun j => A i j && decide (p ≤ j)) = 0) : rowArr (outR A B n i p) = rowArr (outR A B n (i + 1) 0) := by
  apply rowArr_congr
  intro i' _ k _
  rw [mask_eq_zero] at hz
  simp only [outR]
  by_cases h1 : i' < i
  · rw [if_pos h1, if_pos (by omega)]
  · rw [if_neg h1]
    by_cases h2 : i' = i
    · subst h2
      rw [if_pos rfl, if_pos (by omega)]
      simp only [thenR, hi, decide_true, Bool.true_and]
      exact (any_range_skip (fun j h3 h4 => by have := hz j h4; simp [h3] at this; simp [this]) hp).symm
    · rw [if_neg h2, if_neg (by omega)]
      split <;> simp
set_option maxHeartbeats 400000 in
theorem then_c (w0 : World) (ba bb n : Nat) (A B : Nat → Nat → Bool) (hn : n ≤ 24) (hA : Blk w0 ba (rowArr A) TR) (hB : Blk w0 bb (rowArr B) TR) (hT : TabOk w0) :
    Ret Tryd.prog 49 #[.pointer (some ⟨ba, 0, none⟩), .pointer (some ⟨bb, 0, none⟩), .int .i64 (n : Int)] w0
      fun v w => ∃ b, v = .pointer (some ⟨b, 0, none⟩) ∧ w0.heap.size ≤ b ∧ Blk w b (rowArr (thenR A B n)) TR ∧ Ext w0 w := by
  have la := hA.lt
  have lb := hB.lt
  refine Ret_of Tryd.func49 rfl Tryd.ntmps49 (Nat.le_of_ble_eq_true rfl) ?_
  have E : Chg none1 w0 w0 := Chg.refl _ _
  refine Wp_seq_region ?_
  refine WpL_val rfl rfl (by decide) (r_assign (v := (.pointer none)) rfl) ?_
  refine WpL_nil ?_
  refine Wp_seq_region ?_
  refine WpL_val rfl rfl (by decide) (r_build (ps := []) (v := (.agg #[(.int .u32 0), (.int .u32 0), (.int .u32 0), (.int .u32 0), (.int .u32 0), (.int .u32 0), (.int .u32 0), (.int .u32 0), (.int .u32 0), (.int .u32 0), (.int .u32 0), (.int .u32 0), (.int .u32 0), (.int .u32 0), (.int .u32 0), (.int .u32 0), (.int .u32 0), (.int .u32 0), (.int .u32 0), (.int .u32 0), (.int .u32 0), (.int .u32 0), (.int .u32 0), (.int .u32 0), (.int .u32 0)])) rfl (by kernel_rfl)) ?_
  refine s_box (v := (.agg #[(.int .u32 0), (.int .u32 0), (.int .u32 0), (.int .u32 0), (.int .u32 0), (.int .u32 0), (.int .u32 0), (.int .u32 0), (.int .u32 0), (.int .u32 0), (.int .u32 0), (.int .u32 0), (.int .u32 0), (.int .u32 0), (.int .u32 0), (.int .u32 0), (.int .u32 0), (.int .u32 0), (.int .u32 0), (.int .u32 0), (.int .u32 0), (.int .u32 0), (.int .u32 0), (.int .u32 0), (.int .u32 0)])) (c := #[(.int .u32 0), (.int .u32 0), (.int .u32 0), (.int .u32 0), (.int .u32 0), (.int .u32 0), (.int .u32 0), (.int .u32 0), (.int .u32 0), (.int .u32 0), (.int .u32 0), (.int .u32 0), (.int .u32 0), (.int .u32 0), (.int .u32 0), (.int .u32 0), (.int .u32 0), (.int .u32 0), (.int .u32 0), (.int .u32 0), (.int .u32 0), (.int .u32 0), (.int .u32 0), (.int .u32 0), (.int .u32 0)]) (by decide) rfl rfl ?_
  intro b1 w1 N1
  have F1 := N1.ge E
  have O1_ba := N1.lt hA
  have O1_bb := N1.lt hB
  replace hA := N1.keep hA
  replace hB := N1.keep hB
  replace E := E.ext N1.ext
  have B1 := N1.blk
  refine WpL_val rfl rfl (by decide) (r_assign (v := (.pointer (some ⟨b1, 0, none⟩))) rfl) ?_
  refine WpL_nil ?_
  refine Wp_seq ?_
  refine Wp_seq_region ?_
  refine WpL_val rfl rfl (by decide) (r_move (v := (.int .i64 ((n : Nat) : Int))) rfl) ?_
  refine WpL_val rfl rfl (by decide) (r_add (k := .i64) (a := ((n : Nat) : Int)) (b := 1) (c := ((n : Nat) : Int) + 1) rfl rfl (wI64 (by omega))) ?_
  refine WpL_val rfl rfl (by decide) (r_move (v := (.int .i64 0)) rfl) ?_
  refine WpL_nil ?_
  refine Wp_block ?_
  replace B1 : Blk w1 b1 (rowArr (outR A B n 0 0)) TR := by have h0 : rowArr (outR A B n 0 0) = rowArr (fun _ _ => false) := rowArr_congr (fun i _ j _ => by simp [outR]); rw [h0]; exact B1
  refine Wp_loop (fun nn_ σ W2 => ∃ (i : Nat), (∃ jj_, σ = upds jj_ [(0, (.pointer (some ⟨ba, 0, none⟩))), (1, (.pointer (some ⟨bb, 0, none⟩))), (7, (.pointer (some ⟨b1, 0, none⟩))), (13, (.int .i64 (((n : Nat) : Int) + 1))), (14, (.int .i64 ((i : Nat) : Int)))]) ∧ Chg none1 w0 W2 ∧ Blk W2 ba (rowArr A) TR ∧ Blk W2 bb (rowArr B) TR ∧ Blk W2 b1 (rowArr (outR A B n i 0)) 101 ∧ (i ≤ n + 1) ∧ nn_ = n + 1 - i) (n := n + 1 - 0) ?_ ?_
  · exact ⟨0, Fits.out ⟨rfl, rfl, rfl, rfl, rfl, trivial⟩, E, hA, hB, B1, Nat.zero_le _, rfl⟩
  · clear E hA hB B1
    rintro _ _ W2 ⟨i, ⟨j2, rfl⟩, E, hA, hB, B1, hi, rfl⟩
    refine Wp_seq_region ?_
    refine WpL_val rfl rfl (by decide) (r_lss (k := .i64) (a := ((i : Nat) : Int)) (b := ((n : Nat) : Int) + 1) rfl rfl) ?_
    refine WpL_nil ?_
    refine Wp_seq ?_
    refine Wp_cond (b := decide ((((i : Nat) : Int) : Int) < ((n : Nat) : Int) + 1)) rfl (fun hlt => ?_) (fun hlt => ?_)
    · have khlt := hlt
      replace hlt := of_decide_eq_true hlt
      refine Wp_skip ?_
      refine thn_normal ?_
      refine Wp_seq ?_
      refine Wp_block ?_
      refine Wp_seq_region ?_
      refine WpL_val rfl rfl (by decide) (r_move (v := (.int .i64 ((i : Nat) : Int))) rfl) ?_
      refine WpL_val rfl rfl (by decide) (r_assign (v := (.int .i64 ((i : Nat) : Int))) rfl) ?_
      refine WpL_nil ?_
      refine Wp_seq_region ?_
      refine WpL_val rfl rfl (by decide) (r_move (v := (.pointer (some ⟨ba, 0, none⟩))) rfl) ?_
      refine WpL_val rfl rfl (by decide) (r_move (v := (.int .i64 ((i : Nat) : Int))) rfl) ?_
      refine WpL_val rfl rfl (by decide) (r_nilCheck (a := ⟨ba, 0, none⟩) rfl) ?_
      refine WpL_val rfl rfl (by decide) (r_indexArr (b := ba) (o := 0) (i := i) (o' := i) rfl rfl rfl Tryd.underlying101 siz64 (by omega) (by omega)) ?_
      refine WpL_val rfl rfl (by decide) (r_load (v := (.int .u32 ((maskN 25 (fun j => A i j && decide (0 ≤ j)) : Nat) : Int))) rfl flat64 ((hA.cell (rowArr_get A (by omega))).trans (by rw [mask_congr (g := fun j => A i j && decide (0 ≤ j)) (fun j _ => by simp)]))) ?_
      refine WpL_val rfl rfl (by decide) (r_assign (v := (.int .u32 ((maskN 25 (fun j => A i j && decide (0 ≤ j)) : Nat) : Int))) rfl) ?_
      refine WpL_nil ?_
      refine Wp_block ?_
      refine Wp_loop (fun nn_ σ W4 => ∃ (p : Nat), (∃ jj_, σ = upds jj_ [(0, (.pointer (some ⟨ba, 0, none⟩))), (1, (.pointer (some ⟨bb, 0, none⟩))), (7, (.pointer (some ⟨b1, 0, none⟩))), (8, (.int .i64 ((i : Nat) : Int))), (13, (.int .i64 (((n : Nat) : Int) + 1))), (14, (.int .i64 ((i : Nat) : Int))), (9, (.int .u32 ((maskN 25 (fun j => A i j && decide (p ≤ j)) : Nat) : Int)))]) ∧ Chg none1 w0 W4 ∧ Blk W4 ba (rowArr A) TR ∧ Blk W4 bb (rowArr B) TR ∧ Blk W4 b1 (rowArr (outR A B n i p)) 101 ∧ (p ≤ 25) ∧ nn_ = 25 - p) (n := 25 - 0) ?_ ?_
      · exact ⟨0, Fits.out ⟨rfl, rfl, rfl, rfl, rfl, rfl, rfl, trivial⟩, E, hA, hB, B1, Nat.zero_le _, rfl⟩
      · clear E hA hB B1
        rintro _ _ W4 ⟨p, ⟨j4, rfl⟩, E, hA, hB, B1, hp, rfl⟩
        obtain ⟨x, hx⟩ : ∃ x, x = maskN 25 (fun j => A i j && decide (p ≤ j)) := ⟨_, rfl⟩
        have hxl : x < 4294967296 := hx ▸ mask_lt32 _
        rw [← hx]
        refine Wp_seq ?_
        refine Wp_seq_region ?_
        refine WpL_val rfl rfl (by decide) (r_move (v := (.int .u32 ((x : Nat) : Int))) rfl) ?_
        refine WpL_val rfl rfl (by decide) (r_neq (k := .u32) (a := ((x : Nat) : Int)) (b := 0) rfl rfl) ?_
        refine WpL_nil ?_
        refine Wp_cond (b := decide ((((x : Nat) : Int) : Int) ≠ 0)) rfl (fun hne => ?_) (fun hne => ?_)
        · have khne := hne
          replace hne := of_decide_eq_true hne
          obtain ⟨k, m, hl⟩ := low_form x (by omega)
          obtain ⟨hk25, hAk, hpk, hlow, hclear⟩ := left_low hx hl
          refine Wp_skip ?_
          refine thn_normal ?_
          refine Wp_seq ?_
          refine Wp_block ?_
          refine Wp_draw 14 mixed (by kernel_rfl) ?_
          intro w6 X6 _
          replace hA := X6.keep hA
          replace hB := X6.keep hB
          replace B1 := X6.keep B1
          replace E := E.ext X6
          refine WpT_val rfl rfl (by decide) (r_move (v := (.pointer (some ⟨b1, 0, none⟩))) rfl) ?_
          refine WpT_val rfl rfl (by decide) (r_move (v := (.int .i64 ((i : Nat) : Int))) rfl) ?_
          refine WpT_val rfl rfl (by decide) (r_nilCheck (a := ⟨b1, 0, none⟩) rfl) ?_
          refine WpT_val rfl rfl (by decide) (r_indexArr (b := b1) (o := 0) (i := i) (o' := i) rfl rfl rfl Tryd.underlying101 siz64 (by omega) (by omega)) ?_
          refine WpT_val rfl rfl (by decide) (r_load (v := (.int .u32 ((maskN 25 (outR A B n i p i) : Nat) : Int))) rfl flat64 (B1.cell (rowArr_get _ (by omega)))) ?_
          refine WpT_val rfl rfl (by decide) (r_move (v := (.pointer (some ⟨bb, 0, none⟩))) rfl) ?_
          refine WpT_val rfl rfl (by decide) (r_move (v := (.int .u32 ((x : Nat) : Int))) rfl) ?_
          refine WpT_enter (v := (.int .i64 ((k : Nat) : Int))) rfl rfl (by decide) (r_callF (vs := [(.int .u32 ((x : Nat) : Int))]) Tryd.func27 nm27 bd27 rfl) (tz_c _ x k m hl hxl (hT.ext E)) ?_
          refine WpT_val rfl rfl (by decide) (r_nilCheck (a := ⟨bb, 0, none⟩) rfl) ?_
          refine WpT_val rfl rfl (by decide) (r_indexArr (b := bb) (o := 0) (i := k) (o' := k) rfl rfl rfl Tryd.underlying101 siz64 (by omega) (by omega)) ?_
          refine WpT_val rfl rfl (by decide) (r_load (v := (.int .u32 ((maskN 25 (B k) : Nat) : Int))) rfl flat64 (hB.cell (rowArr_get _ (by omega)))) ?_
          refine WpT_val rfl rfl (by decide) (r_bits (k := .u32) (a := ((maskN 25 (outR A B n i p i) : Nat) : Int)) (b := ((maskN 25 (B k) : Nat) : Int)) (v := .int .u32 ((maskN 25 (outR A B n i (k + 1) i) : Nat) : Int)) rfl rfl (by simp) ((bits_or _ _ (mask_lt32 _) (mask_lt32 _)).trans (by rw [mask_or, mask_congr (fun c _ => outR_step hlow hpk hAk c)]))) ?_
          refine WpT_val rfl rfl (by decide) (r_nilCheck (a := ⟨b1, 0, none⟩) rfl) ?_
          refine WpT_val rfl rfl (by decide) (r_indexArr (b := b1) (o := 0) (i := i) (o' := i) rfl rfl rfl Tryd.underlying101 siz64 (by omega) (by omega)) ?_
          refine WpT_zero ?_
          refine s_store (b := b1) (o := i) (c' := rowArr (outR A B n i (k + 1))) (v := (.int .u32 ((maskN 25 (outR A B n i (k + 1) i) : Nat) : Int))) rfl rfl rfl siz64 B1 (by rw [rowArr_size]; omega) (rowArr_set (by omega) rfl (fun i' _ hne j _ => by simp [outR, hne])) ?_
          intro w7 S7
          replace hA := S7.keep (by omega) hA
          replace hB := S7.keep (by omega) hB
          replace E := S7.step E (by first | exact Or.inl (by omega) | exact Or.inr rfl | exact Or.inr (by assumption) | exact Or.inr (by simp) | exact Or.inr (by omega) | exact Or.inr (by dsimp only; omega))
          replace B1 := S7.blk
          refine WpL_nil ?_
          refine inB_normal ?_
          refine thn_normal ?_
          refine Wp_region ?_
          refine WpL_val rfl rfl (by decide) (r_move (v := (.int .u32 ((x : Nat) : Int))) rfl) ?_
          refine WpL_val rfl rfl (by decide) (r_move (v := (.int .u32 ((x : Nat) : Int))) rfl) ?_
          refine WpL_val rfl rfl (by decide) (r_sub (k := .u32) (a := ((x : Nat) : Int)) (b := 1) (c := ((x - 1 : Nat) : Int)) rfl rfl (by rw [wU32 (by omega)]; omega)) ?_
          refine WpL_val rfl rfl (by decide) (r_bits (k := .u32) (a := ((x : Nat) : Int)) (b := ((x - 1 : Nat) : Int)) (v := .int .u32 ((maskN 25 (fun j => A i j && decide (k + 1 ≤ j)) : Nat) : Int)) rfl rfl (by simp) ((bits_and _ _ hxl (by omega)).trans (by rw [hclear]))) ?_
          refine WpL_val rfl rfl (by decide) (r_assign (v := (.int .u32 ((maskN 25 (fun j => A i j && decide (k + 1 ≤ j)) : Nat) : Int))) rfl) ?_
          refine WpL_nil ?_
          refine thn_normal ?_
          exact ⟨25 - (k + 1), by omega, k + 1, Fits.out ⟨rfl, rfl, rfl, rfl, rfl, rfl, rfl, trivial⟩, E, hA, hB, B1, (by omega), rfl⟩
        · have khne := hne
          replace hne := of_decide_eq_false hne
          have hz : x = 0 := by omega
          rw [outR_end (by omega) hp (hx ▸ hz)] at B1
          refine Wp_exit ?_
          refine thn_exit ?_
          refine thn_exit ?_
          refine inB_here ?_
          refine inB_normal ?_
          refine thn_normal ?_
          refine Wp_region ?_
          refine WpL_val rfl rfl (by decide) (r_add (k := .i64) (a := ((i : Nat) : Int)) (b := 1) (c := ((i : Nat) : Int) + 1) rfl rfl (wI64 (by omega))) ?_
          refine WpL_val rfl rfl (by decide) (r_move (v := (.int .i64 (((i : Nat) : Int) + 1))) rfl) ?_
          refine WpL_nil ?_
          refine thn_normal ?_
          exact ⟨n + 1 - (i + 1), by omega, i + 1, Fits.out ⟨rfl, rfl, rfl, rfl, rfl, trivial⟩, E, hA, hB, B1, (by omega), rfl⟩
    · have khlt := hlt
      replace hlt := of_decide_eq_false hlt
      obtain rfl : i = n + 1 := by omega
      have hR : rowArr (outR A B n (n + 1) 0) = rowArr (thenR A B n) := rowArr_congr fun i _ j _ => by unfold outR; split; rfl; simp [thenR]; omega
      refine Wp_exit ?_
      refine thn_exit ?_
      refine thn_exit ?_
      refine inB_here ?_
      refine thn_normal ?_
      refine Wp_seq_region ?_
      refine WpL_val rfl rfl (by decide) (r_move (v := (.pointer (some ⟨b1, 0, none⟩))) rfl) ?_
      refine WpL_val rfl rfl (by decide) (r_assign (v := (.pointer (some ⟨b1, 0, none⟩))) rfl) ?_
      refine WpL_nil ?_
      refine Wp_ret ?_
      refine fin_tmp Tryd.results49 (v := (.pointer (some ⟨b1, 0, none⟩))) rfl ?_
      exact ⟨b1, rfl, by omega, by rw [← hR]; exact B1, E⟩
theorem rowArr_one (R : Nat → Nat → Bool) : ∀ u ∈ (rowArr R).toList, u.oneCell' = true := by
  intro u hu
  simp only [rowArr, List.mem_map, List.mem_range] at hu
  obtain ⟨i, _, rfl⟩ := hu
  rfl
theorem or_start {A B : Nat → Nat → Bool} {w : World} {b t : Nat} (h : Blk w b (rowArr A).toList.toArray t) : Blk w b (rowArr fun i j => if i < 0 then orR A B i j else A i j) t := by
  have h0 : rowArr (fun i j => if i < 0 then orR A B i j else A i j) = rowArr A := rowArr_congr fun i _ j _ => by simp
  rw [h0]; simpa using h
theorem or_c (w0 : World) (ba bb : Nat) (A B : Nat → Nat → Bool) (hA : Blk w0 ba (rowArr A) TR) (hB : Blk w0 bb (rowArr B) TR) :
    Ret Tryd.prog 50 #[.pointer (some ⟨ba, 0, none⟩), .pointer (some ⟨bb, 0, none⟩)] w0
      fun v w => ∃ b, v = .pointer (some ⟨b, 0, none⟩) ∧ w0.heap.size ≤ b ∧ Blk w b (rowArr (orR A B)) TR ∧ Ext w0 w := by
  have la := hA.lt
  have lb := hB.lt
  refine Ret_of Tryd.func50 rfl Tryd.ntmps50 (Nat.le_of_ble_eq_true rfl) ?_
  have E : Chg none1 w0 w0 := Chg.refl _ _
  refine Wp_seq_region ?_
  refine WpL_val rfl rfl (by decide) (r_assign (v := (.pointer none)) rfl) ?_
  refine WpL_nil ?_
  refine Wp_seq_region ?_
  refine WpL_val rfl rfl (by decide) (r_move (v := (.pointer (some ⟨ba, 0, none⟩))) rfl) ?_
  refine WpL_val rfl rfl (by decide) (r_nilCheck (a := ⟨ba, 0, none⟩) rfl) ?_
  refine WpL_val rfl rfl (by decide) (r_loadAgg (vs := (rowArr A).toList) rfl agg101 siz101 (by simp [rowArr]) (hA.cells (by simp only [List.drop_zero]; exact List.take_length))) ?_
  refine s_allocStore (v := (.agg ((rowArr A).toList.toArray))) (c := ((rowArr A).toList.toArray)) (n := 25) (by decide) zer101 rfl siz101 rfl rfl (by simpa using by simp [rowArr]) (by simpa using rowArr_one A) ?_
  intro b1 w1 N1
  have F1 := N1.ge E
  have O1_ba := N1.lt hA
  have O1_bb := N1.lt hB
  replace hA := N1.keep hA
  replace hB := N1.keep hB
  replace E := E.ext N1.ext
  have B1 := N1.blk
  refine WpL_nil ?_
  refine Wp_seq ?_
  refine Wp_seq_region ?_
  refine WpL_val rfl rfl (by decide) (r_move (v := (.int .i64 0)) rfl) ?_
  refine WpL_nil ?_
  refine Wp_block ?_
  replace B1 : Blk w1 b1 (rowArr fun i j => if i < 0 then orR A B i j else A i j) TR := or_start B1
  refine Wp_loop (fun nn_ σ W2 => ∃ (i : Nat), (∃ jj_, σ = upds jj_ [(1, (.pointer (some ⟨bb, 0, none⟩))), (5, (.pointer (some ⟨b1, 0, none⟩))), (10, (.int .i64 ((i : Nat) : Int)))]) ∧ Chg none1 w0 W2 ∧ Blk W2 ba (rowArr A) TR ∧ Blk W2 bb (rowArr B) TR ∧ Blk W2 b1 (rowArr fun i' j => if i' < i then orR A B i' j else A i' j) 101 ∧ (i ≤ 25) ∧ nn_ = 25 - i) (n := 25 - 0) ?_ ?_
  · exact ⟨0, Fits.out ⟨rfl, rfl, rfl, trivial⟩, E, hA, hB, B1, Nat.zero_le _, rfl⟩
  · clear E hA hB B1
    rintro _ _ W2 ⟨i, ⟨j2, rfl⟩, E, hA, hB, B1, hi, rfl⟩
    refine Wp_seq_region ?_
    refine WpL_val rfl rfl (by decide) (r_lss (k := .i64) (a := ((i : Nat) : Int)) (b := 25) rfl rfl) ?_
    refine WpL_nil ?_
    refine Wp_seq ?_
    refine Wp_cond (b := decide ((((i : Nat) : Int) : Int) < 25)) rfl (fun hlt => ?_) (fun hlt => ?_)
    · have khlt := hlt
      replace hlt := of_decide_eq_true hlt
      refine Wp_skip ?_
      refine thn_normal ?_
      refine Wp_seq ?_
      refine Wp_block ?_
      refine Wp_seq_region ?_
      refine WpL_val rfl rfl (by decide) (r_move (v := (.int .i64 ((i : Nat) : Int))) rfl) ?_
      refine WpL_val rfl rfl (by decide) (r_assign (v := (.int .i64 ((i : Nat) : Int))) rfl) ?_
      refine WpL_nil ?_
      refine Wp_draw 10 mixed (by kernel_rfl) ?_
      intro w4 X4 _
      replace hA := X4.keep hA
      replace hB := X4.keep hB
      replace B1 := X4.keep B1
      replace E := E.ext X4
      refine WpT_val rfl rfl (by decide) (r_move (v := (.int .i64 ((i : Nat) : Int))) rfl) ?_
      refine WpT_val rfl rfl (by decide) (r_indexArr (b := b1) (o := 0) (i := i) (o' := i) rfl rfl rfl Tryd.underlying101 siz64 (by omega) (by omega)) ?_
      refine WpT_val rfl rfl (by decide) (r_load (v := (.int .u32 ((maskN 25 (A i) : Nat) : Int))) rfl flat64 ((B1.cell (rowArr_get _ (by omega))).trans (by simp))) ?_
      refine WpT_val rfl rfl (by decide) (r_move (v := (.pointer (some ⟨bb, 0, none⟩))) rfl) ?_
      refine WpT_val rfl rfl (by decide) (r_move (v := (.int .i64 ((i : Nat) : Int))) rfl) ?_
      refine WpT_val rfl rfl (by decide) (r_nilCheck (a := ⟨bb, 0, none⟩) rfl) ?_
      refine WpT_val rfl rfl (by decide) (r_indexArr (b := bb) (o := 0) (i := i) (o' := i) rfl rfl rfl Tryd.underlying101 siz64 (by omega) (by omega)) ?_
      refine WpT_val rfl rfl (by decide) (r_load (v := (.int .u32 ((maskN 25 (B i) : Nat) : Int))) rfl flat64 (hB.cell (rowArr_get _ (by omega)))) ?_
      refine WpT_val rfl rfl (by decide) (r_bits (k := .u32) (a := ((maskN 25 (A i) : Nat) : Int)) (b := ((maskN 25 (B i) : Nat) : Int)) (v := .int .u32 ((maskN 25 (orR A B i) : Nat) : Int)) rfl rfl (by simp) ((bits_or _ _ (mask_lt32 _) (mask_lt32 _)).trans (by rw [mask_or]; rfl))) ?_
      refine WpT_val rfl rfl (by decide) (r_indexArr (b := b1) (o := 0) (i := i) (o' := i) rfl rfl rfl Tryd.underlying101 siz64 (by omega) (by omega)) ?_
      refine WpT_zero ?_
      refine s_store (b := b1) (o := i) (c' := rowArr fun i' j => if i' < i + 1 then orR A B i' j else A i' j) (v := (.int .u32 ((maskN 25 (orR A B i) : Nat) : Int))) rfl rfl rfl siz64 B1 (by rw [rowArr_size]; omega) (rowArr_set (by omega) (by simp) (fun i' _ hne j _ => by by_cases h : i' < i; rw [if_pos h, if_pos (by omega)]; rw [if_neg h, if_neg (by omega)])) ?_
      intro w5 S5
      replace hA := S5.keep (by omega) hA
      replace hB := S5.keep (by omega) hB
      replace E := S5.step E (by first | exact Or.inl (by omega) | exact Or.inr rfl | exact Or.inr (by assumption) | exact Or.inr (by simp) | exact Or.inr (by omega) | exact Or.inr (by dsimp only; omega))
      replace B1 := S5.blk
      refine WpL_nil ?_
      refine inB_normal ?_
      refine thn_normal ?_
      refine Wp_region ?_
      refine WpL_val rfl rfl (by decide) (r_add (k := .i64) (a := ((i : Nat) : Int)) (b := 1) (c := ((i : Nat) : Int) + 1) rfl rfl (wI64 (by omega))) ?_
      refine WpL_val rfl rfl (by decide) (r_move (v := (.int .i64 (((i : Nat) : Int) + 1))) rfl) ?_
      refine WpL_nil ?_
      refine thn_normal ?_
      exact ⟨25 - (i + 1), by omega, i + 1, Fits.out ⟨rfl, rfl, rfl, trivial⟩, E, hA, hB, B1, (by omega), rfl⟩
    · have khlt := hlt
      replace hlt := of_decide_eq_false hlt
      obtain rfl : i = 25 := by omega
      have hR : rowArr (fun i' j => if i' < 25 then orR A B i' j else A i' j) = rowArr (orR A B) := rowArr_congr fun i h j _ => by rw [if_pos h]
      refine Wp_exit ?_
      refine thn_exit ?_
      refine thn_exit ?_
      refine inB_here ?_
      refine thn_normal ?_
      refine Wp_seq_region ?_
      refine WpL_val rfl rfl (by decide) (r_assign (v := (.pointer (some ⟨b1, 0, none⟩))) rfl) ?_
      refine WpL_nil ?_
      refine Wp_ret ?_
      refine fin_tmp Tryd.results50 (v := (.pointer (some ⟨b1, 0, none⟩))) rfl ?_
      exact ⟨b1, rfl, by omega, by rw [← hR]; exact B1, E⟩
end Go.Proofs
