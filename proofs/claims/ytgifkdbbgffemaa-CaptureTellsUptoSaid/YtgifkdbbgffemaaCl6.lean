/- Contracts and plain lemmas, part 6. -/
import Derived.Tactics
import Derived.Deep.Quiet
import Derived.Laws.AppendOwn
import Derived.KernelRfl
import Derived.Laws.Entries
import Derived.Laws.Build
import Derived.Below
import Derived.RowKit3
import Derived.StillTail
import Derived.Sort.Grow
import Derived.Deep.Draws
import Derived.Test.YtgifkdbbgffemaaChecked
import Derived.Laws.StructEq
import Derived.MapKept
import Derived.Laws.BytesArg
import Derived.DeepKeys3
import Derived.OpenShut
import Derived.ChangeSlices
import Derived.Test.YtgifkdbbgffemaaRows
import Derived.Test.YtgifkdbbgffemaaCl5
namespace Go.Proofs
open Go Go.Eng
set_option maxRecDepth 100000
def needF (k : Int) : Int := if k = 3 ∨ k = 4 ∨ k = 7 then 2 else if k = 5 ∨ k = 6 ∨ k = 8 ∨ k = 9 ∨ k = 10 then 1 else 0
def needA : Array Value := #[.int .i64 0, .int .i64 0, .int .i64 0, .int .i64 2, .int .i64 2, .int .i64 1, .int .i64 1, .int .i64 2, .int .i64 1, .int .i64 1, .int .i64 1]
theorem need_tab : ∀ i, i < 11 → needA[i]? = some (.int .i64 (needF ((i : Nat) : Int))) := by
  intro i h
  match i, h with
  | 0, _ => rfl
  | 1, _ => rfl
  | 2, _ => rfl
  | 3, _ => rfl
  | 4, _ => rfl
  | 5, _ => rfl
  | 6, _ => rfl
  | 7, _ => rfl
  | 8, _ => rfl
  | 9, _ => rfl
  | 10, _ => rfl
theorem need_c (k : Int) (h0 : 0 ≤ k) (h1 : k ≤ 10) (w0 : World) : Ret Try.prog 62 #[.int .i64 k] w0 fun v w => v = .int .i64 (needF k) ∧ Ext w0 w := by
 refine Ret_of Try.func62 rfl Try.ntmps62 (Nat.le_of_ble_eq_true rfl) ?_
 have E : Chg none1 w0 w0 := Chg.refl _ _
 refine Wp_seq_region ?_
 refine qA (I6 0) rfl ?_
 refine WpL_nil (Wp_seq_region ?_)
 refine s_buildSlice (ps := [(0, (I6 0)), (1, (I6 0)), (2, (I6 0)), (3, (I6 2)), (4, (I6 2)), (5, (I6 1)), (6, (I6 1)), (7, (I6 2)), (8, (I6 1)), (9, (I6 1)), (10, (I6 1))]) (c := #[(I6 0), (I6 0), (I6 0), (I6 2), (I6 2), (I6 1), (I6 1), (I6 2), (I6 1), (I6 1), (I6 1)]) (by decide) rfl Try.underlying22 siz3 zer3 (by decide) (by decide) (by kernel_rfl) ?_
 intro bq wq Nq
 have Fq := Nq.ge E
 replace E := E.ext Nq.ext
 have Bq := Nq.blk
 refine qM (I6 k) rfl ?_
 refine qV (r_indexSlice (b := bq) (o := 0) (len := 11) (cap := 11) (i := k.toNat) (o' := 0 + k.toNat) rfl rfl (by omega) Try.underlying22 siz3 (by omega) (by omega)) ?_
 refine qV (r_load (v := (I6 (needF k))) rfl flat3 (Bq.cell (by have := need_tab k.toNat (by omega); rw [Int.toNat_of_nonneg h0] at this; rw [Nat.zero_add]; exact this))) ?_
 refine qA (I6 (needF k)) rfl ?_
 refine WpL_nil (Wp_ret ?_)
 refine fin_tmp Try.results62 (v := (.int .i64 (needF k))) rfl ?_
 exact ⟨rfl, E⟩
theorem form_need {t : Re} (h0 : 0 ≤ t.kind) (h1 : t.kind ≤ 10) : okB t.kind t.args.length = !(decide ((t.args.length : Int) < needF t.kind) || (decide (needF t.kind < 2) && decide (needF t.kind < t.args.length))) := by
 unfold okB needF
 by_cases h3 : t.kind = 3 ∨ t.kind = 4 ∨ t.kind = 7
 ·simp only [if_pos h3]; rw [Bool.eq_iff_iff]; simp
 ·by_cases h5 : t.kind = 5 ∨ t.kind = 6 ∨ t.kind = 8 ∨ t.kind = 9 ∨ t.kind = 10
  ·simp only [if_neg h3, if_pos h5]; rw [Bool.eq_iff_iff]; simp; omega
  ·simp only [if_neg h3, if_neg h5]; rw [Bool.eq_iff_iff]; simp
set_option maxHeartbeats 2000000 in
theorem cnode_c (wb w0 : World) (t : Re) (vs : List Value) (ht : ReAt wb t vs) (hE : Ext wb w0) :
  Ret Try.prog 43 #[.agg vs.toArray] w0 fun v w => v = .int .i64 (nodeE t) ∧ Ext w0 w := by
 have ht0 := ht
 obtain ⟨sa, sc, aa, ac, rfl, hset, hlen, hargs⟩ := ht.form
 have hslen : t.set.length ≤ 9223372036854775807 := by simpa using SlAt.le hset
 refine Ret_of Try.func43 rfl Try.ntmps43 (Nat.le_of_ble_eq_true rfl) ?_
 have E : Chg none1 w0 w0 := Chg.refl _ _
 refine Wp_seq_region ?_
 refine s_box (v := (.agg (R6 t sa sc aa ac))) (c := (R6 t sa sc aa ac)) (by decide) rfl rfl ?_
 intro b1 w1 N1
 have F1 := N1.ge E
 replace E := E.ext N1.ext
 have B1 := N1.blk
 refine qA (I6 0) rfl ?_
 refine WpL_nil (Wp_seq (Wp_seq_region ?_))
 refine qF b1 0 0 rfl Try.underlying27 rfl siz3 rfl ?_
 refine qV (r_load (v := (I6 t.kind)) rfl flat3 (B1.cell rfl)) ?_
 obtain ⟨e2, he2⟩ : ∃ e, (decide ((t.kind : Int) < 0)) = e := ⟨_, rfl⟩
 refine qV ((r_lss (k := .i64) (a := t.kind) (b := 0) rfl rfl).trans (by rw [he2]; try rfl)) ?_
 refine qM (.bool e2) rfl ?_
 refine qG (.bool e2) (nU e2 (P6 b1 0)) (by cases e2 <;> first | exact gA | exact gB | exact .inl ⟨rfl, r_fieldAddr (b := b1) (o := 0) (o' := 0) rfl Try.underlying27 rfl siz3 rfl⟩) ?_
 refine qG (.bool e2) (nU e2 (I6 t.kind)) (by cases e2 <;> first | exact gA | exact gB | exact .inl ⟨rfl, r_load (v := (I6 t.kind)) rfl flat3 (B1.cell rfl)⟩) ?_
 obtain ⟨e3, he3⟩ : ∃ e, (decide ((10 : Int) < t.kind)) = e := ⟨_, rfl⟩
 refine qG (.bool e2) (nU e2 (.bool e3)) (by cases e2 <;> first | exact gA | exact gB | exact .inl ⟨rfl, (r_gtr (k := .i64) (a := t.kind) (b := 10) rfl rfl).trans (by rw [he3]; try rfl)⟩) ?_
 obtain ⟨e4, he4⟩ : ∃ e, (e2 || e3) = e := ⟨_, rfl⟩
 refine qV (r_pick (b := e2) (v := .bool e4) rfl (by rw [← he4]; cases e2 <;> rfl)) ?_
 refine WpL_nil ?_
 subst he4
 subst he3
 subst he2
 refine Wp_cond (b := ((decide ((t.kind : Int) < 0)) || (decide ((10 : Int) < t.kind)))) rfl (fun hk => ?_) (fun hk => ?_)
 ·have khk := hk
  simp at hk
  refine Wp_seq_region ?_
  refine qA (I6 1) rfl ?_
  refine WpL_nil (Wp_ret (thn_ret ?_))
  refine fin_tmp Try.results43 (v := (.int .i64 1)) rfl ?_
  exact ⟨int_eq (by unfold nodeE; rw [if_pos (by omega)]), E⟩
 ·have khk := hk
  simp at hk
  refine Wp_skip (thn_normal (Wp_seq_region ?_))
  refine qF b1 0 2 rfl Try.underlying27 rfl siz25 rfl ?_
  refine qV (r_load (v := (.slice aa t.args.length ac)) rfl flat25 (B1.cell rfl)) ?_
  refine qV (r_lenSlice (ad := aa) (n := t.args.length) (cap := ac) Try.underlying25 rfl) ?_
  refine qA (I6 (t.args.length : Int)) rfl ?_
  refine WpL_nil (Wp_seq (Wp_seq_region ?_))
  refine qM (I6 (t.args.length : Int)) rfl ?_
  refine qF b1 0 0 rfl Try.underlying27 rfl siz3 rfl ?_
  refine qV (r_load (v := (I6 t.kind)) rfl flat3 (B1.cell rfl)) ?_
  refine WpL_enter rfl rfl (by decide) (r_callF (vs := [(I6 t.kind)]) Try.func62 nm62 bd62 rfl) (need_c t.kind (by omega) (by omega) _) ?_
  rintro _ w1 ⟨rfl, X1⟩
  replace B1 := X1.keep B1
  replace E := E.ext X1
  refine qV (r_lss (k := .i64) (a := (t.args.length : Int)) (b := needF t.kind) rfl rfl) ?_
  refine qM (.bool (decide (((t.args.length : Int) : Int) < needF t.kind))) rfl ?_
  rcases Bool.eq_false_or_eq_true (decide ((((t.args.length : Nat) : Int) : Int) < needF t.kind)) with hg6 | hg6
  ·have khg6 := hg6
   replace khg6 := of_decide_eq_true khg6
   refine WpL_guard_no (oj := _) rfl rfl (by decide) (v := .bool true) (congrArg Value.bool hg6) (Or.inl rfl) ?_
   refine WpL_guard_no (oj := _) rfl rfl (by decide) (v := .bool true) (congrArg Value.bool hg6) (Or.inl rfl) ?_
   refine WpL_guard_no (oj := _) rfl rfl (by decide) (v := .bool true) (congrArg Value.bool hg6) (Or.inl rfl) ?_
   refine WpL_guard_no (oj := _) rfl rfl (by decide) (v := .bool true) (congrArg Value.bool hg6) (Or.inl rfl) ?_
   refine WpL_guard_no (oj := _) rfl rfl (by decide) (v := .bool true) (congrArg Value.bool hg6) (Or.inl rfl) ?_
   refine WpL_guard_no (oj := _) rfl rfl (by decide) (v := undef) rfl (Or.inr rfl) ?_
   refine WpL_guard_no (oj := _) rfl rfl (by decide) (v := undef) rfl (Or.inr rfl) ?_
   refine WpL_guard_no (oj := _) rfl rfl (by decide) (v := undef) rfl (Or.inr rfl) ?_
   refine WpL_guard_no (oj := _) rfl rfl (by decide) (v := undef) rfl (Or.inr rfl) ?_
   refine WpL_guard_no (oj := _) rfl rfl (by decide) (v := undef) rfl (Or.inr rfl) ?_
   refine WpL_guard_no (oj := _) rfl rfl (by decide) (v := .bool true) (congrArg Value.bool hg6) (Or.inl rfl) ?_
   refine qV (r_pick (b := decide (((t.args.length : Int) : Int) < needF t.kind)) (v := (.bool true)) rfl (by rw [hg6]; rfl)) ?_
   refine WpL_nil ?_
   refine Wp_cond_true rfl ?_
   refine Wp_seq_region ?_
   refine qA (I6 3) rfl ?_
   refine WpL_nil (Wp_ret (thn_ret ?_))
   refine fin_tmp Try.results43 (v := (.int .i64 3)) rfl ?_
   have hff : okB t.kind t.args.length = false := by rw [form_need (by omega) (by omega)]; simp; omega
   exact ⟨int_eq (by unfold nodeE; rw [if_neg (by omega), if_pos (by simp [formB, hff])]), E⟩
  ·have khg6 := hg6
   replace khg6 := of_decide_eq_false khg6
   refine WpL_guard_yes (oj := _) rfl rfl (by decide) (congrArg Value.bool hg6) ?_
   refine qF b1 0 0 rfl Try.underlying27 rfl siz3 rfl ?_
   refine WpL_guard_yes (oj := _) rfl rfl (by decide) (congrArg Value.bool hg6) ?_
   refine qV (r_load (v := (I6 t.kind)) rfl flat3 (B1.cell rfl)) ?_
   refine WpL_guard_yes (oj := _) rfl rfl (by decide) (congrArg Value.bool hg6) ?_
   refine WpL_enter rfl rfl (by decide) (r_callF (vs := [(I6 t.kind)]) Try.func62 nm62 bd62 rfl) (need_c t.kind (by omega) (by omega) _) ?_
   rintro _ w2 ⟨rfl, X2⟩
   replace B1 := X2.keep B1
   replace E := E.ext X2
   refine WpL_guard_yes (oj := _) rfl rfl (by decide) (congrArg Value.bool hg6) ?_
   refine qV (r_lss (k := .i64) (a := needF t.kind) (b := 2) rfl rfl) ?_
   refine WpL_guard_yes (oj := _) rfl rfl (by decide) (congrArg Value.bool hg6) ?_
   refine qM (.bool (decide ((needF t.kind : Int) < 2))) rfl ?_
   rcases Bool.eq_false_or_eq_true (decide ((needF t.kind : Int) < 2)) with hg7 | hg7
   ·have khg7 := hg7
    replace khg7 := of_decide_eq_true khg7
    refine WpL_guard_yes (oj := _) rfl rfl (by decide) (congrArg Value.bool hg7) ?_
    refine qM (I6 (t.args.length : Int)) rfl ?_
    refine WpL_guard_yes (oj := _) rfl rfl (by decide) (congrArg Value.bool hg7) ?_
    refine qF b1 0 0 rfl Try.underlying27 rfl siz3 rfl ?_
    refine WpL_guard_yes (oj := _) rfl rfl (by decide) (congrArg Value.bool hg7) ?_
    refine qV (r_load (v := (I6 t.kind)) rfl flat3 (B1.cell rfl)) ?_
    refine WpL_guard_yes (oj := _) rfl rfl (by decide) (congrArg Value.bool hg7) ?_
    refine WpL_enter rfl rfl (by decide) (r_callF (vs := [(I6 t.kind)]) Try.func62 nm62 bd62 rfl) (need_c t.kind (by omega) (by omega) _) ?_
    rintro _ w3 ⟨rfl, X3⟩
    replace B1 := X3.keep B1
    replace E := E.ext X3
    refine WpL_guard_yes (oj := _) rfl rfl (by decide) (congrArg Value.bool hg7) ?_
    refine qV (r_gtr (k := .i64) (a := (t.args.length : Int)) (b := needF t.kind) rfl rfl) ?_
    refine WpL_guard_yes (oj := _) rfl rfl (by decide) (congrArg Value.bool hg6) ?_
    refine qV (r_pick (b := decide ((needF t.kind : Int) < 2)) (v := (.bool (decide ((needF t.kind : Int) < (t.args.length : Int))))) rfl (by rw [hg7]; rfl)) ?_
    refine qV (r_pick (b := decide (((t.args.length : Int) : Int) < needF t.kind)) (v := (.bool (decide ((needF t.kind : Int) < (t.args.length : Int))))) rfl (by rw [hg6]; rfl)) ?_
    refine WpL_nil ?_
    refine Wp_cond (b := decide ((needF t.kind : Int) < (t.args.length : Int))) rfl (fun hn => ?_) (fun hn => ?_)
    ·have khn := hn
     replace hn := of_decide_eq_true hn
     refine Wp_seq_region ?_
     refine qA (I6 3) rfl ?_
     refine WpL_nil (Wp_ret (thn_ret ?_))
     refine fin_tmp Try.results43 (v := (.int .i64 3)) rfl ?_
     have hff : okB t.kind t.args.length = false := by rw [form_need (by omega) (by omega)]; simp; omega
     exact ⟨int_eq (by unfold nodeE; rw [if_neg (by omega), if_pos (by simp [formB, hff])]), E⟩
    ·have khn := hn
     replace hn := of_decide_eq_false hn
     have hoB : okB t.kind t.args.length = true := by rw [form_need (by omega) (by omega)]; simp; omega
     refine Wp_skip (thn_normal (Wp_seq (Wp_seq_region ?_)))
     refine qF b1 0 0 rfl Try.underlying27 rfl siz3 rfl ?_
     refine qV (r_load (v := (I6 t.kind)) rfl flat3 (B1.cell rfl)) ?_
     obtain ⟨e9, he9⟩ : ∃ e, (decide ((t.kind : Int) ≠ 2)) = e := ⟨_, rfl⟩
     refine qV ((r_neq (k := .i64) (a := t.kind) (b := 2) rfl rfl).trans (by rw [he9]; try rfl)) ?_
     refine qM (.bool e9) rfl ?_
     refine qG (.bool e9) (yU e9 (P6 b1 1)) (by cases e9 <;> first | exact gA | exact gB | exact .inl ⟨rfl, r_fieldAddr (b := b1) (o := 0) (o' := 1) rfl Try.underlying27 rfl siz24 rfl⟩) ?_
     refine qG (.bool e9) (yU e9 (.slice sa t.set.length sc)) (by cases e9 <;> first | exact gA | exact gB | exact .inl ⟨rfl, r_load (v := (.slice sa t.set.length sc)) rfl flat24 (B1.cell rfl)⟩) ?_
     refine qG (.bool e9) (yU e9 (I6 (t.set.length : Int))) (by cases e9 <;> first | exact gA | exact gB | exact .inl ⟨rfl, r_lenSlice (ad := sa) (n := t.set.length) (cap := sc) Try.underlying24 rfl⟩) ?_
     obtain ⟨e10, he10⟩ : ∃ e, (decide ((0 : Int) < ((t.set.length : Nat) : Int))) = e := ⟨_, rfl⟩
     refine qG (.bool e9) (yU e9 (.bool e10)) (by cases e9 <;> first | exact gA | exact gB | exact .inl ⟨rfl, (r_gtr (k := .i64) (a := (t.set.length : Int)) (b := 0) rfl rfl).trans (by rw [he10]; try rfl)⟩) ?_
     obtain ⟨e11, he11⟩ : ∃ e, (e9 && e10) = e := ⟨_, rfl⟩
     refine qV (r_pick (b := e9) (v := .bool e11) rfl (by rw [← he11]; cases e9 <;> rfl)) ?_
     refine qM (.bool e11) rfl ?_
     refine qG (.bool e11) (nU e11 (P6 b1 0)) (by cases e11 <;> first | exact gA | exact gB | exact .inl ⟨rfl, r_fieldAddr (b := b1) (o := 0) (o' := 0) rfl Try.underlying27 rfl siz3 rfl⟩) ?_
     refine qG (.bool e11) (nU e11 (I6 t.kind)) (by cases e11 <;> first | exact gA | exact gB | exact .inl ⟨rfl, r_load (v := (I6 t.kind)) rfl flat3 (B1.cell rfl)⟩) ?_
     obtain ⟨e12, he12⟩ : ∃ e, (decide ((t.kind : Int) ≠ 6)) = e := ⟨_, rfl⟩
     refine qG (.bool e11) (nU e11 (.bool e12)) (by cases e11 <;> first | exact gA | exact gB | exact .inl ⟨rfl, (r_neq (k := .i64) (a := t.kind) (b := 6) rfl rfl).trans (by rw [he12]; try rfl)⟩) ?_
     refine qG (.bool e11) (nU e11 (.bool e12)) (by cases e11 <;> first | exact gA | exact gB | exact .inl ⟨rfl, r_move (v := (.bool e12)) rfl⟩) ?_
     refine qG (nU e11 (.bool e12)) (nU e11 (yU e12 (P6 b1 4))) (by cases e11 <;> cases e12 <;> first | exact gA | exact gB | exact .inl ⟨rfl, r_fieldAddr (b := b1) (o := 0) (o' := 4) rfl Try.underlying27 rfl siz3 rfl⟩) ?_
     refine qG (nU e11 (.bool e12)) (nU e11 (yU e12 (I6 t.mx))) (by cases e11 <;> cases e12 <;> first | exact gA | exact gB | exact .inl ⟨rfl, r_load (v := (I6 t.mx)) rfl flat3 (B1.cell rfl)⟩) ?_
     obtain ⟨e13, he13⟩ : ∃ e, (decide ((t.mx : Int) ≠ 0)) = e := ⟨_, rfl⟩
     refine qG (nU e11 (.bool e12)) (nU e11 (yU e12 (.bool e13))) (by cases e11 <;> cases e12 <;> first | exact gA | exact gB | exact .inl ⟨rfl, (r_neq (k := .i64) (a := t.mx) (b := 0) rfl rfl).trans (by rw [he13]; try rfl)⟩) ?_
     obtain ⟨e14, he14⟩ : ∃ e, (e12 && e13) = e := ⟨_, rfl⟩
     refine qG (.bool e11) (nU e11 (.bool e14)) (by cases e11 <;> first | exact gA | exact gB | exact .inl ⟨rfl, r_pick (b := e12) (v := .bool e14) rfl (by rw [← he14]; cases e12 <;> rfl)⟩) ?_
     obtain ⟨e15, he15⟩ : ∃ e, (e11 || e14) = e := ⟨_, rfl⟩
     refine qV (r_pick (b := e11) (v := .bool e15) rfl (by rw [← he15]; cases e11 <;> rfl)) ?_
     refine qM (.bool e15) rfl ?_
     refine qG (.bool e15) (nU e15 (P6 b1 0)) (by cases e15 <;> first | exact gA | exact gB | exact .inl ⟨rfl, r_fieldAddr (b := b1) (o := 0) (o' := 0) rfl Try.underlying27 rfl siz3 rfl⟩) ?_
     refine qG (.bool e15) (nU e15 (I6 t.kind)) (by cases e15 <;> first | exact gA | exact gB | exact .inl ⟨rfl, r_load (v := (I6 t.kind)) rfl flat3 (B1.cell rfl)⟩) ?_
     obtain ⟨e16, he16⟩ : ∃ e, (decide ((t.kind : Int) ≠ 6)) = e := ⟨_, rfl⟩
     refine qG (.bool e15) (nU e15 (.bool e16)) (by cases e15 <;> first | exact gA | exact gB | exact .inl ⟨rfl, (r_neq (k := .i64) (a := t.kind) (b := 6) rfl rfl).trans (by rw [he16]; try rfl)⟩) ?_
     refine qG (.bool e15) (nU e15 (.bool e16)) (by cases e15 <;> first | exact gA | exact gB | exact .inl ⟨rfl, r_move (v := (.bool e16)) rfl⟩) ?_
     refine qG (nU e15 (.bool e16)) (nU e15 (yU e16 (P6 b1 0))) (by cases e15 <;> cases e16 <;> first | exact gA | exact gB | exact .inl ⟨rfl, r_fieldAddr (b := b1) (o := 0) (o' := 0) rfl Try.underlying27 rfl siz3 rfl⟩) ?_
     refine qG (nU e15 (.bool e16)) (nU e15 (yU e16 (I6 t.kind))) (by cases e15 <;> cases e16 <;> first | exact gA | exact gB | exact .inl ⟨rfl, r_load (v := (I6 t.kind)) rfl flat3 (B1.cell rfl)⟩) ?_
     obtain ⟨e17, he17⟩ : ∃ e, (decide ((t.kind : Int) ≠ 9)) = e := ⟨_, rfl⟩
     refine qG (nU e15 (.bool e16)) (nU e15 (yU e16 (.bool e17))) (by cases e15 <;> cases e16 <;> first | exact gA | exact gB | exact .inl ⟨rfl, (r_neq (k := .i64) (a := t.kind) (b := 9) rfl rfl).trans (by rw [he17]; try rfl)⟩) ?_
     obtain ⟨e18, he18⟩ : ∃ e, (e16 && e17) = e := ⟨_, rfl⟩
     refine qG (.bool e15) (nU e15 (.bool e18)) (by cases e15 <;> first | exact gA | exact gB | exact .inl ⟨rfl, r_pick (b := e16) (v := .bool e18) rfl (by rw [← he18]; cases e16 <;> rfl)⟩) ?_
     refine qG (.bool e15) (nU e15 (.bool e18)) (by cases e15 <;> first | exact gA | exact gB | exact .inl ⟨rfl, r_move (v := (.bool e18)) rfl⟩) ?_
     refine qG (nU e15 (.bool e18)) (nU e15 (yU e18 (P6 b1 3))) (by cases e15 <;> cases e18 <;> first | exact gA | exact gB | exact .inl ⟨rfl, r_fieldAddr (b := b1) (o := 0) (o' := 3) rfl Try.underlying27 rfl siz3 rfl⟩) ?_
     refine qG (nU e15 (.bool e18)) (nU e15 (yU e18 (I6 t.mn))) (by cases e15 <;> cases e18 <;> first | exact gA | exact gB | exact .inl ⟨rfl, r_load (v := (I6 t.mn)) rfl flat3 (B1.cell rfl)⟩) ?_
     obtain ⟨e19, he19⟩ : ∃ e, (decide ((t.mn : Int) ≠ 0)) = e := ⟨_, rfl⟩
     refine qG (nU e15 (.bool e18)) (nU e15 (yU e18 (.bool e19))) (by cases e15 <;> cases e18 <;> first | exact gA | exact gB | exact .inl ⟨rfl, (r_neq (k := .i64) (a := t.mn) (b := 0) rfl rfl).trans (by rw [he19]; try rfl)⟩) ?_
     obtain ⟨e20, he20⟩ : ∃ e, (e18 && e19) = e := ⟨_, rfl⟩
     refine qG (.bool e15) (nU e15 (.bool e20)) (by cases e15 <;> first | exact gA | exact gB | exact .inl ⟨rfl, r_pick (b := e18) (v := .bool e20) rfl (by rw [← he20]; cases e18 <;> rfl)⟩) ?_
     obtain ⟨e21, he21⟩ : ∃ e, (e15 || e20) = e := ⟨_, rfl⟩
     refine qV (r_pick (b := e15) (v := .bool e21) rfl (by rw [← he21]; cases e15 <;> rfl)) ?_
     refine qM (.bool e21) rfl ?_
     refine qG (.bool e21) (nU e21 (P6 b1 0)) (by cases e21 <;> first | exact gA | exact gB | exact .inl ⟨rfl, r_fieldAddr (b := b1) (o := 0) (o' := 0) rfl Try.underlying27 rfl siz3 rfl⟩) ?_
     refine qG (.bool e21) (nU e21 (I6 t.kind)) (by cases e21 <;> first | exact gA | exact gB | exact .inl ⟨rfl, r_load (v := (I6 t.kind)) rfl flat3 (B1.cell rfl)⟩) ?_
     obtain ⟨e22, he22⟩ : ∃ e, (decide ((t.kind : Int) ≠ 10)) = e := ⟨_, rfl⟩
     refine qG (.bool e21) (nU e21 (.bool e22)) (by cases e21 <;> first | exact gA | exact gB | exact .inl ⟨rfl, (r_neq (k := .i64) (a := t.kind) (b := 10) rfl rfl).trans (by rw [he22]; try rfl)⟩) ?_
     refine qG (.bool e21) (nU e21 (.bool e22)) (by cases e21 <;> first | exact gA | exact gB | exact .inl ⟨rfl, r_move (v := (.bool e22)) rfl⟩) ?_
     refine qG (nU e21 (.bool e22)) (nU e21 (yU e22 (P6 b1 5))) (by cases e21 <;> cases e22 <;> first | exact gA | exact gB | exact .inl ⟨rfl, r_fieldAddr (b := b1) (o := 0) (o' := 5) rfl Try.underlying27 rfl siz4 rfl⟩) ?_
     refine qG (nU e21 (.bool e22)) (nU e21 (yU e22 (.bool t.neg))) (by cases e21 <;> cases e22 <;> first | exact gA | exact gB | exact .inl ⟨rfl, r_load (v := (.bool t.neg)) rfl flat4 (B1.cell rfl)⟩) ?_
     obtain ⟨e23, he23⟩ : ∃ e, (e22 && t.neg) = e := ⟨_, rfl⟩
     refine qG (.bool e21) (nU e21 (.bool e23)) (by cases e21 <;> first | exact gA | exact gB | exact .inl ⟨rfl, r_pick (b := e22) (v := .bool e23) rfl (by rw [← he23]; cases e22 <;> rfl)⟩) ?_
     obtain ⟨e24, he24⟩ : ∃ e, (e21 || e23) = e := ⟨_, rfl⟩
     refine qV (r_pick (b := e21) (v := .bool e24) rfl (by rw [← he24]; cases e21 <;> rfl)) ?_
     refine WpL_nil ?_
     subst he24
     subst he23
     subst he22
     subst he21
     subst he20
     subst he19
     subst he18
     subst he17
     subst he16
     subst he15
     subst he14
     subst he13
     subst he12
     subst he11
     subst he10
     subst he9
     refine Wp_cond (b := (((((decide ((t.kind : Int) ≠ 2)) && (decide ((0 : Int) < (t.set.length : Int)))) || ((decide ((t.kind : Int) ≠ 6)) && (decide ((t.mx : Int) ≠ 0)))) || (((decide ((t.kind : Int) ≠ 6)) && (decide ((t.kind : Int) ≠ 9))) && (decide ((t.mn : Int) ≠ 0)))) || ((decide ((t.kind : Int) ≠ 10)) && t.neg))) rfl (fun hf => ?_) (fun hf => ?_)
     ·have khf := hf
      have hfB : formB t = false := by rw [← Bool.not_eq_true]; intro h; unfold formB at h; generalize t.set.length = sl at h hf; cases hng : t.neg <;> simp [hng] at h hf <;> omega
      refine Wp_seq_region ?_
      refine qA (I6 3) rfl ?_
      refine WpL_nil (Wp_ret (thn_ret ?_))
      refine fin_tmp Try.results43 (v := (.int .i64 3)) rfl ?_
      exact ⟨int_eq (by unfold nodeE; rw [if_neg (by omega), if_pos hfB]), E⟩
     ·have khf := hf
      have hfB : formB t = true := by unfold formB; rw [hoB]; generalize t.set.length = sl at hf; cases hng : t.neg <;> simp [hng] at hf ⊢ <;> omega
      have hN : nodeE t = if t.kind = 2 then (if checkE t.set ≠ 0 then checkE t.set else if (t.set.length : Int) = 0 then 3 else 0) else if t.kind = 6 then (if t.mn < 0 ∨ t.mx < t.mn ∨ 8 < t.mx then 1 else 0) else if t.kind = 9 then (if t.mn < 0 ∨ 9 < t.mn then 1 else 0) else 0 := by unfold nodeE; rw [if_neg (by omega), if_neg (by simp [hfB])]
      rw [hN]
      refine Wp_skip (thn_normal (Wp_seq (Wp_seq_region ?_)))
      refine qF b1 0 0 rfl Try.underlying27 rfl siz3 rfl ?_
      refine qV (r_load (v := (I6 t.kind)) rfl flat3 (B1.cell rfl)) ?_
      refine qV (r_eql (k := .i64) (a := t.kind) (b := 2) rfl rfl) ?_
      refine WpL_nil ?_
      refine Wp_cond (b := decide ((t.kind : Int) = 2)) rfl (fun h2 => ?_) (fun h2 => ?_)
      ·have kh2 := h2
       replace h2 := of_decide_eq_true h2
       rw [if_pos h2]
       refine Wp_seq (Wp_seq_region ?_)
       refine qF b1 0 1 rfl Try.underlying27 rfl siz24 rfl ?_
       refine qV (r_load (v := (.slice sa t.set.length sc)) rfl flat24 (B1.cell rfl)) ?_
       refine WpL_enter rfl rfl (by decide) (r_callF (vs := [(.slice sa t.set.length sc)]) Try.func63 nm63 bd63 rfl) (cset_c _ _ t.set ((hset.ext hE).ext E)) ?_
       rintro _ w10 ⟨rfl, X10⟩
       replace B1 := X10.keep B1
       replace E := E.ext X10
       refine qA (I6 (checkE t.set)) rfl ?_
       refine WpL_nil (Wp_seq_region ?_)
       refine qM (I6 (checkE t.set)) rfl ?_
       refine qV (r_neq (k := .i64) (a := checkE t.set) (b := 0) rfl rfl) ?_
       refine WpL_nil ?_
       refine Wp_cond (b := decide ((checkE t.set : Int) ≠ 0)) rfl (fun h3 => ?_) (fun h3 => ?_)
       ·have kh3 := h3
        replace h3 := of_decide_eq_true h3
        refine Wp_seq_region ?_
        refine qM (I6 (checkE t.set)) rfl ?_
        refine qA (I6 (checkE t.set)) rfl ?_
        refine WpL_nil (Wp_ret (thn_ret (thn_ret ?_)))
        refine fin_tmp Try.results43 (v := (.int .i64 (checkE t.set))) rfl ?_
        exact ⟨int_eq (by rw [if_pos h3]), E⟩
       ·have kh3 := h3
        replace h3 := of_decide_eq_false h3
        rw [if_neg h3]
        refine Wp_skip (thn_normal (Wp_seq_region ?_))
        refine qF b1 0 1 rfl Try.underlying27 rfl siz24 rfl ?_
        refine qV (r_load (v := (.slice sa t.set.length sc)) rfl flat24 (B1.cell rfl)) ?_
        refine qV (r_lenSlice (ad := sa) (n := t.set.length) (cap := sc) Try.underlying24 rfl) ?_
        refine qV (r_eql (k := .i64) (a := (t.set.length : Int)) (b := 0) rfl rfl) ?_
        refine WpL_nil ?_
        refine Wp_cond (b := decide (((t.set.length : Int) : Int) = 0)) rfl (fun h4 => ?_) (fun h4 => ?_)
        ·have kh4 := h4
         replace h4 := of_decide_eq_true h4
         refine Wp_seq_region ?_
         refine qA (I6 3) rfl ?_
         refine WpL_nil (Wp_ret (thn_ret ?_))
         refine fin_tmp Try.results43 (v := (.int .i64 3)) rfl ?_
         exact ⟨int_eq (by rw [if_pos h4]), E⟩
        ·have kh4 := h4
         replace h4 := of_decide_eq_false h4
         rw [if_neg h4]
         refine Wp_skip (thn_normal (Wp_seq (Wp_seq_region ?_)))
         refine qF b1 0 0 rfl Try.underlying27 rfl siz3 rfl ?_
         refine qV (r_load (v := (I6 t.kind)) rfl flat3 (B1.cell rfl)) ?_
         obtain ⟨e29, he29⟩ : ∃ e, (decide ((t.kind : Int) = 6)) = e := ⟨_, rfl⟩
         refine qV ((r_eql (k := .i64) (a := t.kind) (b := 6) rfl rfl).trans (by rw [he29]; try rfl)) ?_
         refine qM (.bool e29) rfl ?_
         refine qG (.bool e29) (yU e29 (P6 b1 3)) (by cases e29 <;> first | exact gA | exact gB | exact .inl ⟨rfl, r_fieldAddr (b := b1) (o := 0) (o' := 3) rfl Try.underlying27 rfl siz3 rfl⟩) ?_
         refine qG (.bool e29) (yU e29 (I6 t.mn)) (by cases e29 <;> first | exact gA | exact gB | exact .inl ⟨rfl, r_load (v := (I6 t.mn)) rfl flat3 (B1.cell rfl)⟩) ?_
         obtain ⟨e30, he30⟩ : ∃ e, (decide ((t.mn : Int) < 0)) = e := ⟨_, rfl⟩
         refine qG (.bool e29) (yU e29 (.bool e30)) (by cases e29 <;> first | exact gA | exact gB | exact .inl ⟨rfl, (r_lss (k := .i64) (a := t.mn) (b := 0) rfl rfl).trans (by rw [he30]; try rfl)⟩) ?_
         refine qG (.bool e29) (yU e29 (.bool e30)) (by cases e29 <;> first | exact gA | exact gB | exact .inl ⟨rfl, r_move (v := (.bool e30)) rfl⟩) ?_
         refine qG (yU e29 (.bool e30)) (yU e29 (nU e30 (P6 b1 4))) (by cases e29 <;> cases e30 <;> first | exact gA | exact gB | exact .inl ⟨rfl, r_fieldAddr (b := b1) (o := 0) (o' := 4) rfl Try.underlying27 rfl siz3 rfl⟩) ?_
         refine qG (yU e29 (.bool e30)) (yU e29 (nU e30 (I6 t.mx))) (by cases e29 <;> cases e30 <;> first | exact gA | exact gB | exact .inl ⟨rfl, r_load (v := (I6 t.mx)) rfl flat3 (B1.cell rfl)⟩) ?_
         obtain ⟨e31, he31⟩ : ∃ e, (decide ((8 : Int) < t.mx)) = e := ⟨_, rfl⟩
         refine qG (yU e29 (.bool e30)) (yU e29 (nU e30 (.bool e31))) (by cases e29 <;> cases e30 <;> first | exact gA | exact gB | exact .inl ⟨rfl, (r_gtr (k := .i64) (a := t.mx) (b := 8) rfl rfl).trans (by rw [he31]; try rfl)⟩) ?_
         obtain ⟨e32, he32⟩ : ∃ e, (e30 || e31) = e := ⟨_, rfl⟩
         refine qG (.bool e29) (yU e29 (.bool e32)) (by cases e29 <;> first | exact gA | exact gB | exact .inl ⟨rfl, r_pick (b := e30) (v := .bool e32) rfl (by rw [← he32]; cases e30 <;> rfl)⟩) ?_
         refine qG (.bool e29) (yU e29 (.bool e32)) (by cases e29 <;> first | exact gA | exact gB | exact .inl ⟨rfl, r_move (v := (.bool e32)) rfl⟩) ?_
         refine qG (yU e29 (.bool e32)) (yU e29 (nU e32 (P6 b1 3))) (by cases e29 <;> cases e32 <;> first | exact gA | exact gB | exact .inl ⟨rfl, r_fieldAddr (b := b1) (o := 0) (o' := 3) rfl Try.underlying27 rfl siz3 rfl⟩) ?_
         refine qG (yU e29 (.bool e32)) (yU e29 (nU e32 (I6 t.mn))) (by cases e29 <;> cases e32 <;> first | exact gA | exact gB | exact .inl ⟨rfl, r_load (v := (I6 t.mn)) rfl flat3 (B1.cell rfl)⟩) ?_
         refine qG (yU e29 (.bool e32)) (yU e29 (nU e32 (P6 b1 4))) (by cases e29 <;> cases e32 <;> first | exact gA | exact gB | exact .inl ⟨rfl, r_fieldAddr (b := b1) (o := 0) (o' := 4) rfl Try.underlying27 rfl siz3 rfl⟩) ?_
         refine qG (yU e29 (.bool e32)) (yU e29 (nU e32 (I6 t.mx))) (by cases e29 <;> cases e32 <;> first | exact gA | exact gB | exact .inl ⟨rfl, r_load (v := (I6 t.mx)) rfl flat3 (B1.cell rfl)⟩) ?_
         obtain ⟨e33, he33⟩ : ∃ e, (decide ((t.mx : Int) < t.mn)) = e := ⟨_, rfl⟩
         refine qG (yU e29 (.bool e32)) (yU e29 (nU e32 (.bool e33))) (by cases e29 <;> cases e32 <;> first | exact gA | exact gB | exact .inl ⟨rfl, (r_gtr (k := .i64) (a := t.mn) (b := t.mx) rfl rfl).trans (by rw [he33]; try rfl)⟩) ?_
         obtain ⟨e34, he34⟩ : ∃ e, (e32 || e33) = e := ⟨_, rfl⟩
         refine qG (.bool e29) (yU e29 (.bool e34)) (by cases e29 <;> first | exact gA | exact gB | exact .inl ⟨rfl, r_pick (b := e32) (v := .bool e34) rfl (by rw [← he34]; cases e32 <;> rfl)⟩) ?_
         obtain ⟨e35, he35⟩ : ∃ e, (e29 && e34) = e := ⟨_, rfl⟩
         refine qV (r_pick (b := e29) (v := .bool e35) rfl (by rw [← he35]; cases e29 <;> rfl)) ?_
         refine qM (.bool e35) rfl ?_
         refine qG (.bool e35) (nU e35 (P6 b1 0)) (by cases e35 <;> first | exact gA | exact gB | exact .inl ⟨rfl, r_fieldAddr (b := b1) (o := 0) (o' := 0) rfl Try.underlying27 rfl siz3 rfl⟩) ?_
         refine qG (.bool e35) (nU e35 (I6 t.kind)) (by cases e35 <;> first | exact gA | exact gB | exact .inl ⟨rfl, r_load (v := (I6 t.kind)) rfl flat3 (B1.cell rfl)⟩) ?_
         obtain ⟨e36, he36⟩ : ∃ e, (decide ((t.kind : Int) = 9)) = e := ⟨_, rfl⟩
         refine qG (.bool e35) (nU e35 (.bool e36)) (by cases e35 <;> first | exact gA | exact gB | exact .inl ⟨rfl, (r_eql (k := .i64) (a := t.kind) (b := 9) rfl rfl).trans (by rw [he36]; try rfl)⟩) ?_
         refine qG (.bool e35) (nU e35 (.bool e36)) (by cases e35 <;> first | exact gA | exact gB | exact .inl ⟨rfl, r_move (v := (.bool e36)) rfl⟩) ?_
         refine qG (nU e35 (.bool e36)) (nU e35 (yU e36 (P6 b1 3))) (by cases e35 <;> cases e36 <;> first | exact gA | exact gB | exact .inl ⟨rfl, r_fieldAddr (b := b1) (o := 0) (o' := 3) rfl Try.underlying27 rfl siz3 rfl⟩) ?_
         refine qG (nU e35 (.bool e36)) (nU e35 (yU e36 (I6 t.mn))) (by cases e35 <;> cases e36 <;> first | exact gA | exact gB | exact .inl ⟨rfl, r_load (v := (I6 t.mn)) rfl flat3 (B1.cell rfl)⟩) ?_
         obtain ⟨e37, he37⟩ : ∃ e, (decide ((t.mn : Int) < 0)) = e := ⟨_, rfl⟩
         refine qG (nU e35 (.bool e36)) (nU e35 (yU e36 (.bool e37))) (by cases e35 <;> cases e36 <;> first | exact gA | exact gB | exact .inl ⟨rfl, (r_lss (k := .i64) (a := t.mn) (b := 0) rfl rfl).trans (by rw [he37]; try rfl)⟩) ?_
         refine qG (nU e35 (.bool e36)) (nU e35 (yU e36 (.bool e37))) (by cases e35 <;> cases e36 <;> first | exact gA | exact gB | exact .inl ⟨rfl, r_move (v := (.bool e37)) rfl⟩) ?_
         refine qG (nU e35 (yU e36 (.bool e37))) (nU e35 (yU e36 (nU e37 (P6 b1 3)))) (by cases e35 <;> cases e36 <;> cases e37 <;> first | exact gA | exact gB | exact .inl ⟨rfl, r_fieldAddr (b := b1) (o := 0) (o' := 3) rfl Try.underlying27 rfl siz3 rfl⟩) ?_
         refine qG (nU e35 (yU e36 (.bool e37))) (nU e35 (yU e36 (nU e37 (I6 t.mn)))) (by cases e35 <;> cases e36 <;> cases e37 <;> first | exact gA | exact gB | exact .inl ⟨rfl, r_load (v := (I6 t.mn)) rfl flat3 (B1.cell rfl)⟩) ?_
         obtain ⟨e38, he38⟩ : ∃ e, (decide ((9 : Int) < t.mn)) = e := ⟨_, rfl⟩
         refine qG (nU e35 (yU e36 (.bool e37))) (nU e35 (yU e36 (nU e37 (.bool e38)))) (by cases e35 <;> cases e36 <;> cases e37 <;> first | exact gA | exact gB | exact .inl ⟨rfl, (r_gtr (k := .i64) (a := t.mn) (b := 9) rfl rfl).trans (by rw [he38]; try rfl)⟩) ?_
         obtain ⟨e39, he39⟩ : ∃ e, (e37 || e38) = e := ⟨_, rfl⟩
         refine qG (nU e35 (.bool e36)) (nU e35 (yU e36 (.bool e39))) (by cases e35 <;> cases e36 <;> first | exact gA | exact gB | exact .inl ⟨rfl, r_pick (b := e37) (v := .bool e39) rfl (by rw [← he39]; cases e37 <;> rfl)⟩) ?_
         obtain ⟨e40, he40⟩ : ∃ e, (e36 && e39) = e := ⟨_, rfl⟩
         refine qG (.bool e35) (nU e35 (.bool e40)) (by cases e35 <;> first | exact gA | exact gB | exact .inl ⟨rfl, r_pick (b := e36) (v := .bool e40) rfl (by rw [← he40]; cases e36 <;> rfl)⟩) ?_
         obtain ⟨e41, he41⟩ : ∃ e, (e35 || e40) = e := ⟨_, rfl⟩
         refine qV (r_pick (b := e35) (v := .bool e41) rfl (by rw [← he41]; cases e35 <;> rfl)) ?_
         refine WpL_nil ?_
         subst he41
         subst he40
         subst he39
         subst he38
         subst he37
         subst he36
         subst he35
         subst he34
         subst he33
         subst he32
         subst he31
         subst he30
         subst he29
         have hc42 : ((((decide ((t.kind : Int) = 6)) && (((decide ((t.mn : Int) < 0)) || (decide ((8 : Int) < t.mx))) || (decide ((t.mx : Int) < t.mn)))) || ((decide ((t.kind : Int) = 9)) && ((decide ((t.mn : Int) < 0)) || (decide ((9 : Int) < t.mn)))))) = false := by simp [h2]
         refine Wp_cond_false (congrArg Value.bool hc42) ?_
         refine Wp_skip (thn_normal (Wp_seq_region ?_))
         refine qA (I6 0) rfl ?_
         refine WpL_nil (Wp_ret ?_)
         refine fin_tmp Try.results43 (v := (.int .i64 0)) rfl ?_
         exact ⟨rfl, E⟩
      ·have kh2 := h2
       replace h2 := of_decide_eq_false h2
       rw [if_neg h2]
       refine Wp_skip (thn_normal (Wp_seq (Wp_seq_region ?_)))
       refine qF b1 0 0 rfl Try.underlying27 rfl siz3 rfl ?_
       refine qV (r_load (v := (I6 t.kind)) rfl flat3 (B1.cell rfl)) ?_
       obtain ⟨e43, he43⟩ : ∃ e, (decide ((t.kind : Int) = 6)) = e := ⟨_, rfl⟩
       refine qV ((r_eql (k := .i64) (a := t.kind) (b := 6) rfl rfl).trans (by rw [he43]; try rfl)) ?_
       refine qM (.bool e43) rfl ?_
       refine qG (.bool e43) (yU e43 (P6 b1 3)) (by cases e43 <;> first | exact gA | exact gB | exact .inl ⟨rfl, r_fieldAddr (b := b1) (o := 0) (o' := 3) rfl Try.underlying27 rfl siz3 rfl⟩) ?_
       refine qG (.bool e43) (yU e43 (I6 t.mn)) (by cases e43 <;> first | exact gA | exact gB | exact .inl ⟨rfl, r_load (v := (I6 t.mn)) rfl flat3 (B1.cell rfl)⟩) ?_
       obtain ⟨e44, he44⟩ : ∃ e, (decide ((t.mn : Int) < 0)) = e := ⟨_, rfl⟩
       refine qG (.bool e43) (yU e43 (.bool e44)) (by cases e43 <;> first | exact gA | exact gB | exact .inl ⟨rfl, (r_lss (k := .i64) (a := t.mn) (b := 0) rfl rfl).trans (by rw [he44]; try rfl)⟩) ?_
       refine qG (.bool e43) (yU e43 (.bool e44)) (by cases e43 <;> first | exact gA | exact gB | exact .inl ⟨rfl, r_move (v := (.bool e44)) rfl⟩) ?_
       refine qG (yU e43 (.bool e44)) (yU e43 (nU e44 (P6 b1 4))) (by cases e43 <;> cases e44 <;> first | exact gA | exact gB | exact .inl ⟨rfl, r_fieldAddr (b := b1) (o := 0) (o' := 4) rfl Try.underlying27 rfl siz3 rfl⟩) ?_
       refine qG (yU e43 (.bool e44)) (yU e43 (nU e44 (I6 t.mx))) (by cases e43 <;> cases e44 <;> first | exact gA | exact gB | exact .inl ⟨rfl, r_load (v := (I6 t.mx)) rfl flat3 (B1.cell rfl)⟩) ?_
       obtain ⟨e45, he45⟩ : ∃ e, (decide ((8 : Int) < t.mx)) = e := ⟨_, rfl⟩
       refine qG (yU e43 (.bool e44)) (yU e43 (nU e44 (.bool e45))) (by cases e43 <;> cases e44 <;> first | exact gA | exact gB | exact .inl ⟨rfl, (r_gtr (k := .i64) (a := t.mx) (b := 8) rfl rfl).trans (by rw [he45]; try rfl)⟩) ?_
       obtain ⟨e46, he46⟩ : ∃ e, (e44 || e45) = e := ⟨_, rfl⟩
       refine qG (.bool e43) (yU e43 (.bool e46)) (by cases e43 <;> first | exact gA | exact gB | exact .inl ⟨rfl, r_pick (b := e44) (v := .bool e46) rfl (by rw [← he46]; cases e44 <;> rfl)⟩) ?_
       refine qG (.bool e43) (yU e43 (.bool e46)) (by cases e43 <;> first | exact gA | exact gB | exact .inl ⟨rfl, r_move (v := (.bool e46)) rfl⟩) ?_
       refine qG (yU e43 (.bool e46)) (yU e43 (nU e46 (P6 b1 3))) (by cases e43 <;> cases e46 <;> first | exact gA | exact gB | exact .inl ⟨rfl, r_fieldAddr (b := b1) (o := 0) (o' := 3) rfl Try.underlying27 rfl siz3 rfl⟩) ?_
       refine qG (yU e43 (.bool e46)) (yU e43 (nU e46 (I6 t.mn))) (by cases e43 <;> cases e46 <;> first | exact gA | exact gB | exact .inl ⟨rfl, r_load (v := (I6 t.mn)) rfl flat3 (B1.cell rfl)⟩) ?_
       refine qG (yU e43 (.bool e46)) (yU e43 (nU e46 (P6 b1 4))) (by cases e43 <;> cases e46 <;> first | exact gA | exact gB | exact .inl ⟨rfl, r_fieldAddr (b := b1) (o := 0) (o' := 4) rfl Try.underlying27 rfl siz3 rfl⟩) ?_
       refine qG (yU e43 (.bool e46)) (yU e43 (nU e46 (I6 t.mx))) (by cases e43 <;> cases e46 <;> first | exact gA | exact gB | exact .inl ⟨rfl, r_load (v := (I6 t.mx)) rfl flat3 (B1.cell rfl)⟩) ?_
       obtain ⟨e47, he47⟩ : ∃ e, (decide ((t.mx : Int) < t.mn)) = e := ⟨_, rfl⟩
       refine qG (yU e43 (.bool e46)) (yU e43 (nU e46 (.bool e47))) (by cases e43 <;> cases e46 <;> first | exact gA | exact gB | exact .inl ⟨rfl, (r_gtr (k := .i64) (a := t.mn) (b := t.mx) rfl rfl).trans (by rw [he47]; try rfl)⟩) ?_
       obtain ⟨e48, he48⟩ : ∃ e, (e46 || e47) = e := ⟨_, rfl⟩
       refine qG (.bool e43) (yU e43 (.bool e48)) (by cases e43 <;> first | exact gA | exact gB | exact .inl ⟨rfl, r_pick (b := e46) (v := .bool e48) rfl (by rw [← he48]; cases e46 <;> rfl)⟩) ?_
       obtain ⟨e49, he49⟩ : ∃ e, (e43 && e48) = e := ⟨_, rfl⟩
       refine qV (r_pick (b := e43) (v := .bool e49) rfl (by rw [← he49]; cases e43 <;> rfl)) ?_
       refine qM (.bool e49) rfl ?_
       refine qG (.bool e49) (nU e49 (P6 b1 0)) (by cases e49 <;> first | exact gA | exact gB | exact .inl ⟨rfl, r_fieldAddr (b := b1) (o := 0) (o' := 0) rfl Try.underlying27 rfl siz3 rfl⟩) ?_
       refine qG (.bool e49) (nU e49 (I6 t.kind)) (by cases e49 <;> first | exact gA | exact gB | exact .inl ⟨rfl, r_load (v := (I6 t.kind)) rfl flat3 (B1.cell rfl)⟩) ?_
       obtain ⟨e50, he50⟩ : ∃ e, (decide ((t.kind : Int) = 9)) = e := ⟨_, rfl⟩
       refine qG (.bool e49) (nU e49 (.bool e50)) (by cases e49 <;> first | exact gA | exact gB | exact .inl ⟨rfl, (r_eql (k := .i64) (a := t.kind) (b := 9) rfl rfl).trans (by rw [he50]; try rfl)⟩) ?_
       refine qG (.bool e49) (nU e49 (.bool e50)) (by cases e49 <;> first | exact gA | exact gB | exact .inl ⟨rfl, r_move (v := (.bool e50)) rfl⟩) ?_
       refine qG (nU e49 (.bool e50)) (nU e49 (yU e50 (P6 b1 3))) (by cases e49 <;> cases e50 <;> first | exact gA | exact gB | exact .inl ⟨rfl, r_fieldAddr (b := b1) (o := 0) (o' := 3) rfl Try.underlying27 rfl siz3 rfl⟩) ?_
       refine qG (nU e49 (.bool e50)) (nU e49 (yU e50 (I6 t.mn))) (by cases e49 <;> cases e50 <;> first | exact gA | exact gB | exact .inl ⟨rfl, r_load (v := (I6 t.mn)) rfl flat3 (B1.cell rfl)⟩) ?_
       obtain ⟨e51, he51⟩ : ∃ e, (decide ((t.mn : Int) < 0)) = e := ⟨_, rfl⟩
       refine qG (nU e49 (.bool e50)) (nU e49 (yU e50 (.bool e51))) (by cases e49 <;> cases e50 <;> first | exact gA | exact gB | exact .inl ⟨rfl, (r_lss (k := .i64) (a := t.mn) (b := 0) rfl rfl).trans (by rw [he51]; try rfl)⟩) ?_
       refine qG (nU e49 (.bool e50)) (nU e49 (yU e50 (.bool e51))) (by cases e49 <;> cases e50 <;> first | exact gA | exact gB | exact .inl ⟨rfl, r_move (v := (.bool e51)) rfl⟩) ?_
       refine qG (nU e49 (yU e50 (.bool e51))) (nU e49 (yU e50 (nU e51 (P6 b1 3)))) (by cases e49 <;> cases e50 <;> cases e51 <;> first | exact gA | exact gB | exact .inl ⟨rfl, r_fieldAddr (b := b1) (o := 0) (o' := 3) rfl Try.underlying27 rfl siz3 rfl⟩) ?_
       refine qG (nU e49 (yU e50 (.bool e51))) (nU e49 (yU e50 (nU e51 (I6 t.mn)))) (by cases e49 <;> cases e50 <;> cases e51 <;> first | exact gA | exact gB | exact .inl ⟨rfl, r_load (v := (I6 t.mn)) rfl flat3 (B1.cell rfl)⟩) ?_
       obtain ⟨e52, he52⟩ : ∃ e, (decide ((9 : Int) < t.mn)) = e := ⟨_, rfl⟩
       refine qG (nU e49 (yU e50 (.bool e51))) (nU e49 (yU e50 (nU e51 (.bool e52)))) (by cases e49 <;> cases e50 <;> cases e51 <;> first | exact gA | exact gB | exact .inl ⟨rfl, (r_gtr (k := .i64) (a := t.mn) (b := 9) rfl rfl).trans (by rw [he52]; try rfl)⟩) ?_
       obtain ⟨e53, he53⟩ : ∃ e, (e51 || e52) = e := ⟨_, rfl⟩
       refine qG (nU e49 (.bool e50)) (nU e49 (yU e50 (.bool e53))) (by cases e49 <;> cases e50 <;> first | exact gA | exact gB | exact .inl ⟨rfl, r_pick (b := e51) (v := .bool e53) rfl (by rw [← he53]; cases e51 <;> rfl)⟩) ?_
       obtain ⟨e54, he54⟩ : ∃ e, (e50 && e53) = e := ⟨_, rfl⟩
       refine qG (.bool e49) (nU e49 (.bool e54)) (by cases e49 <;> first | exact gA | exact gB | exact .inl ⟨rfl, r_pick (b := e50) (v := .bool e54) rfl (by rw [← he54]; cases e50 <;> rfl)⟩) ?_
       obtain ⟨e55, he55⟩ : ∃ e, (e49 || e54) = e := ⟨_, rfl⟩
       refine qV (r_pick (b := e49) (v := .bool e55) rfl (by rw [← he55]; cases e49 <;> rfl)) ?_
       refine WpL_nil ?_
       subst he55
       subst he54
       subst he53
       subst he52
       subst he51
       subst he50
       subst he49
       subst he48
       subst he47
       subst he46
       subst he45
       subst he44
       subst he43
       refine Wp_cond (b := (((decide ((t.kind : Int) = 6)) && (((decide ((t.mn : Int) < 0)) || (decide ((8 : Int) < t.mx))) || (decide ((t.mx : Int) < t.mn)))) || ((decide ((t.kind : Int) = 9)) && ((decide ((t.mn : Int) < 0)) || (decide ((9 : Int) < t.mn)))))) rfl (fun h6 => ?_) (fun h6 => ?_)
       ·have kh6 := h6
        simp at h6
        refine Wp_seq_region ?_
        refine qA (I6 1) rfl ?_
        refine WpL_nil (Wp_ret (thn_ret ?_))
        refine fin_tmp Try.results43 (v := (.int .i64 1)) rfl ?_
        exact ⟨int_eq (by by_cases h66 : t.kind = 6; rw [if_pos h66, if_pos (by omega)]; rw [if_neg h66, if_pos (by omega), if_pos (by omega)]), E⟩
       ·have kh6 := h6
        simp at h6
        refine Wp_skip (thn_normal (Wp_seq_region ?_))
        refine qA (I6 0) rfl ?_
        refine WpL_nil (Wp_ret ?_)
        refine fin_tmp Try.results43 (v := (.int .i64 0)) rfl ?_
        exact ⟨int_eq (by by_cases h66 : t.kind = 6; rw [if_pos h66, if_neg (by omega)]; rw [if_neg h66]; by_cases h9 : t.kind = 9; rw [if_pos h9, if_neg (by omega)]; rw [if_neg h9]), E⟩
   ·have khg7 := hg7
    replace khg7 := of_decide_eq_false khg7
    have hoB : okB t.kind t.args.length = true := by rw [form_need (by omega) (by omega)]; simp; omega
    refine WpL_guard_no (oj := _) rfl rfl (by decide) (v := .bool false) (congrArg Value.bool hg7) (Or.inl rfl) ?_
    refine WpL_guard_no (oj := _) rfl rfl (by decide) (v := .bool false) (congrArg Value.bool hg7) (Or.inl rfl) ?_
    refine WpL_guard_no (oj := _) rfl rfl (by decide) (v := .bool false) (congrArg Value.bool hg7) (Or.inl rfl) ?_
    refine WpL_guard_no (oj := _) rfl rfl (by decide) (v := .bool false) (congrArg Value.bool hg7) (Or.inl rfl) ?_
    refine WpL_guard_no (oj := _) rfl rfl (by decide) (v := .bool false) (congrArg Value.bool hg7) (Or.inl rfl) ?_
    refine WpL_guard_yes (oj := _) rfl rfl (by decide) (congrArg Value.bool hg6) ?_
    refine qV (r_pick (b := decide ((needF t.kind : Int) < 2)) (v := (.bool false)) rfl (by rw [hg7]; rfl)) ?_
    refine qV (r_pick (b := decide (((t.args.length : Int) : Int) < needF t.kind)) (v := (.bool false)) rfl (by rw [hg6]; rfl)) ?_
    refine WpL_nil ?_
    refine Wp_cond_false rfl ?_
    refine Wp_skip (thn_normal (Wp_seq (Wp_seq_region ?_)))
    refine qF b1 0 0 rfl Try.underlying27 rfl siz3 rfl ?_
    refine qV (r_load (v := (I6 t.kind)) rfl flat3 (B1.cell rfl)) ?_
    obtain ⟨e57, he57⟩ : ∃ e, (decide ((t.kind : Int) ≠ 2)) = e := ⟨_, rfl⟩
    refine qV ((r_neq (k := .i64) (a := t.kind) (b := 2) rfl rfl).trans (by rw [he57]; try rfl)) ?_
    refine qM (.bool e57) rfl ?_
    refine qG (.bool e57) (yU e57 (P6 b1 1)) (by cases e57 <;> first | exact gA | exact gB | exact .inl ⟨rfl, r_fieldAddr (b := b1) (o := 0) (o' := 1) rfl Try.underlying27 rfl siz24 rfl⟩) ?_
    refine qG (.bool e57) (yU e57 (.slice sa t.set.length sc)) (by cases e57 <;> first | exact gA | exact gB | exact .inl ⟨rfl, r_load (v := (.slice sa t.set.length sc)) rfl flat24 (B1.cell rfl)⟩) ?_
    refine qG (.bool e57) (yU e57 (I6 (t.set.length : Int))) (by cases e57 <;> first | exact gA | exact gB | exact .inl ⟨rfl, r_lenSlice (ad := sa) (n := t.set.length) (cap := sc) Try.underlying24 rfl⟩) ?_
    obtain ⟨e58, he58⟩ : ∃ e, (decide ((0 : Int) < ((t.set.length : Nat) : Int))) = e := ⟨_, rfl⟩
    refine qG (.bool e57) (yU e57 (.bool e58)) (by cases e57 <;> first | exact gA | exact gB | exact .inl ⟨rfl, (r_gtr (k := .i64) (a := (t.set.length : Int)) (b := 0) rfl rfl).trans (by rw [he58]; try rfl)⟩) ?_
    obtain ⟨e59, he59⟩ : ∃ e, (e57 && e58) = e := ⟨_, rfl⟩
    refine qV (r_pick (b := e57) (v := .bool e59) rfl (by rw [← he59]; cases e57 <;> rfl)) ?_
    refine qM (.bool e59) rfl ?_
    refine qG (.bool e59) (nU e59 (P6 b1 0)) (by cases e59 <;> first | exact gA | exact gB | exact .inl ⟨rfl, r_fieldAddr (b := b1) (o := 0) (o' := 0) rfl Try.underlying27 rfl siz3 rfl⟩) ?_
    refine qG (.bool e59) (nU e59 (I6 t.kind)) (by cases e59 <;> first | exact gA | exact gB | exact .inl ⟨rfl, r_load (v := (I6 t.kind)) rfl flat3 (B1.cell rfl)⟩) ?_
    obtain ⟨e60, he60⟩ : ∃ e, (decide ((t.kind : Int) ≠ 6)) = e := ⟨_, rfl⟩
    refine qG (.bool e59) (nU e59 (.bool e60)) (by cases e59 <;> first | exact gA | exact gB | exact .inl ⟨rfl, (r_neq (k := .i64) (a := t.kind) (b := 6) rfl rfl).trans (by rw [he60]; try rfl)⟩) ?_
    refine qG (.bool e59) (nU e59 (.bool e60)) (by cases e59 <;> first | exact gA | exact gB | exact .inl ⟨rfl, r_move (v := (.bool e60)) rfl⟩) ?_
    refine qG (nU e59 (.bool e60)) (nU e59 (yU e60 (P6 b1 4))) (by cases e59 <;> cases e60 <;> first | exact gA | exact gB | exact .inl ⟨rfl, r_fieldAddr (b := b1) (o := 0) (o' := 4) rfl Try.underlying27 rfl siz3 rfl⟩) ?_
    refine qG (nU e59 (.bool e60)) (nU e59 (yU e60 (I6 t.mx))) (by cases e59 <;> cases e60 <;> first | exact gA | exact gB | exact .inl ⟨rfl, r_load (v := (I6 t.mx)) rfl flat3 (B1.cell rfl)⟩) ?_
    obtain ⟨e61, he61⟩ : ∃ e, (decide ((t.mx : Int) ≠ 0)) = e := ⟨_, rfl⟩
    refine qG (nU e59 (.bool e60)) (nU e59 (yU e60 (.bool e61))) (by cases e59 <;> cases e60 <;> first | exact gA | exact gB | exact .inl ⟨rfl, (r_neq (k := .i64) (a := t.mx) (b := 0) rfl rfl).trans (by rw [he61]; try rfl)⟩) ?_
    obtain ⟨e62, he62⟩ : ∃ e, (e60 && e61) = e := ⟨_, rfl⟩
    refine qG (.bool e59) (nU e59 (.bool e62)) (by cases e59 <;> first | exact gA | exact gB | exact .inl ⟨rfl, r_pick (b := e60) (v := .bool e62) rfl (by rw [← he62]; cases e60 <;> rfl)⟩) ?_
    obtain ⟨e63, he63⟩ : ∃ e, (e59 || e62) = e := ⟨_, rfl⟩
    refine qV (r_pick (b := e59) (v := .bool e63) rfl (by rw [← he63]; cases e59 <;> rfl)) ?_
    refine qM (.bool e63) rfl ?_
    refine qG (.bool e63) (nU e63 (P6 b1 0)) (by cases e63 <;> first | exact gA | exact gB | exact .inl ⟨rfl, r_fieldAddr (b := b1) (o := 0) (o' := 0) rfl Try.underlying27 rfl siz3 rfl⟩) ?_
    refine qG (.bool e63) (nU e63 (I6 t.kind)) (by cases e63 <;> first | exact gA | exact gB | exact .inl ⟨rfl, r_load (v := (I6 t.kind)) rfl flat3 (B1.cell rfl)⟩) ?_
    obtain ⟨e64, he64⟩ : ∃ e, (decide ((t.kind : Int) ≠ 6)) = e := ⟨_, rfl⟩
    refine qG (.bool e63) (nU e63 (.bool e64)) (by cases e63 <;> first | exact gA | exact gB | exact .inl ⟨rfl, (r_neq (k := .i64) (a := t.kind) (b := 6) rfl rfl).trans (by rw [he64]; try rfl)⟩) ?_
    refine qG (.bool e63) (nU e63 (.bool e64)) (by cases e63 <;> first | exact gA | exact gB | exact .inl ⟨rfl, r_move (v := (.bool e64)) rfl⟩) ?_
    refine qG (nU e63 (.bool e64)) (nU e63 (yU e64 (P6 b1 0))) (by cases e63 <;> cases e64 <;> first | exact gA | exact gB | exact .inl ⟨rfl, r_fieldAddr (b := b1) (o := 0) (o' := 0) rfl Try.underlying27 rfl siz3 rfl⟩) ?_
    refine qG (nU e63 (.bool e64)) (nU e63 (yU e64 (I6 t.kind))) (by cases e63 <;> cases e64 <;> first | exact gA | exact gB | exact .inl ⟨rfl, r_load (v := (I6 t.kind)) rfl flat3 (B1.cell rfl)⟩) ?_
    obtain ⟨e65, he65⟩ : ∃ e, (decide ((t.kind : Int) ≠ 9)) = e := ⟨_, rfl⟩
    refine qG (nU e63 (.bool e64)) (nU e63 (yU e64 (.bool e65))) (by cases e63 <;> cases e64 <;> first | exact gA | exact gB | exact .inl ⟨rfl, (r_neq (k := .i64) (a := t.kind) (b := 9) rfl rfl).trans (by rw [he65]; try rfl)⟩) ?_
    obtain ⟨e66, he66⟩ : ∃ e, (e64 && e65) = e := ⟨_, rfl⟩
    refine qG (.bool e63) (nU e63 (.bool e66)) (by cases e63 <;> first | exact gA | exact gB | exact .inl ⟨rfl, r_pick (b := e64) (v := .bool e66) rfl (by rw [← he66]; cases e64 <;> rfl)⟩) ?_
    refine qG (.bool e63) (nU e63 (.bool e66)) (by cases e63 <;> first | exact gA | exact gB | exact .inl ⟨rfl, r_move (v := (.bool e66)) rfl⟩) ?_
    refine qG (nU e63 (.bool e66)) (nU e63 (yU e66 (P6 b1 3))) (by cases e63 <;> cases e66 <;> first | exact gA | exact gB | exact .inl ⟨rfl, r_fieldAddr (b := b1) (o := 0) (o' := 3) rfl Try.underlying27 rfl siz3 rfl⟩) ?_
    refine qG (nU e63 (.bool e66)) (nU e63 (yU e66 (I6 t.mn))) (by cases e63 <;> cases e66 <;> first | exact gA | exact gB | exact .inl ⟨rfl, r_load (v := (I6 t.mn)) rfl flat3 (B1.cell rfl)⟩) ?_
    obtain ⟨e67, he67⟩ : ∃ e, (decide ((t.mn : Int) ≠ 0)) = e := ⟨_, rfl⟩
    refine qG (nU e63 (.bool e66)) (nU e63 (yU e66 (.bool e67))) (by cases e63 <;> cases e66 <;> first | exact gA | exact gB | exact .inl ⟨rfl, (r_neq (k := .i64) (a := t.mn) (b := 0) rfl rfl).trans (by rw [he67]; try rfl)⟩) ?_
    obtain ⟨e68, he68⟩ : ∃ e, (e66 && e67) = e := ⟨_, rfl⟩
    refine qG (.bool e63) (nU e63 (.bool e68)) (by cases e63 <;> first | exact gA | exact gB | exact .inl ⟨rfl, r_pick (b := e66) (v := .bool e68) rfl (by rw [← he68]; cases e66 <;> rfl)⟩) ?_
    obtain ⟨e69, he69⟩ : ∃ e, (e63 || e68) = e := ⟨_, rfl⟩
    refine qV (r_pick (b := e63) (v := .bool e69) rfl (by rw [← he69]; cases e63 <;> rfl)) ?_
    refine qM (.bool e69) rfl ?_
    refine qG (.bool e69) (nU e69 (P6 b1 0)) (by cases e69 <;> first | exact gA | exact gB | exact .inl ⟨rfl, r_fieldAddr (b := b1) (o := 0) (o' := 0) rfl Try.underlying27 rfl siz3 rfl⟩) ?_
    refine qG (.bool e69) (nU e69 (I6 t.kind)) (by cases e69 <;> first | exact gA | exact gB | exact .inl ⟨rfl, r_load (v := (I6 t.kind)) rfl flat3 (B1.cell rfl)⟩) ?_
    obtain ⟨e70, he70⟩ : ∃ e, (decide ((t.kind : Int) ≠ 10)) = e := ⟨_, rfl⟩
    refine qG (.bool e69) (nU e69 (.bool e70)) (by cases e69 <;> first | exact gA | exact gB | exact .inl ⟨rfl, (r_neq (k := .i64) (a := t.kind) (b := 10) rfl rfl).trans (by rw [he70]; try rfl)⟩) ?_
    refine qG (.bool e69) (nU e69 (.bool e70)) (by cases e69 <;> first | exact gA | exact gB | exact .inl ⟨rfl, r_move (v := (.bool e70)) rfl⟩) ?_
    refine qG (nU e69 (.bool e70)) (nU e69 (yU e70 (P6 b1 5))) (by cases e69 <;> cases e70 <;> first | exact gA | exact gB | exact .inl ⟨rfl, r_fieldAddr (b := b1) (o := 0) (o' := 5) rfl Try.underlying27 rfl siz4 rfl⟩) ?_
    refine qG (nU e69 (.bool e70)) (nU e69 (yU e70 (.bool t.neg))) (by cases e69 <;> cases e70 <;> first | exact gA | exact gB | exact .inl ⟨rfl, r_load (v := (.bool t.neg)) rfl flat4 (B1.cell rfl)⟩) ?_
    obtain ⟨e71, he71⟩ : ∃ e, (e70 && t.neg) = e := ⟨_, rfl⟩
    refine qG (.bool e69) (nU e69 (.bool e71)) (by cases e69 <;> first | exact gA | exact gB | exact .inl ⟨rfl, r_pick (b := e70) (v := .bool e71) rfl (by rw [← he71]; cases e70 <;> rfl)⟩) ?_
    obtain ⟨e72, he72⟩ : ∃ e, (e69 || e71) = e := ⟨_, rfl⟩
    refine qV (r_pick (b := e69) (v := .bool e72) rfl (by rw [← he72]; cases e69 <;> rfl)) ?_
    refine WpL_nil ?_
    subst he72
    subst he71
    subst he70
    subst he69
    subst he68
    subst he67
    subst he66
    subst he65
    subst he64
    subst he63
    subst he62
    subst he61
    subst he60
    subst he59
    subst he58
    subst he57
    refine Wp_cond (b := (((((decide ((t.kind : Int) ≠ 2)) && (decide ((0 : Int) < (t.set.length : Int)))) || ((decide ((t.kind : Int) ≠ 6)) && (decide ((t.mx : Int) ≠ 0)))) || (((decide ((t.kind : Int) ≠ 6)) && (decide ((t.kind : Int) ≠ 9))) && (decide ((t.mn : Int) ≠ 0)))) || ((decide ((t.kind : Int) ≠ 10)) && t.neg))) rfl (fun hf => ?_) (fun hf => ?_)
    ·have khf := hf
     have hfB : formB t = false := by rw [← Bool.not_eq_true]; intro h; unfold formB at h; generalize t.set.length = sl at h hf; cases hng : t.neg <;> simp [hng] at h hf <;> omega
     refine Wp_seq_region ?_
     refine qA (I6 3) rfl ?_
     refine WpL_nil (Wp_ret (thn_ret ?_))
     refine fin_tmp Try.results43 (v := (.int .i64 3)) rfl ?_
     exact ⟨int_eq (by unfold nodeE; rw [if_neg (by omega), if_pos hfB]), E⟩
    ·have khf := hf
     have hfB : formB t = true := by unfold formB; rw [hoB]; generalize t.set.length = sl at hf; cases hng : t.neg <;> simp [hng] at hf ⊢ <;> omega
     have hN : nodeE t = if t.kind = 2 then (if checkE t.set ≠ 0 then checkE t.set else if (t.set.length : Int) = 0 then 3 else 0) else if t.kind = 6 then (if t.mn < 0 ∨ t.mx < t.mn ∨ 8 < t.mx then 1 else 0) else if t.kind = 9 then (if t.mn < 0 ∨ 9 < t.mn then 1 else 0) else 0 := by unfold nodeE; rw [if_neg (by omega), if_neg (by simp [hfB])]
     rw [hN]
     refine Wp_skip (thn_normal (Wp_seq (Wp_seq_region ?_)))
     refine qF b1 0 0 rfl Try.underlying27 rfl siz3 rfl ?_
     refine qV (r_load (v := (I6 t.kind)) rfl flat3 (B1.cell rfl)) ?_
     refine qV (r_eql (k := .i64) (a := t.kind) (b := 2) rfl rfl) ?_
     refine WpL_nil ?_
     refine Wp_cond (b := decide ((t.kind : Int) = 2)) rfl (fun h2 => ?_) (fun h2 => ?_)
     ·have kh2 := h2
      replace h2 := of_decide_eq_true h2
      rw [if_pos h2]
      refine Wp_seq (Wp_seq_region ?_)
      refine qF b1 0 1 rfl Try.underlying27 rfl siz24 rfl ?_
      refine qV (r_load (v := (.slice sa t.set.length sc)) rfl flat24 (B1.cell rfl)) ?_
      refine WpL_enter rfl rfl (by decide) (r_callF (vs := [(.slice sa t.set.length sc)]) Try.func63 nm63 bd63 rfl) (cset_c _ _ t.set ((hset.ext hE).ext E)) ?_
      rintro _ w10 ⟨rfl, X10⟩
      replace B1 := X10.keep B1
      replace E := E.ext X10
      refine qA (I6 (checkE t.set)) rfl ?_
      refine WpL_nil (Wp_seq_region ?_)
      refine qM (I6 (checkE t.set)) rfl ?_
      refine qV (r_neq (k := .i64) (a := checkE t.set) (b := 0) rfl rfl) ?_
      refine WpL_nil ?_
      refine Wp_cond (b := decide ((checkE t.set : Int) ≠ 0)) rfl (fun h3 => ?_) (fun h3 => ?_)
      ·have kh3 := h3
       replace h3 := of_decide_eq_true h3
       refine Wp_seq_region ?_
       refine qM (I6 (checkE t.set)) rfl ?_
       refine qA (I6 (checkE t.set)) rfl ?_
       refine WpL_nil (Wp_ret (thn_ret (thn_ret ?_)))
       refine fin_tmp Try.results43 (v := (.int .i64 (checkE t.set))) rfl ?_
       exact ⟨int_eq (by rw [if_pos h3]), E⟩
      ·have kh3 := h3
       replace h3 := of_decide_eq_false h3
       rw [if_neg h3]
       refine Wp_skip (thn_normal (Wp_seq_region ?_))
       refine qF b1 0 1 rfl Try.underlying27 rfl siz24 rfl ?_
       refine qV (r_load (v := (.slice sa t.set.length sc)) rfl flat24 (B1.cell rfl)) ?_
       refine qV (r_lenSlice (ad := sa) (n := t.set.length) (cap := sc) Try.underlying24 rfl) ?_
       refine qV (r_eql (k := .i64) (a := (t.set.length : Int)) (b := 0) rfl rfl) ?_
       refine WpL_nil ?_
       refine Wp_cond (b := decide (((t.set.length : Int) : Int) = 0)) rfl (fun h4 => ?_) (fun h4 => ?_)
       ·have kh4 := h4
        replace h4 := of_decide_eq_true h4
        refine Wp_seq_region ?_
        refine qA (I6 3) rfl ?_
        refine WpL_nil (Wp_ret (thn_ret ?_))
        refine fin_tmp Try.results43 (v := (.int .i64 3)) rfl ?_
        exact ⟨int_eq (by rw [if_pos h4]), E⟩
       ·have kh4 := h4
        replace h4 := of_decide_eq_false h4
        rw [if_neg h4]
        refine Wp_skip (thn_normal (Wp_seq (Wp_seq_region ?_)))
        refine qF b1 0 0 rfl Try.underlying27 rfl siz3 rfl ?_
        refine qV (r_load (v := (I6 t.kind)) rfl flat3 (B1.cell rfl)) ?_
        obtain ⟨e77, he77⟩ : ∃ e, (decide ((t.kind : Int) = 6)) = e := ⟨_, rfl⟩
        refine qV ((r_eql (k := .i64) (a := t.kind) (b := 6) rfl rfl).trans (by rw [he77]; try rfl)) ?_
        refine qM (.bool e77) rfl ?_
        refine qG (.bool e77) (yU e77 (P6 b1 3)) (by cases e77 <;> first | exact gA | exact gB | exact .inl ⟨rfl, r_fieldAddr (b := b1) (o := 0) (o' := 3) rfl Try.underlying27 rfl siz3 rfl⟩) ?_
        refine qG (.bool e77) (yU e77 (I6 t.mn)) (by cases e77 <;> first | exact gA | exact gB | exact .inl ⟨rfl, r_load (v := (I6 t.mn)) rfl flat3 (B1.cell rfl)⟩) ?_
        obtain ⟨e78, he78⟩ : ∃ e, (decide ((t.mn : Int) < 0)) = e := ⟨_, rfl⟩
        refine qG (.bool e77) (yU e77 (.bool e78)) (by cases e77 <;> first | exact gA | exact gB | exact .inl ⟨rfl, (r_lss (k := .i64) (a := t.mn) (b := 0) rfl rfl).trans (by rw [he78]; try rfl)⟩) ?_
        refine qG (.bool e77) (yU e77 (.bool e78)) (by cases e77 <;> first | exact gA | exact gB | exact .inl ⟨rfl, r_move (v := (.bool e78)) rfl⟩) ?_
        refine qG (yU e77 (.bool e78)) (yU e77 (nU e78 (P6 b1 4))) (by cases e77 <;> cases e78 <;> first | exact gA | exact gB | exact .inl ⟨rfl, r_fieldAddr (b := b1) (o := 0) (o' := 4) rfl Try.underlying27 rfl siz3 rfl⟩) ?_
        refine qG (yU e77 (.bool e78)) (yU e77 (nU e78 (I6 t.mx))) (by cases e77 <;> cases e78 <;> first | exact gA | exact gB | exact .inl ⟨rfl, r_load (v := (I6 t.mx)) rfl flat3 (B1.cell rfl)⟩) ?_
        obtain ⟨e79, he79⟩ : ∃ e, (decide ((8 : Int) < t.mx)) = e := ⟨_, rfl⟩
        refine qG (yU e77 (.bool e78)) (yU e77 (nU e78 (.bool e79))) (by cases e77 <;> cases e78 <;> first | exact gA | exact gB | exact .inl ⟨rfl, (r_gtr (k := .i64) (a := t.mx) (b := 8) rfl rfl).trans (by rw [he79]; try rfl)⟩) ?_
        obtain ⟨e80, he80⟩ : ∃ e, (e78 || e79) = e := ⟨_, rfl⟩
        refine qG (.bool e77) (yU e77 (.bool e80)) (by cases e77 <;> first | exact gA | exact gB | exact .inl ⟨rfl, r_pick (b := e78) (v := .bool e80) rfl (by rw [← he80]; cases e78 <;> rfl)⟩) ?_
        refine qG (.bool e77) (yU e77 (.bool e80)) (by cases e77 <;> first | exact gA | exact gB | exact .inl ⟨rfl, r_move (v := (.bool e80)) rfl⟩) ?_
        refine qG (yU e77 (.bool e80)) (yU e77 (nU e80 (P6 b1 3))) (by cases e77 <;> cases e80 <;> first | exact gA | exact gB | exact .inl ⟨rfl, r_fieldAddr (b := b1) (o := 0) (o' := 3) rfl Try.underlying27 rfl siz3 rfl⟩) ?_
        refine qG (yU e77 (.bool e80)) (yU e77 (nU e80 (I6 t.mn))) (by cases e77 <;> cases e80 <;> first | exact gA | exact gB | exact .inl ⟨rfl, r_load (v := (I6 t.mn)) rfl flat3 (B1.cell rfl)⟩) ?_
        refine qG (yU e77 (.bool e80)) (yU e77 (nU e80 (P6 b1 4))) (by cases e77 <;> cases e80 <;> first | exact gA | exact gB | exact .inl ⟨rfl, r_fieldAddr (b := b1) (o := 0) (o' := 4) rfl Try.underlying27 rfl siz3 rfl⟩) ?_
        refine qG (yU e77 (.bool e80)) (yU e77 (nU e80 (I6 t.mx))) (by cases e77 <;> cases e80 <;> first | exact gA | exact gB | exact .inl ⟨rfl, r_load (v := (I6 t.mx)) rfl flat3 (B1.cell rfl)⟩) ?_
        obtain ⟨e81, he81⟩ : ∃ e, (decide ((t.mx : Int) < t.mn)) = e := ⟨_, rfl⟩
        refine qG (yU e77 (.bool e80)) (yU e77 (nU e80 (.bool e81))) (by cases e77 <;> cases e80 <;> first | exact gA | exact gB | exact .inl ⟨rfl, (r_gtr (k := .i64) (a := t.mn) (b := t.mx) rfl rfl).trans (by rw [he81]; try rfl)⟩) ?_
        obtain ⟨e82, he82⟩ : ∃ e, (e80 || e81) = e := ⟨_, rfl⟩
        refine qG (.bool e77) (yU e77 (.bool e82)) (by cases e77 <;> first | exact gA | exact gB | exact .inl ⟨rfl, r_pick (b := e80) (v := .bool e82) rfl (by rw [← he82]; cases e80 <;> rfl)⟩) ?_
        obtain ⟨e83, he83⟩ : ∃ e, (e77 && e82) = e := ⟨_, rfl⟩
        refine qV (r_pick (b := e77) (v := .bool e83) rfl (by rw [← he83]; cases e77 <;> rfl)) ?_
        refine qM (.bool e83) rfl ?_
        refine qG (.bool e83) (nU e83 (P6 b1 0)) (by cases e83 <;> first | exact gA | exact gB | exact .inl ⟨rfl, r_fieldAddr (b := b1) (o := 0) (o' := 0) rfl Try.underlying27 rfl siz3 rfl⟩) ?_
        refine qG (.bool e83) (nU e83 (I6 t.kind)) (by cases e83 <;> first | exact gA | exact gB | exact .inl ⟨rfl, r_load (v := (I6 t.kind)) rfl flat3 (B1.cell rfl)⟩) ?_
        obtain ⟨e84, he84⟩ : ∃ e, (decide ((t.kind : Int) = 9)) = e := ⟨_, rfl⟩
        refine qG (.bool e83) (nU e83 (.bool e84)) (by cases e83 <;> first | exact gA | exact gB | exact .inl ⟨rfl, (r_eql (k := .i64) (a := t.kind) (b := 9) rfl rfl).trans (by rw [he84]; try rfl)⟩) ?_
        refine qG (.bool e83) (nU e83 (.bool e84)) (by cases e83 <;> first | exact gA | exact gB | exact .inl ⟨rfl, r_move (v := (.bool e84)) rfl⟩) ?_
        refine qG (nU e83 (.bool e84)) (nU e83 (yU e84 (P6 b1 3))) (by cases e83 <;> cases e84 <;> first | exact gA | exact gB | exact .inl ⟨rfl, r_fieldAddr (b := b1) (o := 0) (o' := 3) rfl Try.underlying27 rfl siz3 rfl⟩) ?_
        refine qG (nU e83 (.bool e84)) (nU e83 (yU e84 (I6 t.mn))) (by cases e83 <;> cases e84 <;> first | exact gA | exact gB | exact .inl ⟨rfl, r_load (v := (I6 t.mn)) rfl flat3 (B1.cell rfl)⟩) ?_
        obtain ⟨e85, he85⟩ : ∃ e, (decide ((t.mn : Int) < 0)) = e := ⟨_, rfl⟩
        refine qG (nU e83 (.bool e84)) (nU e83 (yU e84 (.bool e85))) (by cases e83 <;> cases e84 <;> first | exact gA | exact gB | exact .inl ⟨rfl, (r_lss (k := .i64) (a := t.mn) (b := 0) rfl rfl).trans (by rw [he85]; try rfl)⟩) ?_
        refine qG (nU e83 (.bool e84)) (nU e83 (yU e84 (.bool e85))) (by cases e83 <;> cases e84 <;> first | exact gA | exact gB | exact .inl ⟨rfl, r_move (v := (.bool e85)) rfl⟩) ?_
        refine qG (nU e83 (yU e84 (.bool e85))) (nU e83 (yU e84 (nU e85 (P6 b1 3)))) (by cases e83 <;> cases e84 <;> cases e85 <;> first | exact gA | exact gB | exact .inl ⟨rfl, r_fieldAddr (b := b1) (o := 0) (o' := 3) rfl Try.underlying27 rfl siz3 rfl⟩) ?_
        refine qG (nU e83 (yU e84 (.bool e85))) (nU e83 (yU e84 (nU e85 (I6 t.mn)))) (by cases e83 <;> cases e84 <;> cases e85 <;> first | exact gA | exact gB | exact .inl ⟨rfl, r_load (v := (I6 t.mn)) rfl flat3 (B1.cell rfl)⟩) ?_
        obtain ⟨e86, he86⟩ : ∃ e, (decide ((9 : Int) < t.mn)) = e := ⟨_, rfl⟩
        refine qG (nU e83 (yU e84 (.bool e85))) (nU e83 (yU e84 (nU e85 (.bool e86)))) (by cases e83 <;> cases e84 <;> cases e85 <;> first | exact gA | exact gB | exact .inl ⟨rfl, (r_gtr (k := .i64) (a := t.mn) (b := 9) rfl rfl).trans (by rw [he86]; try rfl)⟩) ?_
        obtain ⟨e87, he87⟩ : ∃ e, (e85 || e86) = e := ⟨_, rfl⟩
        refine qG (nU e83 (.bool e84)) (nU e83 (yU e84 (.bool e87))) (by cases e83 <;> cases e84 <;> first | exact gA | exact gB | exact .inl ⟨rfl, r_pick (b := e85) (v := .bool e87) rfl (by rw [← he87]; cases e85 <;> rfl)⟩) ?_
        obtain ⟨e88, he88⟩ : ∃ e, (e84 && e87) = e := ⟨_, rfl⟩
        refine qG (.bool e83) (nU e83 (.bool e88)) (by cases e83 <;> first | exact gA | exact gB | exact .inl ⟨rfl, r_pick (b := e84) (v := .bool e88) rfl (by rw [← he88]; cases e84 <;> rfl)⟩) ?_
        obtain ⟨e89, he89⟩ : ∃ e, (e83 || e88) = e := ⟨_, rfl⟩
        refine qV (r_pick (b := e83) (v := .bool e89) rfl (by rw [← he89]; cases e83 <;> rfl)) ?_
        refine WpL_nil ?_
        subst he89
        subst he88
        subst he87
        subst he86
        subst he85
        subst he84
        subst he83
        subst he82
        subst he81
        subst he80
        subst he79
        subst he78
        subst he77
        have hc90 : ((((decide ((t.kind : Int) = 6)) && (((decide ((t.mn : Int) < 0)) || (decide ((8 : Int) < t.mx))) || (decide ((t.mx : Int) < t.mn)))) || ((decide ((t.kind : Int) = 9)) && ((decide ((t.mn : Int) < 0)) || (decide ((9 : Int) < t.mn)))))) = false := by simp [h2]
        refine Wp_cond_false (congrArg Value.bool hc90) ?_
        refine Wp_skip (thn_normal (Wp_seq_region ?_))
        refine qA (I6 0) rfl ?_
        refine WpL_nil (Wp_ret ?_)
        refine fin_tmp Try.results43 (v := (.int .i64 0)) rfl ?_
        exact ⟨rfl, E⟩
     ·have kh2 := h2
      replace h2 := of_decide_eq_false h2
      rw [if_neg h2]
      refine Wp_skip (thn_normal (Wp_seq (Wp_seq_region ?_)))
      refine qF b1 0 0 rfl Try.underlying27 rfl siz3 rfl ?_
      refine qV (r_load (v := (I6 t.kind)) rfl flat3 (B1.cell rfl)) ?_
      obtain ⟨e91, he91⟩ : ∃ e, (decide ((t.kind : Int) = 6)) = e := ⟨_, rfl⟩
      refine qV ((r_eql (k := .i64) (a := t.kind) (b := 6) rfl rfl).trans (by rw [he91]; try rfl)) ?_
      refine qM (.bool e91) rfl ?_
      refine qG (.bool e91) (yU e91 (P6 b1 3)) (by cases e91 <;> first | exact gA | exact gB | exact .inl ⟨rfl, r_fieldAddr (b := b1) (o := 0) (o' := 3) rfl Try.underlying27 rfl siz3 rfl⟩) ?_
      refine qG (.bool e91) (yU e91 (I6 t.mn)) (by cases e91 <;> first | exact gA | exact gB | exact .inl ⟨rfl, r_load (v := (I6 t.mn)) rfl flat3 (B1.cell rfl)⟩) ?_
      obtain ⟨e92, he92⟩ : ∃ e, (decide ((t.mn : Int) < 0)) = e := ⟨_, rfl⟩
      refine qG (.bool e91) (yU e91 (.bool e92)) (by cases e91 <;> first | exact gA | exact gB | exact .inl ⟨rfl, (r_lss (k := .i64) (a := t.mn) (b := 0) rfl rfl).trans (by rw [he92]; try rfl)⟩) ?_
      refine qG (.bool e91) (yU e91 (.bool e92)) (by cases e91 <;> first | exact gA | exact gB | exact .inl ⟨rfl, r_move (v := (.bool e92)) rfl⟩) ?_
      refine qG (yU e91 (.bool e92)) (yU e91 (nU e92 (P6 b1 4))) (by cases e91 <;> cases e92 <;> first | exact gA | exact gB | exact .inl ⟨rfl, r_fieldAddr (b := b1) (o := 0) (o' := 4) rfl Try.underlying27 rfl siz3 rfl⟩) ?_
      refine qG (yU e91 (.bool e92)) (yU e91 (nU e92 (I6 t.mx))) (by cases e91 <;> cases e92 <;> first | exact gA | exact gB | exact .inl ⟨rfl, r_load (v := (I6 t.mx)) rfl flat3 (B1.cell rfl)⟩) ?_
      obtain ⟨e93, he93⟩ : ∃ e, (decide ((8 : Int) < t.mx)) = e := ⟨_, rfl⟩
      refine qG (yU e91 (.bool e92)) (yU e91 (nU e92 (.bool e93))) (by cases e91 <;> cases e92 <;> first | exact gA | exact gB | exact .inl ⟨rfl, (r_gtr (k := .i64) (a := t.mx) (b := 8) rfl rfl).trans (by rw [he93]; try rfl)⟩) ?_
      obtain ⟨e94, he94⟩ : ∃ e, (e92 || e93) = e := ⟨_, rfl⟩
      refine qG (.bool e91) (yU e91 (.bool e94)) (by cases e91 <;> first | exact gA | exact gB | exact .inl ⟨rfl, r_pick (b := e92) (v := .bool e94) rfl (by rw [← he94]; cases e92 <;> rfl)⟩) ?_
      refine qG (.bool e91) (yU e91 (.bool e94)) (by cases e91 <;> first | exact gA | exact gB | exact .inl ⟨rfl, r_move (v := (.bool e94)) rfl⟩) ?_
      refine qG (yU e91 (.bool e94)) (yU e91 (nU e94 (P6 b1 3))) (by cases e91 <;> cases e94 <;> first | exact gA | exact gB | exact .inl ⟨rfl, r_fieldAddr (b := b1) (o := 0) (o' := 3) rfl Try.underlying27 rfl siz3 rfl⟩) ?_
      refine qG (yU e91 (.bool e94)) (yU e91 (nU e94 (I6 t.mn))) (by cases e91 <;> cases e94 <;> first | exact gA | exact gB | exact .inl ⟨rfl, r_load (v := (I6 t.mn)) rfl flat3 (B1.cell rfl)⟩) ?_
      refine qG (yU e91 (.bool e94)) (yU e91 (nU e94 (P6 b1 4))) (by cases e91 <;> cases e94 <;> first | exact gA | exact gB | exact .inl ⟨rfl, r_fieldAddr (b := b1) (o := 0) (o' := 4) rfl Try.underlying27 rfl siz3 rfl⟩) ?_
      refine qG (yU e91 (.bool e94)) (yU e91 (nU e94 (I6 t.mx))) (by cases e91 <;> cases e94 <;> first | exact gA | exact gB | exact .inl ⟨rfl, r_load (v := (I6 t.mx)) rfl flat3 (B1.cell rfl)⟩) ?_
      obtain ⟨e95, he95⟩ : ∃ e, (decide ((t.mx : Int) < t.mn)) = e := ⟨_, rfl⟩
      refine qG (yU e91 (.bool e94)) (yU e91 (nU e94 (.bool e95))) (by cases e91 <;> cases e94 <;> first | exact gA | exact gB | exact .inl ⟨rfl, (r_gtr (k := .i64) (a := t.mn) (b := t.mx) rfl rfl).trans (by rw [he95]; try rfl)⟩) ?_
      obtain ⟨e96, he96⟩ : ∃ e, (e94 || e95) = e := ⟨_, rfl⟩
      refine qG (.bool e91) (yU e91 (.bool e96)) (by cases e91 <;> first | exact gA | exact gB | exact .inl ⟨rfl, r_pick (b := e94) (v := .bool e96) rfl (by rw [← he96]; cases e94 <;> rfl)⟩) ?_
      obtain ⟨e97, he97⟩ : ∃ e, (e91 && e96) = e := ⟨_, rfl⟩
      refine qV (r_pick (b := e91) (v := .bool e97) rfl (by rw [← he97]; cases e91 <;> rfl)) ?_
      refine qM (.bool e97) rfl ?_
      refine qG (.bool e97) (nU e97 (P6 b1 0)) (by cases e97 <;> first | exact gA | exact gB | exact .inl ⟨rfl, r_fieldAddr (b := b1) (o := 0) (o' := 0) rfl Try.underlying27 rfl siz3 rfl⟩) ?_
      refine qG (.bool e97) (nU e97 (I6 t.kind)) (by cases e97 <;> first | exact gA | exact gB | exact .inl ⟨rfl, r_load (v := (I6 t.kind)) rfl flat3 (B1.cell rfl)⟩) ?_
      obtain ⟨e98, he98⟩ : ∃ e, (decide ((t.kind : Int) = 9)) = e := ⟨_, rfl⟩
      refine qG (.bool e97) (nU e97 (.bool e98)) (by cases e97 <;> first | exact gA | exact gB | exact .inl ⟨rfl, (r_eql (k := .i64) (a := t.kind) (b := 9) rfl rfl).trans (by rw [he98]; try rfl)⟩) ?_
      refine qG (.bool e97) (nU e97 (.bool e98)) (by cases e97 <;> first | exact gA | exact gB | exact .inl ⟨rfl, r_move (v := (.bool e98)) rfl⟩) ?_
      refine qG (nU e97 (.bool e98)) (nU e97 (yU e98 (P6 b1 3))) (by cases e97 <;> cases e98 <;> first | exact gA | exact gB | exact .inl ⟨rfl, r_fieldAddr (b := b1) (o := 0) (o' := 3) rfl Try.underlying27 rfl siz3 rfl⟩) ?_
      refine qG (nU e97 (.bool e98)) (nU e97 (yU e98 (I6 t.mn))) (by cases e97 <;> cases e98 <;> first | exact gA | exact gB | exact .inl ⟨rfl, r_load (v := (I6 t.mn)) rfl flat3 (B1.cell rfl)⟩) ?_
      obtain ⟨e99, he99⟩ : ∃ e, (decide ((t.mn : Int) < 0)) = e := ⟨_, rfl⟩
      refine qG (nU e97 (.bool e98)) (nU e97 (yU e98 (.bool e99))) (by cases e97 <;> cases e98 <;> first | exact gA | exact gB | exact .inl ⟨rfl, (r_lss (k := .i64) (a := t.mn) (b := 0) rfl rfl).trans (by rw [he99]; try rfl)⟩) ?_
      refine qG (nU e97 (.bool e98)) (nU e97 (yU e98 (.bool e99))) (by cases e97 <;> cases e98 <;> first | exact gA | exact gB | exact .inl ⟨rfl, r_move (v := (.bool e99)) rfl⟩) ?_
      refine qG (nU e97 (yU e98 (.bool e99))) (nU e97 (yU e98 (nU e99 (P6 b1 3)))) (by cases e97 <;> cases e98 <;> cases e99 <;> first | exact gA | exact gB | exact .inl ⟨rfl, r_fieldAddr (b := b1) (o := 0) (o' := 3) rfl Try.underlying27 rfl siz3 rfl⟩) ?_
      refine qG (nU e97 (yU e98 (.bool e99))) (nU e97 (yU e98 (nU e99 (I6 t.mn)))) (by cases e97 <;> cases e98 <;> cases e99 <;> first | exact gA | exact gB | exact .inl ⟨rfl, r_load (v := (I6 t.mn)) rfl flat3 (B1.cell rfl)⟩) ?_
      obtain ⟨e100, he100⟩ : ∃ e, (decide ((9 : Int) < t.mn)) = e := ⟨_, rfl⟩
      refine qG (nU e97 (yU e98 (.bool e99))) (nU e97 (yU e98 (nU e99 (.bool e100)))) (by cases e97 <;> cases e98 <;> cases e99 <;> first | exact gA | exact gB | exact .inl ⟨rfl, (r_gtr (k := .i64) (a := t.mn) (b := 9) rfl rfl).trans (by rw [he100]; try rfl)⟩) ?_
      obtain ⟨e101, he101⟩ : ∃ e, (e99 || e100) = e := ⟨_, rfl⟩
      refine qG (nU e97 (.bool e98)) (nU e97 (yU e98 (.bool e101))) (by cases e97 <;> cases e98 <;> first | exact gA | exact gB | exact .inl ⟨rfl, r_pick (b := e99) (v := .bool e101) rfl (by rw [← he101]; cases e99 <;> rfl)⟩) ?_
      obtain ⟨e102, he102⟩ : ∃ e, (e98 && e101) = e := ⟨_, rfl⟩
      refine qG (.bool e97) (nU e97 (.bool e102)) (by cases e97 <;> first | exact gA | exact gB | exact .inl ⟨rfl, r_pick (b := e98) (v := .bool e102) rfl (by rw [← he102]; cases e98 <;> rfl)⟩) ?_
      obtain ⟨e103, he103⟩ : ∃ e, (e97 || e102) = e := ⟨_, rfl⟩
      refine qV (r_pick (b := e97) (v := .bool e103) rfl (by rw [← he103]; cases e97 <;> rfl)) ?_
      refine WpL_nil ?_
      subst he103
      subst he102
      subst he101
      subst he100
      subst he99
      subst he98
      subst he97
      subst he96
      subst he95
      subst he94
      subst he93
      subst he92
      subst he91
      refine Wp_cond (b := (((decide ((t.kind : Int) = 6)) && (((decide ((t.mn : Int) < 0)) || (decide ((8 : Int) < t.mx))) || (decide ((t.mx : Int) < t.mn)))) || ((decide ((t.kind : Int) = 9)) && ((decide ((t.mn : Int) < 0)) || (decide ((9 : Int) < t.mn)))))) rfl (fun h6 => ?_) (fun h6 => ?_)
      ·have kh6 := h6
       simp at h6
       refine Wp_seq_region ?_
       refine qA (I6 1) rfl ?_
       refine WpL_nil (Wp_ret (thn_ret ?_))
       refine fin_tmp Try.results43 (v := (.int .i64 1)) rfl ?_
       exact ⟨int_eq (by by_cases h66 : t.kind = 6; rw [if_pos h66, if_pos (by omega)]; rw [if_neg h66, if_pos (by omega), if_pos (by omega)]), E⟩
      ·have kh6 := h6
       simp at h6
       refine Wp_skip (thn_normal (Wp_seq_region ?_))
       refine qA (I6 0) rfl ?_
       refine WpL_nil (Wp_ret ?_)
       refine fin_tmp Try.results43 (v := (.int .i64 0)) rfl ?_
       exact ⟨int_eq (by by_cases h66 : t.kind = 6; rw [if_pos h66, if_neg (by omega)]; rw [if_neg h66]; by_cases h9 : t.kind = 9; rw [if_pos h9, if_neg (by omega)]; rw [if_neg h9]), E⟩
end Go.Proofs
namespace Go.Proofs
open Go Go.Eng
set_option maxRecDepth 100000
abbrev TE : Nat := 27
mutual
def preL : Re → List Re
  | .mk k set args mn mx ng => .mk k set args mn mx ng :: preLs args
def preLs : List Re → List Re
  | [] => []
  | t :: ts => preL t ++ preLs ts
end
theorem preL_eq (t : Re) : preL t = t :: preLs t.args := by cases t; simp only [preL, Re.args]
theorem preLs_append : ∀ (a b : List Re), preLs (a ++ b) = preLs a ++ preLs b
  | [], b => by simp [preLs]
  | x :: a, b => by simp only [List.cons_append, preLs, preLs_append a b, List.append_assoc]
mutual
theorem preL_len : ∀ (t : Re), (preL t).length = t.size
  | .mk k set args mn mx ng => by simp only [preL, Re.size, List.length_cons, preLs_len args]
theorem preLs_len : ∀ (ts : List Re), (preLs ts).length = Re.sizes ts
  | [] => by simp [preLs, Re.sizes]
  | t :: ts => by simp only [preLs, Re.sizes, List.length_append, preL_len t, preLs_len ts]
end
theorem len_le_sizes : ∀ (ts : List Re), ts.length ≤ Re.sizes ts
  | [] => by simp
  | t :: ts => by have := len_le_sizes ts; have := t.size_pos; simp only [Re.sizes, List.length_cons]; omega
theorem sizes_reverse (ts : List Re) : Re.sizes ts.reverse = Re.sizes ts := by
  induction ts with
  | nil => rfl
  | cons t ts ih => simp only [List.reverse_cons, Re.sizes_append, ih, Re.sizes]; omega
def RowsOf (w : World) : List Re → List (List Value) → Prop
  | [], [] => True
  | t :: ts, r :: rs => ReAt w t r ∧ RowsOf w ts rs
  | _, _ => False
theorem RowsOf.ext {w w' : World} (e : Ext w w') : ∀ {ts : List Re} {rs : List (List Value)}, RowsOf w ts rs → RowsOf w' ts rs
  | [], [], _ => trivial
  | t :: ts, r :: rs, h => ⟨ReAt.ext e t h.1, RowsOf.ext e h.2⟩
  | [], _ :: _, h => h.elim
  | _ :: _, [], h => h.elim
theorem RowsOf.len {w : World} : ∀ {ts : List Re} {rs : List (List Value)}, RowsOf w ts rs → rs.length = ts.length
  | [], [], _ => rfl
  | t :: ts, r :: rs, h => by simp only [List.length_cons, RowsOf.len h.2]
  | [], _ :: _, h => h.elim
  | _ :: _, [], h => h.elim
theorem RowsOf.six {w : World} : ∀ {ts : List Re} {rs : List (List Value)}, RowsOf w ts rs → ∀ r ∈ rs, r.length = 6
  | [], [], _, r, hr => by cases hr
  | t :: ts, r :: rs, h, r', hr => by
    rcases List.mem_cons.1 hr with rfl | hr
    · exact h.1.len
    · exact RowsOf.six h.2 r' hr
  | [], _ :: _, h, _, _ => h.elim
  | _ :: _, [], h, _, _ => h.elim
theorem RowsOf.snoc {w : World} : ∀ {ts : List Re} {rs : List (List Value)}, RowsOf w ts rs → ∀ {t : Re} {r : List Value}, ReAt w t r → RowsOf w (ts ++ [t]) (rs ++ [r])
  | [], [], _, _, _, h => ⟨h, trivial⟩
  | t :: ts, r :: rs, h, _, _, h' => ⟨h.1, RowsOf.snoc h.2 h'⟩
  | [], _ :: _, h, _, _, _ => h.elim
  | _ :: _, [], h, _, _, _ => h.elim
theorem RowsOf.get {w : World} : ∀ {ts : List Re} {rs : List (List Value)}, RowsOf w ts rs → ∀ {i : Nat} {t : Re}, ts[i]? = some t → ∃ r, rs[i]? = some r ∧ ReAt w t r
  | [], [], _, _, _, h => by simp at h
  | t :: ts, r :: rs, h, 0, _, h' => by simp at h'; subst h'; exact ⟨r, rfl, h.1⟩
  | t :: ts, r :: rs, h, i + 1, _, h' => by
    obtain ⟨r', h1, h2⟩ := RowsOf.get h.2 (i := i) (by simpa using h')
    exact ⟨r', by simpa using h1, h2⟩
  | [], _ :: _, h, _, _, _ => h.elim
  | _ :: _, [], h, _, _, _ => h.elim
theorem RowsOf.pop {w : World} : ∀ {ts : List Re} {rs : List (List Value)} {t : Re}, RowsOf w (ts ++ [t]) rs → ∃ rs' r, rs = rs' ++ [r] ∧ RowsOf w ts rs' ∧ ReAt w t r
  | [], [], _, h => h.elim
  | [], [r], _, h => ⟨[], r, rfl, trivial, h.1⟩
  | [], r :: r' :: rs, _, h => h.2.elim
  | t :: ts, [], _, h => h.elim
  | t :: ts, r :: rs, t', h => by
    obtain ⟨rs', r', h1, h2, h3⟩ := RowsOf.pop (ts := ts) h.2
    exact ⟨r :: rs', r', by rw [h1]; rfl, ⟨h.1, h2⟩, h3⟩
def Apart (u v : Value) : Prop := ∀ k, u.ownBlock = some k → v.ownBlock ≠ some k
theorem Apart.symm {u v : Value} (h : Apart u v) : Apart v u := fun k h1 h2 => h k h2 h1
theorem Apart.slc {a : Option Addr} {n c n' c' : Nat} {v : Value} (h : Apart (.slice a n c) v) : Apart (.slice a n' c') v := by
 cases a <;> exact h
theorem Apart.app {w : World} {base e size n : Nat} {u u' v : Value} {xs : List Value} (h : Apart u v) (hv : w.ownsRow base e size v n xs) (D : ∀ k, u'.ownBlock = some k → u.ownBlock = some k ∨ w.heap.size ≤ k) : Apart u' v := fun k h1 h2 => by
 rcases D k h1 with h3 | h3
 ·exact h k h3 h2
 ·have := (hv.lt k h2).2; omega
theorem Apart.nil (v : Value) : Apart (.slice none 0 0) v := fun k h => by cases h
theorem own_apart {w w' : World} {base e size n : Nat} {u v : Value} {xs : List Value} (h : w.ownsRow base e size v n xs) (C : Chg (fun x => u.ownBlock = some x) w w') (hd : Apart u v) : w'.ownsRow base e size v n xs :=
 own_chg h C fun k hk hm => hd k hm hk
theorem sl_zero {a : Option Addr} {c m : Nat} : (if c = 0 then a else Option.map (fun q : Addr => q.add (0 * m)) a) = a := by
 split
 ·rfl
 ·cases a <;> simp [Addr.add]
theorem own_rows {w : World} {base e n : Nat} {v : Value} {ts : List Re} {rs : List (List Value)} {w0 : World} (h : w.ownsRow base e 6 v n rs.flatten) (hr : RowsOf w0 ts rs) (hn : ts.length = n) : SlAt w 6 v rs :=
 own_slat h hr.six (by rw [hr.len, hn]) (by decide)
theorem flat_len {rs : List (List Value)} (h : ∀ r ∈ rs, r.length = 6) : rs.flatten.length = rs.length * 6 := by
  induction rs with
  | nil => rfl
  | cons r rs ih => rw [List.flatten_cons, List.length_append, ih (fun r' hr' => h r' (List.mem_cons_of_mem _ hr')), h r List.mem_cons_self, List.length_cons]; omega
theorem flat_pop {rs : List (List Value)} {r : List Value} {n : Nat} (h : ∀ r ∈ rs, r.length = 6) (hn : rs.length = n) : ((rs ++ [r]).flatten).take (n * 6) = rs.flatten := by
 rw [List.flatten_append, List.take_append_of_le_length (by rw [flat_len h, hn]; exact Nat.le_refl _), List.take_of_length_le (by rw [flat_len h, hn]; exact Nat.le_refl _)]
theorem snoc_of {α : Type} {l : List α} (h : 0 < l.length) : ∃ l' x, l = l' ++ [x] := by
 rcases List.eq_nil_or_concat l with rfl | ⟨l', x, rfl⟩
 ·simp at h
 ·exact ⟨l', x, List.concat_eq_append⟩
abbrev rowX (x : Re) (xa : Option Addr) (xc : Nat) (ya : Option Addr) (yc : Nat) : List Value := [.int .i64 x.kind, .slice xa x.set.length xc, .slice ya x.args.length yc, .int .i64 x.mn, .int .i64 x.mx, .bool x.neg]
set_option maxHeartbeats 4000000 in
theorem pre_c (w0 : World) (t : Re) (vs : List Value) (most : Int) (ht : ReAt w0 t vs) (hs : t.size ≤ 2097152) :
  Ret Try.prog 24 #[.agg vs.toArray, .int .i64 most] w0 fun v w => ∃ a c rows, v = .slice a ((preL t).take most.toNat).length c ∧ SlAt w 6 v rows ∧ RowsOf w0 ((preL t).take most.toNat) rows ∧ Ext w0 w := by
 have ht0 := ht
 obtain ⟨sa, sc, aa, ac, rfl, hset, hlen, hargs⟩ := ht.form
 refine Ret_of Try.func24 rfl Try.ntmps24 (Nat.le_of_ble_eq_true rfl) ?_
 have E : Chg none1 w0 w0 := Chg.refl _ _
 refine Wp_seq_region ?_
 refine s_box (v := (.agg (R6 t sa sc aa ac))) (c := (R6 t sa sc aa ac)) (by decide) rfl rfl ?_
 intro bp wp Np
 have Fp := Np.ge E
 replace E := E.ext Np.ext
 have Bp := Np.blk
 refine qA (.slice none 0 0) rfl ?_
 refine WpL_nil (Wp_seq_region ?_)
 refine qA (.slice none 0 0) rfl ?_
 refine WpL_nil (Wp_seq_region ?_)
 refine qV (r_loadAgg (vs := [(I6 t.kind), (.slice sa t.set.length sc), (.slice aa t.args.length ac), (I6 t.mn), (I6 t.mx), (.bool t.neg)]) rfl agg27 siz27 rfl (Bp.cells rfl)) ?_
 refine s_buildSlice (ps := [(0, (.agg (R6 t sa sc aa ac)))]) (c := (R6 t sa sc aa ac)) (by decide) rfl Try.underlying25 siz27 zer27 (by decide) (by decide) (by kernel_rfl) ?_
 intro bq wq Nq
 have Fq := Nq.ge E
 have Oq_bp := Nq.lt Bp
 replace Bp := Nq.keep Bp
 replace E := E.ext Nq.ext
 have Bq := Nq.blk
 refine qA (.slice (some ⟨bq, 0, none⟩) 1 1) rfl ?_
 refine WpL_nil (Wp_seq (Wp_block ?_))
 obtain ⟨base, hbase⟩ : ∃ base, base = wp.heap.size := ⟨_, rfl⟩
 have hb0 : w0.heap.size ≤ base := by have := Np.size; omega
 have hpb : bp < base := by have := Np.size; have := Np.eq; omega
 have hqb : base ≤ bq := by have := Nq.eq; omega
 have hrow1 : wq.ownsRow base TE 6 (.slice (some ⟨bq, 0, none⟩) 1 1) 1 ([[.int .i64 t.kind, .slice sa t.set.length sc, .slice aa t.args.length ac, .int .i64 t.mn, .int .i64 t.mx, .bool t.neg]] : List (List Value)).flatten := ⟨rfl, .inr ⟨bq, 1, _, rfl, hqb, Bq, by decide, by decide, rfl, rfl⟩⟩
 have hbsq : base ≤ wq.heap.size := by have := Nq.size; omega
 refine Wp_loop (fun nn_ σ W1 => ∃ (outs sts : List Re) (ro rs : List (List Value)) (oa : Option Addr) (oc : Nat) (ka : Option Addr) (kc : Nat), (∃ jj_, σ = upds jj_ [(1, (I6 most)), (5, (.slice oa outs.length oc)), (6, (.slice ka sts.length kc))]) ∧ Chg none1 w0 W1 ∧ Blk W1 bp (R6 t sa sc aa ac) 27 ∧ (W1.ownsRow base TE 6 (.slice oa outs.length oc) outs.length ro.flatten) ∧ (W1.ownsRow base TE 6 (.slice ka sts.length kc) sts.length rs.flatten) ∧ (Apart (.slice oa outs.length oc) (.slice ka sts.length kc)) ∧ (RowsOf w0 outs ro) ∧ (RowsOf w0 sts rs) ∧ (preL t = outs ++ preLs sts.reverse) ∧ (outs.length ≤ most.toNat) ∧ (base ≤ W1.heap.size) ∧ nn_ = t.size - outs.length) (n := t.size - ([] : List Re).length) ?_ ?_
 ·exact ⟨([] : List Re), [t], ([] : List (List Value)), [[.int .i64 t.kind, .slice sa t.set.length sc, .slice aa t.args.length ac, .int .i64 t.mn, .int .i64 t.mx, .bool t.neg]], none, 0, some ⟨bq, 0, none⟩, 1, Fits.out ⟨rfl, rfl, rfl, trivial⟩, E, Bp, World.ownsRow_nil _ _ _ _, hrow1, Apart.nil _, trivial, ⟨ht0, trivial⟩, (by simp [preLs]), Nat.zero_le _, hbsq, rfl⟩
 ·clear E Bp
  rintro _ _ W1 ⟨outs, sts, ro, rs, oa, oc, ka, kc, ⟨j1, rfl⟩, E, Bp, hO, hS, hAp, hro, hrs, hpre, hmo, hbs, rfl⟩
  have hsz : outs.length + Re.sizes sts = t.size := by rw [← preL_len t, hpre, List.length_append, preLs_len, sizes_reverse]
  have hsl := len_le_sizes sts
  refine Wp_seq (Wp_seq_region ?_)
  refine qM (.slice ka sts.length kc) rfl ?_
  refine qV (r_lenSlice (ad := ka) (n := sts.length) (cap := kc) Try.underlying25 rfl) ?_
  obtain ⟨e2, he2⟩ : ∃ e, (decide ((0 : Int) < ((sts.length : Nat) : Int))) = e := ⟨_, rfl⟩
  refine qV ((r_gtr (k := .i64) (a := (sts.length : Int)) (b := 0) rfl rfl).trans (by rw [he2]; try rfl)) ?_
  refine qM (.bool e2) rfl ?_
  refine qG (.bool e2) (yU e2 (.slice oa outs.length oc)) (by cases e2 <;> first | exact gA | exact gB | exact .inl ⟨rfl, r_move (v := (.slice oa outs.length oc)) rfl⟩) ?_
  refine qG (.bool e2) (yU e2 (I6 (outs.length : Int))) (by cases e2 <;> first | exact gA | exact gB | exact .inl ⟨rfl, r_lenSlice (ad := oa) (n := outs.length) (cap := oc) Try.underlying25 rfl⟩) ?_
  refine qG (.bool e2) (yU e2 (I6 most)) (by cases e2 <;> first | exact gA | exact gB | exact .inl ⟨rfl, r_move (v := (I6 most)) rfl⟩) ?_
  obtain ⟨e3, he3⟩ : ∃ e, (decide ((((outs.length : Nat) : Int) : Int) < most)) = e := ⟨_, rfl⟩
  refine qG (.bool e2) (yU e2 (.bool e3)) (by cases e2 <;> first | exact gA | exact gB | exact .inl ⟨rfl, (r_lss (k := .i64) (a := (outs.length : Int)) (b := most) rfl rfl).trans (by rw [he3]; try rfl)⟩) ?_
  obtain ⟨e4, he4⟩ : ∃ e, (e2 && e3) = e := ⟨_, rfl⟩
  refine qV (r_pick (b := e2) (v := .bool e4) rfl (by rw [← he4]; cases e2 <;> rfl)) ?_
  refine WpL_nil ?_
  subst he4
  subst he3
  subst he2
  refine Wp_cond (b := ((decide ((0 : Int) < (sts.length : Int))) && (decide (((outs.length : Int) : Int) < most)))) rfl (fun hlt => ?_) (fun hlt => ?_)
  ·have khlt := hlt
   simp at hlt
   have hOw := fun k h => (hO.lt k h).2
   have hSw := fun k h => (hS.lt k h).2
   obtain ⟨st', x, rfl⟩ := snoc_of (l := sts) (by omega)
   obtain ⟨rs', r, rfl, hrs', hxr⟩ := hrs.pop
   obtain ⟨xa, xc, ya, yc, rfl, hxset, hxlen, hxargs⟩ := hxr.form
   have hS6 : RowsOf w0 (st' ++ [x]) (rs' ++ [_]) := hrs'.snoc hxr
   obtain ⟨kb, ko, rfl, hkc⟩ := SlAt.at (own_rows hS hS6 rfl) (by omega)
   have hkl : (st' ++ [x]).length = st'.length + 1 := by simp
   have hr' := hkc st'.length _ (by rw [List.getElem?_append_right (by rw [hrs'.len]; exact Nat.le_refl _), hrs'.len]; simp; rfl)
   have hkcap := (SlAt.cap (own_rows hS hS6 rfl)).1
   refine Wp_skip (thn_normal (Wp_block (Wp_seq_region ?_)))
   refine qM (.slice (some ⟨kb, ko, none⟩) ((st' ++ [x]).length) kc) rfl ?_
   refine qM (.slice (some ⟨kb, ko, none⟩) ((st' ++ [x]).length) kc) rfl ?_
   refine qV (r_lenSlice (ad := some ⟨kb, ko, none⟩) (n := (st' ++ [x]).length) (cap := kc) Try.underlying25 rfl) ?_
   refine qV (r_sub (k := .i64) (a := (((st' ++ [x]).length : Nat) : Int)) (b := 1) (c := (((st' ++ [x]).length : Nat) : Int) - 1) rfl rfl (wI64 (by omega))) ?_
   refine qV (r_indexSlice (b := kb) (o := ko) (len := (st' ++ [x]).length) (cap := kc) (i := st'.length) (o' := ko + st'.length * 6) rfl rfl (by omega) Try.underlying25 siz27 (by omega) (by omega)) ?_
   refine qV (r_loadAgg (vs := [(I6 x.kind), (.slice xa x.set.length xc), (.slice ya x.args.length yc), (I6 x.mn), (I6 x.mx), (.bool x.neg)]) rfl agg27 siz27 rfl (hr')) ?_
   refine s_allocStore (v := (.agg (R6 x xa xc ya yc))) (c := (R6 x xa xc ya yc)) (n := 6) (by decide) zer27 rfl siz27 rfl rfl rfl (by simp [Value.oneCell']) ?_
   intro bx wx Nx
   have Fx := Nx.ge E
   have Ox_bp := Nx.lt Bp
   replace Bp := Nx.keep Bp
   replace hO := own_ext hO Nx.ext
   replace hS := own_ext hS Nx.ext
   replace hbs := Nat.le_trans hbs Nx.ext.size
   replace E := E.ext Nx.ext
   have Bx := Nx.blk
   refine WpL_nil (Wp_seq_region ?_)
   refine qM (.slice (some ⟨kb, ko, none⟩) ((st' ++ [x]).length) kc) rfl ?_
   refine qM (.slice (some ⟨kb, ko, none⟩) ((st' ++ [x]).length) kc) rfl ?_
   refine qV (r_lenSlice (ad := some ⟨kb, ko, none⟩) (n := (st' ++ [x]).length) (cap := kc) Try.underlying25 rfl) ?_
   refine qV (r_sub (k := .i64) (a := (((st' ++ [x]).length : Nat) : Int)) (b := 1) (c := (((st' ++ [x]).length : Nat) : Int) - 1) rfl rfl (wI64 (by omega))) ?_
   obtain ⟨k2, hk2⟩ : ∃ a' : Option Addr, (if kc = 0 then (some ⟨kb, ko, none⟩) else Option.map (fun q : Addr => q.add (0 * 6)) (some ⟨kb, ko, none⟩)) = a' := ⟨_, rfl⟩
   refine qV (r_sliceHi (a := (some ⟨kb, ko, none⟩)) (len := (st' ++ [x]).length) (cap := kc) (hi := st'.length) (l := (((st' ++ [x]).length : Nat) : Int) - 1) Try.underlying25 siz27 rfl rfl (by omega) (by omega) hk2) ?_
   refine qA (.slice k2 st'.length kc) rfl ?_
   refine WpL_nil (Wp_seq_region ?_)
   refine qM (.slice oa outs.length oc) rfl ?_
   refine qV (r_loadAgg (vs := [(I6 x.kind), (.slice xa x.set.length xc), (.slice ya x.args.length yc), (I6 x.mn), (I6 x.mx), (.bool x.neg)]) rfl agg27 siz27 rfl (Bx.cells rfl)) ?_
   refine s_buildSlice (ps := [(0, (.agg (R6 x xa xc ya yc)))]) (c := (R6 x xa xc ya yc)) (by decide) rfl Try.underlying25 siz27 zer27 (by decide) (by decide) (by kernel_rfl) ?_
   intro bn wn Nn
   have Fn := Nn.ge E
   have On_bp := Nn.lt Bp
   have On_bx := Nn.lt Bx
   replace Bp := Nn.keep Bp
   replace Bx := Nn.keep Bx
   replace hO := own_ext hO Nn.ext
   replace hS := own_ext hS Nn.ext
   replace hbs := Nat.le_trans hbs Nn.ext.size
   replace E := E.ext Nn.ext
   have Bn := Nn.blk
   rw [sl_zero] at hk2
   subst hk2
   have hS' := own_cut (m := st'.length) hS (by omega) (by omega)
   rw [flat_pop hrs'.six hrs'.len] at hS'
   clear hS
   refine s_append (base := base) (n := outs.length) (m := 1) (xs := ro.flatten) (news := [(I6 x.kind), (.slice xa x.set.length xc), (.slice ya x.args.length yc), (I6 x.mn), (I6 x.mx), (.bool x.neg)]) (size := 6) (bytes := 80) (v := (.slice oa outs.length oc)) (by decide) Try.underlying25 siz27 byt27 zer27 rfl (by decide) rfl hO rfl (rfl) (Bn.cells rfl) (by simp [Value.oneCell']) (by unfold maxLen; omega) (by omega) (hbs) ?_
   intro v9 w9 Ov9 Cv9 Dv9
   replace Bp := Cv9.keep (fun h => by have := (hO.lt _ h).1; omega) Bp
   replace Bx := Cv9.keep (fun h => absurd (hOw _ h) (by have := Nx.eq; omega)) Bx
   replace E := E.step Cv9 (fun x hx h => absurd (hO.lt x h).1 (by omega))
   obtain ⟨oa2, oc2, rfl⟩ := own_form Ov9
   have hS2 := own_apart hS' Cv9 hAp.slc.symm.slc.symm
   have hAp2 := Apart.app (hAp.slc.symm.slc.symm) hS' Dv9
   have hsz2 : Re.sizes (st' ++ [x]) = Re.sizes st' + x.size := by rw [Re.sizes_append]; simp [Re.sizes]
   have hxs := x.size_eq
   have hal := len_le_sizes x.args
   have hstl := len_le_sizes st'
   have hbs2 := Nat.le_trans hbs Cv9.size
   refine qA (.slice oa2 (outs.length + 1) oc2) rfl ?_
   refine WpL_nil (Wp_seq_region ?_)
   refine qF bx 0 2 rfl Try.underlying27 rfl siz25 rfl ?_
   refine qV (r_load (v := (.slice ya x.args.length yc)) rfl flat25 (Bx.cell rfl)) ?_
   refine qV (r_lenSlice (ad := ya) (n := x.args.length) (cap := yc) Try.underlying25 rfl) ?_
   refine qV (r_sub (k := .i64) (a := (x.args.length : Int)) (b := 1) (c := (x.args.length : Int) - 1) rfl rfl (wI64 (by omega))) ?_
   refine qA (I6 ((x.args.length : Int) - 1)) rfl ?_
   refine WpL_nil (Wp_block ?_)
   refine Wp_loop (fun nn_ σ W6 => ∃ (i : Nat) (st2 : List Re) (rs2 : List (List Value)) (ka : Option Addr) (kc : Nat), (∃ jj_, σ = upds jj_ [(1, (I6 most)), (5, (.slice oa2 (outs.length + 1) oc2)), (7, (P6 bx 0)), (8, (I6 ((i : Int) - 1))), (6, (.slice ka st2.length kc))]) ∧ Chg none1 w0 W6 ∧ Blk W6 bp (R6 t sa sc aa ac) 27 ∧ Blk W6 bx (R6 x xa xc ya yc) 27 ∧ (i ≤ x.args.length) ∧ (W6.ownsRow base TE 6 (.slice oa2 (outs.length + 1) oc2) (outs.length + 1) (ro ++ [rowX x xa xc ya yc]).flatten) ∧ (W6.ownsRow base TE 6 (.slice ka st2.length kc) st2.length rs2.flatten) ∧ (Apart (.slice oa2 (outs.length + 1) oc2) (.slice ka st2.length kc)) ∧ (RowsOf w0 st2 rs2) ∧ (st2 = st' ++ (x.args.drop i).reverse) ∧ (base ≤ W6.heap.size) ∧ (∀ k, (Value.slice ka st2.length kc).ownBlock = some k → k ≠ bx) ∧ nn_ = 2 * i) (n := 2 * x.args.length) ?_ ?_
   ·exact ⟨x.args.length, st', rs', _, _, Fits.out ⟨rfl, rfl, rfl, rfl, rfl, trivial⟩, E, Bp, Bx, Nat.le_refl _, (by simpa using Ov9), hS2, hAp2, hrs', (by simp), hbs2, (fun k h e => by have h1 : k < _ := hSw k h; have := Nx.eq; omega), rfl⟩
   ·clear E Bp Bx
    rintro _ _ W6 ⟨i, st2, rs2, ka, kc, ⟨j6, rfl⟩, E, Bp, Bx, hi, hO2, hS2, hAp2, hrs2, hst, hbs2, hSx, rfl⟩
    refine Wp_seq (Wp_seq_region ?_)
    refine qM (I6 ((i : Int) - 1)) rfl ?_
    refine qV (r_geq (k := .i64) (a := (i : Int) - 1) (b := 0) rfl rfl) ?_
    refine WpL_nil ?_
    refine Wp_cond (b := decide ((0 : Int) ≤ (i : Int) - 1)) rfl (fun hge => ?_) (fun hge => ?_)
    ·have khge := hge
     replace hge := of_decide_eq_true hge
     obtain ⟨y, hy⟩ := get_of_lt (l := x.args) (i := i - 1) (by omega)
     obtain ⟨ab, ao, rfl, hres⟩ : ∃ b o, ya = some ⟨b, o, none⟩ ∧ ResAt w0 b o x.args := by
      rcases hxargs with h | h
      ·rw [h] at hy; simp at hy
      ·exact h
     obtain ⟨us, hus, hyt⟩ := hres.get hy
     obtain ⟨va, vc, za, zc, rfl, _, _, _⟩ := hyt.form
     have hbxl := Bx.lt
     refine Wp_skip (thn_normal (Wp_seq (Wp_block (Wp_region ?_))))
     refine qM (.slice ka st2.length kc) rfl ?_
     refine qF bx 0 2 rfl Try.underlying27 rfl siz25 rfl ?_
     refine qV (r_load (v := (.slice (some ⟨ab, ao, none⟩) x.args.length yc)) rfl flat25 (Bx.cell rfl)) ?_
     refine qM (I6 ((i : Int) - 1)) rfl ?_
     refine qV (r_indexSlice (b := ab) (o := ao) (len := x.args.length) (cap := yc) (i := i - 1) (o' := ao + (i - 1) * 6) rfl rfl (by omega) Try.underlying25 siz27 (by omega) (by omega)) ?_
     refine qV (r_loadAgg (vs := [(I6 y.kind), (.slice va y.set.length vc), (.slice za y.args.length zc), (I6 y.mn), (I6 y.mx), (.bool y.neg)]) rfl agg27 siz27 rfl (hus.ext E)) ?_
     have hst2l : st2.length = st'.length + (x.args.length - i) := by rw [hst]; simp
     refine s_buildSlice (ps := [(0, (.agg (R6 y va vc za zc)))]) (c := (R6 y va vc za zc)) (by decide) rfl Try.underlying25 siz27 zer27 (by decide) (by decide) (by kernel_rfl) ?_
     intro bm wm Nm
     have Fm := Nm.ge E
     have Om_bp := Nm.lt Bp
     have Om_bx := Nm.lt Bx
     replace Bp := Nm.keep Bp
     replace Bx := Nm.keep Bx
     replace hO2 := own_ext hO2 Nm.ext
     replace hS2 := own_ext hS2 Nm.ext
     replace hbs2 := Nat.le_trans hbs2 Nm.ext.size
     replace E := E.ext Nm.ext
     have Bm := Nm.blk
     refine s_append (base := base) (n := st2.length) (m := 1) (xs := rs2.flatten) (news := [(I6 y.kind), (.slice va y.set.length vc), (.slice za y.args.length zc), (I6 y.mn), (I6 y.mx), (.bool y.neg)]) (size := 6) (bytes := 80) (v := (.slice ka st2.length kc)) (by decide) Try.underlying25 siz27 byt27 zer27 rfl (by decide) rfl hS2 rfl (rfl) (Bm.cells rfl) (by simp [Value.oneCell']) (by unfold maxLen; omega) (by omega) (hbs2) ?_
     intro v19 w19 Ov19 Cv19 Dv19
     replace Bp := Cv19.keep (fun h => by have := (hS2.lt _ h).1; omega) Bp
     replace Bx := Cv19.keep (fun h => hSx _ h rfl) Bx
     replace E := E.step Cv19 (fun x hx h => absurd (hS2.lt x h).1 (by omega))
     obtain ⟨ka2, kc2, rfl⟩ := own_form Ov19
     have hO3 := own_apart hO2 Cv19 hAp2.symm
     have hAp3 := (Apart.app hAp2.symm hO2 Dv19).symm
     have hl2 : (st2 ++ [y]).length = st2.length + 1 := by simp
     rw [← hl2] at Ov19 hAp3 Dv19 ⊢
     refine qA (.slice ka2 ((st2 ++ [y]).length) kc2) rfl ?_
     refine WpL_nil (inB_normal (thn_normal (Wp_region ?_)))
     refine qM (I6 ((i : Int) - 1)) rfl ?_
     refine qV (r_sub (k := .i64) (a := (i : Int) - 1) (b := 1) (c := (((i - 1 : Nat) : Nat) : Int) - 1) rfl rfl (by rw [wI64 (by omega)]; omega)) ?_
     refine qA (I6 ((((i - 1 : Nat) : Nat) : Int) - 1)) rfl ?_
     refine WpL_nil (thn_normal ?_)
     exact ⟨2 * (i - 1), by omega, i - 1, st2 ++ [y], rs2 ++ [_], ka2, kc2, Fits.out ⟨rfl, rfl, rfl, rfl, rfl, trivial⟩, E, Bp, Bx, (by omega), hO3, (by simpa using Ov19), hAp3, hrs2.snoc hyt, (by rw [hst, drop_cons hy, show i - 1 + 1 = i from by omega]; simp), Nat.le_trans hbs2 Cv19.size, (fun k h e => by rcases Dv19 k h with h1 | h1; exact hSx k h1 e; have := Nm.size; omega), rfl⟩
    ·have khge := hge
     replace hge := of_decide_eq_false hge
     obtain rfl : i = 0 := by omega
     have hl3 : (outs ++ [x]).length = outs.length + 1 := by simp
     rw [← hl3] at hO2 hAp2 ⊢
     refine Wp_exit (thn_exit (thn_exit (inB_here (inB_normal (thn_normal ?_)))))
     exact ⟨t.size - (outs ++ [x]).length, by omega, outs ++ [x], st2, ro ++ [_], rs2, oa2, oc2, ka, kc, Fits.out ⟨rfl, rfl, rfl, trivial⟩, E, Bp, hO2, hS2, hAp2, hro.snoc hxr, hrs2, (by rw [hpre, hst]; simp [preLs, preLs_append, preL_eq x]), (by simp; omega), hbs2, rfl⟩
  ·have khlt := hlt
   have hfin : outs = (preL t).take most.toNat := by
    simp at hlt
    rcases Nat.eq_zero_or_pos sts.length with h | h
    ·have : sts = [] := List.eq_nil_of_length_eq_zero h
     subst this
     have hp : preL t = outs := by rw [hpre]; simp [preLs]
     rw [hp, List.take_of_length_le (by omega)]
    ·have hle := hlt h
     have : outs.length = most.toNat := by omega
     rw [hpre, ← this, List.take_left' rfl]
   rw [← hfin]
   refine Wp_exit (thn_exit (thn_exit (inB_here (thn_normal (Wp_seq_region ?_)))))
   refine qM (.slice oa outs.length oc) rfl ?_
   refine qA (.slice oa outs.length oc) rfl ?_
   refine WpL_nil (Wp_ret ?_)
   refine fin_tmp Try.results24 (v := (.slice oa outs.length oc)) rfl ?_
   exact ⟨oa, oc, ro, rfl, own_rows hO hro rfl, hro, E⟩
end Go.Proofs
namespace Go.Proofs
open Go Go.Eng
set_option maxRecDepth 100000
section
variable {S : Type} (F : S → Re → Bool × S)
def walkL : List Re → S → Bool × S
  | [], s => (true, s)
  | t :: ts, s => if (F s t).1 then walkL ts (F s t).2 else (false, (F s t).2)
theorem walkL_append : ∀ (a b : List Re) (s : S), walkL F (a ++ b) s = if (walkL F a s).1 then walkL F b (walkL F a s).2 else (false, (walkL F a s).2)
  | [], b, s => by simp [walkL]
  | x :: a, b, s => by
    simp only [List.cons_append, walkL]
    split
    · exact walkL_append a b _
    · simp
mutual
theorem walkF_list : ∀ (t : Re) (s : S), walkF F t s = walkL F (preL t) s
  | .mk k set args mn mx ng, s => by
    rw [walkF_eq, preL_eq]
    simp only [walkL, Re.args]
    rw [walkFs_list args]
theorem walkFs_list : ∀ (ts : List Re) (s : S), walkFs F ts s = walkL F (preLs ts) s
  | [], s => by simp only [walkFs, preLs, walkL]
  | t :: ts, s => by
    rw [walkFs_cons]
    simp only [preLs]
    rw [walkL_append, ← walkF_list t, ← walkFs_list ts]
end
end
def chkL (m : Nat) : Nat → List Re → Int
  | _, [] => 0
  | i, x :: xs => if i = m then 2 else if nodeE x ≠ 0 then nodeE x else chkL m (i + 1) xs
theorem chk_walk (m : Nat) (hm : m ≤ 1000000) : ∀ (l : List Re) (n : Nat), n ≤ m → (walkL (fitF (m : Int)) l ((n : Int), 0)).2.2 = chkL m n (l.take (m + 1 - n))
  | [], n, _ => by simp [walkL, chkL]
  | x :: xs, n, hn => by
    simp only [walkL]
    rw [fitF_eq x (by omega) (by omega)]
    rw [show m + 1 - n = (m - n) + 1 from by omega, List.take_succ_cons]
    simp only [chkL]
    by_cases h : n = m
    · rw [if_pos h, if_pos (by omega : (m : Int) < (n : Int) + 1)]; simp
    · rw [if_neg h, if_neg (by omega : ¬ (m : Int) < (n : Int) + 1)]
      by_cases h2 : nodeE x = 0
      · have := chk_walk m hm xs (n + 1) (by omega)
        rw [show m + 1 - (n + 1) = m - n from by omega] at this
        simp only [h2, decide_true, if_true, ne_eq, not_true, if_false]
        rw [← this]; rfl
      · rw [if_pos h2]; simp [h2]
theorem fits_chk {t : Re} {m : Nat} (hm : m ≤ 1000000) : fitsE t (m : Int) = chkL m 0 ((preL t).take (m + 1)) := by
 unfold fitsE
 rw [walkF_list]
 exact chk_walk m hm (preL t) 0 (Nat.zero_le _)
set_option maxHeartbeats 1000000 in
theorem refck_c (w0 : World) (t : Re) (vs : List Value) (m : Nat) (hm : m ≤ 1000000) (ht : ReAt w0 t vs) (hs : t.size ≤ 2097152) :
  Ret Try.prog 23 #[.agg vs.toArray, .int .i64 (m : Int)] w0 fun v w => v = .int .i64 (fitsE t (m : Int)) ∧ Ext w0 w := by
 have ht0 := ht
 obtain ⟨sa, sc, aa, ac, rfl, hset, hlen, hargs⟩ := ht.form
 rw [fits_chk hm]
 refine Ret_of Try.func23 rfl Try.ntmps23 (Nat.le_of_ble_eq_true rfl) ?_
 have E : Chg none1 w0 w0 := Chg.refl _ _
 refine Wp_seq_region ?_
 refine s_box (v := (.agg (R6 t sa sc aa ac))) (c := (R6 t sa sc aa ac)) (by decide) rfl rfl ?_
 intro b1 w1 N1
 have F1 := N1.ge E
 replace E := E.ext N1.ext
 have B1 := N1.blk
 refine qA (I6 0) rfl ?_
 refine WpL_nil (Wp_seq (Wp_seq_region ?_))
 refine qV (r_loadAgg (vs := [(I6 t.kind), (.slice sa t.set.length sc), (.slice aa t.args.length ac), (I6 t.mn), (I6 t.mx), (.bool t.neg)]) rfl agg27 siz27 rfl (B1.cells rfl)) ?_
 refine qM (I6 (m : Int)) rfl ?_
 refine qV (r_add (k := .i64) (a := (m : Int)) (b := 1) (c := ((m + 1 : Nat) : Int)) rfl rfl (by rw [wI64 (by omega)]; omega)) ?_
 refine WpL_enter rfl rfl (by decide) (r_callF (vs := [(.agg (R6 t sa sc aa ac)), (I6 ((m + 1 : Nat) : Int))]) Try.func24 nm24 bd24 rfl) (pre_c _ t _ _ (ReAt.ext E t ht0) hs) ?_
 rintro _ w9 ⟨la, lc, rows, rfl, hsl, hrows, X9⟩
 replace B1 := X9.keep B1
 replace E := E.ext X9
 have hll : ((preL t).take (m + 1)).length ≤ m + 1 := by simp; omega
 obtain ⟨L, hL⟩ : ∃ L, L = (preL t).take (m + 1) := ⟨_, rfl⟩
 have hrows' : RowsOf w9 L rows := by rw [hL]; exact RowsOf.ext X9 hrows
 clear hrows
 rw [show ((m + 1 : Nat) : Int).toNat = m + 1 from rfl] at hsl
 rw [show ((m + 1 : Nat) : Int).toNat = m + 1 from rfl]
 rw [← hL] at hsl hll ⊢
 clear hL
 have wq0 : Ext w9 w9 := Ext.refl _
 have EQ : Chg none1 w9 w9 := Chg.refl _ _
 refine qV (r_lenSlice (ad := la) (n := L.length) (cap := lc) Try.underlying25 rfl) ?_
 refine qM (I6 0) rfl ?_
 refine WpL_nil (Wp_block ?_)
 refine Wp_loop (fun nn_ σ W2 => ∃ (k : Nat), (∃ jj_, σ = upds jj_ [(1, (I6 (m : Int))), (11, (.slice la L.length lc)), (12, (I6 (L.length : Int))), (13, (I6 (k : Int)))]) ∧ Chg none1 w0 W2 ∧ Chg none1 w9 W2 ∧ Blk W2 b1 (R6 t sa sc aa ac) 27 ∧ (k ≤ L.length) ∧ (chkL m 0 L = chkL m k (L.drop k)) ∧ nn_ = L.length - k) (n := L.length - 0) ?_ ?_
 ·exact ⟨0, Fits.out ⟨rfl, rfl, rfl, rfl, trivial⟩, E, EQ, B1, Nat.zero_le _, rfl, rfl⟩
 ·clear E EQ B1
  rintro _ _ W2 ⟨k, ⟨j2, rfl⟩, E, EQ, B1, hk, hp, rfl⟩
  refine Wp_seq_region ?_
  refine qV (r_lss (k := .i64) (a := (k : Int)) (b := (L.length : Int)) rfl rfl) ?_
  refine WpL_nil (Wp_seq ?_)
  refine Wp_cond (b := decide (((k : Int) : Int) < (L.length : Int))) rfl (fun hlt => ?_) (fun hlt => ?_)
  ·have khlt := hlt
   replace hlt := of_decide_eq_true hlt
   obtain ⟨x, hx⟩ := get_of_lt (l := L) (i := k) (by omega)
   obtain ⟨r, hr, hxr⟩ := hrows'.get hx
   obtain ⟨b, o, rfl, hcl⟩ := SlAt.at hsl (by omega)
   have hd := drop_cons hx
   have hcr := (hcl k r hr).ext EQ
   obtain ⟨xa, xc, ya, yc, rfl, hxset, hxlen, hxargs⟩ := hxr.form
   refine Wp_skip (thn_normal (Wp_seq (Wp_block (Wp_seq_region ?_))))
   refine qM (I6 (k : Int)) rfl ?_
   refine qV (r_indexSlice (b := b) (o := o) (len := L.length) (cap := lc) (i := k) (o' := o + k * 6) rfl rfl rfl Try.underlying25 siz27 (by omega) (by omega)) ?_
   refine qV (r_loadAgg (vs := [(I6 x.kind), (.slice xa x.set.length xc), (.slice ya x.args.length yc), (I6 x.mn), (I6 x.mx), (.bool x.neg)]) rfl agg27 siz27 rfl (hcr)) ?_
   refine s_alloc (c := #[(I6 0), (.slice none 0 0), (.slice none 0 0), (I6 0), (I6 0), (.bool false)]) (by decide) zer27 rfl ?_
   intro b4 w4 N4
   have F4 := N4.ge E
   have F4_EQ := N4.ge EQ
   have O4_b1 := N4.lt B1
   replace B1 := N4.keep B1
   replace E := E.ext N4.ext
   have B4 := N4.blk
   replace EQ := EQ.ext N4.ext
   refine qA (I6 (k : Int)) rfl ?_
   refine s_storeAgg (b := b4) (o := 0) (c' := (R6 x xa xc ya yc)) rfl rfl (by simp [Value.oneCell']) siz27 rfl B4 (by first | (simp; done) | exact Nat.le_of_ble_eq_true rfl) rfl ?_
   intro w5 S5
   replace B1 := S5.keep (by omega) B1
   replace E := S5.step E (by first | exact Or.inl (by omega) | exact Or.inr rfl | exact Or.inr (by assumption) | exact Or.inr (by simp) | exact Or.inr (by omega) | exact Or.inr (by dsimp only; omega))
   replace EQ := S5.step EQ (Or.inl (by omega))
   replace B4 := S5.blk
   refine WpL_nil (Wp_seq (Wp_seq_region ?_))
   refine qM (I6 (k : Int)) rfl ?_
   refine qM (I6 (m : Int)) rfl ?_
   refine qV (r_eql (k := .i64) (a := (k : Int)) (b := (m : Int)) rfl rfl) ?_
   refine WpL_nil ?_
   refine Wp_cond (b := decide (((k : Int) : Int) = (m : Int))) rfl (fun he => ?_) (fun he => ?_)
   ·have khe := he
    replace he := of_decide_eq_true he
    refine Wp_seq_region ?_
    refine qA (I6 2) rfl ?_
    refine WpL_nil (Wp_ret (thn_ret (inB_ret (thn_ret (thn_ret (inB_ret (thn_ret ?_)))))))
    refine fin_tmp Try.results23 (v := (.int .i64 2)) rfl ?_
    exact ⟨int_eq (by rw [hp, hd]; simp only [chkL]; rw [if_pos (by omega)]), E⟩
   ·have khe := he
    replace he := of_decide_eq_false he
    refine Wp_skip (thn_normal (Wp_seq_region ?_))
    refine qV (r_loadAgg (vs := [(I6 x.kind), (.slice xa x.set.length xc), (.slice ya x.args.length yc), (I6 x.mn), (I6 x.mx), (.bool x.neg)]) rfl agg27 siz27 rfl (B4.cells rfl)) ?_
    refine WpL_enter rfl rfl (by decide) (r_callF (vs := [(.agg (R6 x xa xc ya yc))]) Try.func43 nm43 bd43 rfl) (cnode_c _ _ x _ hxr EQ) ?_
    rintro _ w19 ⟨rfl, X19⟩
    replace B1 := X19.keep B1
    replace B4 := X19.keep B4
    replace E := E.ext X19
    replace EQ := EQ.ext X19
    refine qA (I6 (nodeE x)) rfl ?_
    refine WpL_nil (Wp_seq_region ?_)
    refine qM (I6 (nodeE x)) rfl ?_
    refine qV (r_neq (k := .i64) (a := nodeE x) (b := 0) rfl rfl) ?_
    refine WpL_nil ?_
    refine Wp_cond (b := decide ((nodeE x : Int) ≠ 0)) rfl (fun hne => ?_) (fun hne => ?_)
    ·have khne := hne
     replace hne := of_decide_eq_true hne
     refine Wp_seq_region ?_
     refine qM (I6 (nodeE x)) rfl ?_
     refine qA (I6 (nodeE x)) rfl ?_
     refine WpL_nil (Wp_ret (inB_ret (thn_ret (thn_ret (inB_ret (thn_ret ?_))))))
     refine fin_tmp Try.results23 (v := (.int .i64 (nodeE x))) rfl ?_
     exact ⟨int_eq (by rw [hp, hd]; simp only [chkL]; rw [if_neg (by omega), if_pos hne]), E⟩
    ·have khne := hne
     replace hne := of_decide_eq_false hne
     refine Wp_skip (inB_normal (thn_normal (Wp_region ?_)))
     refine qV (r_add (k := .i64) (a := (k : Int)) (b := 1) (c := (k : Int) + 1) rfl rfl (wI64 (by omega))) ?_
     refine qM (I6 ((k : Int) + 1)) rfl ?_
     refine WpL_nil (thn_normal ?_)
     exact ⟨L.length - (k + 1), by omega, k + 1, Fits.out ⟨rfl, rfl, rfl, rfl, trivial⟩, E, EQ, B1, (by omega), (by rw [hp, hd]; simp only [chkL]; rw [if_neg (by omega), if_neg hne]), rfl⟩
  ·have khlt := hlt
   replace hlt := of_decide_eq_false hlt
   have hkl : L.drop k = [] := List.drop_eq_nil_of_le (by omega)
   refine Wp_exit (thn_exit (thn_exit (inB_here (thn_normal (Wp_seq_region ?_)))))
   refine qA (I6 0) rfl ?_
   refine WpL_nil (Wp_ret ?_)
   refine fin_tmp Try.results23 (v := (.int .i64 0)) rfl ?_
   exact ⟨int_eq (by rw [hp, hkl]; rfl), E⟩
theorem r_max2 {P : Program} {σ : Env} {w : World} {dst : Option Tmp} {ty : TypeId} {pos : String} {af : Array Edge} {g : Option (Nat × Bool)} {tys : Array TypeId} {x y : Operand} {k : IntKind} {a b c : Int} (hx : ev σ x = .int k a) (hy : ev σ y = .int k b) (hc : max a b = c) :
  (execOp (ev σ) ⟨dst, .call ⟨.builtin .max, #[x, y], tys⟩, ty, pos, af, g⟩).run P w = .ok (.value (.int k c)) w := by
 subst hc
 have : (if a < b then b else a) = max a b := by split <;> omega
 simp [execOp, resolve, invoke, builtin, Builtin.max_, Builtin.max2, hx, hy, this]
theorem deep_c : ∀ (N : Nat) (t : Re), t.size ≤ N → N ≤ 2097152 → ∀ (w0 : World) (vs : List Value), ReAt w0 t vs →
    Ret Try.prog 33 #[.agg vs.toArray] w0 fun v w => (∃ d : Int, v = .int .i64 d ∧ 0 ≤ d ∧ d ≤ N) ∧ Ext w0 w := by
  intro N
  induction N with
  | zero => intro t ht; have := t.size_pos; omega
  | succ N ih =>
  intro t hN hNb w0 vs ht
  have ht0 := ht
  obtain ⟨sa, sc, aa, ac, rfl, hset, hlen, hargs⟩ := ht.form
  have hal := len_lt_size t
  refine Ret_of Try.func33 rfl Try.ntmps33 (Nat.le_of_ble_eq_true rfl) ?_
  have E : Chg none1 w0 w0 := Chg.refl _ _
  refine Wp_seq_region ?_
  refine s_box (v := (.agg (R6 t sa sc aa ac))) (c := (R6 t sa sc aa ac)) (by decide) rfl rfl ?_
  intro b1 w1 N1
  have F1 := N1.ge E
  replace E := E.ext N1.ext
  have B1 := N1.blk
  refine qA (I6 0) rfl ?_
  refine WpL_nil (Wp_seq_region ?_)
  refine qA (I6 0) rfl ?_
  refine WpL_nil (Wp_seq (Wp_seq_region ?_))
  refine qF b1 0 2 rfl Try.underlying27 rfl siz25 rfl ?_
  refine qV (r_load (v := (.slice aa t.args.length ac)) rfl flat25 (B1.cell rfl)) ?_
  refine qV (r_lenSlice (ad := aa) (n := t.args.length) (cap := ac) Try.underlying25 rfl) ?_
  refine qM (I6 0) rfl ?_
  refine WpL_nil (Wp_block ?_)
  refine Wp_loop (fun nn_ σ W2 => ∃ (k : Nat) (n : Int), (∃ jj_, σ = upds jj_ [(7, (.slice aa t.args.length ac)), (8, (I6 (t.args.length : Int))), (9, (I6 (k : Int))), (3, (I6 n))]) ∧ Chg none1 w0 W2 ∧ Blk W2 b1 (R6 t sa sc aa ac) 27 ∧ (k ≤ t.args.length) ∧ (0 ≤ n ∧ n ≤ N) ∧ nn_ = t.args.length - k) (n := t.args.length - 0) ?_ ?_
  · exact ⟨0, 0, Fits.out ⟨rfl, rfl, rfl, rfl, trivial⟩, E, B1, Nat.zero_le _, (by omega), rfl⟩
  · clear E B1
    rintro _ _ W2 ⟨k, n, ⟨j2, rfl⟩, E, B1, hk, hn, rfl⟩
    refine Wp_seq_region ?_
    refine qV (r_lss (k := .i64) (a := (k : Int)) (b := (t.args.length : Int)) rfl rfl) ?_
    refine WpL_nil (Wp_seq ?_)
    refine Wp_cond (b := decide (((k : Int) : Int) < (t.args.length : Int))) rfl (fun hlt => ?_) (fun hlt => ?_)
    · have khlt := hlt
      replace hlt := of_decide_eq_true hlt
      obtain ⟨x, hx⟩ := get_of_lt (l := t.args) (i := k) (by omega)
      obtain ⟨ab, ao, rfl, hres⟩ : ∃ b o, aa = some ⟨b, o, none⟩ ∧ ResAt w0 b o t.args := by
        rcases hargs with h | h
        · rw [h] at hx; simp at hx
        · exact h
      obtain ⟨us, hus, hxt⟩ := hres.get hx
      have hsz := Re.size_arg hx
      refine Wp_skip (thn_normal (Wp_seq (Wp_block (Wp_seq_region ?_))))
      refine qV (r_indexSlice (b := ab) (o := ao) (len := t.args.length) (cap := ac) (i := k) (o' := ao + k * 6) rfl rfl rfl Try.underlying25 siz27 (by omega) (by omega)) ?_
      refine qV (r_loadAgg (vs := us) rfl agg27 siz27 hxt.len (hus.ext E)) ?_
      refine s_allocStore (v := (.agg us.toArray)) (c := us.toArray) (n := 6) (by decide) zer27 rfl siz27 rfl rfl (by simpa using hxt.len) (by simpa using ReAt.one hxt) ?_
      intro b4 w4 N4
      have F4 := N4.ge E
      have O4_b1 := N4.lt B1
      replace B1 := N4.keep B1
      replace E := E.ext N4.ext
      have B4 := N4.blk
      refine WpL_nil (Wp_region ?_)
      refine qM (I6 n) rfl ?_
      refine qV (r_loadAgg (vs := us) rfl agg27 siz27 hxt.len (B4.cells (by simp))) ?_
      refine WpL_enter rfl rfl (by decide) (r_callF (vs := [(.agg us.toArray)]) Try.func33 nm33 bd33 rfl) (ih x (by omega) (by omega) _ us (ReAt.ext E x hxt)) ?_
      rintro _ w9 ⟨⟨d, rfl, hd⟩, X9⟩
      replace B1 := X9.keep B1
      replace B4 := X9.keep B4
      replace E := E.ext X9
      refine qV (r_max2 (a := n) (b := d) (c := max n d) rfl rfl rfl) ?_
      refine qA (I6 (max n d)) rfl ?_
      refine WpL_nil (inB_normal (thn_normal (Wp_region ?_)))
      refine qV (r_add (k := .i64) (a := (k : Int)) (b := 1) (c := (k : Int) + 1) rfl rfl (wI64 (by omega))) ?_
      refine qM (I6 ((k : Int) + 1)) rfl ?_
      refine WpL_nil (thn_normal ?_)
      exact ⟨t.args.length - (k + 1), by omega, k + 1, max n d, Fits.out ⟨rfl, rfl, rfl, rfl, trivial⟩, E, B1, (by omega), (by omega), rfl⟩
    · have khlt := hlt
      replace hlt := of_decide_eq_false hlt
      refine Wp_exit (thn_exit (thn_exit (inB_here (thn_normal (Wp_seq_region ?_)))))
      refine qM (I6 n) rfl ?_
      refine qV (r_add (k := .i64) (a := n) (b := 1) (c := n + 1) rfl rfl (wI64 (by omega))) ?_
      refine qA (I6 (n + 1)) rfl ?_
      refine WpL_nil (Wp_ret ?_)
      refine fin_tmp Try.results33 (v := (.int .i64 (n + 1))) rfl ?_
      exact ⟨⟨_, rfl, by omega, by omega⟩, E⟩
theorem weight_c : ∀ (N : Nat) (t : Re), t.size ≤ N → N ≤ 2097152 → okRe t → ∀ (w0 : World) (vs : List Value), ReAt w0 t vs →
    Ret Try.prog 34 #[.agg vs.toArray] w0 fun v w => (∃ d : Int, v = .int .i64 d ∧ 0 ≤ d ∧ d ≤ 1000000) ∧ Ext w0 w := by
  intro N
  induction N with
  | zero => intro t ht; have := t.size_pos; omega
  | succ N ih =>
  intro t hN hNb hok w0 vs ht
  have ht0 := ht
  obtain ⟨sa, sc, aa, ac, rfl, hset, hlen, hargs⟩ := ht.form
  have hal := len_lt_size t
  refine Ret_of Try.func34 rfl Try.ntmps34 (Nat.le_of_ble_eq_true rfl) ?_
  have E : Chg none1 w0 w0 := Chg.refl _ _
  refine Wp_seq_region ?_
  refine s_box (v := (.agg (R6 t sa sc aa ac))) (c := (R6 t sa sc aa ac)) (by decide) rfl rfl ?_
  intro b1 w1 N1
  have F1 := N1.ge E
  replace E := E.ext N1.ext
  have B1 := N1.blk
  refine qA (I6 0) rfl ?_
  refine WpL_nil (Wp_seq_region ?_)
  refine qA (I6 1) rfl ?_
  refine WpL_nil (Wp_seq (Wp_seq_region ?_))
  refine qF b1 0 2 rfl Try.underlying27 rfl siz25 rfl ?_
  refine qV (r_load (v := (.slice aa t.args.length ac)) rfl flat25 (B1.cell rfl)) ?_
  refine qV (r_lenSlice (ad := aa) (n := t.args.length) (cap := ac) Try.underlying25 rfl) ?_
  refine qM (I6 0) rfl ?_
  refine WpL_nil (Wp_block ?_)
  refine Wp_loop (fun nn_ σ W2 => ∃ (k : Nat) (n : Int), (∃ jj_, σ = upds jj_ [(1, (P6 b1 0)), (7, (.slice aa t.args.length ac)), (8, (I6 (t.args.length : Int))), (9, (I6 (k : Int))), (3, (I6 n))]) ∧ Chg none1 w0 W2 ∧ Blk W2 b1 (R6 t sa sc aa ac) 27 ∧ (k ≤ t.args.length) ∧ (0 ≤ n ∧ n ≤ 1000000) ∧ nn_ = t.args.length - k) (n := t.args.length - 0) ?_ ?_
  · exact ⟨0, 1, Fits.out ⟨rfl, rfl, rfl, rfl, rfl, trivial⟩, E, B1, Nat.zero_le _, (by omega), rfl⟩
  · clear E B1
    rintro _ _ W2 ⟨k, n, ⟨j2, rfl⟩, E, B1, hk, hn, rfl⟩
    refine Wp_seq_region ?_
    refine qV (r_lss (k := .i64) (a := (k : Int)) (b := (t.args.length : Int)) rfl rfl) ?_
    refine WpL_nil (Wp_seq ?_)
    refine Wp_cond (b := decide (((k : Int) : Int) < (t.args.length : Int))) rfl (fun hlt => ?_) (fun hlt => ?_)
    · have khlt := hlt
      replace hlt := of_decide_eq_true hlt
      obtain ⟨x, hx⟩ := get_of_lt (l := t.args) (i := k) (by omega)
      obtain ⟨ab, ao, rfl, hres⟩ : ∃ b o, aa = some ⟨b, o, none⟩ ∧ ResAt w0 b o t.args := by
        rcases hargs with h | h
        · rw [h] at hx; simp at hx
        · exact h
      obtain ⟨us, hus, hxt⟩ := hres.get hx
      have hsz := Re.size_arg hx
      have hxo := okRes_get (okRe_args hok) hx
      refine Wp_skip (thn_normal (Wp_seq (Wp_block (Wp_seq_region ?_))))
      refine qV (r_indexSlice (b := ab) (o := ao) (len := t.args.length) (cap := ac) (i := k) (o' := ao + k * 6) rfl rfl rfl Try.underlying25 siz27 (by omega) (by omega)) ?_
      refine qV (r_loadAgg (vs := us) rfl agg27 siz27 hxt.len (hus.ext E)) ?_
      refine s_allocStore (v := (.agg us.toArray)) (c := us.toArray) (n := 6) (by decide) zer27 rfl siz27 rfl rfl (by simpa using hxt.len) (by simpa using ReAt.one hxt) ?_
      intro b4 w4 N4
      have F4 := N4.ge E
      have O4_b1 := N4.lt B1
      replace B1 := N4.keep B1
      replace E := E.ext N4.ext
      have B4 := N4.blk
      refine WpL_nil (Wp_region ?_)
      refine qM (I6 n) rfl ?_
      refine qV (r_loadAgg (vs := us) rfl agg27 siz27 hxt.len (B4.cells (by simp))) ?_
      refine WpL_enter rfl rfl (by decide) (r_callF (vs := [(.agg us.toArray)]) Try.func34 nm34 bd34 rfl) (ih x (by omega) (by omega) hxo _ us (ReAt.ext E x hxt)) ?_
      rintro _ w9 ⟨⟨d, rfl, hd⟩, X9⟩
      replace B1 := X9.keep B1
      replace B4 := X9.keep B4
      replace E := E.ext X9
      refine qV (r_add (k := .i64) (a := n) (b := d) (c := n + d) rfl rfl (wI64 (by omega))) ?_
      refine qV (r_min2 (a := n + d) (b := 1000000) (c := min (n + d) 1000000) rfl rfl rfl) ?_
      refine qA (I6 (min (n + d) 1000000)) rfl ?_
      refine WpL_nil (inB_normal (thn_normal (Wp_region ?_)))
      refine qV (r_add (k := .i64) (a := (k : Int)) (b := 1) (c := (k : Int) + 1) rfl rfl (wI64 (by omega))) ?_
      refine qM (I6 ((k : Int) + 1)) rfl ?_
      refine WpL_nil (thn_normal ?_)
      exact ⟨t.args.length - (k + 1), by omega, k + 1, min (n + d) 1000000, Fits.out ⟨rfl, rfl, rfl, rfl, rfl, trivial⟩, E, B1, (by omega), (by omega), rfl⟩
    · have khlt := hlt
      replace hlt := of_decide_eq_false hlt
      refine Wp_exit (thn_exit (thn_exit (inB_here (thn_normal (Wp_seq (Wp_seq_region ?_))))))
      refine qF b1 0 0 rfl Try.underlying27 rfl siz3 rfl ?_
      refine qV (r_load (v := (I6 t.kind)) rfl flat3 (B1.cell rfl)) ?_
      refine qV (r_eql (k := .i64) (a := t.kind) (b := 6) rfl rfl) ?_
      refine WpL_nil ?_
      refine Wp_cond (b := decide ((t.kind : Int) = 6)) rfl (fun h6 => ?_) (fun h6 => ?_)
      · have kh6 := h6
        replace h6 := of_decide_eq_true h6
        have hrep := okRe_rep hok h6
        refine Wp_region ?_
        refine qM (I6 n) rfl ?_
        refine qF b1 0 4 rfl Try.underlying27 rfl siz3 rfl ?_
        refine qV (r_load (v := (I6 t.mx)) rfl flat3 (B1.cell rfl)) ?_
        refine qV (r_max2 (a := 1) (b := t.mx) (c := max 1 t.mx) rfl rfl rfl) ?_
        have hmul : 0 ≤ n * max 1 t.mx ∧ n * max 1 t.mx ≤ 8000000 := ⟨Int.mul_nonneg (by omega) (by omega), Int.le_trans (Int.mul_le_mul (by omega : n ≤ 1000000) (by omega : max 1 t.mx ≤ 8) (by omega) (by omega)) (by decide)⟩
        refine qV (r_mul (k := .i64) (a := n) (b := max 1 t.mx) (c := n * max 1 t.mx) rfl rfl (wI64 (by omega))) ?_
        refine qV (r_min2 (a := n * max 1 t.mx) (b := 1000000) (c := min (n * max 1 t.mx) 1000000) rfl rfl rfl) ?_
        refine qA (I6 (min (n * max 1 t.mx) 1000000)) rfl ?_
        refine WpL_nil (thn_normal (Wp_seq_region ?_))
        refine qM (I6 (min (n * max 1 t.mx) 1000000)) rfl ?_
        refine qA (I6 (min (n * max 1 t.mx) 1000000)) rfl ?_
        refine WpL_nil (Wp_ret ?_)
        refine fin_tmp Try.results34 (v := (.int .i64 (min (n * max 1 t.mx) 1000000))) rfl ?_
        exact ⟨⟨_, rfl, by omega, by omega⟩, E⟩
      · have kh6 := h6
        replace h6 := of_decide_eq_false h6
        refine Wp_skip (thn_normal (Wp_seq_region ?_))
        refine qM (I6 n) rfl ?_
        refine qA (I6 n) rfl ?_
        refine WpL_nil (Wp_ret ?_)
        refine fin_tmp Try.results34 (v := (.int .i64 n)) rfl ?_
        exact ⟨⟨_, rfl, by omega, by omega⟩, E⟩
end Go.Proofs
namespace Go.Proofs
open Go Go.Eng
def Wf (n : Nat) (R : Rl) : Prop := ∀ i j, R i j = true → i ≤ j ∧ j ≤ n
/-- Repetition. -/
inductive St (n : Nat) (A : Rl) (i : Nat) : Nat → Prop where
  | refl : i ≤ n → St n A i i
  | step {j k : Nat} : St n A i j → A j k = true → St n A i k
theorem St.trans {n : Nat} {A : Rl} {i j k : Nat} (h : St n A i j) (h' : St n A j k) : St n A i k := by
  induction h' with
  | refl _ => exact h
  | step _ h2 ih => exact .step ih h2
theorem St.one {n : Nat} {A : Rl} (a : Wf n A) {i j : Nat} (h : A i j = true) : St n A i j := .step (.refl (by have := a i j h; omega)) h
theorem St.le {n : Nat} {A : Rl} (a : Wf n A) {i j : Nat} (h : St n A i j) : i ≤ n ∧ j ≤ n := by
  induction h with
  | refl h => exact ⟨h, h⟩
  | step _ h2 ih => exact ⟨ih.1, (a _ _ h2).2⟩
abbrev starT (s : Re) : Re := .mk 5 [] [s] 0 0 false
def Txt (text : List Int) : Prop := text.length ≤ 24 ∧ ∀ x ∈ text, runeB x = true
end Go.Proofs
namespace Go.Proofs
open Go Go.Eng
set_option maxRecDepth 100000
theorem args_at {w0 : World} {aa : Option Addr} {ts : List Re} (h : ts = [] ∨ ∃ b o, aa = some ⟨b, o, none⟩ ∧ ResAt w0 b o ts) (h0 : 0 < ts.length) : ∃ b o, aa = some ⟨b, o, none⟩ ∧ ResAt w0 b o ts := by
 rcases h with h | h
 ·rw [h] at h0; simp at h0
 ·exact h
end Go.Proofs
namespace Go.Proofs
open Go Go.Eng Go.Sort
set_option maxRecDepth 100000
theorem lenR_le (t : Re) : lenR t ≤ 1000 := by
 cases t
 simp only [lenR, lenRK]
 split <;> omega
theorem lenR_k (t : Re) : lenR t = lenRK t.kind t.args.length (lenRs 0 t.args) t.mn t.mx := by cases t; rfl
theorem lenRs_le : ∀ (ts : List Re) (s : Nat), s ≤ 1000 → lenRs s ts ≤ 1000
  | [], s, h => h
  | t :: ts, s, h => lenRs_le ts _ (by omega)
set_option maxHeartbeats 4000000 in
theorem rlength_c : ∀ (N : Nat) (t : Re), t.size ≤ N → N ≤ 1000 → okRe t → ∀ (w0 : World) (vs : List Value), ReAt w0 t vs →
    Ret Try.prog 26 #[.agg vs.toArray] w0 fun v w => v = .int .i64 ((lenR t : Nat) : Int) ∧ Ext w0 w := by
  intro N
  induction N with
  | zero => intro t ht; have := t.size_pos; omega
  | succ N ih =>
  intro t hN hNb hok w0 vs ht
  have ht0 := ht
  obtain ⟨sa, sc, aa, ac, rfl, hset, hlen, hargs⟩ := ht.form
  have hal := len_lt_size t
  have hNI := node_inv (okRe_node hok)
  have hS := lenRs_le t.args 0 (by omega)
  rw [lenR_k]
  refine Ret_of Try.func26 rfl Try.ntmps26 (Nat.le_of_ble_eq_true rfl) ?_
  have E : Chg none1 w0 w0 := Chg.refl _ _
  refine Wp_seq_region ?_
  refine s_box (v := (.agg (R6 t sa sc aa ac))) (c := (R6 t sa sc aa ac)) (by decide) rfl rfl ?_
  intro b1 w1 N1
  have F1 := N1.ge E
  replace E := E.ext N1.ext
  have B1 := N1.blk
  refine qA (I6 0) rfl ?_
  refine WpL_nil (Wp_seq_region ?_)
  refine qA (I6 0) rfl ?_
  refine WpL_nil (Wp_seq (Wp_seq_region ?_))
  refine qF b1 0 2 rfl Try.underlying27 rfl siz25 rfl ?_
  refine qV (r_load (v := (.slice aa t.args.length ac)) rfl flat25 (B1.cell rfl)) ?_
  refine qV (r_lenSlice (ad := aa) (n := t.args.length) (cap := ac) Try.underlying25 rfl) ?_
  refine qM (I6 0) rfl ?_
  refine WpL_nil (Wp_block ?_)
  refine Wp_loop (fun nn_ σ W2 => ∃ (i : Nat) (s : Nat), (∃ jj_, σ = upds jj_ [(1, (P6 b1 0)), (7, (.slice aa t.args.length ac)), (8, (I6 (t.args.length : Int))), (9, (I6 (i : Int))), (3, (I6 (s : Int)))]) ∧ Chg none1 w0 W2 ∧ Blk W2 b1 (R6 t sa sc aa ac) 27 ∧ (i ≤ t.args.length) ∧ (lenRs 0 t.args = lenRs s (t.args.drop i)) ∧ (s ≤ 1000) ∧ nn_ = t.args.length - i) (n := t.args.length - 0) ?_ ?_
  · exact ⟨0, 0, Fits.out ⟨rfl, rfl, rfl, rfl, rfl, trivial⟩, E, B1, Nat.zero_le _, rfl, (by omega), rfl⟩
  · clear E B1
    rintro _ _ W2 ⟨i, s, ⟨j2, rfl⟩, E, B1, hi, hs, hsl, rfl⟩
    refine Wp_seq_region ?_
    refine qV (r_lss (k := .i64) (a := (i : Int)) (b := (t.args.length : Int)) rfl rfl) ?_
    refine WpL_nil (Wp_seq ?_)
    refine Wp_cond (b := decide (((i : Int) : Int) < (t.args.length : Int))) rfl (fun hlt => ?_) (fun hlt => ?_)
    · have khlt := hlt
      replace hlt := of_decide_eq_true hlt
      obtain ⟨x, hx⟩ := get_of_lt (l := t.args) (i := i) (by omega)
      obtain ⟨ab, ao, rfl, hres⟩ : ∃ b o, aa = some ⟨b, o, none⟩ ∧ ResAt w0 b o t.args := by
        rcases hargs with h | h
        · rw [h] at hx; simp at hx
        · exact h
      obtain ⟨us, hus, hxt⟩ := hres.get hx
      obtain ⟨xsa, xsc, xaa, xac, rfl, hxset, hxlen, hxargs⟩ := hxt.form
      have hxl := lenR_le x
      refine Wp_skip (thn_normal (Wp_seq (Wp_block (Wp_seq_region ?_))))
      refine qV (r_indexSlice (b := ab) (o := ao) (len := t.args.length) (cap := ac) (i := i) (o' := ao + i * 6) rfl rfl rfl Try.underlying25 siz27 (by omega) (by omega)) ?_
      refine qV (r_loadAgg (vs := [(I6 x.kind), (.slice xsa x.set.length xsc), (.slice xaa x.args.length xac), (I6 x.mn), (I6 x.mx), (.bool x.neg)]) rfl agg27 siz27 rfl (hus.ext E)) ?_
      refine s_allocStore (v := (.agg (R6 x xsa xsc xaa xac))) (c := (R6 x xsa xsc xaa xac)) (n := 6) (by decide) zer27 rfl siz27 rfl rfl rfl (by simp [Value.oneCell']) ?_
      intro b4 w4 N4
      have F4 := N4.ge E
      have O4_b1 := N4.lt B1
      replace B1 := N4.keep B1
      replace E := E.ext N4.ext
      have B4 := N4.blk
      refine WpL_nil (Wp_region ?_)
      refine qM (I6 (s : Int)) rfl ?_
      refine qV (r_loadAgg (vs := [(I6 x.kind), (.slice xsa x.set.length xsc), (.slice xaa x.args.length xac), (I6 x.mn), (I6 x.mx), (.bool x.neg)]) rfl agg27 siz27 rfl (B4.cells rfl)) ?_
      refine WpL_enter rfl rfl (by decide) (r_callF (vs := [(.agg (R6 x xsa xsc xaa xac))]) Try.func26 nm26 bd26 rfl) (ih x (by have := Re.size_arg hx; omega) (by omega) (okRes_get (okRe_args hok) hx) _ _ (ReAt.ext E x hxt)) ?_
      rintro _ w19 ⟨rfl, X19⟩
      replace B1 := X19.keep B1
      replace B4 := X19.keep B4
      replace E := E.ext X19
      refine qV (r_add (k := .i64) (a := (s : Int)) (b := ((lenR x : Nat) : Int)) (c := ((s + lenR x : Nat) : Int)) rfl rfl (by rw [wI64 (by omega)]; omega)) ?_
      refine qV (r_min2 (a := ((s + lenR x : Nat) : Int)) (b := 1000) (c := ((min (s + lenR x) 1000 : Nat) : Int)) rfl rfl (by omega)) ?_
      refine qA (I6 ((min (s + lenR x) 1000 : Nat) : Int)) rfl ?_
      refine WpL_nil (inB_normal (thn_normal (Wp_region ?_)))
      refine qV (r_add (k := .i64) (a := (i : Int)) (b := 1) (c := (i : Int) + 1) rfl rfl (wI64 (by omega))) ?_
      refine qM (I6 ((i : Int) + 1)) rfl ?_
      refine WpL_nil (thn_normal ?_)
      exact ⟨t.args.length - (i + 1), by omega, i + 1, min (s + lenR x) 1000, Fits.out ⟨rfl, rfl, rfl, rfl, rfl, trivial⟩, E, B1, (by omega), (by rw [hs, drop_cons hx]; rfl), (by omega), rfl⟩
    · have khlt := hlt
      replace hlt := of_decide_eq_false hlt
      have hki : t.args.drop i = [] := List.drop_eq_nil_of_le (by omega)
      rw [hki] at hs
      have hs' : lenRs 0 t.args = s := hs
      rw [hs']
      refine Wp_exit (thn_exit (thn_exit (inB_here (thn_normal (Wp_seq (Wp_seq_region ?_))))))
      refine qF b1 0 0 rfl Try.underlying27 rfl siz3 rfl ?_
      refine qV (r_load (v := (I6 t.kind)) rfl flat3 (B1.cell rfl)) ?_
      refine WpL_nil (Wp_block (Wp_seq (Wp_seq_region ?_)))
      refine qV (r_eql (k := .i64) (a := t.kind) (b := 0) rfl rfl) ?_
      refine qA (.bool (decide ((t.kind : Int) = 0))) rfl ?_
      refine WpL_nil ?_
      refine Wp_cond (b := decide ((t.kind : Int) = 0)) rfl (fun h0 => ?_) (fun h0 => ?_)
      · have kh0 := h0
        replace h0 := of_decide_eq_true h0
        refine Wp_skip (thn_normal ?_)
        refine Wp_cond_true (congrArg Value.bool kh0) ?_
        refine Wp_seq_region ?_
        refine qA (I6 1) rfl ?_
        refine WpL_nil (Wp_ret (inB_ret (thn_ret ?_)))
        refine fin_tmp Try.results26 (v := (.int .i64 1)) rfl ?_
        exact ⟨by rw [h0]; simp [lenRK], E⟩
      · have kh0 := h0
        replace h0 := of_decide_eq_false h0
        refine Wp_region ?_
        refine qV (r_eql (k := .i64) (a := t.kind) (b := 2) rfl rfl) ?_
        refine qA (.bool (decide ((t.kind : Int) = 2))) rfl ?_
        refine WpL_nil (thn_normal ?_)
        refine Wp_cond (b := decide ((t.kind : Int) = 2)) rfl (fun h2 => ?_) (fun h2 => ?_)
        · have kh2 := h2
          replace h2 := of_decide_eq_true h2
          refine Wp_seq_region ?_
          refine qA (I6 1) rfl ?_
          refine WpL_nil (Wp_ret (inB_ret (thn_ret ?_)))
          refine fin_tmp Try.results26 (v := (.int .i64 1)) rfl ?_
          exact ⟨by rw [h2]; simp [lenRK], E⟩
        · have kh2 := h2
          replace h2 := of_decide_eq_false h2
          refine Wp_seq_region ?_
          refine qV (r_eql (k := .i64) (a := t.kind) (b := 4) rfl rfl) ?_
          refine qA (.bool (decide ((t.kind : Int) = 4))) rfl ?_
          refine WpL_nil ?_
          refine Wp_cond (b := decide ((t.kind : Int) = 4)) rfl (fun h4 => ?_) (fun h4 => ?_)
          · have kh4 := h4
            replace h4 := of_decide_eq_true h4
            have h4l := hNI.two (.inr (.inl h4))
            refine Wp_region ?_
            refine qM (I6 (s : Int)) rfl ?_
            refine qF b1 0 2 rfl Try.underlying27 rfl siz25 rfl ?_
            refine qV (r_load (v := (.slice aa t.args.length ac)) rfl flat25 (B1.cell rfl)) ?_
            refine qV (r_lenSlice (ad := aa) (n := t.args.length) (cap := ac) Try.underlying25 rfl) ?_
            refine qV (r_mul (k := .i64) (a := 2) (b := (t.args.length : Int)) (c := ((2 * t.args.length : Nat) : Int)) rfl rfl (by rw [wI64 (by omega)]; omega)) ?_
            refine qV (r_sub (k := .i64) (a := ((2 * t.args.length : Nat) : Int)) (b := 2) (c := ((2 * t.args.length - 2 : Nat) : Int)) rfl rfl (by rw [wI64 (by omega)]; omega)) ?_
            refine qV (r_add (k := .i64) (a := (s : Int)) (b := ((2 * t.args.length - 2 : Nat) : Int)) (c := ((s + (2 * t.args.length - 2) : Nat) : Int)) rfl rfl (by rw [wI64 (by omega)]; omega)) ?_
            refine qA (I6 ((s + (2 * t.args.length - 2) : Nat) : Int)) rfl ?_
            refine WpL_nil (inB_normal (thn_normal (Wp_seq_region ?_)))
            refine qM (I6 ((s + (2 * t.args.length - 2) : Nat) : Int)) rfl ?_
            refine qV (r_min2 (a := ((s + (2 * t.args.length - 2) : Nat) : Int)) (b := 1000) (c := ((min (s + (2 * t.args.length - 2)) 1000 : Nat) : Int)) rfl rfl (by omega)) ?_
            refine qA (I6 ((min (s + (2 * t.args.length - 2)) 1000 : Nat) : Int)) rfl ?_
            refine WpL_nil (Wp_ret ?_)
            refine fin_tmp Try.results26 (v := (.int .i64 ((min (s + (2 * t.args.length - 2)) 1000 : Nat) : Int))) rfl ?_
            exact ⟨by rw [h4]; unfold lenRK; simp; omega, E⟩
          · have kh4 := h4
            replace h4 := of_decide_eq_false h4
            refine Wp_seq_region ?_
            refine qV (r_eql (k := .i64) (a := t.kind) (b := 5) rfl rfl) ?_
            refine qA (.bool (decide ((t.kind : Int) = 5))) rfl ?_
            refine WpL_nil ?_
            refine Wp_cond (b := decide ((t.kind : Int) = 5)) rfl (fun h5 => ?_) (fun h5 => ?_)
            · have kh5 := h5
              replace h5 := of_decide_eq_true h5
              refine Wp_region ?_
              refine qM (I6 (s : Int)) rfl ?_
              refine qV (r_add (k := .i64) (a := (s : Int)) (b := 4) (c := ((s + 4 : Nat) : Int)) rfl rfl (by rw [wI64 (by omega)]; omega)) ?_
              refine qA (I6 ((s + 4 : Nat) : Int)) rfl ?_
              refine WpL_nil (inB_normal (thn_normal (Wp_seq_region ?_)))
              refine qM (I6 ((s + 4 : Nat) : Int)) rfl ?_
              refine qV (r_min2 (a := ((s + 4 : Nat) : Int)) (b := 1000) (c := ((min (s + 4) 1000 : Nat) : Int)) rfl rfl (by omega)) ?_
              refine qA (I6 ((min (s + 4) 1000 : Nat) : Int)) rfl ?_
              refine WpL_nil (Wp_ret ?_)
              refine fin_tmp Try.results26 (v := (.int .i64 ((min (s + 4) 1000 : Nat) : Int))) rfl ?_
              exact ⟨by rw [h5]; unfold lenRK; simp, E⟩
            · have kh5 := h5
              replace h5 := of_decide_eq_false h5
              refine Wp_seq_region ?_
              refine qV (r_eql (k := .i64) (a := t.kind) (b := 6) rfl rfl) ?_
              refine qA (.bool (decide ((t.kind : Int) = 6))) rfl ?_
              refine WpL_nil ?_
              refine Wp_cond (b := decide ((t.kind : Int) = 6)) rfl (fun h6 => ?_) (fun h6 => ?_)
              · have kh6 := h6
                replace h6 := of_decide_eq_true h6
                have hrep := hNI.rep h6
                obtain ⟨m, hm⟩ : ∃ m : Nat, t.mx = (m : Int) := Int.eq_ofNat_of_zero_le (by omega)
                obtain ⟨d, hd⟩ : ∃ d : Nat, t.mx - t.mn = (d : Int) := Int.eq_ofNat_of_zero_le (by omega)
                have hsm : s * m ≤ 1000 * 8 := Nat.mul_le_mul hsl (by omega)
                refine Wp_region ?_
                refine qM (I6 (s : Int)) rfl ?_
                refine qF b1 0 4 rfl Try.underlying27 rfl siz3 rfl ?_
                refine qV (r_load (v := (I6 t.mx)) rfl flat3 (B1.cell rfl)) ?_
                refine qV (r_mul (k := .i64) (a := (s : Int)) (b := t.mx) (c := ((s * m : Nat) : Int)) rfl rfl (by rw [hm, ← Int.natCast_mul, wI64 (by omega)])) ?_
                refine qF b1 0 4 rfl Try.underlying27 rfl siz3 rfl ?_
                refine qV (r_load (v := (I6 t.mx)) rfl flat3 (B1.cell rfl)) ?_
                refine qF b1 0 3 rfl Try.underlying27 rfl siz3 rfl ?_
                refine qV (r_load (v := (I6 t.mn)) rfl flat3 (B1.cell rfl)) ?_
                refine qV (r_sub (k := .i64) (a := t.mx) (b := t.mn) (c := (d : Int)) rfl rfl (by rw [wI64 (by omega)]; omega)) ?_
                refine qV (r_mul (k := .i64) (a := 3) (b := (d : Int)) (c := ((3 * d : Nat) : Int)) rfl rfl (by rw [wI64 (by omega)]; omega)) ?_
                refine qV (r_add (k := .i64) (a := ((s * m : Nat) : Int)) (b := ((3 * d : Nat) : Int)) (c := ((s * m + 3 * d : Nat) : Int)) rfl rfl (by rw [wI64 (by omega)]; omega)) ?_
                refine qA (I6 ((s * m + 3 * d : Nat) : Int)) rfl ?_
                refine WpL_nil (inB_normal (thn_normal (Wp_seq_region ?_)))
                refine qM (I6 ((s * m + 3 * d : Nat) : Int)) rfl ?_
                refine qV (r_min2 (a := ((s * m + 3 * d : Nat) : Int)) (b := 1000) (c := ((min (s * m + 3 * d) 1000 : Nat) : Int)) rfl rfl (by omega)) ?_
                refine qA (I6 ((min (s * m + 3 * d) 1000 : Nat) : Int)) rfl ?_
                refine WpL_nil (Wp_ret ?_)
                refine fin_tmp Try.results26 (v := (.int .i64 ((min (s * m + 3 * d) 1000 : Nat) : Int))) rfl ?_
                have e6 : lenRK 6 t.args.length s t.mn t.mx = min (s * t.mx.toNat + 3 * (t.mx - t.mn).toNat) 1000 := by unfold lenRK; simp
                exact ⟨by rw [h6, e6, hd, hm]; rfl, E⟩
              · have kh6 := h6
                replace h6 := of_decide_eq_false h6
                refine Wp_seq (Wp_seq_region ?_)
                refine qV (r_eql (k := .i64) (a := t.kind) (b := 9) rfl rfl) ?_
                refine qA (.bool (decide ((t.kind : Int) = 9))) rfl ?_
                refine WpL_nil ?_
                refine Wp_cond (b := decide ((t.kind : Int) = 9)) rfl (fun h9 => ?_) (fun h9 => ?_)
                · have kh9 := h9
                  replace h9 := of_decide_eq_true h9
                  refine Wp_skip (thn_normal ?_)
                  refine Wp_cond_true (congrArg Value.bool kh9) ?_
                  refine Wp_region ?_
                  refine qM (I6 (s : Int)) rfl ?_
                  refine qV (r_add (k := .i64) (a := (s : Int)) (b := 2) (c := ((s + 2 : Nat) : Int)) rfl rfl (by rw [wI64 (by omega)]; omega)) ?_
                  refine qA (I6 ((s + 2 : Nat) : Int)) rfl ?_
                  refine WpL_nil (inB_normal (thn_normal (Wp_seq_region ?_)))
                  refine qM (I6 ((s + 2 : Nat) : Int)) rfl ?_
                  refine qV (r_min2 (a := ((s + 2 : Nat) : Int)) (b := 1000) (c := ((min (s + 2) 1000 : Nat) : Int)) rfl rfl (by omega)) ?_
                  refine qA (I6 ((min (s + 2) 1000 : Nat) : Int)) rfl ?_
                  refine WpL_nil (Wp_ret ?_)
                  refine fin_tmp Try.results26 (v := (.int .i64 ((min (s + 2) 1000 : Nat) : Int))) rfl ?_
                  exact ⟨by rw [h9]; unfold lenRK; simp, E⟩
                · have kh9 := h9
                  replace h9 := of_decide_eq_false h9
                  refine Wp_region ?_
                  refine qV (r_eql (k := .i64) (a := t.kind) (b := 10) rfl rfl) ?_
                  refine qA (.bool (decide ((t.kind : Int) = 10))) rfl ?_
                  refine WpL_nil (thn_normal ?_)
                  refine Wp_cond (b := decide ((t.kind : Int) = 10)) rfl (fun h10 => ?_) (fun h10 => ?_)
                  · have kh10 := h10
                    replace h10 := of_decide_eq_true h10
                    refine Wp_region ?_
                    refine qM (I6 (s : Int)) rfl ?_
                    refine qV (r_add (k := .i64) (a := (s : Int)) (b := 2) (c := ((s + 2 : Nat) : Int)) rfl rfl (by rw [wI64 (by omega)]; omega)) ?_
                    refine qA (I6 ((s + 2 : Nat) : Int)) rfl ?_
                    refine WpL_nil (inB_normal (thn_normal (Wp_seq_region ?_)))
                    refine qM (I6 ((s + 2 : Nat) : Int)) rfl ?_
                    refine qV (r_min2 (a := ((s + 2 : Nat) : Int)) (b := 1000) (c := ((min (s + 2) 1000 : Nat) : Int)) rfl rfl (by omega)) ?_
                    refine qA (I6 ((min (s + 2) 1000 : Nat) : Int)) rfl ?_
                    refine WpL_nil (Wp_ret ?_)
                    refine fin_tmp Try.results26 (v := (.int .i64 ((min (s + 2) 1000 : Nat) : Int))) rfl ?_
                    exact ⟨by rw [h10]; unfold lenRK; simp, E⟩
                  · have kh10 := h10
                    replace h10 := of_decide_eq_false h10
                    refine Wp_skip (inB_normal (thn_normal (Wp_seq_region ?_)))
                    refine qM (I6 (s : Int)) rfl ?_
                    refine qV (r_min2 (a := (s : Int)) (b := 1000) (c := ((min s 1000 : Nat) : Int)) rfl rfl (by omega)) ?_
                    refine qA (I6 ((min s 1000 : Nat) : Int)) rfl ?_
                    refine WpL_nil (Wp_ret ?_)
                    refine fin_tmp Try.results26 (v := (.int .i64 ((min s 1000 : Nat) : Int))) rfl ?_
                    exact ⟨by unfold lenRK; rw [if_neg (by omega), if_neg h4, if_neg h5, if_neg h6, if_neg (by omega)], E⟩
theorem light7_c (w0 : World) (t : Re) (vs : List Value) (vt : Value) (text : List Int) (most : Int) (ht : ReAt w0 t vs) (htx : IntsAt w0 vt text) (hs : t.size ≤ 2097152) (hok : okRe t) :
  Ret Try.prog 15 #[.agg vs.toArray, vt, .int .i64 most] w0 fun v w => (∃ b, v = .bool b ∧ (b = true → (text.length : Int) ≤ most)) ∧ Ext w0 w := by
 have ht0 := ht
 obtain ⟨sa, sc, aa, ac, rfl, hset, hlen, hargs⟩ := ht.form
 obtain ⟨ta, tc, rfl⟩ := SlAt.form htx
 simp only [List.length_map] at htx ⊢
 refine Ret_of Try.func15 rfl Try.ntmps15 (Nat.le_of_ble_eq_true rfl) ?_
 have E : Chg none1 w0 w0 := Chg.refl _ _
 refine Wp_seq_region ?_
 refine s_box (v := (.agg (R6 t sa sc aa ac))) (c := (R6 t sa sc aa ac)) (by decide) rfl rfl ?_
 intro b1 w1 N1
 have F1 := N1.ge E
 replace E := E.ext N1.ext
 have B1 := N1.blk
 refine qA (.bool false) rfl ?_
 refine WpL_nil (Wp_seq_region ?_)
 refine qV (r_loadAgg (vs := [(I6 t.kind), (.slice sa t.set.length sc), (.slice aa t.args.length ac), (I6 t.mn), (I6 t.mx), (.bool t.neg)]) rfl agg27 siz27 rfl (B1.cells rfl)) ?_
 refine WpL_enter rfl rfl (by decide) (r_callF (vs := [(.agg (R6 t sa sc aa ac)), (I6 41)]) Try.func24 nm24 bd24 rfl) (pre_c _ t _ _ (ReAt.ext E t ht0) hs) ?_
 rintro _ w9 ⟨la, lc, rows, rfl, hsl, hrows, X9⟩
 replace B1 := X9.keep B1
 replace E := E.ext X9
 refine qV (r_lenSlice (ad := la) (n := ((preL t).take (41 : Int).toNat).length) (cap := lc) Try.underlying25 rfl) ?_
 refine qV (r_leq (k := .i64) (a := ((((preL t).take (41 : Int).toNat).length : Nat) : Int)) (b := 40) rfl rfl) ?_
 refine qM (.bool (decide ((((((preL t).take (41 : Int).toNat).length : Nat) : Int) : Int) ≤ 40))) rfl ?_
 rcases Bool.eq_false_or_eq_true (decide ((((((preL t).take (41 : Int).toNat).length : Nat) : Int) : Int) ≤ 40)) with g1 | g1
 ·have kg1 := g1
  replace kg1 := of_decide_eq_true kg1
  refine WpL_guard_yes (oj := _) rfl rfl (by decide) (congrArg Value.bool g1) ?_
  refine qV (r_loadAgg (vs := [(I6 t.kind), (.slice sa t.set.length sc), (.slice aa t.args.length ac), (I6 t.mn), (I6 t.mx), (.bool t.neg)]) rfl agg27 siz27 rfl (B1.cells rfl)) ?_
  refine WpL_guard_yes (oj := _) rfl rfl (by decide) (congrArg Value.bool g1) ?_
  refine WpL_enter rfl rfl (by decide) (r_callF (vs := [(.agg (R6 t sa sc aa ac))]) Try.func33 nm33 bd33 rfl) (deep_c _ t (Nat.le_refl _) hs _ _ (ReAt.ext E t ht0)) ?_
  rintro _ w19 ⟨⟨d, rfl, hd⟩, X19⟩
  replace B1 := X19.keep B1
  replace E := E.ext X19
  refine WpL_guard_yes (oj := _) rfl rfl (by decide) (congrArg Value.bool g1) ?_
  refine qV (r_leq (k := .i64) (a := d) (b := 5) rfl rfl) ?_
  refine qV (r_pick (b := decide ((((((preL t).take (41 : Int).toNat).length : Nat) : Int) : Int) ≤ 40)) (v := (.bool (decide ((d : Int) ≤ 5)))) rfl (by rw [g1]; rfl)) ?_
  refine qM (.bool (decide ((d : Int) ≤ 5))) rfl ?_
  rcases Bool.eq_false_or_eq_true (decide ((d : Int) ≤ 5)) with g2 | g2
  ·have kg2 := g2
   replace kg2 := of_decide_eq_true kg2
   refine WpL_guard_yes (oj := _) rfl rfl (by decide) (congrArg Value.bool g2) ?_
   refine qV (r_loadAgg (vs := [(I6 t.kind), (.slice sa t.set.length sc), (.slice aa t.args.length ac), (I6 t.mn), (I6 t.mx), (.bool t.neg)]) rfl agg27 siz27 rfl (B1.cells rfl)) ?_
   refine WpL_guard_yes (oj := _) rfl rfl (by decide) (congrArg Value.bool g2) ?_
   refine WpL_enter rfl rfl (by decide) (r_callF (vs := [(.agg (R6 t sa sc aa ac))]) Try.func34 nm34 bd34 rfl) (weight_c _ t (Nat.le_refl _) hs hok _ _ (ReAt.ext E t ht0)) ?_
   rintro _ w29 ⟨⟨u, rfl, hu⟩, X29⟩
   replace B1 := X29.keep B1
   replace E := E.ext X29
   refine WpL_guard_yes (oj := _) rfl rfl (by decide) (congrArg Value.bool g2) ?_
   refine qV (r_leq (k := .i64) (a := u) (b := 60) rfl rfl) ?_
   refine qV (r_pick (b := decide ((d : Int) ≤ 5)) (v := (.bool (decide ((u : Int) ≤ 60)))) rfl (by rw [g2]; rfl)) ?_
   refine qM (.bool (decide ((u : Int) ≤ 60))) rfl ?_
   rcases Bool.eq_false_or_eq_true (decide ((u : Int) ≤ 60)) with g3 | g3
   ·have kg3 := g3
    replace kg3 := of_decide_eq_true kg3
    refine WpL_guard_yes (oj := _) rfl rfl (by decide) (congrArg Value.bool g3) ?_
    refine qM (.slice ta text.length tc) rfl ?_
    refine WpL_guard_yes (oj := _) rfl rfl (by decide) (congrArg Value.bool g3) ?_
    refine qV (r_lenSlice (ad := ta) (n := text.length) (cap := tc) Try.underlying22 rfl) ?_
    refine WpL_guard_yes (oj := _) rfl rfl (by decide) (congrArg Value.bool g3) ?_
    refine qM (I6 most) rfl ?_
    refine WpL_guard_yes (oj := _) rfl rfl (by decide) (congrArg Value.bool g3) ?_
    refine qV (r_leq (k := .i64) (a := (text.length : Int)) (b := most) rfl rfl) ?_
    refine qV (r_pick (b := decide ((u : Int) ≤ 60)) (v := (.bool (decide (((text.length : Int) : Int) ≤ most)))) rfl (by rw [g3]; rfl)) ?_
    refine qA (.bool (decide (((text.length : Int) : Int) ≤ most))) rfl ?_
    refine WpL_nil (Wp_ret ?_)
    refine fin_tmp Try.results15 (v := (.bool (decide ((((text.length : Nat) : Int) : Int) ≤ most)))) rfl ?_
    exact ⟨⟨_, rfl, fun h => of_decide_eq_true h⟩, E⟩
   ·have kg3 := g3
    replace kg3 := of_decide_eq_false kg3
    refine WpL_guard_no (oj := _) rfl rfl (by decide) (v := .bool false) (congrArg Value.bool g3) (Or.inl rfl) ?_
    refine WpL_guard_no (oj := _) rfl rfl (by decide) (v := .bool false) (congrArg Value.bool g3) (Or.inl rfl) ?_
    refine WpL_guard_no (oj := _) rfl rfl (by decide) (v := .bool false) (congrArg Value.bool g3) (Or.inl rfl) ?_
    refine WpL_guard_no (oj := _) rfl rfl (by decide) (v := .bool false) (congrArg Value.bool g3) (Or.inl rfl) ?_
    refine qV (r_pick (b := decide ((u : Int) ≤ 60)) (v := (.bool false)) rfl (by rw [g3]; rfl)) ?_
    refine qA (.bool false) rfl ?_
    refine WpL_nil (Wp_ret ?_)
    refine fin_tmp Try.results15 (v := (.bool false)) rfl ?_
    exact ⟨⟨_, rfl, fun h => by cases h⟩, E⟩
  ·have kg2 := g2
   replace kg2 := of_decide_eq_false kg2
   refine WpL_guard_no (oj := _) rfl rfl (by decide) (v := .bool false) (congrArg Value.bool g2) (Or.inl rfl) ?_
   refine WpL_guard_no (oj := _) rfl rfl (by decide) (v := .bool false) (congrArg Value.bool g2) (Or.inl rfl) ?_
   refine WpL_guard_no (oj := _) rfl rfl (by decide) (v := .bool false) (congrArg Value.bool g2) (Or.inl rfl) ?_
   refine qV (r_pick (b := decide ((d : Int) ≤ 5)) (v := (.bool false)) rfl (by rw [g2]; rfl)) ?_
   refine qM (.bool false) rfl ?_
   refine WpL_guard_no (oj := _) rfl rfl (by decide) (v := .bool false) rfl (Or.inl rfl) ?_
   refine WpL_guard_no (oj := _) rfl rfl (by decide) (v := .bool false) rfl (Or.inl rfl) ?_
   refine WpL_guard_no (oj := _) rfl rfl (by decide) (v := .bool false) rfl (Or.inl rfl) ?_
   refine WpL_guard_no (oj := _) rfl rfl (by decide) (v := .bool false) rfl (Or.inl rfl) ?_
   refine qV (r_pick (b := false) (v := (.bool false)) rfl rfl) ?_
   refine qA (.bool false) rfl ?_
   refine WpL_nil (Wp_ret ?_)
   refine fin_tmp Try.results15 (v := (.bool false)) rfl ?_
   exact ⟨⟨_, rfl, fun h => by cases h⟩, E⟩
 ·have kg1 := g1
  replace kg1 := of_decide_eq_false kg1
  refine WpL_guard_no (oj := _) rfl rfl (by decide) (v := .bool false) (congrArg Value.bool g1) (Or.inl rfl) ?_
  refine WpL_guard_no (oj := _) rfl rfl (by decide) (v := .bool false) (congrArg Value.bool g1) (Or.inl rfl) ?_
  refine WpL_guard_no (oj := _) rfl rfl (by decide) (v := .bool false) (congrArg Value.bool g1) (Or.inl rfl) ?_
  refine qV (r_pick (b := decide ((((((preL t).take (41 : Int).toNat).length : Nat) : Int) : Int) ≤ 40)) (v := (.bool false)) rfl (by rw [g1]; rfl)) ?_
  refine qM (.bool false) rfl ?_
  refine WpL_guard_no (oj := _) rfl rfl (by decide) (v := .bool false) rfl (Or.inl rfl) ?_
  refine WpL_guard_no (oj := _) rfl rfl (by decide) (v := .bool false) rfl (Or.inl rfl) ?_
  refine WpL_guard_no (oj := _) rfl rfl (by decide) (v := .bool false) rfl (Or.inl rfl) ?_
  refine qV (r_pick (b := false) (v := (.bool false)) rfl rfl) ?_
  refine qM (.bool false) rfl ?_
  refine WpL_guard_no (oj := _) rfl rfl (by decide) (v := .bool false) rfl (Or.inl rfl) ?_
  refine WpL_guard_no (oj := _) rfl rfl (by decide) (v := .bool false) rfl (Or.inl rfl) ?_
  refine WpL_guard_no (oj := _) rfl rfl (by decide) (v := .bool false) rfl (Or.inl rfl) ?_
  refine WpL_guard_no (oj := _) rfl rfl (by decide) (v := .bool false) rfl (Or.inl rfl) ?_
  refine qV (r_pick (b := false) (v := (.bool false)) rfl rfl) ?_
  refine qA (.bool false) rfl ?_
  refine WpL_nil (Wp_ret ?_)
  refine fin_tmp Try.results15 (v := (.bool false)) rfl ?_
  exact ⟨⟨_, rfl, fun h => by cases h⟩, E⟩
mutual
theorem uses_pre (ks : List Int) : ∀ t : Re, usesB ks t = (preL t).any fun x => ks.contains x.kind
  | .mk k set args mn mx ng => by simp only [usesB, preL, List.any_cons, uses_pres ks args]; rfl
theorem uses_pres (ks : List Int) : ∀ ts : List Re, usesBs ks ts = (preLs ts).any fun x => ks.contains x.kind
  | [] => rfl
  | t :: ts => by simp only [usesBs, preLs, List.any_append, uses_pre ks t, uses_pres ks ts]
end
mutual
theorem walk_pre {F : Unit → Re → Bool × Unit} : ∀ (t : Re), (walkF F t ()).1 = (preL t).all fun x => (F () x).1
  | .mk k set args mn mx ng => by
    rw [walkF_eq]
    simp only [preL, List.all_cons]
    cases h : (F () (.mk k set args mn mx ng)).1 with
    | true => rw [if_pos rfl, Bool.true_and]; exact walk_pres args
    | false => rw [if_neg (by decide), Bool.false_and]
theorem walk_pres {F : Unit → Re → Bool × Unit} : ∀ (ts : List Re), (walkFs F ts ()).1 = (preLs ts).all fun x => (F () x).1
  | [] => by simp [walkFs, preLs]
  | t :: ts => by
    have h1 := walk_pre (F := F) t
    have h2 := walk_pres (F := F) ts
    simp only [walkFs, preLs, List.all_append]
    rw [← h1, ← h2]
    cases h : walkF F t () with
    | mk b s => cases b <;> simp
end
theorem any_take_succ {α : Type} {l : List α} {k : Nat} {x : α} {f : α → Bool} (h : l[k]? = some x) : (l.take (k + 1)).any f = ((l.take k).any f || f x) := by
 rw [List.take_add_one, h, Option.toList_some, List.any_append]; simp
set_option maxHeartbeats 2000000 in
theorem has_c (w0 : World) (t : Re) (vs : List Value) (vk : Value) (ks : List Int) (ht : ReAt w0 t vs) (hk : IntsAt w0 vk ks) (hs : t.size ≤ 1000000) (hkl : ks.length ≤ 1000) :
  Ret Try.prog 25 #[.agg vs.toArray, vk] w0 fun v w => v = .bool (usesB ks t) ∧ Ext w0 w := by
 have ht0 := ht
 obtain ⟨sa, sc, aa, ac, rfl, hset, hlen, hargs⟩ := ht.form
 obtain ⟨ka, kc, rfl⟩ := SlAt.form hk
 simp only [List.length_map] at hk ⊢
 rw [uses_pre]
 refine Ret_of Try.func25 rfl Try.ntmps25 (Nat.le_of_ble_eq_true rfl) ?_
 have E : Chg none1 w0 w0 := Chg.refl _ _
 refine Wp_seq_region ?_
 refine s_box (v := (.agg (R6 t sa sc aa ac))) (c := (R6 t sa sc aa ac)) (by decide) rfl rfl ?_
 intro b1 w1 N1
 have F1 := N1.ge E
 replace E := E.ext N1.ext
 have B1 := N1.blk
 refine qA (.bool false) rfl ?_
 refine WpL_nil (Wp_seq (Wp_seq_region ?_))
 refine qV (r_loadAgg (vs := [(I6 t.kind), (.slice sa t.set.length sc), (.slice aa t.args.length ac), (I6 t.mn), (I6 t.mx), (.bool t.neg)]) rfl agg27 siz27 rfl (B1.cells rfl)) ?_
 refine WpL_enter rfl rfl (by decide) (r_callF (vs := [(.agg (R6 t sa sc aa ac)), (I6 1000000)]) Try.func24 nm24 bd24 rfl) (pre_c _ t _ _ (ReAt.ext E t ht0) (by omega)) ?_
 rintro _ w9 ⟨la, lc, rows, rfl, hsl, hrows, X9⟩
 replace B1 := X9.keep B1
 replace E := E.ext X9
 obtain ⟨L, hL⟩ : ∃ L, L = preL t := ⟨_, rfl⟩
 have hLl : L.length = t.size := by rw [hL, preL_len]
 have htk : (preL t).take (1000000 : Int).toNat = L := by rw [hL]; exact List.take_of_length_le (by rw [preL_len]; exact hs)
 rw [htk] at hsl hrows ⊢
 have hrows' : RowsOf w9 L rows := RowsOf.ext X9 hrows
 rw [← hL]
 have EQ : Chg none1 w9 w9 := Chg.refl _ _
 refine qV (r_lenSlice (ad := la) (n := L.length) (cap := lc) Try.underlying25 rfl) ?_
 refine qM (I6 0) rfl ?_
 refine WpL_nil (Wp_block ?_)
 refine Wp_loop (fun nn_ σ W2 => ∃ (k : Nat), (∃ jj_, σ = upds jj_ [(1, (.slice ka ks.length kc)), (10, (.slice la L.length lc)), (11, (I6 (L.length : Int))), (12, (I6 (k : Int)))]) ∧ Chg none1 w0 W2 ∧ Chg none1 w9 W2 ∧ Blk W2 b1 (R6 t sa sc aa ac) 27 ∧ (k ≤ L.length) ∧ (((L.take k).any fun x => ks.contains x.kind) = false) ∧ nn_ = L.length - k) (n := L.length - 0) ?_ ?_
 ·exact ⟨0, Fits.out ⟨rfl, rfl, rfl, rfl, trivial⟩, E, EQ, B1, Nat.zero_le _, rfl, rfl⟩
 ·clear E EQ B1
  rintro _ _ W2 ⟨k, ⟨j2, rfl⟩, E, EQ, B1, hk1, hp, rfl⟩
  refine Wp_seq_region ?_
  refine qV (r_lss (k := .i64) (a := (k : Int)) (b := (L.length : Int)) rfl rfl) ?_
  refine WpL_nil (Wp_seq ?_)
  refine Wp_cond (b := decide (((k : Int) : Int) < (L.length : Int))) rfl (fun hlt => ?_) (fun hlt => ?_)
  ·have khlt := hlt
   replace hlt := of_decide_eq_true hlt
   obtain ⟨x, hx⟩ := get_of_lt (l := L) (i := k) (by omega)
   obtain ⟨r, hr, hxr⟩ := hrows'.get hx
   obtain ⟨b, o, rfl, hcl⟩ := SlAt.at hsl (by omega)
   have hcr := (hcl k r hr).ext EQ
   obtain ⟨xa, xc, ya, yc, rfl, hxset, hxlen, hxargs⟩ := hxr.form
   refine Wp_skip (thn_normal (Wp_seq (Wp_block (Wp_seq_region ?_))))
   refine qV (r_indexSlice (b := b) (o := o) (len := L.length) (cap := lc) (i := k) (o' := o + k * 6) rfl rfl rfl Try.underlying25 siz27 (by omega) (by omega)) ?_
   refine qV (r_loadAgg (vs := [(I6 x.kind), (.slice xa x.set.length xc), (.slice ya x.args.length yc), (I6 x.mn), (I6 x.mx), (.bool x.neg)]) rfl agg27 siz27 rfl (hcr)) ?_
   refine s_allocStore (v := (.agg (R6 x xa xc ya yc))) (c := (R6 x xa xc ya yc)) (n := 6) (by decide) zer27 rfl siz27 rfl rfl rfl (by simp [Value.oneCell']) ?_
   intro bu wu Nu
   have Fu := Nu.ge E
   have Fu_EQ := Nu.ge EQ
   have Ou_b1 := Nu.lt B1
   replace B1 := Nu.keep B1
   replace E := E.ext Nu.ext
   have Bu := Nu.blk
   replace EQ := EQ.ext Nu.ext
   refine WpL_nil (Wp_seq_region ?_)
   refine qM (.slice ka ks.length kc) rfl ?_
   refine qV (r_lenSlice (ad := ka) (n := ks.length) (cap := kc) Try.underlying22 rfl) ?_
   refine qM (I6 0) rfl ?_
   refine WpL_nil (Wp_block ?_)
   refine Wp_loop (fun nn_ σ W4 => ∃ (j : Nat), (∃ jj_, σ = upds jj_ [(1, (.slice ka ks.length kc)), (6, (P6 bu 0)), (10, (.slice (some ⟨b, o, none⟩) L.length lc)), (11, (I6 (L.length : Int))), (12, (I6 (k : Int))), (16, (.slice ka ks.length kc)), (17, (I6 (ks.length : Int))), (18, (I6 (j : Int)))]) ∧ Chg none1 w0 W4 ∧ Chg none1 w9 W4 ∧ Blk W4 b1 (R6 t sa sc aa ac) 27 ∧ Blk W4 bu (R6 x xa xc ya yc) 27 ∧ (j ≤ ks.length) ∧ ((ks.take j).contains x.kind = false) ∧ nn_ = ks.length - j) (n := ks.length - 0) ?_ ?_
   ·exact ⟨0, Fits.out ⟨rfl, rfl, rfl, rfl, rfl, rfl, rfl, rfl, trivial⟩, E, EQ, B1, Bu, Nat.zero_le _, rfl, rfl⟩
   ·clear E EQ B1 Bu
    rintro _ _ W4 ⟨j, ⟨j4, rfl⟩, E, EQ, B1, Bu, hj, hq, rfl⟩
    refine Wp_seq_region ?_
    refine qV (r_lss (k := .i64) (a := (j : Int)) (b := (ks.length : Int)) rfl rfl) ?_
    refine WpL_nil (Wp_seq ?_)
    refine Wp_cond (b := decide (((j : Int) : Int) < (ks.length : Int))) rfl (fun hlt2 => ?_) (fun hlt2 => ?_)
    ·have khlt2 := hlt2
     replace hlt2 := of_decide_eq_true hlt2
     obtain ⟨c, hc⟩ := get_of_lt (l := ks) (i := j) (by omega)
     obtain ⟨kb, ko, rfl, hkc⟩ := ints_cells hk (by omega)
     refine Wp_skip (thn_normal (Wp_seq (Wp_block (Wp_seq_region ?_))))
     refine qV (r_indexSlice (b := kb) (o := ko) (len := ks.length) (cap := kc) (i := j) (o' := ko + j) rfl rfl rfl Try.underlying22 siz3 (by omega) (by omega)) ?_
     refine qV (r_load (v := (I6 c)) rfl flat3 (E.cell (fun f => f) (hkc j c hc))) ?_
     refine qA (I6 c) rfl ?_
     refine WpL_nil (Wp_seq_region ?_)
     refine qF bu 0 0 rfl Try.underlying27 rfl siz3 rfl ?_
     refine qV (r_load (v := (I6 x.kind)) rfl flat3 (Bu.cell rfl)) ?_
     refine qM (I6 c) rfl ?_
     refine qV (r_eql (k := .i64) (a := x.kind) (b := c) rfl rfl) ?_
     refine WpL_nil ?_
     refine Wp_cond (b := decide ((x.kind : Int) = c)) rfl (fun he => ?_) (fun he => ?_)
     ·have khe := he
      replace he := of_decide_eq_true he
      refine Wp_seq_region ?_
      refine qA (.bool true) rfl ?_
      refine WpL_nil (Wp_ret (inB_ret (thn_ret (thn_ret (inB_ret (inB_ret (thn_ret (thn_ret (inB_ret (thn_ret ?_))))))))))
      refine fin_tmp Try.results25 (v := (.bool true)) rfl ?_
      exact ⟨by rw [List.any_eq_true.2 ⟨x, List.mem_of_getElem? hx, by rw [List.contains_iff_mem, he]; exact List.mem_of_getElem? hc⟩], E⟩
     ·have khe := he
      replace he := of_decide_eq_false he
      refine Wp_skip (inB_normal (thn_normal (Wp_region ?_)))
      refine qV (r_add (k := .i64) (a := (j : Int)) (b := 1) (c := (j : Int) + 1) rfl rfl (wI64 (by omega))) ?_
      refine qM (I6 ((j : Int) + 1)) rfl ?_
      refine WpL_nil (thn_normal ?_)
      exact ⟨ks.length - (j + 1), by omega, j + 1, Fits.out ⟨rfl, rfl, rfl, rfl, rfl, rfl, rfl, rfl, trivial⟩, E, EQ, B1, Bu, (by omega), (by rw [List.take_add_one, hc, Option.toList_some]; rw [Bool.eq_false_iff, ne_eq, List.contains_iff_mem] at hq ⊢; intro h; rcases List.mem_append.1 h with h | h; exact hq h; exact he (by simpa using h)), rfl⟩
    ·have khlt2 := hlt2
     replace hlt2 := of_decide_eq_false hlt2
     have hjj : ks.take j = ks := List.take_of_length_le (by omega)
     rw [hjj] at hq
     refine Wp_exit (thn_exit (thn_exit (inB_here (inB_normal (thn_normal (Wp_region ?_))))))
     refine qV (r_add (k := .i64) (a := (k : Int)) (b := 1) (c := (k : Int) + 1) rfl rfl (wI64 (by omega))) ?_
     refine qM (I6 ((k : Int) + 1)) rfl ?_
     refine WpL_nil (thn_normal ?_)
     exact ⟨L.length - (k + 1), by omega, k + 1, Fits.out ⟨rfl, rfl, rfl, rfl, trivial⟩, E, EQ, B1, (by omega), (by rw [any_take_succ hx, hp, hq]; rfl), rfl⟩
  ·have khlt := hlt
   replace hlt := of_decide_eq_false hlt
   have hkk : L.take k = L := List.take_of_length_le (by omega)
   rw [hkk] at hp
   refine Wp_exit (thn_exit (thn_exit (inB_here (thn_normal (Wp_seq_region ?_)))))
   refine qA (.bool false) rfl ?_
   refine WpL_nil (Wp_ret ?_)
   refine fin_tmp Try.results25 (v := (.bool false)) rfl ?_
   exact ⟨by rw [hp], E⟩
end Go.Proofs
namespace Go.Proofs
open Go Go.Eng Go.Sort
set_option maxRecDepth 100000
def badN (x : Re) : Bool := decide (x.kind = 7) || decide (x.kind = 8) || (decide (x.kind = 10) && usesB [9] x)
def capR (t : Re) : Int := if fitsE t 40 ≠ 0 then fitsE t 40 else if (preL t).any badN = true then 3 else if (399 : Int) < ((lenR t : Nat) : Int) then 2 else 0
mutual
theorem pre_size : ∀ (t : Re) {x : Re}, x ∈ preL t → x.size ≤ t.size
  | .mk k set args mn mx ng, x, h => by
    simp only [preL, List.mem_cons] at h
    rcases h with rfl | h
    · exact Nat.le_refl _
    · have := pres_size args h; simp only [Re.size]; omega
theorem pres_size : ∀ (ts : List Re) {x : Re}, x ∈ preLs ts → x.size ≤ Re.sizes ts
  | [], x, h => by simp [preLs] at h
  | t :: ts, x, h => by
    simp only [preLs, List.mem_append] at h
    simp only [Re.sizes]
    rcases h with h | h
    · have := pre_size t h; omega
    · have := pres_size ts h; omega
end
mutual
theorem pre_ok : ∀ (t : Re) {x : Re}, okRe t → x ∈ preL t → okRe x
  | .mk k set args mn mx ng, x, ho, h => by
    simp only [preL, List.mem_cons] at h
    rcases h with rfl | h
    · exact ho
    · exact pres_ok args (okRe_args ho) h
theorem pres_ok : ∀ (ts : List Re) {x : Re}, okRes ts → x ∈ preLs ts → okRe x
  | [], x, _, h => by simp [preLs] at h
  | t :: ts, x, ho, h => by
    simp only [preLs, List.mem_append] at h
    simp only [okRes] at ho
    rcases h with h | h
    · exact pre_ok t ho.1 h
    · exact pres_ok ts ho.2 h
end
theorem bad_look {x : Re} (h : okRe x) : badN x = ([7, 8].contains x.kind || !(lookF () x).1) := by
  unfold badN lookF
  have e : (decide (x.kind = 10) && usesB [9] x) = (decide (x.kind = 10) && usesB [9] (x.args.headD (.mk 0 [] [] 0 0 false))) := by
    by_cases hk : x.kind = 10
    · have h1 := okRe_one h (by omega)
      cases x with
      | mk k set args mn mx ng =>
        simp only [Re.kind, Re.args] at hk h1 ⊢
        subst hk
        match args, h1 with
        | [a], _ => simp [usesB, usesBs]
    · simp [hk]
  rw [e]
  simp only [List.contains_cons, List.contains_nil, Bool.or_false, Bool.not_or, Bool.not_not]
  congr 1
theorem capR_eq (t : Re) : capR t = capE t := by
 unfold capR capE
 by_cases h1 : fitsE t 40 = 0
 ·rw [if_neg (show ¬ fitsE t 40 ≠ 0 by omega), if_neg (show ¬ fitsE t 40 ≠ 0 by omega)]
  obtain ⟨hok, hsz⟩ := (fitsE_zero (t := t) (most := 40) (by decide) (by decide)).1 h1
  have hb : (preL t).any badN = true ↔ usesB [7, 8] t = true ∨ lookB t = true := by
   rw [uses_pre]
   unfold lookB
   rw [walk_pre, List.not_all_eq_any_not]
   rw [List.any_eq_true, List.any_eq_true, List.any_eq_true]
   constructor
   ·rintro ⟨x, hx, hb⟩
    rw [bad_look (pre_ok t hok hx), Bool.or_eq_true] at hb
    rcases hb with hb | hb
    ·exact .inl ⟨x, hx, hb⟩
    ·exact .inr ⟨x, hx, hb⟩
   ·rintro (⟨x, hx, hb⟩ | ⟨x, hx, hb⟩)
    ·exact ⟨x, hx, by rw [bad_look (pre_ok t hok hx), hb]; rfl⟩
    ·exact ⟨x, hx, by rw [bad_look (pre_ok t hok hx), hb, Bool.or_true]⟩
  by_cases h2 : (preL t).any badN = true
  ·rw [if_pos h2, if_pos (hb.1 h2)]
  ·have h3 := fun h => h2 (hb.2 h)
   rw [if_neg h2, if_neg h3, lenR_eq t hok (by cases h : usesB [7, 8] t with | true => exact absurd (.inl h) h3 | false => rfl)]
   by_cases h4 : 400 ≤ lenQ t
   ·rw [if_pos (by omega), if_pos h4]
   ·rw [if_neg (by omega), if_neg h4]
 ·rw [if_pos h1, if_pos h1]
set_option maxHeartbeats 4000000 in
theorem rcap_c (w0 : World) (t : Re) (vs : List Value) (ht : ReAt w0 t vs) (hs : t.size ≤ 2097152) :
  Ret Try.prog 12 #[.agg vs.toArray] w0 fun v w => v = .int .i64 (capE t) ∧ Ext w0 w := by
 have ht0 := ht
 obtain ⟨sa, sc, aa, ac, rfl, hset, hlen, hargs⟩ := ht.form
 rw [← capR_eq]
 unfold capR
 refine Ret_of Try.func12 rfl Try.ntmps12 (Nat.le_of_ble_eq_true rfl) ?_
 have E : Chg none1 w0 w0 := Chg.refl _ _
 refine Wp_seq_region ?_
 refine s_box (v := (.agg (R6 t sa sc aa ac))) (c := (R6 t sa sc aa ac)) (by decide) rfl rfl ?_
 intro b1 w1 N1
 have F1 := N1.ge E
 replace E := E.ext N1.ext
 have B1 := N1.blk
 refine qA (I6 0) rfl ?_
 refine WpL_nil (Wp_seq (Wp_seq_region ?_))
 refine qV (r_loadAgg (vs := [(I6 t.kind), (.slice sa t.set.length sc), (.slice aa t.args.length ac), (I6 t.mn), (I6 t.mx), (.bool t.neg)]) rfl agg27 siz27 rfl (B1.cells rfl)) ?_
 refine WpL_enter rfl rfl (by decide) (r_callF (vs := [(.agg (R6 t sa sc aa ac)), (I6 40)]) Try.func23 nm23 bd23 rfl) (refck_c _ t _ 40 (by decide) (ReAt.ext E t ht0) hs) ?_
 rintro _ w9 ⟨rfl, X9⟩
 replace B1 := X9.keep B1
 replace E := E.ext X9
 refine qA (I6 (fitsE t 40)) rfl ?_
 refine WpL_nil (Wp_seq_region ?_)
 refine qM (I6 (fitsE t 40)) rfl ?_
 refine qV (r_neq (k := .i64) (a := fitsE t 40) (b := 0) rfl rfl) ?_
 refine WpL_nil ?_
 refine Wp_cond (b := decide ((fitsE t 40 : Int) ≠ 0)) rfl (fun h1 => ?_) (fun h1 => ?_)
 ·have kh1 := h1
  replace h1 := of_decide_eq_true h1
  refine Wp_seq_region ?_
  refine qM (I6 (fitsE t 40)) rfl ?_
  refine qA (I6 (fitsE t 40)) rfl ?_
  refine WpL_nil (Wp_ret (thn_ret ?_))
  refine fin_tmp Try.results12 (v := (.int .i64 (fitsE t 40))) rfl ?_
  exact ⟨by rw [if_pos h1], E⟩
 ·have kh1 := h1
  replace h1 := of_decide_eq_false h1
  obtain ⟨hok, hsz⟩ := (fitsE_zero (t := t) (most := 40) (by decide) (by decide)).1 (by omega)
  rw [if_neg h1]
  refine Wp_skip (thn_normal (Wp_seq_region ?_))
  refine qA (.bool false) rfl ?_
  refine WpL_nil (Wp_seq (Wp_seq_region ?_))
  refine qV (r_loadAgg (vs := [(I6 t.kind), (.slice sa t.set.length sc), (.slice aa t.args.length ac), (I6 t.mn), (I6 t.mx), (.bool t.neg)]) rfl agg27 siz27 rfl (B1.cells rfl)) ?_
  refine WpL_enter rfl rfl (by decide) (r_callF (vs := [(.agg (R6 t sa sc aa ac)), (I6 100)]) Try.func24 nm24 bd24 rfl) (pre_c _ t _ _ (ReAt.ext E t ht0) (by omega)) ?_
  rintro _ w19 ⟨la, lc, rows, rfl, hsl, hrows, X19⟩
  replace B1 := X19.keep B1
  replace E := E.ext X19
  obtain ⟨L, hL⟩ : ∃ L, L = preL t := ⟨_, rfl⟩
  have hLl : L.length = t.size := by rw [hL, preL_len]
  have htk : (preL t).take (100 : Int).toNat = L := by rw [hL]; exact List.take_of_length_le (by rw [preL_len]; show t.size ≤ 100; omega)
  rw [htk] at hsl hrows ⊢
  have hrows' : RowsOf w19 L rows := RowsOf.ext X19 hrows
  rw [← hL]
  have EQ : Chg none1 w19 w19 := Chg.refl _ _
  refine qV (r_lenSlice (ad := la) (n := L.length) (cap := lc) Try.underlying25 rfl) ?_
  refine qM (I6 0) rfl ?_
  refine WpL_nil (Wp_block ?_)
  refine Wp_loop (fun nn_ σ W3 => ∃ (k : Nat) (e : Bool), (∃ jj_, σ = upds jj_ [(1, (P6 b1 0)), (13, (.slice la L.length lc)), (14, (I6 (L.length : Int))), (15, (I6 (k : Int))), (4, (.bool e))]) ∧ Chg none1 w0 W3 ∧ Chg none1 w19 W3 ∧ Blk W3 b1 (R6 t sa sc aa ac) 27 ∧ (k ≤ L.length) ∧ (e = (L.take k).any badN) ∧ nn_ = L.length - k) (n := L.length - 0) ?_ ?_
  ·exact ⟨0, false, Fits.out ⟨rfl, rfl, rfl, rfl, rfl, trivial⟩, E, EQ, B1, Nat.zero_le _, rfl, rfl⟩
  ·clear E EQ B1
   rintro _ _ W3 ⟨k, e, ⟨j3, rfl⟩, E, EQ, B1, hk1, hp, rfl⟩
   refine Wp_seq_region ?_
   refine qV (r_lss (k := .i64) (a := (k : Int)) (b := (L.length : Int)) rfl rfl) ?_
   refine WpL_nil (Wp_seq ?_)
   refine Wp_cond (b := decide (((k : Int) : Int) < (L.length : Int))) rfl (fun hlt => ?_) (fun hlt => ?_)
   ·have khlt := hlt
    replace hlt := of_decide_eq_true hlt
    obtain ⟨x, hx⟩ := get_of_lt (l := L) (i := k) (by omega)
    have hxz : x.size ≤ 40 := by have := pre_size t (x := x) (by rw [← hL]; exact List.mem_of_getElem? hx); omega
    obtain ⟨r, hr, hxr⟩ := hrows'.get hx
    have hxr0 := hxr
    obtain ⟨b, o, rfl, hcl⟩ := SlAt.at hsl (by omega)
    have hcr := (hcl k r hr).ext EQ
    obtain ⟨xa, xc, ya, yc, rfl, hxset, hxlen, hxargs⟩ := hxr.form
    have htk9 := any_take_succ (f := badN) hx
    rw [← hp] at htk9
    refine Wp_skip (thn_normal (Wp_seq (Wp_block (Wp_seq_region ?_))))
    refine qV (r_indexSlice (b := b) (o := o) (len := L.length) (cap := lc) (i := k) (o' := o + k * 6) rfl rfl rfl Try.underlying25 siz27 (by omega) (by omega)) ?_
    refine qV (r_loadAgg (vs := [(I6 x.kind), (.slice xa x.set.length xc), (.slice ya x.args.length yc), (I6 x.mn), (I6 x.mx), (.bool x.neg)]) rfl agg27 siz27 rfl (hcr)) ?_
    refine s_allocStore (v := (.agg (R6 x xa xc ya yc))) (c := (R6 x xa xc ya yc)) (n := 6) (by decide) zer27 rfl siz27 rfl rfl rfl (by simp [Value.oneCell']) ?_
    intro bu wu Nu
    have Fu := Nu.ge E
    have Fu_EQ := Nu.ge EQ
    have Ou_b1 := Nu.lt B1
    replace B1 := Nu.keep B1
    replace E := E.ext Nu.ext
    have Bu := Nu.blk
    replace EQ := EQ.ext Nu.ext
    refine WpL_nil (Wp_region ?_)
    refine qM (.bool e) rfl ?_
    refine qM (.bool e) rfl ?_
    rcases Bool.eq_false_or_eq_true (e) with he | he
    ·have khe := he
     refine WpL_guard_no (oj := _) rfl rfl (by decide) (v := .bool true) (congrArg Value.bool he) (Or.inl rfl) ?_
     refine WpL_guard_no (oj := _) rfl rfl (by decide) (v := .bool true) (congrArg Value.bool he) (Or.inl rfl) ?_
     refine WpL_guard_no (oj := _) rfl rfl (by decide) (v := .bool true) (congrArg Value.bool he) (Or.inl rfl) ?_
     refine qV (r_pick (b := e) (v := (.bool true)) rfl (by rw [he]; rfl)) ?_
     refine qM (.bool true) rfl ?_
     refine WpL_guard_no (oj := _) rfl rfl (by decide) (v := .bool true) rfl (Or.inl rfl) ?_
     refine WpL_guard_no (oj := _) rfl rfl (by decide) (v := .bool true) rfl (Or.inl rfl) ?_
     refine WpL_guard_no (oj := _) rfl rfl (by decide) (v := .bool true) rfl (Or.inl rfl) ?_
     refine qV (r_pick (b := true) (v := (.bool true)) rfl rfl) ?_
     refine qM (.bool true) rfl ?_
     refine WpL_guard_no (oj := _) rfl rfl (by decide) (v := .bool true) rfl (Or.inl rfl) ?_
     refine WpL_guard_no (oj := _) rfl rfl (by decide) (v := .bool true) rfl (Or.inl rfl) ?_
     refine WpL_guard_no (oj := _) rfl rfl (by decide) (v := .bool true) rfl (Or.inl rfl) ?_
     refine WpL_guard_no (oj := _) rfl rfl (by decide) (v := .bool true) rfl (Or.inl rfl) ?_
     refine WpL_guard_no (oj := _) rfl rfl (by decide) (v := undef) rfl (Or.inr rfl) ?_
     refine WpL_guard_no (oj := _) rfl rfl (by decide) (v := undef) rfl (Or.inr rfl) ?_
     refine WpL_guard_no (oj := _) rfl rfl (by decide) (v := undef) rfl (Or.inr rfl) ?_
     refine WpL_guard_no (oj := _) rfl rfl (by decide) (v := .bool true) rfl (Or.inl rfl) ?_
     refine qV (r_pick (b := true) (v := (.bool true)) rfl rfl) ?_
     refine qA (.bool true) rfl ?_
     refine WpL_nil (inB_normal (thn_normal (Wp_region ?_)))
     refine qV (r_add (k := .i64) (a := (k : Int)) (b := 1) (c := (k : Int) + 1) rfl rfl (wI64 (by omega))) ?_
     refine qM (I6 ((k : Int) + 1)) rfl ?_
     refine WpL_nil (thn_normal ?_)
     exact ⟨L.length - (k + 1), by omega, k + 1, true, Fits.out ⟨rfl, rfl, rfl, rfl, rfl, trivial⟩, E, EQ, B1, (by omega), (by rw [htk9, he]; rfl), rfl⟩
    ·have khe := he
     refine WpL_guard_yes (oj := _) rfl rfl (by decide) (congrArg Value.bool he) ?_
     refine qF bu 0 0 rfl Try.underlying27 rfl siz3 rfl ?_
     refine WpL_guard_yes (oj := _) rfl rfl (by decide) (congrArg Value.bool he) ?_
     refine qV (r_load (v := (I6 x.kind)) rfl flat3 (Bu.cell rfl)) ?_
     refine WpL_guard_yes (oj := _) rfl rfl (by decide) (congrArg Value.bool he) ?_
     refine qV (r_eql (k := .i64) (a := x.kind) (b := 7) rfl rfl) ?_
     refine qV (r_pick (b := e) (v := (.bool (decide ((x.kind : Int) = 7)))) rfl (by rw [he]; rfl)) ?_
     refine qM (.bool (decide ((x.kind : Int) = 7))) rfl ?_
     rcases Bool.eq_false_or_eq_true (decide ((x.kind : Int) = 7)) with h7 | h7
     ·have kh7 := h7
      replace kh7 := of_decide_eq_true kh7
      refine WpL_guard_no (oj := _) rfl rfl (by decide) (v := .bool true) (congrArg Value.bool h7) (Or.inl rfl) ?_
      refine WpL_guard_no (oj := _) rfl rfl (by decide) (v := .bool true) (congrArg Value.bool h7) (Or.inl rfl) ?_
      refine WpL_guard_no (oj := _) rfl rfl (by decide) (v := .bool true) (congrArg Value.bool h7) (Or.inl rfl) ?_
      refine qV (r_pick (b := decide ((x.kind : Int) = 7)) (v := (.bool true)) rfl (by rw [h7]; rfl)) ?_
      refine qM (.bool true) rfl ?_
      refine WpL_guard_no (oj := _) rfl rfl (by decide) (v := .bool true) rfl (Or.inl rfl) ?_
      refine WpL_guard_no (oj := _) rfl rfl (by decide) (v := .bool true) rfl (Or.inl rfl) ?_
      refine WpL_guard_no (oj := _) rfl rfl (by decide) (v := .bool true) rfl (Or.inl rfl) ?_
      refine WpL_guard_no (oj := _) rfl rfl (by decide) (v := .bool true) rfl (Or.inl rfl) ?_
      refine WpL_guard_no (oj := _) rfl rfl (by decide) (v := undef) rfl (Or.inr rfl) ?_
      refine WpL_guard_no (oj := _) rfl rfl (by decide) (v := undef) rfl (Or.inr rfl) ?_
      refine WpL_guard_no (oj := _) rfl rfl (by decide) (v := undef) rfl (Or.inr rfl) ?_
      refine WpL_guard_no (oj := _) rfl rfl (by decide) (v := .bool true) rfl (Or.inl rfl) ?_
      refine qV (r_pick (b := true) (v := (.bool true)) rfl rfl) ?_
      refine qA (.bool true) rfl ?_
      refine WpL_nil (inB_normal (thn_normal (Wp_region ?_)))
      refine qV (r_add (k := .i64) (a := (k : Int)) (b := 1) (c := (k : Int) + 1) rfl rfl (wI64 (by omega))) ?_
      refine qM (I6 ((k : Int) + 1)) rfl ?_
      refine WpL_nil (thn_normal ?_)
      exact ⟨L.length - (k + 1), by omega, k + 1, true, Fits.out ⟨rfl, rfl, rfl, rfl, rfl, trivial⟩, E, EQ, B1, (by omega), (by rw [htk9]; simp [badN, h7]), rfl⟩
     ·have kh7 := h7
      replace kh7 := of_decide_eq_false kh7
      refine WpL_guard_yes (oj := _) rfl rfl (by decide) (congrArg Value.bool h7) ?_
      refine qF bu 0 0 rfl Try.underlying27 rfl siz3 rfl ?_
      refine WpL_guard_yes (oj := _) rfl rfl (by decide) (congrArg Value.bool h7) ?_
      refine qV (r_load (v := (I6 x.kind)) rfl flat3 (Bu.cell rfl)) ?_
      refine WpL_guard_yes (oj := _) rfl rfl (by decide) (congrArg Value.bool h7) ?_
      refine qV (r_eql (k := .i64) (a := x.kind) (b := 8) rfl rfl) ?_
      refine qV (r_pick (b := decide ((x.kind : Int) = 7)) (v := (.bool (decide ((x.kind : Int) = 8)))) rfl (by rw [h7]; rfl)) ?_
      refine qM (.bool (decide ((x.kind : Int) = 8))) rfl ?_
      rcases Bool.eq_false_or_eq_true (decide ((x.kind : Int) = 8)) with h8 | h8
      ·have kh8 := h8
       replace kh8 := of_decide_eq_true kh8
       refine WpL_guard_no (oj := _) rfl rfl (by decide) (v := .bool true) (congrArg Value.bool h8) (Or.inl rfl) ?_
       refine WpL_guard_no (oj := _) rfl rfl (by decide) (v := .bool true) (congrArg Value.bool h8) (Or.inl rfl) ?_
       refine WpL_guard_no (oj := _) rfl rfl (by decide) (v := .bool true) (congrArg Value.bool h8) (Or.inl rfl) ?_
       refine WpL_guard_no (oj := _) rfl rfl (by decide) (v := .bool true) (congrArg Value.bool h8) (Or.inl rfl) ?_
       refine WpL_guard_no (oj := _) rfl rfl (by decide) (v := undef) rfl (Or.inr rfl) ?_
       refine WpL_guard_no (oj := _) rfl rfl (by decide) (v := undef) rfl (Or.inr rfl) ?_
       refine WpL_guard_no (oj := _) rfl rfl (by decide) (v := undef) rfl (Or.inr rfl) ?_
       refine WpL_guard_no (oj := _) rfl rfl (by decide) (v := .bool true) (congrArg Value.bool h8) (Or.inl rfl) ?_
       refine qV (r_pick (b := decide ((x.kind : Int) = 8)) (v := (.bool true)) rfl (by rw [h8]; rfl)) ?_
       refine qA (.bool true) rfl ?_
       refine WpL_nil (inB_normal (thn_normal (Wp_region ?_)))
       refine qV (r_add (k := .i64) (a := (k : Int)) (b := 1) (c := (k : Int) + 1) rfl rfl (wI64 (by omega))) ?_
       refine qM (I6 ((k : Int) + 1)) rfl ?_
       refine WpL_nil (thn_normal ?_)
       exact ⟨L.length - (k + 1), by omega, k + 1, true, Fits.out ⟨rfl, rfl, rfl, rfl, rfl, trivial⟩, E, EQ, B1, (by omega), (by rw [htk9]; simp [badN, h8]), rfl⟩
      ·have kh8 := h8
       replace kh8 := of_decide_eq_false kh8
       refine WpL_guard_yes (oj := _) rfl rfl (by decide) (congrArg Value.bool h8) ?_
       refine qF bu 0 0 rfl Try.underlying27 rfl siz3 rfl ?_
       refine WpL_guard_yes (oj := _) rfl rfl (by decide) (congrArg Value.bool h8) ?_
       refine qV (r_load (v := (I6 x.kind)) rfl flat3 (Bu.cell rfl)) ?_
       refine WpL_guard_yes (oj := _) rfl rfl (by decide) (congrArg Value.bool h8) ?_
       refine qV (r_eql (k := .i64) (a := x.kind) (b := 10) rfl rfl) ?_
       refine WpL_guard_yes (oj := _) rfl rfl (by decide) (congrArg Value.bool h8) ?_
       refine qM (.bool (decide ((x.kind : Int) = 10))) rfl ?_
       rcases Bool.eq_false_or_eq_true (decide ((x.kind : Int) = 10)) with h10 | h10
       ·have kh10 := h10
        replace kh10 := of_decide_eq_true kh10
        refine WpL_guard_yes (oj := _) rfl rfl (by decide) (congrArg Value.bool h10) ?_
        refine qV (r_loadAgg (vs := [(I6 x.kind), (.slice xa x.set.length xc), (.slice ya x.args.length yc), (I6 x.mn), (I6 x.mx), (.bool x.neg)]) rfl agg27 siz27 rfl (Bu.cells rfl)) ?_
        refine WpL_guard_yes (oj := _) rfl rfl (by decide) (congrArg Value.bool h10) ?_
        refine s_buildSlice (ps := [(0, (I6 9))]) (c := #[(I6 9)]) (by decide) rfl Try.underlying22 siz3 zer3 (by decide) (by decide) (by kernel_rfl) ?_
        intro bs ws Ns
        have Fs := Ns.ge E
        have Fs_EQ := Ns.ge EQ
        have Os_b1 := Ns.lt B1
        have Os_bu := Ns.lt Bu
        replace B1 := Ns.keep B1
        replace Bu := Ns.keep Bu
        replace E := E.ext Ns.ext
        have Bs := Ns.blk
        replace EQ := EQ.ext Ns.ext
        refine WpL_guard_yes (oj := _) rfl rfl (by decide) (congrArg Value.bool h10) ?_
        refine WpL_enter rfl rfl (by decide) (r_callF (vs := [(.agg (R6 x xa xc ya yc)), (.slice (some ⟨bs, 0, none⟩) 1 1)]) Try.func25 nm25 bd25 rfl) (has_c _ x _ _ [9] (ReAt.ext EQ x hxr0) (ints_of_blk [9] Bs (by simp) (by simp)) (by omega) (by simp)) ?_
        rintro _ w29 ⟨rfl, X29⟩
        replace B1 := X29.keep B1
        replace Bu := X29.keep Bu
        replace Bs := X29.keep Bs
        replace E := E.ext X29
        replace EQ := EQ.ext X29
        refine WpL_guard_yes (oj := _) rfl rfl (by decide) (congrArg Value.bool h8) ?_
        refine qV (r_pick (b := decide ((x.kind : Int) = 10)) (v := (.bool (usesB [9] x))) rfl (by rw [h10]; rfl)) ?_
        refine qV (r_pick (b := decide ((x.kind : Int) = 8)) (v := (.bool (usesB [9] x))) rfl (by rw [h8]; rfl)) ?_
        refine qA (.bool (usesB [9] x)) rfl ?_
        refine WpL_nil (inB_normal (thn_normal (Wp_region ?_)))
        refine qV (r_add (k := .i64) (a := (k : Int)) (b := 1) (c := (k : Int) + 1) rfl rfl (wI64 (by omega))) ?_
        refine qM (I6 ((k : Int) + 1)) rfl ?_
        refine WpL_nil (thn_normal ?_)
        exact ⟨L.length - (k + 1), by omega, k + 1, usesB [9] x, Fits.out ⟨rfl, rfl, rfl, rfl, rfl, trivial⟩, E, EQ, B1, (by omega), (by rw [htk9, he]; simp [badN, h7, h8, h10]), rfl⟩
       ·have kh10 := h10
        replace kh10 := of_decide_eq_false kh10
        refine WpL_guard_no (oj := _) rfl rfl (by decide) (v := .bool false) (congrArg Value.bool h10) (Or.inl rfl) ?_
        refine WpL_guard_no (oj := _) rfl rfl (by decide) (v := .bool false) (congrArg Value.bool h10) (Or.inl rfl) ?_
        refine WpL_guard_no (oj := _) rfl rfl (by decide) (v := .bool false) (congrArg Value.bool h10) (Or.inl rfl) ?_
        refine WpL_guard_yes (oj := _) rfl rfl (by decide) (congrArg Value.bool h8) ?_
        refine qV (r_pick (b := decide ((x.kind : Int) = 10)) (v := (.bool false)) rfl (by rw [h10]; rfl)) ?_
        refine qV (r_pick (b := decide ((x.kind : Int) = 8)) (v := (.bool false)) rfl (by rw [h8]; rfl)) ?_
        refine qA (.bool false) rfl ?_
        refine WpL_nil (inB_normal (thn_normal (Wp_region ?_)))
        refine qV (r_add (k := .i64) (a := (k : Int)) (b := 1) (c := (k : Int) + 1) rfl rfl (wI64 (by omega))) ?_
        refine qM (I6 ((k : Int) + 1)) rfl ?_
        refine WpL_nil (thn_normal ?_)
        exact ⟨L.length - (k + 1), by omega, k + 1, false, Fits.out ⟨rfl, rfl, rfl, rfl, rfl, trivial⟩, E, EQ, B1, (by omega), (by rw [htk9, he]; simp [badN, h7, h8, h10]), rfl⟩
   ·have khlt := hlt
    replace hlt := of_decide_eq_false hlt
    have hkk : L.take k = L := List.take_of_length_le (by omega)
    rw [hkk] at hp
    refine Wp_exit (thn_exit (thn_exit (inB_here (thn_normal (Wp_seq (Wp_seq_region ?_))))))
    refine qM (.bool e) rfl ?_
    refine WpL_nil ?_
    refine Wp_cond (b := e) rfl (fun hb => ?_) (fun hb => ?_)
    ·have khb := hb
     refine Wp_seq_region ?_
     refine qA (I6 3) rfl ?_
     refine WpL_nil (Wp_ret (thn_ret ?_))
     refine fin_tmp Try.results12 (v := (.int .i64 3)) rfl ?_
     exact ⟨by rw [if_pos (by rw [← hp, hb])], E⟩
    ·have khb := hb
     rw [if_neg (by rw [← hp, hb]; decide)]
     refine Wp_skip (thn_normal (Wp_seq (Wp_seq_region ?_)))
     refine qV (r_loadAgg (vs := [(I6 t.kind), (.slice sa t.set.length sc), (.slice aa t.args.length ac), (I6 t.mn), (I6 t.mx), (.bool t.neg)]) rfl agg27 siz27 rfl (B1.cells rfl)) ?_
     refine WpL_enter rfl rfl (by decide) (r_callF (vs := [(.agg (R6 t sa sc aa ac))]) Try.func26 nm26 bd26 rfl) (rlength_c 40 t (by omega) (by decide) hok _ _ (ReAt.ext E t ht0)) ?_
     rintro _ w39 ⟨rfl, X39⟩
     replace B1 := X39.keep B1
     replace E := E.ext X39
     replace EQ := EQ.ext X39
     refine qV (r_gtr (k := .i64) (a := ((lenR t : Nat) : Int)) (b := 399) rfl rfl) ?_
     refine WpL_nil ?_
     refine Wp_cond (b := decide ((399 : Int) < ((lenR t : Nat) : Int))) rfl (fun h4 => ?_) (fun h4 => ?_)
     ·have kh4 := h4
      replace h4 := of_decide_eq_true h4
      refine Wp_seq_region ?_
      refine qA (I6 2) rfl ?_
      refine WpL_nil (Wp_ret (thn_ret ?_))
      refine fin_tmp Try.results12 (v := (.int .i64 2)) rfl ?_
      exact ⟨by rw [if_pos h4], E⟩
     ·have kh4 := h4
      replace h4 := of_decide_eq_false h4
      refine Wp_skip (thn_normal (Wp_seq_region ?_))
      refine qA (I6 0) rfl ?_
      refine WpL_nil (Wp_ret ?_)
      refine fin_tmp Try.results12 (v := (.int .i64 0)) rfl ?_
      exact ⟨by rw [if_neg h4], E⟩
end Go.Proofs
namespace Go.Proofs
open Go Go.Eng
set_option maxRecDepth 100000
theorem fin_agg_tmp2 {P : Program} {fn : Func} {R : Value → World → Prop} {a0 t b n u s : Nat} (hr : fn.results = #[.cell a0 t, .tmp u, .tmp s]) {σ : Env} {w : World} {vs : List Value} {v' v'' : Value} (hv : σ a0 = .pointer (some ⟨b, 0, none⟩)) (hf : aggB P t = true) (hs : Siz P t n) (hn : vs.length = n) (hc : CellsAt w b 0 vs) (hv' : σ u = v') (hv'' : σ s = v'') (h : R (.tuple #[.agg vs.toArray, v', v'']) w) : fin P fn R .ret σ w :=
 ⟨.tuple #[.agg vs.toArray, v', v''], fun a ha => by
  subst ha
  have h0 : a.tmps.getD a0 undef = .pointer (some ⟨b, 0, none⟩) := hv
  have h1 : a.tmps.getD u undef = v' := hv'
  have h2 : a.tmps.getD s undef = v'' := hv''
  simp only [Array.getD_eq_getD_getElem?] at h0 h1 h2
  simp [results, hr, h0, h1, h2, asAddr, run_loadVar hf hs hn hc], h⟩
end Go.Proofs
namespace Go.Proofs
open Go Go.Eng Go.Sort
set_option maxRecDepth 100000
theorem intsw_own {w : World} {ta : Option Addr} {tn tc : Nat} {l : List Int} (h : IntsAt w (.slice ta tn tc) l) : l = [] ∨ ∃ b, (Value.slice ta tn tc).ownBlock = some b ∧ b < w.heap.size := by
  obtain ⟨a, c, e, _, _, h⟩ := h
  cases e
  rcases h with h | ⟨b, o, rfl, h⟩
  · exact .inl (by simpa using h)
  · cases l with
    | nil => exact .inl rfl
    | cons x l => exact .inr ⟨b, rfl, World.block_lt_of_cell? w _ (h 0 _ rfl 0 _ rfl)⟩
def findO (t : Re) (text : List Int) : Option (Nat × Nat × Grp) := if capP t text ≠ 0 then none else fromO text t 0
theorem findO_len (t : Re) (text : List Int) : (fndO (findO t text)).length = 22 := by
 unfold findO
 split
 ·rfl
 ·exact fndO_len _ 0 (Nat.le_refl _) (Nat.zero_le _)
theorem fndO_one (o : Option (Nat × Nat × Grp)) : ∀ v ∈ fndO o, v.oneCell' = true := by
  cases o with
  | none => exact fnd_one _ _ _
  | some q => exact fnd_one _ _ _
def findV (t : Re) (text : List Int) : Value := .tuple #[.agg (fndO (findO t text)).toArray, .bool (findO t text).isSome, .int .i64 (capP t text)]
set_option maxHeartbeats 2000000 in
theorem find_c (w0 : World) (t : Re) (vs : List Value) (v : Value) (text : List Int) (ht : ReAt w0 t vs) (htx : IntsAt w0 v text) :
  Ret Try.prog 9 #[.agg vs.toArray, v] w0 fun r w => r = findV t text ∧ Ext w0 w := by
 have ht0 := ht
 obtain ⟨sa, sc, aa, ac, rfl, hset, hlen, hargs⟩ := ht.form
 obtain ⟨ta, tc, rfl⟩ := SlAt.form htx
 simp only [List.length_map] at htx ⊢
 refine Ret_of Try.func9 rfl Try.ntmps9 (Nat.le_of_ble_eq_true rfl) ?_
 have E : Chg none1 w0 w0 := Chg.refl _ _
 refine Wp_seq_region ?_
 refine s_box (v := (.agg (R6 t sa sc aa ac))) (c := (R6 t sa sc aa ac)) (by decide) rfl rfl ?_
 intro bx wx Nx
 have Fx := Nx.ge E
 replace E := E.ext Nx.ext
 have Bx := Nx.blk
 refine s_alloc (by decide) zer33 rfl ?_
 intro bo wo No
 have Fo := No.ge E
 have Oo_bx := No.lt Bx
 replace Bx := No.keep Bx
 replace E := E.ext No.ext
 have Bo := No.blk
 refine qA (.bool false) rfl ?_
 refine qA (I6 0) rfl ?_
 refine WpL_nil (Wp_seq (Wp_seq_region ?_))
 refine qV (r_loadAgg (vs := [(I6 t.kind), (.slice sa t.set.length sc), (.slice aa t.args.length ac), (I6 t.mn), (I6 t.mx), (.bool t.neg)]) rfl agg27 siz27 rfl (Bx.cells rfl)) ?_
 refine qM (.slice ta text.length tc) rfl ?_
 refine WpL_enter rfl rfl (by decide) (r_callF (vs := [(.agg (R6 t sa sc aa ac)), (.slice ta text.length tc)]) Try.func20 nm20 bd20 rfl) (capchk_c _ t _ _ text (ReAt.ext E t ht0) (htx.ext E)) ?_
 rintro _ w9 ⟨rfl, X9⟩
 replace Bx := X9.keep Bx
 replace Bo := X9.keep Bo
 replace E := E.ext X9
 refine qA (I6 (capP t text)) rfl ?_
 refine WpL_nil (Wp_seq_region ?_)
 refine qM (I6 (capP t text)) rfl ?_
 refine qV (r_neq (k := .i64) (a := capP t text) (b := 0) rfl rfl) ?_
 refine WpL_nil ?_
 refine Wp_cond (b := decide ((capP t text : Int) ≠ 0)) rfl (fun h1 => ?_) (fun h1 => ?_)
 ·have kh1 := h1
  replace h1 := of_decide_eq_true h1
  refine Wp_seq_region ?_
  refine qV (r_build (ps := []) (v := (.agg (Q22 0 0 0 0 0 0 0 0 0 0 0 0 0 0 0 0 0 0 0 0 0 0))) rfl (by kernel_rfl)) ?_
  refine qM (I6 (capP t text)) rfl ?_
  refine s_storeAgg (b := bo) (o := 0) (c' := (Q22 0 0 0 0 0 0 0 0 0 0 0 0 0 0 0 0 0 0 0 0 0 0)) rfl rfl (by simp [Value.oneCell']) siz33 rfl Bo (by first | (simp; done) | exact Nat.le_of_ble_eq_true rfl) rfl ?_
  intro w2 S2
  replace Bx := S2.keep (by omega) Bx
  replace E := S2.step E (by first | exact Or.inl (by omega) | exact Or.inr rfl | exact Or.inr (by assumption) | exact Or.inr (by simp) | exact Or.inr (by omega) | exact Or.inr (by dsimp only; omega))
  replace Bo := S2.blk
  refine qA (.bool false) rfl ?_
  refine qA (I6 (capP t text)) rfl ?_
  refine WpL_nil (Wp_ret (thn_ret ?_))
  refine fin_agg_tmp2 Try.results9 (vs := fndV 0 0 (List.replicate 10 (0, 0))) (b := bo) (v' := .bool false) (v'' := .int .i64 (capP t text)) rfl agg33 siz33 rfl (Bo.cells rfl) rfl rfl ?_
  exact ⟨by unfold findV findO; rw [if_pos h1]; rfl, E⟩
 ·have kh1 := h1
  replace h1 := of_decide_eq_false h1
  have h0 : capP t text = 0 := by omega
  obtain ⟨hC, hn⟩ := capP_zero h0
  obtain ⟨z, hz⟩ : ∃ z, z = (w9).heap.size := ⟨_, rfl⟩
  have hfl := frg_len _ t (Nat.le_refl _) hC.ok hC.us hC.ln 0 0 0
  have hzs : w0.heap.size ≤ z := by rw [hz]; exact E.size
  have hln := hC.ln
  have hsz := hC.sz
  refine Wp_skip (thn_normal (Wp_seq_region ?_))
  refine qV (r_loadAgg (vs := [(I6 t.kind), (.slice sa t.set.length sc), (.slice aa t.args.length ac), (I6 t.mn), (I6 t.mx), (.bool t.neg)]) rfl agg27 siz27 rfl (Bx.cells rfl)) ?_
  refine WpL_enter rfl rfl (by decide) (r_callF (vs := [(.agg (R6 t sa sc aa ac))]) Try.func22 nm22 bd22 rfl) (translate_c _ (fun y => y < z) _ _ t (of_all _ t.size t (Nat.le_refl _) hC.ok hC.us hC.ln hC.sz) (ReAt.ext E t ht0) (Ext.refl _) (fun y h => by omega) (fun y h => by omega) (by omega) (by unfold tempsOf; omega) (by omega)) ?_
  rintro _ w19 ⟨⟨F', pb, rfl, hF1, hF2, hF3, hPr⟩, X19⟩
  replace Bx := X19.keep Bx
  replace Bo := X19.keep Bo
  replace E := E.ext X19
  obtain ⟨L, hL⟩ : ∃ L, L = fndO (fromO text t 0) := ⟨_, rfl⟩
  have hLn : L.length = 22 := by rw [hL]; exact fndO_len _ 0 (Nat.le_refl _) (Nat.zero_le _)
  have hL1 : ∀ v ∈ L, v.oneCell' = true := by rw [hL]; exact fndO_one _
  refine qM (.slice ta text.length tc) rfl ?_
  refine WpL_enter rfl rfl (by decide) (r_callF (vs := [(P6 pb 0), (.slice ta text.length tc), (I6 0)]) Try.func21 nm21 bd21 rfl) ((from_c F' _ pb t ta text.length tc 0 text hPr hF3 (htx.ext E) ((intsw_own htx).imp_right fun ⟨b, h1, h2⟩ => ⟨b, h1, hF1 b (by omega)⟩) (by omega) (wf_of t hC.ok hC.us) (by omega) (Nat.zero_le _)).mono (R' := fun r w => r = .tuple #[.agg L.toArray, .bool (fromO text t 0).isSome] ∧ Ext w19 w) (fun r w h => ⟨by rw [h.1, hL], h.2⟩)) ?_
  rintro _ w29 ⟨rfl, X29⟩
  replace Bx := X29.keep Bx
  replace Bo := X29.keep Bo
  replace E := E.ext X29
  refine qM (.tuple #[(.agg L.toArray), (.bool ((fromO text t 0).isSome))]) rfl ?_
  refine qV (r_extract (vs := #[(.agg L.toArray), (.bool ((fromO text t 0).isSome))]) (v := (.agg L.toArray)) rfl rfl) ?_
  refine qV (r_extract (vs := #[(.agg L.toArray), (.bool ((fromO text t 0).isSome))]) (v := (.bool ((fromO text t 0).isSome))) rfl rfl) ?_
  refine s_allocStore (v := (.agg L.toArray)) (c := L.toArray) (n := 22) (by decide) zer33 rfl siz33 rfl rfl (by simpa using hLn) (by simpa using hL1) ?_
  intro b3 w3 N3
  have F3 := N3.ge E
  have O3_bx := N3.lt Bx
  have O3_bo := N3.lt Bo
  replace Bx := N3.keep Bx
  replace Bo := N3.keep Bo
  replace E := E.ext N3.ext
  have B3 := N3.blk
  refine qA (.bool ((fromO text t 0).isSome)) rfl ?_
  refine WpL_nil (Wp_seq_region ?_)
  refine qV (r_loadAgg (vs := L) rfl agg33 siz33 hLn (B3.cells (by simp))) ?_
  refine qM (.bool ((fromO text t 0).isSome)) rfl ?_
  refine s_storeAgg (b := bo) (o := 0) (n := 22) (c' := L.toArray) (vs := L.toArray) rfl rfl (hL1) siz33 (by simpa using hLn) Bo (Nat.le_of_ble_eq_true rfl) (by simp [hLn, Value.cells]) ?_
  intro w4 S4
  replace Bx := S4.keep (by omega) Bx
  replace B3 := S4.keep (by omega) B3
  replace E := S4.step E (by first | exact Or.inl (by omega) | exact Or.inr rfl | exact Or.inr (by assumption) | exact Or.inr (by simp) | exact Or.inr (by omega) | exact Or.inr (by dsimp only; omega))
  replace Bo := S4.blk
  refine qA (.bool ((fromO text t 0).isSome)) rfl ?_
  refine qA (I6 0) rfl ?_
  refine WpL_nil (Wp_ret ?_)
  refine fin_agg_tmp2 Try.results9 (vs := L) (b := bo) (v' := .bool (fromO text t 0).isSome) (v'' := .int .i64 0) rfl agg33 siz33 hLn (Bo.cells (by simp)) rfl rfl ?_
  exact ⟨by unfold findV findO; rw [if_neg h1, h0, hL], E⟩
set_option maxHeartbeats 1000000 in
theorem tagged_c (w0 : World) (t : Re) (vs : List Value) (v : Value) (text : List Int) (ht : ReAt w0 t vs) (htx : IntsAt w0 v text) :
  Ret Try.prog 10 #[.agg vs.toArray, v] w0 fun r w => r = findV t text ∧ Ext w0 w := by
 have ht0 := ht
 obtain ⟨sa, sc, aa, ac, rfl, hset, hlen, hargs⟩ := ht.form
 obtain ⟨ta, tc, rfl⟩ := SlAt.form htx
 simp only [List.length_map] at htx ⊢
 obtain ⟨L, hL⟩ : ∃ L, L = fndO (findO t text) := ⟨_, rfl⟩
 have hLn : L.length = 22 := by rw [hL]; exact findO_len _ _
 have hL1 : ∀ v ∈ L, v.oneCell' = true := by rw [hL]; exact fndO_one _
 have hV : findV t text = .tuple #[.agg L.toArray, .bool (findO t text).isSome, .int .i64 (capP t text)] := by unfold findV; rw [hL]
 rw [hV]
 refine Ret_of Try.func10 rfl Try.ntmps10 (Nat.le_of_ble_eq_true rfl) ?_
 have E : Chg none1 w0 w0 := Chg.refl _ _
 refine Wp_seq_region ?_
 refine s_box (v := (.agg (R6 t sa sc aa ac))) (c := (R6 t sa sc aa ac)) (by decide) rfl rfl ?_
 intro bx wx Nx
 have Fx := Nx.ge E
 replace E := E.ext Nx.ext
 have Bx := Nx.blk
 refine s_alloc (by decide) zer33 rfl ?_
 intro bo wo No
 have Fo := No.ge E
 have Oo_bx := No.lt Bx
 replace Bx := No.keep Bx
 replace E := E.ext No.ext
 have Bo := No.blk
 refine qA (.bool false) rfl ?_
 refine qA (I6 0) rfl ?_
 refine WpL_nil (Wp_seq_region ?_)
 refine qV (r_loadAgg (vs := [(I6 t.kind), (.slice sa t.set.length sc), (.slice aa t.args.length ac), (I6 t.mn), (I6 t.mx), (.bool t.neg)]) rfl agg27 siz27 rfl (Bx.cells rfl)) ?_
 refine qM (.slice ta text.length tc) rfl ?_
 refine WpL_enter rfl rfl (by decide) (r_callF (vs := [(.agg (R6 t sa sc aa ac)), (.slice ta text.length tc)]) Try.func9 nm9 bd9 rfl) (find_c _ t _ _ text (ReAt.ext E t ht0) (htx.ext E) |>.mono (R' := fun r w => r = .tuple #[.agg L.toArray, .bool (findO t text).isSome, .int .i64 (capP t text)] ∧ Ext _ w) (fun r w h => ⟨h.1.trans hV, h.2⟩)) ?_
 rintro _ w9 ⟨rfl, X9⟩
 replace Bx := X9.keep Bx
 replace Bo := X9.keep Bo
 replace E := E.ext X9
 refine qV (r_extract (vs := #[(.agg L.toArray), (.bool ((findO t text).isSome)), (I6 (capP t text))]) (v := (.agg L.toArray)) rfl rfl) ?_
 refine qV (r_extract (vs := #[(.agg L.toArray), (.bool ((findO t text).isSome)), (I6 (capP t text))]) (v := (.bool ((findO t text).isSome))) rfl rfl) ?_
 refine qV (r_extract (vs := #[(.agg L.toArray), (.bool ((findO t text).isSome)), (I6 (capP t text))]) (v := (I6 (capP t text))) rfl rfl) ?_
 refine s_storeAgg (b := bo) (o := 0) (n := 22) (c' := L.toArray) (vs := L.toArray) rfl rfl (hL1) siz33 (by simpa using hLn) Bo (Nat.le_of_ble_eq_true rfl) (by simp [hLn, Value.cells]) ?_
 intro w1 S1
 replace Bx := S1.keep (by omega) Bx
 replace E := S1.step E (by first | exact Or.inl (by omega) | exact Or.inr rfl | exact Or.inr (by assumption) | exact Or.inr (by simp) | exact Or.inr (by omega) | exact Or.inr (by dsimp only; omega))
 replace Bo := S1.blk
 refine qA (.bool ((findO t text).isSome)) rfl ?_
 refine qA (I6 (capP t text)) rfl ?_
 refine WpL_nil (Wp_ret ?_)
 refine fin_agg_tmp2 Try.results10 (vs := L) (b := bo) (v' := .bool (findO t text).isSome) (v'' := .int .i64 (capP t text)) rfl agg33 siz33 hLn (Bo.cells (by simp)) rfl rfl ?_
 exact ⟨rfl, E⟩
end Go.Proofs
namespace Go.Proofs
open Go Go.Eng Go.Sort
set_option maxRecDepth 100000
theorem eqItems_refl {P : Program} {w : World} {dd n : Nat} {e : TypeId} {xs : Array Value} : ∀ is : List Nat, (∀ i ∈ is, ∃ v, (part e xs (i * n)).run P w = .ok v w ∧ (Op.equalIn dd e v v).run P w = .ok true w) → (Op.eqItems dd e n xs xs is).run P w = .ok true w
  | [], _ => by simp [Op.eqItems]
  | i :: is, h => by
    obtain ⟨v, h1, h2⟩ := h i (by simp)
    have ih := eqItems_refl is fun j hj => h j (by simp [hj])
    simp only [Op.eqItems, Sem.run_bind, h1, h2, Result.andThen_ok, Bool.not_true, Bool.false_eq_true, if_false]
    exact ih
theorem eqFields_refl {P : Program} {w : World} {dd : Nat} {xs : Array Value} : ∀ fs : List Field, (∀ f ∈ fs, ∃ v, (part f.type xs f.offset).run P w = .ok v w ∧ (Op.equalIn dd f.type v v).run P w = .ok true w) → (Op.eqFields dd xs xs fs).run P w = .ok true w
  | [], _ => by simp [Op.eqFields]
  | f :: fs, h => by
    obtain ⟨v, h1, h2⟩ := h f (by simp)
    have ih := eqFields_refl fs fun j hj => h j (by simp [hj])
    unfold Op.eqFields
    split
    · simp only [Sem.run_bind, h1, h2, Result.andThen_ok, Bool.not_true, Bool.false_eq_true, if_false]
      exact ih
    · exact ih
abbrev TGr : Nat := 31
theorem eqGr (w : World) (d : Nat) (G : Grp) (hG : G.length = 10) : (Op.equalIn (d + 3) TGr (.agg (grpV G).toArray) (.agg (grpV G).toArray)).run Try.prog w = .ok true w := by
  obtain ⟨i, hi⟩ : ∃ i, (Try.prog).info? 30 = some i := by
    have h : ((Try.prog).info? 30).isSome = true := by kernel_rfl
    exact Option.isSome_iff_exists.1 h
  have hc : (Try.prog).cellsOf 30 = 2 := by kernel_rfl
  rw [run_equalIn_array w (d + 2) _ _ Try.underlying31 hi, hc]
  refine eqItems_refl _ fun k hk => ?_
  have hk : k < 10 := List.mem_range.1 hk
  obtain ⟨q, hq⟩ := get_of_lt (l := G) (i := k) (by omega)
  have hs := grpV_get G k q hq
  have hl := grpV_len G
  refine ⟨.agg #[.int .i64 q.1, .int .i64 q.2], ?_, ?_⟩
  · have hag : (isAgg 30).run Try.prog w = .ok true w := by kernel_rfl
    have hsz : (sizeOf 30).run Try.prog w = .ok 2 w := by kernel_rfl
    unfold part
    simp only [Sem.run_bind, hag, hsz, Result.andThen_ok, if_true, Sem.run_pure]
    congr 2
    apply Array.ext'
    rw [Array.toList_extract, List.toList_toArray]
    apply List.ext_getElem?
    intro j
    simp only [List.extract, List.getElem?_take, List.getElem?_drop]
    match j with
    | 0 => rw [if_pos (by omega)]; exact hs.1
    | 1 => rw [if_pos (by omega)]; exact hs.2
    | j + 2 => rw [if_neg (by omega)]; rfl
  · rw [equalIn_pair d q.1 q.2 q.1 q.2 Try.underlying30 Try.underlying3 siz3 flat3]
    simp
theorem eqFd (w : World) (f t : Int) (G : Grp) (hG : G.length = 10) : (Op.equalIn 10000 TFd (.agg (fndV f t G).toArray) (.agg (fndV f t G).toArray)).run Try.prog w = .ok true w := by
 have hu : (Try.prog).underlying TFd = some (.struct ((Try.prog).fieldsOf TFd)) := by kernel_rfl
 have hst : (Try.prog).stoodInHeld TFd = false := by kernel_rfl
 have hm : ((Try.prog).fieldsOf TFd).toList.map (fun g => (g.type, g.offset)) = [(3, 0), (3, 1), (TGr, 2)] := by kernel_rfl
 have hl := grpV_len G
 have hp : (Try.prog).plainKey 3 = true := by kernel_rfl
 have hq : ∀ x : Int, (Op.equalIn (9998 + 1) 3 (.int .i64 x) (.int .i64 x)).run Try.prog w = .ok true w := fun x => by rw [run_equalIn_int w 9998 3 .i64 .i64 x x Try.underlying3]; simp
 rw [run_equalIn_struct w 9999 TFd _ _ hu hst]
 refine eqFields_refl _ fun g hg => ?_
 have h9 : (g.type, g.offset) ∈ [((3 : Nat), 0), (3, 1), (TGr, 2)] := by rw [← hm]; exact List.mem_map.2 ⟨g, hg, rfl⟩
 simp only [List.mem_cons, List.not_mem_nil, or_false, Prod.mk.injEq] at h9
 rcases h9 with ⟨e1, e2⟩ | ⟨e1, e2⟩ | ⟨e1, e2⟩
 ·rw [e1, e2]; exact ⟨_, run_part_plain w hp (v := .int .i64 f) rfl, hq f⟩
 ·rw [e1, e2]; exact ⟨_, run_part_plain w hp (v := .int .i64 t) rfl, hq t⟩
 ·rw [e1, e2]
  refine ⟨.agg (grpV G).toArray, ?_, eqGr w 9996 G hG⟩
  have hag : (isAgg TGr).run Try.prog w = .ok true w := by kernel_rfl
  have hsz : (sizeOf TGr).run Try.prog w = .ok 20 w := by kernel_rfl
  unfold part
  simp only [Sem.run_bind, hag, hsz, Result.andThen_ok, if_true, Sem.run_pure]
  congr 2
  apply Array.ext'
  rw [Array.toList_extract, List.toList_toArray, List.toList_toArray]
  show (grpV G).take 20 = grpV G
  exact List.take_of_length_le (by omega)
theorem eqFo (w : World) (o : Option (Nat × Nat × Grp)) (h : (fndO o).length = 22) : (Op.equalIn 10000 TFd (.agg (fndO o).toArray) (.agg (fndO o).toArray)).run Try.prog w = .ok true w := by
  cases o with
  | none => exact eqFd w 0 0 _ rfl
  | some q =>
    refine eqFd w _ _ _ ?_
    simp only [fndO, fndV, List.length_append, grpV_len, List.length_cons, List.length_nil] at h
    omega
theorem eqgFd : Try.prog.eqGuardType Try.prog.depth TFd = false := by kernel_rfl
theorem r_eqFd {σ : Env} {w : World} {dst : Option Tmp} {ty t' : TypeId} {pos : String} {af : Array Edge} {g : Option (Nat × Bool)} {x y : Operand} {L : List Value} {o : Option (Nat × Nat × Grp)} (hL : L = fndO o) (hl : L.length = 22) (hx : ev σ x = .agg L.toArray) (hy : ev σ y = .agg L.toArray) :
  (execOp (ev σ) ⟨dst, .binOp .eql TFd x y t', ty, pos, af, g⟩).run Try.prog w = .ok (.value (.bool true)) w := by
 have h := eqFo w o (hL ▸ hl)
 rw [← hL] at h
 simp only [execOp, hx, hy, Sem.run_bind, run_eqGuard_agg w .eql TFd x y _ _ eqgFd, Result.andThen_ok, run_eql_struct, h]
 rfl
end Go.Proofs
namespace Go.Proofs
open Go Go.Eng
set_option maxRecDepth 100000
theorem sp_c (w0 : World) (lo hi : Int) : Ret Try.prog 44 #[.int .i64 lo, .int .i64 hi] w0 fun v w => v = .agg #[.int .i64 lo, .int .i64 hi] ∧ Ext w0 w := by
 refine Ret_of Try.func44 rfl Try.ntmps44 (Nat.le_of_ble_eq_true rfl) ?_
 have E : Chg none1 w0 w0 := Chg.refl _ _
 refine Wp_seq_region ?_
 refine s_alloc (c := #[(I6 0), (I6 0)]) (by decide) zer71 rfl ?_
 intro b1 w1 N1
 have F1 := N1.ge E
 replace E := E.ext N1.ext
 have B1 := N1.blk
 refine WpL_nil (Wp_seq_region ?_)
 refine qM (I6 lo) rfl ?_
 refine qM (I6 hi) rfl ?_
 refine qV (r_build (ps := [(0, (I6 lo)), (1, (I6 hi))]) (v := (.agg #[(I6 lo), (I6 hi)])) rfl (by kernel_rfl)) ?_
 refine s_storeAgg (b := b1) (o := 0) (c' := #[(I6 lo), (I6 hi)]) rfl rfl (by simp [Value.oneCell']) siz71 rfl B1 (by first | (simp; done) | exact Nat.le_of_ble_eq_true rfl) rfl ?_
 intro w2 S2
 replace E := S2.step E (by first | exact Or.inl (by omega) | exact Or.inr rfl | exact Or.inr (by assumption) | exact Or.inr (by simp) | exact Or.inr (by omega) | exact Or.inr (by dsimp only; omega))
 replace B1 := S2.blk
 refine WpL_nil (Wp_ret ?_)
 refine fin_agg Try.results44 (vs := [(.int .i64 lo), (.int .i64 hi)]) (b := b1) rfl agg71 siz71 rfl (B1.cells rfl) ?_
 exact ⟨rfl, E⟩
theorem lone_c (w0 : World) (r : Int) : Ret Try.prog 28 #[.int .i64 r] w0 fun v w => ∃ b, v = .agg #[.int .i64 2, .slice (some ⟨b, 0, none⟩) 1 1, .slice none 0 0, .int .i64 0, .int .i64 0, .bool false] ∧ SpansAt w (.slice (some ⟨b, 0, none⟩) 1 1) [(r, r)] ∧ Ext w0 w := by
 refine Ret_of Try.func28 rfl Try.ntmps28 (Nat.le_of_ble_eq_true rfl) ?_
 have E : Chg none1 w0 w0 := Chg.refl _ _
 refine Wp_seq_region ?_
 refine s_alloc (c := #[(I6 0), (.slice none 0 0), (.slice none 0 0), (I6 0), (I6 0), (.bool false)]) (by decide) zer27 rfl ?_
 intro bp wp Np
 have Fp := Np.ge E
 replace E := E.ext Np.ext
 have Bp := Np.blk
 refine WpL_nil (Wp_seq_region ?_)
 refine qM (I6 r) rfl ?_
 refine qM (I6 r) rfl ?_
 refine WpL_enter rfl rfl (by decide) (r_callF (vs := [(I6 r), (I6 r)]) Try.func44 nm44 bd44 rfl) (sp_c _ r r) ?_
 rintro _ w9 ⟨rfl, X9⟩
 replace Bp := X9.keep Bp
 replace E := E.ext X9
 refine s_buildSlice (ps := [(0, (.agg #[(I6 r), (I6 r)]))]) (c := #[(I6 r), (I6 r)]) (by decide) rfl Try.underlying24 siz71 zer71 (by decide) (by decide) (by kernel_rfl) ?_
 intro bq wq Nq
 have Fq := Nq.ge E
 have Oq_bp := Nq.lt Bp
 replace Bp := Nq.keep Bp
 replace E := E.ext Nq.ext
 have Bq := Nq.blk
 refine qV (r_build (ps := [(0, (I6 2)), (1, (.slice (some ⟨bq, 0, none⟩) 1 1))]) (v := (.agg #[(I6 2), (.slice (some ⟨bq, 0, none⟩) 1 1), (.slice none 0 0), (I6 0), (I6 0), (.bool false)])) rfl (by kernel_rfl)) ?_
 refine s_storeAgg (b := bp) (o := 0) (c' := #[(I6 2), (.slice (some ⟨bq, 0, none⟩) 1 1), (.slice none 0 0), (I6 0), (I6 0), (.bool false)]) rfl rfl (by simp [Value.oneCell']) siz27 rfl Bp (by first | (simp; done) | exact Nat.le_of_ble_eq_true rfl) rfl ?_
 intro w1 S1
 replace Bq := S1.keep (by omega) Bq
 replace E := S1.step E (by first | exact Or.inl (by omega) | exact Or.inr rfl | exact Or.inr (by assumption) | exact Or.inr (by simp) | exact Or.inr (by omega) | exact Or.inr (by dsimp only; omega))
 replace Bp := S1.blk
 refine WpL_nil (Wp_ret ?_)
 refine fin_agg Try.results28 (vs := [(.int .i64 2), (.slice (some ⟨bq, 0, none⟩) 1 1), (.slice none 0 0), (.int .i64 0), (.int .i64 0), (.bool false)]) (b := bp) rfl agg27 siz27 rfl (Bp.cells rfl) ?_
 exact ⟨bq, rfl, spans_of_blk [(r, r)] Bq (by simp) (by simp), E⟩
theorem lstar_c (w0 : World) (t : Re) (vs : List Value) (ht : ReAt w0 t vs) : Ret Try.prog 27 #[.agg vs.toArray] w0 fun v w => (∃ b, v = .agg #[.int .i64 5, .slice none 0 0, .slice (some ⟨b, 0, none⟩) 1 1, .int .i64 0, .int .i64 0, .bool false] ∧ ReAt w (starT t) [.int .i64 5, .slice none 0 0, .slice (some ⟨b, 0, none⟩) 1 1, .int .i64 0, .int .i64 0, .bool false]) ∧ Ext w0 w := by
 have ht0 := ht
 obtain ⟨sa, sc, aa, ac, rfl, hset, hlen, hargs⟩ := ht.form
 refine Ret_of Try.func27 rfl Try.ntmps27 (Nat.le_of_ble_eq_true rfl) ?_
 have E : Chg none1 w0 w0 := Chg.refl _ _
 refine Wp_seq_region ?_
 refine s_box (v := (.agg (R6 t sa sc aa ac))) (c := (R6 t sa sc aa ac)) (by decide) rfl rfl ?_
 intro bp wp Np
 have Fp := Np.ge E
 replace E := E.ext Np.ext
 have Bp := Np.blk
 refine s_alloc (c := #[(I6 0), (.slice none 0 0), (.slice none 0 0), (I6 0), (I6 0), (.bool false)]) (by decide) zer27 rfl ?_
 intro bo wo No
 have Fo := No.ge E
 have Oo_bp := No.lt Bp
 replace Bp := No.keep Bp
 replace E := E.ext No.ext
 have Bo := No.blk
 refine WpL_nil (Wp_seq_region ?_)
 refine qV (r_loadAgg (vs := [(I6 t.kind), (.slice sa t.set.length sc), (.slice aa t.args.length ac), (I6 t.mn), (I6 t.mx), (.bool t.neg)]) rfl agg27 siz27 rfl (Bp.cells rfl)) ?_
 refine s_buildSlice (ps := [(0, (.agg (R6 t sa sc aa ac)))]) (c := (R6 t sa sc aa ac)) (by decide) rfl Try.underlying25 siz27 zer27 (by decide) (by decide) (by kernel_rfl) ?_
 intro bq wq Nq
 have Fq := Nq.ge E
 have Oq_bp := Nq.lt Bp
 have Oq_bo := Nq.lt Bo
 replace Bp := Nq.keep Bp
 replace Bo := Nq.keep Bo
 replace E := E.ext Nq.ext
 have Bq := Nq.blk
 refine qV (r_build (ps := [(0, (I6 5)), (2, (.slice (some ⟨bq, 0, none⟩) 1 1))]) (v := (.agg #[(I6 5), (.slice none 0 0), (.slice (some ⟨bq, 0, none⟩) 1 1), (I6 0), (I6 0), (.bool false)])) rfl (by kernel_rfl)) ?_
 refine s_storeAgg (b := bo) (o := 0) (c' := #[(I6 5), (.slice none 0 0), (.slice (some ⟨bq, 0, none⟩) 1 1), (I6 0), (I6 0), (.bool false)]) rfl rfl (by simp [Value.oneCell']) siz27 rfl Bo (by first | (simp; done) | exact Nat.le_of_ble_eq_true rfl) rfl ?_
 intro w1 S1
 replace Bp := S1.keep (by omega) Bp
 replace Bq := S1.keep (by omega) Bq
 replace E := S1.step E (by first | exact Or.inl (by omega) | exact Or.inr rfl | exact Or.inr (by assumption) | exact Or.inr (by simp) | exact Or.inr (by omega) | exact Or.inr (by dsimp only; omega))
 replace Bo := S1.blk
 refine WpL_nil (Wp_ret ?_)
 refine fin_agg Try.results27 (vs := [(.int .i64 5), (.slice none 0 0), (.slice (some ⟨bq, 0, none⟩) 1 1), (.int .i64 0), (.int .i64 0), (.bool false)]) (b := bo) rfl agg27 siz27 rfl (Bo.cells rfl) ?_
 exact ⟨⟨bq, rfl, ReAt.of (set := []) (args := [t]) (SlAt.nil _ _ _ _) (by simp) (.inr ⟨bq, 0, rfl, by simp only [ResAt]; exact ⟨⟨_, Bq.cells rfl, ReAt.ext E t ht0⟩, trivial⟩⟩)⟩, E⟩
end Go.Proofs
namespace Go.Proofs
open Go Go.Eng Go.Sort
set_option maxRecDepth 100000
def begT3 : Re := .mk 9 [] [starT (oneT 97)] 1 0 false
abbrev begG3 : Grp := [(-1, -1), (0, 2), (-1, -1), (-1, -1), (-1, -1), (-1, -1), (-1, -1), (-1, -1), (-1, -1), (-1, -1)]
theorem beg3_cap : capP begT3 [97, 97, 98] = 0 := by decide
theorem beg3_find : findO begT3 [97, 97, 98] = some (0, 2, begG3) := by
 have e0 : (crsOf [97, 97, 98] begT3 0 G0).head? = some (2, begG3) := by decide +kernel
 unfold findO
 rw [if_neg (by rw [beg3_cap]; decide), fromO, if_pos (by decide), e0]
theorem beg3_val : findV begT3 [97, 97, 98] = .tuple #[.agg (fndV 0 2 begG3).toArray, .bool true, .int .i64 0] := by
 unfold findV
 rw [beg3_find, beg3_cap]
 rfl
set_option maxHeartbeats 2000000 in
theorem cbegun3_c (w0 : World) : Ret Try.prog 13 #[] w0 fun v w => v = .bool true ∧ Ext w0 w := by
 have hLn : (fndV 0 2 begG3).length = 22 := rfl
 refine Ret_of Try.func13 rfl Try.ntmps13 (Nat.le_of_ble_eq_true rfl) ?_
 have E : Chg none1 w0 w0 := Chg.refl _ _
 refine Wp_seq_region ?_
 refine qA (.bool false) rfl ?_
 refine WpL_nil (Wp_seq_region ?_)
 refine WpL_enter rfl rfl (by decide) (r_callF (vs := [(I6 97)]) Try.func28 nm28 bd28 rfl) (lone_c _ 97) ?_
 rintro _ w9 ⟨b, rfl, hsp, X9⟩
 replace E := E.ext X9
 refine WpL_enter rfl rfl (by decide) (r_callF (vs := [(.agg #[(I6 2), (.slice (some ⟨b, 0, none⟩) 1 1), (.slice none 0 0), (I6 0), (I6 0), (.bool false)])]) Try.func27 nm27 bd27 rfl) (lstar_c _ (oneT 97) _ (one_at hsp)) ?_
 rintro _ w19 ⟨⟨b2, rfl, hst⟩, X19⟩
 replace E := E.ext X19
 refine s_buildSlice (ps := [(0, (.agg #[(I6 5), (.slice none 0 0), (.slice (some ⟨b2, 0, none⟩) 1 1), (I6 0), (I6 0), (.bool false)]))]) (c := #[(I6 5), (.slice none 0 0), (.slice (some ⟨b2, 0, none⟩) 1 1), (I6 0), (I6 0), (.bool false)]) (by decide) rfl Try.underlying25 siz27 zer27 (by decide) (by decide) (by kernel_rfl) ?_
 intro bp wp Np
 have Fp := Np.ge E
 replace hst := ReAt.ext Np.ext _ hst
 replace E := E.ext Np.ext
 have Bp := Np.blk
 refine qV (r_build (ps := [(0, (I6 9)), (3, (I6 1)), (2, (.slice (some ⟨bp, 0, none⟩) 1 1))]) (v := (.agg #[(I6 9), (.slice none 0 0), (.slice (some ⟨bp, 0, none⟩) 1 1), (I6 1), (I6 0), (.bool false)])) rfl (by kernel_rfl)) ?_
 refine s_allocStore (v := (.agg #[(I6 9), (.slice none 0 0), (.slice (some ⟨bp, 0, none⟩) 1 1), (I6 1), (I6 0), (.bool false)])) (c := #[(I6 9), (.slice none 0 0), (.slice (some ⟨bp, 0, none⟩) 1 1), (I6 1), (I6 0), (.bool false)]) (n := 6) (by decide) zer27 rfl siz27 rfl rfl rfl (by simp [Value.oneCell']) ?_
 intro br wr Nr
 have Fr := Nr.ge E
 have Or_bp := Nr.lt Bp
 replace Bp := Nr.keep Bp
 replace hst := ReAt.ext Nr.ext _ hst
 replace E := E.ext Nr.ext
 have Br := Nr.blk
 refine WpL_nil (Wp_seq_region ?_)
 refine qV (r_loadAgg (vs := [(I6 9), (.slice none 0 0), (.slice (some ⟨bp, 0, none⟩) 1 1), (I6 1), (I6 0), (.bool false)]) rfl agg27 siz27 rfl (Br.cells rfl)) ?_
 refine s_buildSlice (ps := [(0, (I6 97)), (1, (I6 97)), (2, (I6 98))]) (c := #[(I6 97), (I6 97), (I6 98)]) (by decide) rfl Try.underlying22 siz3 zer3 (by decide) (by decide) (by kernel_rfl) ?_
 intro bq wq Nq
 have Fq := Nq.ge E
 have Oq_bp := Nq.lt Bp
 have Oq_br := Nq.lt Br
 replace Bp := Nq.keep Bp
 replace Br := Nq.keep Br
 replace hst := ReAt.ext Nq.ext _ hst
 replace E := E.ext Nq.ext
 have Bq := Nq.blk
 refine WpL_enter rfl rfl (by decide) (r_callF (vs := [(.agg #[(I6 9), (.slice none 0 0), (.slice (some ⟨bp, 0, none⟩) 1 1), (I6 1), (I6 0), (.bool false)]), (.slice (some ⟨bq, 0, none⟩) 3 3)]) Try.func9 nm9 bd9 rfl) ((find_c _ begT3 [.int .i64 9, .slice none 0 0, .slice (some ⟨bp, 0, none⟩) 1 1, .int .i64 1, .int .i64 0, .bool false] _ [97, 97, 98] (ReAt.of (set := []) (args := [starT (oneT 97)]) (SlAt.nil _ _ _ _) (by simp) (.inr ⟨bp, 0, rfl, by simp only [ResAt]; exact ⟨⟨_, Bp.cells rfl, hst⟩, trivial⟩⟩)) (ints_of_blk [97, 97, 98] Bq (by simp) (by simp))).mono (R' := fun v w => v = .tuple #[.agg (fndV 0 2 begG3).toArray, .bool true, .int .i64 0] ∧ Ext wq w) (fun v w h => ⟨h.1.trans beg3_val, h.2⟩)) ?_
 rintro _ w29 ⟨rfl, X29⟩
 replace Bp := X29.keep Bp
 replace Br := X29.keep Br
 replace Bq := X29.keep Bq
 replace hst := ReAt.ext X29 _ hst
 replace E := E.ext X29
 refine qM (.tuple #[(.agg (Q22 0 2 (-1) (-1) 0 2 (-1) (-1) (-1) (-1) (-1) (-1) (-1) (-1) (-1) (-1) (-1) (-1) (-1) (-1) (-1) (-1))), (.bool true), (I6 0)]) rfl ?_
 refine qV (r_extract (vs := #[(.agg (Q22 0 2 (-1) (-1) 0 2 (-1) (-1) (-1) (-1) (-1) (-1) (-1) (-1) (-1) (-1) (-1) (-1) (-1) (-1) (-1) (-1))), (.bool true), (I6 0)]) (v := (.agg (Q22 0 2 (-1) (-1) 0 2 (-1) (-1) (-1) (-1) (-1) (-1) (-1) (-1) (-1) (-1) (-1) (-1) (-1) (-1) (-1) (-1)))) rfl rfl) ?_
 refine qV (r_extract (vs := #[(.agg (Q22 0 2 (-1) (-1) 0 2 (-1) (-1) (-1) (-1) (-1) (-1) (-1) (-1) (-1) (-1) (-1) (-1) (-1) (-1) (-1) (-1))), (.bool true), (I6 0)]) (v := (.bool true)) rfl rfl) ?_
 refine qV (r_extract (vs := #[(.agg (Q22 0 2 (-1) (-1) 0 2 (-1) (-1) (-1) (-1) (-1) (-1) (-1) (-1) (-1) (-1) (-1) (-1) (-1) (-1) (-1) (-1))), (.bool true), (I6 0)]) (v := (I6 0)) rfl rfl) ?_
 refine s_allocStore (v := (.agg (Q22 0 2 (-1) (-1) 0 2 (-1) (-1) (-1) (-1) (-1) (-1) (-1) (-1) (-1) (-1) (-1) (-1) (-1) (-1) (-1) (-1)))) (c := (Q22 0 2 (-1) (-1) 0 2 (-1) (-1) (-1) (-1) (-1) (-1) (-1) (-1) (-1) (-1) (-1) (-1) (-1) (-1) (-1) (-1))) (n := 22) (by decide) zer33 rfl siz33 rfl rfl rfl (by simp [Value.oneCell']) ?_
 intro bf wf Nf
 have Ff := Nf.ge E
 have Of_bp := Nf.lt Bp
 have Of_br := Nf.lt Br
 have Of_bq := Nf.lt Bq
 replace Bp := Nf.keep Bp
 replace Br := Nf.keep Br
 replace Bq := Nf.keep Bq
 replace hst := ReAt.ext Nf.ext _ hst
 replace E := E.ext Nf.ext
 have Bf := Nf.blk
 refine qA (.bool true) rfl ?_
 refine qA (I6 0) rfl ?_
 refine WpL_nil (Wp_seq_region ?_)
 refine qV (r_loadAgg (vs := [(I6 9), (.slice none 0 0), (.slice (some ⟨bp, 0, none⟩) 1 1), (I6 1), (I6 0), (.bool false)]) rfl agg27 siz27 rfl (Br.cells rfl)) ?_
 refine s_buildSlice (ps := [(0, (I6 97)), (1, (I6 97)), (2, (I6 98))]) (c := #[(I6 97), (I6 97), (I6 98)]) (by decide) rfl Try.underlying22 siz3 zer3 (by decide) (by decide) (by kernel_rfl) ?_
 intro bs ws Ns
 have Fs := Ns.ge E
 have Os_bp := Ns.lt Bp
 have Os_br := Ns.lt Br
 have Os_bq := Ns.lt Bq
 have Os_bf := Ns.lt Bf
 replace Bp := Ns.keep Bp
 replace Br := Ns.keep Br
 replace Bq := Ns.keep Bq
 replace Bf := Ns.keep Bf
 replace hst := ReAt.ext Ns.ext _ hst
 replace E := E.ext Ns.ext
 have Bs := Ns.blk
 refine WpL_enter rfl rfl (by decide) (r_callF (vs := [(.agg #[(I6 9), (.slice none 0 0), (.slice (some ⟨bp, 0, none⟩) 1 1), (I6 1), (I6 0), (.bool false)]), (.slice (some ⟨bs, 0, none⟩) 3 3)]) Try.func10 nm10 bd10 rfl) ((tagged_c _ begT3 [.int .i64 9, .slice none 0 0, .slice (some ⟨bp, 0, none⟩) 1 1, .int .i64 1, .int .i64 0, .bool false] _ [97, 97, 98] (ReAt.of (set := []) (args := [starT (oneT 97)]) (SlAt.nil _ _ _ _) (by simp) (.inr ⟨bp, 0, rfl, by simp only [ResAt]; exact ⟨⟨_, Bp.cells rfl, hst⟩, trivial⟩⟩)) (ints_of_blk [97, 97, 98] Bs (by simp) (by simp))).mono (R' := fun v w => v = .tuple #[.agg (fndV 0 2 begG3).toArray, .bool true, .int .i64 0] ∧ Ext ws w) (fun v w h => ⟨h.1.trans beg3_val, h.2⟩)) ?_
 rintro _ w39 ⟨rfl, X39⟩
 replace Bp := X39.keep Bp
 replace Br := X39.keep Br
 replace Bq := X39.keep Bq
 replace Bf := X39.keep Bf
 replace Bs := X39.keep Bs
 replace hst := ReAt.ext X39 _ hst
 replace E := E.ext X39
 refine qM (.tuple #[(.agg (Q22 0 2 (-1) (-1) 0 2 (-1) (-1) (-1) (-1) (-1) (-1) (-1) (-1) (-1) (-1) (-1) (-1) (-1) (-1) (-1) (-1))), (.bool true), (I6 0)]) rfl ?_
 refine qV (r_extract (vs := #[(.agg (Q22 0 2 (-1) (-1) 0 2 (-1) (-1) (-1) (-1) (-1) (-1) (-1) (-1) (-1) (-1) (-1) (-1) (-1) (-1) (-1) (-1))), (.bool true), (I6 0)]) (v := (.agg (Q22 0 2 (-1) (-1) 0 2 (-1) (-1) (-1) (-1) (-1) (-1) (-1) (-1) (-1) (-1) (-1) (-1) (-1) (-1) (-1) (-1)))) rfl rfl) ?_
 refine qV (r_extract (vs := #[(.agg (Q22 0 2 (-1) (-1) 0 2 (-1) (-1) (-1) (-1) (-1) (-1) (-1) (-1) (-1) (-1) (-1) (-1) (-1) (-1) (-1) (-1))), (.bool true), (I6 0)]) (v := (.bool true)) rfl rfl) ?_
 refine qV (r_extract (vs := #[(.agg (Q22 0 2 (-1) (-1) 0 2 (-1) (-1) (-1) (-1) (-1) (-1) (-1) (-1) (-1) (-1) (-1) (-1) (-1) (-1) (-1) (-1))), (.bool true), (I6 0)]) (v := (I6 0)) rfl rfl) ?_
 refine s_allocStore (v := (.agg (Q22 0 2 (-1) (-1) 0 2 (-1) (-1) (-1) (-1) (-1) (-1) (-1) (-1) (-1) (-1) (-1) (-1) (-1) (-1) (-1) (-1)))) (c := (Q22 0 2 (-1) (-1) 0 2 (-1) (-1) (-1) (-1) (-1) (-1) (-1) (-1) (-1) (-1) (-1) (-1) (-1) (-1) (-1) (-1))) (n := 22) (by decide) zer33 rfl siz33 rfl rfl rfl (by simp [Value.oneCell']) ?_
 intro bg wg Ng
 have Fg := Ng.ge E
 have Og_bp := Ng.lt Bp
 have Og_br := Ng.lt Br
 have Og_bq := Ng.lt Bq
 have Og_bf := Ng.lt Bf
 have Og_bs := Ng.lt Bs
 replace Bp := Ng.keep Bp
 replace Br := Ng.keep Br
 replace Bq := Ng.keep Bq
 replace Bf := Ng.keep Bf
 replace Bs := Ng.keep Bs
 replace hst := ReAt.ext Ng.ext _ hst
 replace E := E.ext Ng.ext
 have Bg := Ng.blk
 refine qA (.bool true) rfl ?_
 refine qA (I6 0) rfl ?_
 refine WpL_nil (Wp_seq_region ?_)
 refine qM (I6 0) rfl ?_
 refine qV (r_eql (k := .i64) (a := 0) (b := 0) rfl rfl) ?_
 refine qM (.bool true) rfl ?_
 refine WpL_guard_yes (oj := _) rfl rfl (by decide) rfl ?_
 refine qM (I6 0) rfl ?_
 refine WpL_guard_yes (oj := _) rfl rfl (by decide) rfl ?_
 refine qV (r_eql (k := .i64) (a := 0) (b := 0) rfl rfl) ?_
 refine qV (r_pick (b := true) (v := (.bool true)) rfl rfl) ?_
 refine qM (.bool true) rfl ?_
 refine WpL_guard_yes (oj := _) rfl rfl (by decide) rfl ?_
 refine qM (.bool true) rfl ?_
 refine qV (r_pick (b := true) (v := (.bool true)) rfl rfl) ?_
 refine qM (.bool true) rfl ?_
 refine WpL_guard_yes (oj := _) rfl rfl (by decide) rfl ?_
 refine qM (.bool true) rfl ?_
 refine qV (r_pick (b := true) (v := (.bool true)) rfl rfl) ?_
 refine qM (.bool true) rfl ?_
 refine WpL_guard_yes (oj := _) rfl rfl (by decide) rfl ?_
 refine qV (r_loadAgg (vs := (K22 0 2 (-1) (-1) 0 2 (-1) (-1) (-1) (-1) (-1) (-1) (-1) (-1) (-1) (-1) (-1) (-1) (-1) (-1) (-1) (-1))) rfl agg33 siz33 rfl (Bf.cells rfl)) ?_
 refine WpL_guard_yes (oj := _) rfl rfl (by decide) rfl ?_
 refine qV (r_loadAgg (vs := (K22 0 2 (-1) (-1) 0 2 (-1) (-1) (-1) (-1) (-1) (-1) (-1) (-1) (-1) (-1) (-1) (-1) (-1) (-1) (-1) (-1))) rfl agg33 siz33 rfl (Bg.cells rfl)) ?_
 refine WpL_guard_yes (oj := _) rfl rfl (by decide) rfl ?_
 refine WpL_val (v := (.bool true)) rfl rfl (by decide) (r_eqFd (L := fndV 0 2 begG3) (o := some (0, 2, begG3)) rfl hLn rfl rfl) ?_
 refine qV (r_pick (b := true) (v := (.bool true)) rfl rfl) ?_
 refine qM (.bool true) rfl ?_
 refine WpL_guard_yes (oj := _) rfl rfl (by decide) rfl ?_
 refine qF bf 0 1 rfl Try.underlying33 rfl siz3 rfl ?_
 refine WpL_guard_yes (oj := _) rfl rfl (by decide) rfl ?_
 refine qV (r_load (v := (I6 2)) rfl flat3 (Bf.cell rfl)) ?_
 refine WpL_guard_yes (oj := _) rfl rfl (by decide) rfl ?_
 refine qV (r_eql (k := .i64) (a := 2) (b := 2) rfl rfl) ?_
 refine qV (r_pick (b := true) (v := (.bool true)) rfl rfl) ?_
 refine qM (.bool true) rfl ?_
 refine WpL_guard_yes (oj := _) rfl rfl (by decide) rfl ?_
 refine qF bf 0 2 rfl Try.underlying33 rfl siz31 rfl ?_
 refine WpL_guard_yes (oj := _) rfl rfl (by decide) rfl ?_
 refine qV (r_indexArr (b := bf) (o := 2) (i := 1) (o' := 4) rfl rfl rfl Try.underlying31 siz30 (by omega) (by omega)) ?_
 refine WpL_guard_yes (oj := _) rfl rfl (by decide) rfl ?_
 refine qV (r_loadAgg (vs := [(I6 0), (I6 2)]) rfl agg30 siz30 rfl (Bf.cells rfl)) ?_
 refine WpL_guard_yes (oj := _) rfl rfl (by decide) rfl ?_
 refine qV (r_build (ps := [(0, (I6 0)), (1, (I6 2))]) (v := (.agg #[(I6 0), (I6 2)])) rfl (by kernel_rfl)) ?_
 refine WpL_guard_yes (oj := _) rfl rfl (by decide) rfl ?_
 refine WpL_val (v := (.bool true)) rfl rfl (by decide) ((r_eqlPair (a := 0) (b := 2) (c := 0) (f := 2) Try.underlying30 Try.underlying3 siz3 flat3 eqgPair rfl rfl).trans rfl) ?_
 refine qV (r_pick (b := true) (v := (.bool true)) rfl rfl) ?_
 refine qM (.bool true) rfl ?_
 refine WpL_guard_yes (oj := _) rfl rfl (by decide) rfl ?_
 refine qF bf 0 2 rfl Try.underlying33 rfl siz31 rfl ?_
 refine WpL_guard_yes (oj := _) rfl rfl (by decide) rfl ?_
 refine qV (r_indexArr (b := bf) (o := 2) (i := 2) (o' := 6) rfl rfl rfl Try.underlying31 siz30 (by omega) (by omega)) ?_
 refine WpL_guard_yes (oj := _) rfl rfl (by decide) rfl ?_
 refine qV (r_loadAgg (vs := [(I6 (-1)), (I6 (-1))]) rfl agg30 siz30 rfl (Bf.cells rfl)) ?_
 refine WpL_guard_yes (oj := _) rfl rfl (by decide) rfl ?_
 refine qV (r_build (ps := [(0, (I6 (-1))), (1, (I6 (-1)))]) (v := (.agg #[(I6 (-1)), (I6 (-1))])) rfl (by kernel_rfl)) ?_
 refine WpL_guard_yes (oj := _) rfl rfl (by decide) rfl ?_
 refine WpL_val (v := (.bool true)) rfl rfl (by decide) ((r_eqlPair (a := -1) (b := -1) (c := -1) (f := -1) Try.underlying30 Try.underlying3 siz3 flat3 eqgPair rfl rfl).trans rfl) ?_
 refine qV (r_pick (b := true) (v := (.bool true)) rfl rfl) ?_
 refine qA (.bool true) rfl ?_
 refine WpL_nil (Wp_ret ?_)
 refine fin_tmp Try.results13 (v := (.bool true)) rfl ?_
 exact ⟨rfl, E⟩
abbrev TFr : Nat := 43
theorem eqFr (w : World) (f t : Int) (G : Grp) (hG : G.length = 10) : (Op.equalIn 10000 TFr (.agg (fndV f t G).toArray) (.agg (fndV f t G).toArray)).run Try.prog w = .ok true w := by
 have hu : (Try.prog).underlying TFr = some (.struct ((Try.prog).fieldsOf TFr)) := by kernel_rfl
 have hst : (Try.prog).stoodInHeld TFr = false := by kernel_rfl
 have hm : ((Try.prog).fieldsOf TFr).toList.map (fun g => (g.type, g.offset)) = [(3, 0), (3, 1), (TGr, 2)] := by kernel_rfl
 have hl := grpV_len G
 have hp : (Try.prog).plainKey 3 = true := by kernel_rfl
 have hq : ∀ x : Int, (Op.equalIn (9998 + 1) 3 (.int .i64 x) (.int .i64 x)).run Try.prog w = .ok true w := fun x => by rw [run_equalIn_int w 9998 3 .i64 .i64 x x Try.underlying3]; simp
 rw [run_equalIn_struct w 9999 TFr _ _ hu hst]
 refine eqFields_refl _ fun g hg => ?_
 have h9 : (g.type, g.offset) ∈ [((3 : Nat), 0), (3, 1), (TGr, 2)] := by rw [← hm]; exact List.mem_map.2 ⟨g, hg, rfl⟩
 simp only [List.mem_cons, List.not_mem_nil, or_false, Prod.mk.injEq] at h9
 rcases h9 with ⟨e1, e2⟩ | ⟨e1, e2⟩ | ⟨e1, e2⟩
 ·rw [e1, e2]; exact ⟨_, run_part_plain w hp (v := .int .i64 f) rfl, hq f⟩
 ·rw [e1, e2]; exact ⟨_, run_part_plain w hp (v := .int .i64 t) rfl, hq t⟩
 ·rw [e1, e2]
  refine ⟨.agg (grpV G).toArray, ?_, eqGr w 9996 G hG⟩
  have hag : (isAgg TGr).run Try.prog w = .ok true w := by kernel_rfl
  have hsz : (sizeOf TGr).run Try.prog w = .ok 20 w := by kernel_rfl
  unfold part
  simp only [Sem.run_bind, hag, hsz, Result.andThen_ok, if_true, Sem.run_pure]
  congr 2
  apply Array.ext'
  rw [Array.toList_extract, List.toList_toArray, List.toList_toArray]
  show (grpV G).take 20 = grpV G
  exact List.take_of_length_le (by omega)
theorem eqFro (w : World) (o : Option (Nat × Nat × Grp)) (h : (fndO o).length = 22) : (Op.equalIn 10000 TFr (.agg (fndO o).toArray) (.agg (fndO o).toArray)).run Try.prog w = .ok true w := by
  cases o with
  | none => exact eqFr w 0 0 _ rfl
  | some q =>
    refine eqFr w _ _ _ ?_
    simp only [fndO, fndV, List.length_append, grpV_len, List.length_cons, List.length_nil] at h
    omega
theorem eqgFr : Try.prog.eqGuardType Try.prog.depth TFr = false := by kernel_rfl
theorem r_neqFr {σ : Env} {w : World} {dst : Option Tmp} {ty t' : TypeId} {pos : String} {af : Array Edge} {g : Option (Nat × Bool)} {x y : Operand} {L : List Value} {o : Option (Nat × Nat × Grp)} (hL : L = fndO o) (hl : L.length = 22) (hx : ev σ x = .agg L.toArray) (hy : ev σ y = .agg L.toArray) :
  (execOp (ev σ) ⟨dst, .binOp .neq TFr x y t', ty, pos, af, g⟩).run Try.prog w = .ok (.value (.bool false)) w := by
 have h := eqFro w o (hL ▸ hl)
 rw [← hL] at h
 simp only [execOp, hx, hy, Sem.run_bind, run_eqGuard_agg w .neq TFr x y _ _ eqgFr, Result.andThen_ok, run_neq_struct, h]
 rfl
end Go.Proofs
namespace Go.Proofs
open Go Go.Eng Go.Sort
set_option maxRecDepth 100000
/-- Of several courses with the same end the first one; ends that were met before count. -/
def frs (S : List Nat) : List Crs → List Crs
  | [] => []
  | x :: l => if x.1 ∈ S then frs S l else x :: frs (x.1 :: S) l
theorem frs_congr : ∀ {l : List Crs} {S T : List Nat}, (∀ e, e ∈ S ↔ e ∈ T) → frs S l = frs T l
  | [], _, _, _ => rfl
  | x :: l, S, T, h => by
    simp only [frs, h x.1]
    split
    · exact frs_congr h
    · rw [frs_congr (S := x.1 :: S) (T := x.1 :: T) fun e => by simp only [List.mem_cons, h e]]
theorem frs_nil : ∀ {l : List Crs} {S : List Nat}, (∀ x ∈ l, x.1 ∈ S) → frs S l = []
  | [], _, _ => rfl
  | x :: l, S, h => by
    simp only [frs, if_pos (h x (by simp))]
    exact frs_nil fun y hy => h y (by simp [hy])
theorem frs_append : ∀ {a b : List Crs} {S : List Nat}, frs S (a ++ b) = frs S a ++ frs (a.map (·.1) ++ S) b
  | [], b, S => by simp [frs]
  | x :: a, b, S => by
    simp only [List.cons_append, frs]
    split
    · rename_i h
      rw [frs_append]
      congr 1
      refine frs_congr fun e => ?_
      simp only [List.map_cons, List.cons_append, List.mem_append, List.mem_cons]
      constructor
      · intro h'; exact .inr h'
      · rintro (rfl | h'); exact .inr h; exact h'
    · rw [frs_append, List.cons_append]
      congr 2
      refine frs_congr fun e => ?_
      simp only [List.map_cons, List.cons_append, List.mem_append, List.mem_cons]
      constructor
      · rintro (h' | h' | h'); exact .inr (.inl h'); exact .inl h'; exact .inr (.inr h')
      · rintro (h' | h' | h'); exact .inr (.inl h'); exact .inl h'; exact .inr (.inr h')
/-- The ends do not depend on the groups. -/
def EndsF (k : Crs → List Crs) : Prop := ∀ u u' : Crs, u.1 = u'.1 → (k u).map (·.1) = (k u').map (·.1)
theorem mem_ends {k : Crs → List Crs} (hk : EndsF k) {u u' : Crs} (h : u.1 = u'.1) {x : Crs} (hx : x ∈ k u) : ∃ y ∈ k u', y.1 = x.1 := by
 have h1 : x.1 ∈ (k u').map (·.1) := by rw [← hk u u' h]; exact List.mem_map.2 ⟨x, hx, rfl⟩
 obtain ⟨y, hy, e⟩ := List.mem_map.1 h1
 exact ⟨y, hy, e⟩
theorem frs_flat {k : Crs → List Crs} (hk : EndsF k) : ∀ {l : List Crs} {S T : List Nat}, (∀ u : Crs, u.1 ∈ T → ∀ x ∈ k u, x.1 ∈ S) → frs S ((frs T l).flatMap k) = frs S (l.flatMap k)
  | [], _, _, _ => rfl
  | u :: l, S, T, h => by
    simp only [frs, List.flatMap_cons]
    split
    · rename_i hu
      rw [frs_append, frs_nil (h u hu), List.nil_append, frs_flat hk h]
      refine frs_congr fun e => ?_
      simp only [List.mem_append, List.mem_map]
      constructor
      · intro h'; exact .inr h'
      · rintro (⟨x, hx, rfl⟩ | h'); exact h u hu x hx; exact h'
    · rw [List.flatMap_cons, frs_append, frs_append]
      congr 1
      refine frs_flat hk fun v hv x hx => ?_
      rw [List.mem_append]
      rcases List.mem_cons.1 hv with hv | hv
      · obtain ⟨y, hy, e⟩ := mem_ends hk hv hx
        exact .inl (List.mem_map.2 ⟨y, hy, e⟩)
      · exact .inr (h v hv x hx)
/-- Functions of courses whose ends do not depend on the groups. -/
def EndsC (f : CFn) : Prop := ∀ p g g', (f p g).map (·.1) = (f p g').map (·.1)
theorem EndsC.k {f : CFn} (h : EndsC f) : EndsF fun u => f u.1 u.2 := fun u u' e => by
 show (f u.1 u.2).map _ = (f u'.1 u'.2).map _
 rw [e]; exact h _ _ _
theorem flat_ends {a b : List Crs} {k k' : Crs → List Crs} (h : a.map (·.1) = b.map (·.1)) (hk : ∀ u u' : Crs, u.1 = u'.1 → (k u).map (·.1) = (k' u').map (·.1)) : (a.flatMap k).map (·.1) = (b.flatMap k').map (·.1) := by
  induction a generalizing b with
  | nil => cases b with
    | nil => rfl
    | cons _ _ => simp at h
  | cons x a ih => cases b with
    | nil => simp at h
    | cons y b =>
      simp only [List.map_cons, List.cons.injEq] at h
      rw [List.flatMap_cons, List.flatMap_cons, List.map_append, List.map_append, hk x y h.1, ih h.2]
theorem frs_frs : ∀ {a : List Crs} {S T : List Nat}, (∀ e, e ∈ T → e ∈ S) → frs S (frs T a) = frs S a
  | [], _, _, _ => rfl
  | x :: a, S, T, h => by
    simp only [frs]
    split
    · rename_i hx
      rw [if_pos (h _ hx)]
      exact frs_frs h
    · simp only [frs]
      split
      · rename_i hx
        exact frs_frs fun e he => by rcases List.mem_cons.1 he with rfl | he; exact hx; exact h e he
      · rw [frs_frs fun e he => by rcases List.mem_cons.1 he with rfl | he; exact List.mem_cons_self; exact List.mem_cons_of_mem _ (h e he)]
theorem frs_ends : ∀ {a : List Crs} {T : List Nat} {e : Nat}, (e ∈ (frs T a).map (·.1) ∨ e ∈ T) ↔ (e ∈ a.map (·.1) ∨ e ∈ T)
  | [], _, _ => by simp [frs]
  | x :: a, T, e => by
    simp only [frs]
    split
    · rename_i hx
      rw [frs_ends, List.map_cons, List.mem_cons]
      constructor
      · rintro (h | h); exact .inl (.inr h); exact .inr h
      · rintro ((rfl | h) | h); exact .inr hx; exact .inl h; exact .inr h
    · have ih := frs_ends (a := a) (T := x.1 :: T) (e := e)
      simp only [List.mem_cons] at ih
      simp only [List.map_cons, List.mem_cons]
      constructor
      · rintro ((h | h) | h)
        · exact .inl (.inl h)
        · rcases ih.1 (.inl h) with h | h | h
          · exact .inl (.inr h)
          · exact .inl (.inl h)
          · exact .inr h
        · exact .inr h
      · rintro ((h | h) | h)
        · exact .inl (.inl h)
        · rcases ih.2 (.inl h) with h | h | h
          · exact .inl (.inr h)
          · exact .inl (.inl h)
          · exact .inr h
        · exact .inr h
theorem frs_inner {k : Crs → List Crs} : ∀ {l : List Crs} {S : List Nat}, frs S (l.flatMap fun q => frs [] (k q)) = frs S (l.flatMap k)
  | [], _ => rfl
  | u :: l, S => by
    rw [List.flatMap_cons, List.flatMap_cons, frs_append, frs_append, frs_frs (fun e h => by cases h)]
    congr 1
    rw [frs_inner]
    refine frs_congr fun e => ?_
    have h := frs_ends (a := k u) (T := []) (e := e)
    simp only [List.not_mem_nil, or_false] at h
    simp only [List.mem_append, h]
theorem ends_seq : ∀ {L : List CFn}, (∀ f ∈ L, EndsC f) → EndsC (seqC L)
  | [], _ => fun p g g' => rfl
  | f :: L, h => fun p g g' => by
    simp only [seqC]
    exact flat_ends (h f (by simp) p g g') fun u u' e => by rw [e]; exact ends_seq (fun x hx => h x (by simp [hx])) _ _ _
theorem ends_alt : ∀ {L : List CFn}, (∀ f ∈ L, EndsC f) → EndsC (altsC L)
  | [], _ => fun p g g' => rfl
  | f :: L, h => fun p g g' => by
    have ih := ends_alt (L := L) (fun x hx => h x (by simp [hx])) p g g'
    unfold altsC at ih ⊢
    rw [List.flatMap_cons, List.flatMap_cons, List.map_append, List.map_append, h f (by simp) p g g', ih]
theorem ends_more {f : CFn} (h : EndsC f) : ∀ n, EndsC (moreC f n)
  | 0 => fun p g g' => rfl
  | n + 1 => fun p g g' => by
    simp only [moreC]
    rw [List.map_append, List.map_append]
    congr 1
    refine flat_ends (h p g g') fun u u' e => ?_
    rw [e]
    split
    · exact ends_more h n _ _ _
    · rfl
theorem ends_times {f : CFn} (h : EndsC f) : ∀ n, EndsC (timesC f n)
  | 0 => fun p g g' => rfl
  | n + 1 => fun p g g' => by
    simp only [timesC]
    exact flat_ends (h p g g') fun u u' e => by rw [e]; exact ends_times h n _ _ _
theorem ends_head {L : List CFn} (h : ∀ f ∈ L, EndsC f) : EndsC (L.headD noC) := by
  cases L with
  | nil => exact fun p g g' => rfl
  | cons f L => exact h f (by simp)
theorem ends_K {text : List Int} {k : Int} {set : List (Int × Int)} {L : List CFn} {mn mx : Int} {ng : Bool} (h : ∀ f ∈ L, EndsC f) : EndsC (crsK text k set L mn mx ng) := by
 have hh := ends_head h
 unfold crsK
 split
 ·exact fun p g g' => rfl
 split
 ·intro p g g'
  dsimp only
  split <;> rfl
 split
 ·exact ends_seq h
 split
 ·exact ends_alt h
 split
 ·exact ends_more hh _
 split
 ·intro p g g'
  dsimp only
  exact flat_ends (ends_times hh _ p g g') fun u u' e => by rw [e]; exact ends_more hh _ _ _ _
 split
 ·intro p g g'
  simp only [grpC, List.map_map]
  exact hh p g g'
 split
 ·intro p g g'
  dsimp only
  split <;> rfl
 ·exact fun p g g' => rfl
mutual
theorem ends_of (text : List Int) : ∀ t : Re, EndsC (crsOf text t)
  | .mk k set args mn mx ng => by
    simp only [crsOf]
    exact ends_K (endss_of text args)
theorem endss_of (text : List Int) : ∀ ts : List Re, ∀ f ∈ crssOf text ts, EndsC f
  | [], f, h => by simp [crssOf] at h
  | t :: ts, f, h => by
    simp only [crssOf, List.mem_cons] at h
    rcases h with rfl | h
    · exact ends_of text t
    · exact endss_of text ts f h
end
end Go.Proofs
namespace Go.Proofs
open Go Go.Eng Go.Sort
set_option maxRecDepth 100000
def refMore (f : CFn) : Nat → CFn
  | 0, p, g => [(p, g)]
  | n + 1, p, g => frs [] ((f p g).flatMap (fun q => if p < q.1 then refMore f n q.1 q.2 else []) ++ [(p, g)])
def refSeq : List CFn → List Crs → List Crs
  | [], l => l
  | f :: fs, l => refSeq fs (frs [] (l.flatMap fun q => f q.1 q.2))
def refTimes (f : CFn) : Nat → List Crs → List Crs
  | 0, l => l
  | n + 1, l => refTimes f n (frs [] (l.flatMap fun q => f q.1 q.2))
def refK (text : List Int) (k : Int) (set : List (Int × Int)) (L : List CFn) (mn mx : Int) (ng : Bool) : CFn :=
 if k = 1 then fun p g => [(p, g)] else if k = 2 then fun p g => if setOk text set p then [(p + 1, g)] else []
 else if k = 3 then fun p g => refSeq L [(p, g)] else if k = 4 then fun p g => frs [] (altsC L p g)
 else if k = 5 then refMore (L.headD noC) (text.length + 1)
 else if k = 6 then fun p g => frs [] ((refTimes (L.headD noC) mn.toNat [(p, g)]).flatMap fun q => refMore (L.headD noC) (mx - mn).toNat q.1 q.2)
 else if k = 9 then grpC (L.headD noC) mn.toNat
 else if k = 10 then fun p g => if (!(L.headD noC p g).isEmpty) = ng then [] else [(p, g)]
 else noC
mutual
def refC (text : List Int) : Re → CFn
  | .mk k set args mn mx ng => refK text k set (refCs text args) mn mx ng
def refCs (text : List Int) : List Re → List CFn
  | [] => []
  | t :: ts => refC text t :: refCs text ts
end
/-- One function gives the first courses of the other. -/
def FirC (f' f : CFn) : Prop := EndsC f ∧ ∀ p g, f' p g = frs [] (f p g)
inductive Fir2 : List CFn → List CFn → Prop
  | nil : Fir2 [] []
  | cons {f' f : CFn} {L' L : List CFn} : FirC f' f → Fir2 L' L → Fir2 (f' :: L') (f :: L)
theorem frs_app {a a' b : List Crs} {S : List Nat} (h : frs S a = frs S a') : frs S (a ++ b) = frs S (a' ++ b) := by
 rw [frs_append, frs_append, h]
 congr 1
 refine frs_congr fun e => ?_
 rw [List.mem_append, List.mem_append, ← frs_ends (a := a), ← frs_ends (a := a'), h]
theorem frs_map {h : Crs → Crs} (hh : ∀ x, (h x).1 = x.1) : ∀ {l : List Crs} {S : List Nat}, frs S (l.map h) = (frs S l).map h
  | [], _ => rfl
  | x :: l, S => by
    simp only [List.map_cons, frs, hh]
    split
    · exact frs_map hh
    · rw [List.map_cons, frs_map hh]
theorem frs_empty : ∀ {l : List Crs}, (frs [] l).isEmpty = l.isEmpty
  | [] => rfl
  | x :: l => by simp [frs]
theorem one_frs (p : Nat) (g : Grp) : [(p, g)] = frs [] [(p, g)] := rfl
theorem then_frs {f' f : CFn} (h : FirC f' f) (l : List Crs) : frs [] ((frs [] l).flatMap fun q => f' q.1 q.2) = frs [] (l.flatMap fun q => f q.1 q.2) := by
 have e : (fun q : Crs => f' q.1 q.2) = fun q => frs [] (f q.1 q.2) := funext fun q => h.2 _ _
 rw [e, frs_inner (k := fun q : Crs => f q.1 q.2)]
 exact frs_flat h.1.k fun u hu => by cases hu
theorem fir_seq : ∀ {L' L : List CFn}, Fir2 L' L → ∀ l, refSeq L' (frs [] l) = frs [] (l.flatMap fun q => seqC L q.1 q.2)
  | _, _, .nil, l => by
    simp only [refSeq, seqC]
    congr 1
    induction l with
    | nil => rfl
    | cons x l ih => rw [List.flatMap_cons, ← ih]; rfl
  | _, _, .cons h hl, l => by
    simp only [refSeq]
    rw [then_frs h, fir_seq hl, List.flatMap_assoc]
    rfl
theorem fir_times {f' f : CFn} (h : FirC f' f) : ∀ n l, refTimes f' n (frs [] l) = frs [] (l.flatMap fun q => timesC f n q.1 q.2)
  | 0, l => by
    simp only [refTimes, timesC]
    congr 1
    induction l with
    | nil => rfl
    | cons x l ih => rw [List.flatMap_cons, ← ih]; rfl
  | n + 1, l => by
    simp only [refTimes]
    rw [then_frs h, fir_times h, List.flatMap_assoc]
    rfl
theorem fir_alt : ∀ {L' L : List CFn}, Fir2 L' L → ∀ (p : Nat) (g : Grp) (S : List Nat), frs S (altsC L' p g) = frs S (altsC L p g)
  | _, _, .nil, _, _, _ => rfl
  | _, _, .cons (f' := f') (f := f) (L' := L') (L := L) h hl, p, g, S => by
    unfold altsC
    rw [List.flatMap_cons, List.flatMap_cons, frs_append, frs_append, h.2, frs_frs (fun e h => by cases h)]
    congr 1
    have ih := fir_alt hl p g ((f p g).map (·.1) ++ S)
    unfold altsC at ih
    rw [← ih]
    refine frs_congr fun e => ?_
    have h := frs_ends (a := f p g) (T := []) (e := e)
    simp only [List.not_mem_nil, or_false] at h
    simp only [List.mem_append, h]
theorem fir_more {f' f : CFn} (h : FirC f' f) : ∀ n p g, refMore f' n p g = frs [] (moreC f n p g)
  | 0, p, g => rfl
  | n + 1, p, g => by
    simp only [refMore, moreC]
    refine frs_app ?_
    have e : (fun q : Crs => if p < q.1 then refMore f' n q.1 q.2 else []) = fun q => frs [] (if p < q.1 then moreC f n q.1 q.2 else []) := funext fun q => by
      split
      · exact fir_more h n _ _
      · rfl
    rw [e, h.2, frs_inner (k := fun q : Crs => if p < q.1 then moreC f n q.1 q.2 else [])]
    refine frs_flat (fun u u' e => ?_) fun u hu => by cases hu
    rw [e]
    split
    · exact ends_more h.1 n _ _ _
    · rfl
theorem fir_head {L' L : List CFn} (h : Fir2 L' L) : FirC (L'.headD noC) (L.headD noC) := by
  cases h with
  | nil => exact ⟨fun _ _ _ => rfl, fun _ _ => rfl⟩
  | cons h _ => exact h
theorem fir_K {text : List Int} {k : Int} {set : List (Int × Int)} {L' L : List CFn} {mn mx : Int} {ng : Bool} (h : Fir2 L' L) (p : Nat) (g : Grp) : refK text k set L' mn mx ng p g = frs [] (crsK text k set L mn mx ng p g) := by
 have hh := fir_head h
 unfold refK crsK
 split
 ·rfl
 split
 ·dsimp only
  split <;> rfl
 split
 ·have e := fir_seq h [(p, g)]
  rw [← one_frs, List.flatMap_cons, List.flatMap_nil, List.append_nil] at e
  exact e
 split
 ·exact fir_alt h p g []
 split
 ·exact fir_more hh _ p g
 split
 ·dsimp only
  have e := fir_times hh mn.toNat [(p, g)]
  rw [← one_frs, List.flatMap_cons, List.flatMap_nil, List.append_nil] at e
  rw [e]
  exact then_frs ⟨ends_more hh.1 _, fir_more hh _⟩ _
 split
 ·unfold grpC
  rw [hh.2]
  exact (frs_map (h := fun q : Crs => (q.1, q.2.set mn.toNat ((p : Int), (q.1 : Int)))) fun x => rfl).symm
 split
 ·dsimp only
  have e : (L'.headD noC p g).isEmpty = (L.headD noC p G0).isEmpty := by
   rw [hh.2, frs_empty]
   have h1 := hh.1 p g G0
   cases h2 : L.headD noC p g <;> cases h3 : L.headD noC p G0 <;> rw [h2, h3] at h1 <;> simp at h1 ⊢
  rw [e]
  split <;> rfl
 ·rfl
mutual
theorem refC_eq (text : List Int) : ∀ t : Re, FirC (refC text t) (crsOf text t)
  | .mk k set args mn mx ng => ⟨ends_of text _, fun p g => by
    simp only [refC, crsOf]
    exact fir_K (refCs_eq text args) p g⟩
theorem refCs_eq (text : List Int) : ∀ ts : List Re, Fir2 (refCs text ts) (crssOf text ts)
  | [] => .nil
  | t :: ts => by
    simp only [refCs, crssOf]
    exact .cons (refC_eq text t) (refCs_eq text ts)
end
/-- The first course is the same. -/
theorem refC_head (text : List Int) (t : Re) (p : Nat) (g : Grp) : (refC text t p g).head? = (crsOf text t p g).head? := by
  rw [(refC_eq text t).2]
  cases h : crsOf text t p g with
  | nil => rfl
  | cons x l => simp [frs]
end Go.Proofs
