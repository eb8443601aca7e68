/- Contracts and plain lemmas, part 7. -/
import Derived.Tactics
import Derived.Deep.Quiet
import Derived.Laws.AppendOwn
import Derived.KernelRfl
import Derived.Laws.Entries
import Derived.Laws.Build
import Derived.Below
import Derived.RowKit3
import Derived.StillTail
import Derived.Sort.Grow
import Derived.Deep.Draws
import Derived.Test.YtmgnaaonmhaflaaGreatChecked
import Derived.Laws.StructEq
import Derived.MapKept
import Derived.Laws.BytesArg
import Derived.DeepKeys3
import Derived.Shelf.SlSortCmp.WholeK
import Derived.Shelf.Sort.Plain
import Derived.Shelf.Slices.CompactI
import Derived.Test.YtmgnaaonmhaflaaGreatProg
import Derived.Defers
import Derived.Recover
import Derived.OpenShut
import Derived.ChangeSlices
import Derived.Test.YtmgnaaonmhaflaaGreatRows
import Derived.SizedLaws
import Derived.Test.YtmgnaaonmhaflaaGreatZt6
namespace Go.Proofs
open Go Go.Eng
set_option maxRecDepth 100000
set_option linter.unusedVariables false
/-- Whether the empty text matches. -/
def emptyK (k mn : Int) (ng al so : Bool) : Bool := if k = 1 ∨ k = 5 then true else if k = 3 ∨ k = 7 ∨ k = 9 then al else if k = 4 then so else if k = 6 then decide (mn = 0) || al else if k = 8 then !al else if k = 10 then al != ng else false
mutual
def emptyB : Re → Bool
  | .mk k _ args mn _ ng => emptyK k mn ng (emptyAll args) (emptySome args)
def emptyAll : List Re → Bool
  | [] => true
  | t :: ts => emptyB t && emptyAll ts
def emptySome : List Re → Bool
  | [] => false
  | t :: ts => emptyB t || emptySome ts
end
theorem emptyAll_all (ts : List Re) : emptyAll ts = ts.all emptyB := by
  induction ts with
  | nil => rfl
  | cons t ts ih => simp [emptyAll, ih]
theorem emptySome_any (ts : List Re) : emptySome ts = ts.any emptyB := by
  induction ts with
  | nil => rfl
  | cons t ts ih => simp [emptySome, ih]
theorem emptyB_eq (t : Re) : emptyB t = emptyK t.kind t.mn t.neg (t.args.all emptyB) (t.args.any emptyB) := by
 cases t; simp only [emptyB, emptyAll_all, emptySome_any]; rfl
set_option maxHeartbeats 2000000 in
theorem empty_c : ∀ (n : Nat) (t : Re) (w0 : World) (vs : List Value), t.size ≤ n → ReAt w0 t vs → Ret Tryz.prog 51 #[.agg vs.toArray] w0 fun v w => v = .bool (emptyB t) ∧ Ext w0 w := by
  intro n
  induction n with
  | zero => intro t w0 vs hn; have := t.size_pos; omega
  | succ n ih =>
  intro t w0 vs hn ht
  have ht0 := ht
  obtain ⟨sa, sc, aa, ac, rfl, _, hac, _⟩ := ht.form
  have hE := emptyB_eq t
  refine Ret_of Tryz.func51 rfl Tryz.ntmps51 (Nat.le_of_ble_eq_true rfl) ?_
  have E : Chg none1 w0 w0 := Chg.refl _ _
  refine Wp_seq_region ?_
  refine s_box (v := (.agg (R6 t sa sc aa ac))) (c := (R6 t sa sc aa ac)) (by decide) rfl rfl ?_
  intro br wr Nr
  have Fr := Nr.ge E
  replace E := E.ext Nr.ext
  have Br := Nr.blk
  refine qA _ rfl ?_
  refine WpL_nil (Wp_seq_region ?_)
  refine qA _ rfl ?_
  refine qA _ rfl ?_
  refine WpL_nil (Wp_seq (Wp_seq_region ?_))
  refine qF br 0 2 rfl Tryz.underlying25 rfl siz23 rfl ?_
  refine qV (r_load rfl flat23 (Br.cell rfl)) ?_
  refine qV (r_lenSlice Tryz.underlying23 rfl) ?_
  refine qM _ rfl ?_
  refine WpL_nil (Wp_block ?_)
  refine Wp_loop (fun nn_ σ W1 => ∃ (k : Nat) (al : Bool) (so : Bool), (∃ jj_, σ = upds jj_ [(1, (P6 br 0)), (9, (.slice aa t.args.length ac)), (10, (I6 (t.args.length : Int))), (11, (I6 (k : Int))), (3, (.bool al)), (4, (.bool so))]) ∧ Chg none1 w0 W1 ∧ Blk W1 br (R6 t sa sc aa ac) 25 ∧ (k ≤ t.args.length) ∧ (al = (t.args.take k).all emptyB) ∧ (so = (t.args.take k).any emptyB) ∧ nn_ = t.args.length - k) (n := t.args.length - 0) ?_ ?_
  · exact ⟨0, true, false, Fits.out ⟨rfl, rfl, rfl, rfl, rfl, rfl, trivial⟩, E, Br, Nat.zero_le _, rfl, rfl, rfl⟩
  · clear E Br
    rintro _ _ W1 ⟨k, al, so, ⟨j1, rfl⟩, E, Br, hk, hal, hso, rfl⟩
    refine Wp_seq_region ?_
    refine qV (r_lss rfl rfl) ?_
    refine WpL_nil (Wp_seq ?_)
    refine Wp_cond rfl (fun hlt => ?_) (fun hlt => ?_)
    · have khlt := hlt
      replace hlt := of_decide_eq_true hlt
      obtain ⟨x, hx⟩ := get_of_lt (l := t.args) (i := k) (by omega)
      obtain ⟨b, o, rfl, hcl⟩ := (ReAt.rs ht0).cells (by omega)
      obtain ⟨xs, hcx, hrx⟩ := hcl k x hx
      have hrx0 := hrx
      obtain ⟨xsa, xsc, xaa, xac, rfl, _, _, _⟩ := hrx.form
      have ha2 : (t.args.take (k + 1)).all emptyB = (al && emptyB x) := by rw [List.take_add_one, hx, List.all_append, ← hal]; simp
      have hs2 : (t.args.take (k + 1)).any emptyB = (so || emptyB x) := by rw [List.take_add_one, hx, List.any_append, ← hso]; simp
      refine Wp_skip (thn_normal (Wp_seq (Wp_block (Wp_seq_region ?_))))
      refine qV (r_indexSlice (b := b) (o := o) (len := t.args.length) (cap := ac) (i := k) (o' := o + k * 6) rfl rfl rfl Tryz.underlying23 siz25 (by omega) (by omega)) ?_
      refine qV (r_loadAgg rfl agg25 siz25 rfl (hcx.ext E)) ?_
      refine s_allocStore (v := (.agg (R6 x xsa xsc xaa xac))) (c := (R6 x xsa xsc xaa xac)) (n := 6) (by decide) zer25 rfl siz25 rfl rfl rfl (by simp [Value.oneCell']) ?_
      intro bs ws Ns
      have Fs := Ns.ge E
      have Os_br := Ns.lt Br
      replace Br := Ns.keep Br
      replace E := E.ext Ns.ext
      have Bs := Ns.blk
      refine WpL_nil (Wp_seq_region ?_)
      refine qV (r_loadAgg (vs := [(I6 x.kind), (.slice xsa x.set.length xsc), (.slice xaa x.args.length xac), (I6 x.mn), (I6 x.mx), (.bool x.neg)]) rfl agg25 siz25 rfl (Bs.cells rfl)) ?_
      refine WpL_enter rfl rfl (by decide) (r_callF Tryz.func51 nm51 bd51 rfl) (ih x _ _ (by have := Re.size_arg hx; omega) (ReAt.ext E x hrx0)) ?_
      rintro _ w9 ⟨rfl, X9⟩
      replace Br := X9.keep Br
      replace Bs := X9.keep Bs
      replace E := E.ext X9
      refine qA _ rfl ?_
      refine WpL_nil (Wp_region ?_)
      refine qM _ rfl ?_
      refine qM _ rfl ?_
      obtain ⟨e3, he3⟩ : ∃ e, (emptyB x) = e := ⟨_, rfl⟩
      refine qG (.bool al) (yU al (.bool e3)) (by cases al <;> first | exact gA | exact gB | exact .inl ⟨rfl, r_move (congrArg Value.bool he3)⟩) ?_
      obtain ⟨e4, he4⟩ : ∃ e, (al && e3) = e := ⟨_, rfl⟩
      refine qV (r_pick (v := .bool e4) rfl (by rw [← he4]; cases al <;> rfl)) ?_
      refine qM _ rfl ?_
      refine qM _ rfl ?_
      obtain ⟨e5, he5⟩ : ∃ e, (emptyB x) = e := ⟨_, rfl⟩
      refine qG (.bool so) (nU so (.bool e5)) (by cases so <;> first | exact gA | exact gB | exact .inl ⟨rfl, r_move (congrArg Value.bool he5)⟩) ?_
      obtain ⟨e6, he6⟩ : ∃ e, (so || e5) = e := ⟨_, rfl⟩
      refine qV (r_pick (v := .bool e6) rfl (by rw [← he6]; cases so <;> rfl)) ?_
      refine qA _ rfl ?_
      refine qA _ rfl ?_
      refine WpL_nil ?_
      subst he6
      subst he5
      subst he4
      subst he3
      refine inB_normal (thn_normal (Wp_region ?_))
      refine qV (r_add rfl rfl (wI64 (by omega))) ?_
      refine qM _ rfl ?_
      refine WpL_nil (thn_normal ?_)
      exact ⟨t.args.length - (k + 1), by omega, k + 1, (al && emptyB x), (so || emptyB x), Fits.out ⟨rfl, rfl, rfl, rfl, rfl, rfl, trivial⟩, E, Br, (by omega), ha2.symm, hs2.symm, rfl⟩
    · have khlt := hlt
      replace hlt := of_decide_eq_false hlt
      have hkk : k = t.args.length := by omega
      rw [hkk, List.take_length] at hal hso
      rw [← hal, ← hso] at hE
      refine Wp_exit (thn_exit (thn_exit (inB_here (thn_normal (Wp_seq (Wp_seq_region ?_))))))
      refine qF br 0 0 rfl Tryz.underlying25 rfl siz3 rfl ?_
      refine qV (r_load rfl flat3 (Br.cell rfl)) ?_
      refine WpL_nil (Wp_block (Wp_seq (Wp_seq_region ?_)))
      refine qV (r_eql rfl rfl) ?_
      refine qA _ rfl ?_
      refine WpL_nil ?_
      refine Wp_cond rfl (fun h1 => ?_) (fun h1 => ?_)
      · have kh1 := h1
        replace h1 := of_decide_eq_true h1
        refine Wp_skip (thn_normal ?_)
        refine Wp_cond_true (congrArg Value.bool kh1) ?_
        refine Wp_seq_region ?_
        refine qA _ rfl ?_
        refine WpL_nil (Wp_ret (inB_ret (thn_ret ?_)))
        refine fin_tmp Tryz.results51 (v := (.bool true)) rfl ?_
        exact ⟨bool_eq (by rw [hE]; simp [emptyK, h1]), E⟩
      · have kh1 := h1
        replace h1 := of_decide_eq_false h1
        refine Wp_region ?_
        refine qV (r_eql rfl rfl) ?_
        refine qA _ rfl ?_
        refine WpL_nil (thn_normal ?_)
        refine Wp_cond rfl (fun h5 => ?_) (fun h5 => ?_)
        · have kh5 := h5
          replace h5 := of_decide_eq_true h5
          refine Wp_seq_region ?_
          refine qA _ rfl ?_
          refine WpL_nil (Wp_ret (inB_ret (thn_ret ?_)))
          refine fin_tmp Tryz.results51 (v := (.bool true)) rfl ?_
          exact ⟨bool_eq (by rw [hE]; simp [emptyK, h5]), E⟩
        · have kh5 := h5
          replace h5 := of_decide_eq_false h5
          refine Wp_seq (Wp_seq_region ?_)
          refine qV (r_eql rfl rfl) ?_
          refine qA _ rfl ?_
          refine WpL_nil ?_
          refine Wp_cond rfl (fun h3 => ?_) (fun h3 => ?_)
          · have kh3 := h3
            replace h3 := of_decide_eq_true h3
            refine Wp_skip (thn_normal ?_)
            refine Wp_cond_true (congrArg Value.bool kh3) ?_
            refine Wp_seq_region ?_
            refine qM _ rfl ?_
            refine qA _ rfl ?_
            refine WpL_nil (Wp_ret (inB_ret (thn_ret ?_)))
            refine fin_tmp Tryz.results51 (v := (.bool al)) rfl ?_
            exact ⟨bool_eq (by rw [hE]; simp [emptyK, h3]), E⟩
          · have kh3 := h3
            replace h3 := of_decide_eq_false h3
            refine Wp_seq_region ?_
            refine qV (r_eql rfl rfl) ?_
            refine qA _ rfl ?_
            refine WpL_nil ?_
            refine Wp_cond rfl (fun h7 => ?_) (fun h7 => ?_)
            · have kh7 := h7
              replace h7 := of_decide_eq_true h7
              refine Wp_skip (thn_normal ?_)
              refine Wp_cond_true (congrArg Value.bool kh7) ?_
              refine Wp_seq_region ?_
              refine qM _ rfl ?_
              refine qA _ rfl ?_
              refine WpL_nil (Wp_ret (inB_ret (thn_ret ?_)))
              refine fin_tmp Tryz.results51 (v := (.bool al)) rfl ?_
              exact ⟨bool_eq (by rw [hE]; simp [emptyK, h7]), E⟩
            · have kh7 := h7
              replace h7 := of_decide_eq_false h7
              refine Wp_region ?_
              refine qV (r_eql rfl rfl) ?_
              refine qA _ rfl ?_
              refine WpL_nil (thn_normal ?_)
              refine Wp_cond rfl (fun h9 => ?_) (fun h9 => ?_)
              · have kh9 := h9
                replace h9 := of_decide_eq_true h9
                refine Wp_seq_region ?_
                refine qM _ rfl ?_
                refine qA _ rfl ?_
                refine WpL_nil (Wp_ret (inB_ret (thn_ret ?_)))
                refine fin_tmp Tryz.results51 (v := (.bool al)) rfl ?_
                exact ⟨bool_eq (by rw [hE]; simp [emptyK, h9]), E⟩
              · have kh9 := h9
                replace h9 := of_decide_eq_false h9
                refine Wp_seq_region ?_
                refine qV (r_eql rfl rfl) ?_
                refine qA _ rfl ?_
                refine WpL_nil ?_
                refine Wp_cond rfl (fun h4 => ?_) (fun h4 => ?_)
                · have kh4 := h4
                  replace h4 := of_decide_eq_true h4
                  refine Wp_seq_region ?_
                  refine qM _ rfl ?_
                  refine qA _ rfl ?_
                  refine WpL_nil (Wp_ret (inB_ret (thn_ret ?_)))
                  refine fin_tmp Tryz.results51 (v := (.bool so)) rfl ?_
                  exact ⟨bool_eq (by rw [hE]; simp [emptyK, h4]), E⟩
                · have kh4 := h4
                  replace h4 := of_decide_eq_false h4
                  refine Wp_seq_region ?_
                  refine qV (r_eql rfl rfl) ?_
                  refine qA _ rfl ?_
                  refine WpL_nil ?_
                  refine Wp_cond rfl (fun h6 => ?_) (fun h6 => ?_)
                  · have kh6 := h6
                    replace h6 := of_decide_eq_true h6
                    refine Wp_seq_region ?_
                    refine qF br 0 3 rfl Tryz.underlying25 rfl siz3 rfl ?_
                    refine qV (r_load rfl flat3 (Br.cell rfl)) ?_
                    obtain ⟨e14, he14⟩ : ∃ e, (decide ((t.mn : Int) = 0)) = e := ⟨_, rfl⟩
                    refine qV ((r_eql rfl rfl).trans (by rw [he14]; try rfl)) ?_
                    refine qM _ rfl ?_
                    refine qG (.bool e14) (nU e14 (.bool al)) (by cases e14 <;> first | exact gA | exact gB | exact .inl ⟨rfl, r_move rfl⟩) ?_
                    obtain ⟨e15, he15⟩ : ∃ e, (e14 || al) = e := ⟨_, rfl⟩
                    refine qV (r_pick (v := .bool e15) rfl (by rw [← he15]; cases e14 <;> rfl)) ?_
                    refine qA _ rfl ?_
                    refine WpL_nil ?_
                    subst he15
                    subst he14
                    refine Wp_ret (inB_ret (thn_ret ?_))
                    refine fin_tmp Tryz.results51 (v := (.bool ((decide ((t.mn : Int) = 0)) || al))) rfl ?_
                    exact ⟨bool_eq (by rw [hE]; simp [emptyK, h6]), E⟩
                  · have kh6 := h6
                    replace h6 := of_decide_eq_false h6
                    refine Wp_seq_region ?_
                    refine qV (r_eql rfl rfl) ?_
                    refine qA _ rfl ?_
                    refine WpL_nil ?_
                    refine Wp_cond rfl (fun h8 => ?_) (fun h8 => ?_)
                    · have kh8 := h8
                      replace h8 := of_decide_eq_true h8
                      refine Wp_seq_region ?_
                      refine qM _ rfl ?_
                      refine qV (r_not rfl) ?_
                      refine qA _ rfl ?_
                      refine WpL_nil (Wp_ret (inB_ret (thn_ret ?_)))
                      refine fin_tmp Tryz.results51 (v := (.bool (!al))) rfl ?_
                      exact ⟨bool_eq (by rw [hE]; simp [emptyK, h8]), E⟩
                    · have kh8 := h8
                      replace h8 := of_decide_eq_false h8
                      refine Wp_seq_region ?_
                      refine qV (r_eql rfl rfl) ?_
                      refine qA _ rfl ?_
                      refine WpL_nil ?_
                      refine Wp_cond rfl (fun h10 => ?_) (fun h10 => ?_)
                      · have kh10 := h10
                        replace h10 := of_decide_eq_true h10
                        refine Wp_seq_region ?_
                        refine qM _ rfl ?_
                        refine qF br 0 5 rfl Tryz.underlying25 rfl siz4 rfl ?_
                        refine qV (r_load rfl flat4 (Br.cell rfl)) ?_
                        refine qV (r_neqB Tryz.underlying4 rfl rfl) ?_
                        refine qA _ rfl ?_
                        refine WpL_nil (Wp_ret (inB_ret (thn_ret ?_)))
                        refine fin_tmp Tryz.results51 (v := (.bool (al != t.neg))) rfl ?_
                        exact ⟨bool_eq (by rw [hE]; simp [emptyK, h10]), E⟩
                      · have kh10 := h10
                        replace h10 := of_decide_eq_false h10
                        refine Wp_skip (inB_normal (thn_normal (Wp_seq_region ?_)))
                        refine qA _ rfl ?_
                        refine WpL_nil (Wp_ret ?_)
                        refine fin_tmp Tryz.results51 (v := (.bool false)) rfl ?_
                        exact ⟨bool_eq (by rw [hE]; simp [emptyK, h1, h5, h3, h7, h9, h4, h6, h8, h10]), E⟩
theorem null_c (w0 : World) (t : Re) (vs : List Value) (ht : ReAt w0 t vs) : Ret Tryz.prog 17 #[.agg vs.toArray] w0 fun v w => v = .tuple #[.bool (decide (fitsE t 40 = 0) && emptyB t), .int .i64 (fitsE t 40)] ∧ Ext w0 w := by
 have ht0 := ht
 obtain ⟨sa, sc, aa, ac, rfl, _, hac, _⟩ := ht.form
 refine Ret_of Tryz.func17 rfl Tryz.ntmps17 (Nat.le_of_ble_eq_true rfl) ?_
 have E : Chg none1 w0 w0 := Chg.refl _ _
 refine Wp_seq_region ?_
 refine s_box (v := (.agg (R6 t sa sc aa ac))) (c := (R6 t sa sc aa ac)) (by decide) rfl rfl ?_
 intro br wr Nr
 have Fr := Nr.ge E
 replace E := E.ext Nr.ext
 have Br := Nr.blk
 refine qA _ rfl ?_
 refine qA _ rfl ?_
 refine WpL_nil (Wp_seq (Wp_seq_region ?_))
 refine qV (r_loadAgg (vs := [(I6 t.kind), (.slice sa t.set.length sc), (.slice aa t.args.length ac), (I6 t.mn), (I6 t.mx), (.bool t.neg)]) rfl agg25 siz25 rfl (Br.cells rfl)) ?_
 refine WpL_enter rfl rfl (by decide) (r_callF Tryz.func8 nm8 bd8 rfl) (check_c _ t _ (ReAt.ext E t ht0)) ?_
 rintro _ w9 ⟨rfl, X9⟩
 replace Br := X9.keep Br
 replace E := E.ext X9
 refine qA _ rfl ?_
 refine WpL_nil (Wp_seq_region ?_)
 refine qM _ rfl ?_
 refine qV (r_neq rfl rfl) ?_
 refine WpL_nil ?_
 refine Wp_cond rfl (fun hf => ?_) (fun hf => ?_)
 ·have khf := hf
  replace hf := of_decide_eq_true hf
  refine Wp_seq_region ?_
  refine qM _ rfl ?_
  refine qA _ rfl ?_
  refine qA _ rfl ?_
  refine WpL_nil (Wp_ret (thn_ret ?_))
  refine fin_tmp2 Tryz.results17 (v := (.bool false)) (v' := (.int .i64 (fitsE t 40))) rfl rfl ?_
  exact ⟨by rw [decide_eq_false hf]; rfl, E⟩
 ·have khf := hf
  replace hf := of_decide_eq_false hf
  have hf0 : fitsE t 40 = 0 := by omega
  refine Wp_skip (thn_normal (Wp_seq_region ?_))
  refine qV (r_loadAgg (vs := [(I6 t.kind), (.slice sa t.set.length sc), (.slice aa t.args.length ac), (I6 t.mn), (I6 t.mx), (.bool t.neg)]) rfl agg25 siz25 rfl (Br.cells rfl)) ?_
  refine WpL_enter rfl rfl (by decide) (r_callF Tryz.func51 nm51 bd51 rfl) (empty_c t.size t _ _ (Nat.le_refl _) (ReAt.ext E t ht0)) ?_
  rintro _ w19 ⟨rfl, X19⟩
  replace Br := X19.keep Br
  replace E := E.ext X19
  refine qA _ rfl ?_
  refine qA _ rfl ?_
  refine WpL_nil (Wp_ret ?_)
  refine fin_tmp2 Tryz.results17 (v := (.bool (emptyB t))) (v' := (.int .i64 0)) rfl rfl ?_
  exact ⟨by rw [hf0]; rfl, E⟩
theorem sp_c (w0 : World) (a b : Int) : Ret Tryz.prog 38 #[.int .i64 a, .int .i64 b] w0 fun v w => v = .agg #[.int .i64 a, .int .i64 b] ∧ Ext w0 w := by
 refine Ret_of Tryz.func38 rfl Tryz.ntmps38 (Nat.le_of_ble_eq_true rfl) ?_
 have E : Chg none1 w0 w0 := Chg.refl _ _
 refine Wp_seq_region ?_
 refine s_alloc (c := #[(I6 0), (I6 0)]) (by decide) zer67 rfl ?_
 intro b1 w1 N1
 have F1 := N1.ge E
 replace E := E.ext N1.ext
 have B1 := N1.blk
 refine WpL_nil (Wp_seq_region ?_)
 refine qM _ rfl ?_
 refine qM _ rfl ?_
 refine qV (r_build (ps := [(0, (I6 a)), (1, (I6 b))]) (v := (.agg #[(I6 a), (I6 b)])) rfl (by kernel_rfl)) ?_
 refine s_storeAgg (b := b1) (o := 0) (c' := #[(I6 a), (I6 b)]) rfl rfl (by simp [Value.oneCell']) siz67 rfl B1 (by first | (simp; done) | exact Nat.le_of_ble_eq_true rfl) rfl ?_
 intro w2 S2
 replace E := S2.step E (by first | exact Or.inl (by omega) | exact Or.inr rfl | exact Or.inr (by assumption) | exact Or.inr (by simp) | exact Or.inr (by omega) | exact Or.inr (by dsimp only; omega))
 replace B1 := S2.blk
 refine WpL_nil (Wp_ret ?_)
 refine fin_agg Tryz.results38 (vs := [(.int .i64 a), (.int .i64 b)]) (b := b1) rfl agg67 siz67 rfl (B1.cells rfl) ?_
 exact ⟨rfl, E⟩
def begT : Re := .mk 3 [] [oneT 97, emptyT, .mk 5 [] [oneT 97] 0 0 false] 0 0 false
def begN : Re := .mk 3 [] [oneT 97, .mk 5 [] [oneT 97] 0 0 false] 0 0 false
theorem beg_norm : normT begT = begN := by rfl
theorem beg_fits : fitsE begT 40 = 0 := by decide +kernel
theorem beg_null : fitsE emptyT 40 = 0 ∧ emptyB emptyT = true := ⟨by decide +kernel, by rfl⟩
theorem beg_size : begT.size = 5 := by rfl
theorem beg_uses : usesB [5] begT = true := by rfl
set_option maxHeartbeats 4000000 in
theorem lbegun_c (w0 : World) : Ret Tryz.prog 5 #[] w0 fun v w => v = .bool true ∧ Ext w0 w := by
 refine Ret_of Tryz.func5 rfl Tryz.ntmps5 (Nat.le_of_ble_eq_true rfl) ?_
 have E : Chg none1 w0 w0 := Chg.refl _ _
 refine Wp_seq_region ?_
 refine qA _ rfl ?_
 refine WpL_nil (Wp_seq_region ?_)
 refine WpL_enter rfl rfl (by decide) (r_callF Tryz.func38 nm38 bd38 rfl) (sp_c _ 97 97) ?_
 rintro _ w9 ⟨rfl, X9⟩
 replace E := E.ext X9
 refine s_buildSlice (ps := [(0, (.agg #[(I6 97), (I6 97)]))]) (c := #[(I6 97), (I6 97)]) (by decide) rfl Tryz.underlying22 siz67 zer67 (by decide) (by decide) (by kernel_rfl) ?_
 intro bs ws Ns
 have Fs := Ns.ge E
 replace E := E.ext Ns.ext
 have Bs := Ns.blk
 refine qV (r_build (ps := [(0, (I6 2)), (1, (.slice (some ⟨bs, 0, none⟩) 1 1))]) (v := (.agg #[(I6 2), (.slice (some ⟨bs, 0, none⟩) 1 1), (.slice none 0 0), (I6 0), (I6 0), (.bool false)])) rfl (by kernel_rfl)) ?_
 refine s_allocStore (v := (.agg #[(I6 2), (.slice (some ⟨bs, 0, none⟩) 1 1), (.slice none 0 0), (I6 0), (I6 0), (.bool false)])) (c := #[(I6 2), (.slice (some ⟨bs, 0, none⟩) 1 1), (.slice none 0 0), (I6 0), (I6 0), (.bool false)]) (n := 6) (by decide) zer25 rfl siz25 rfl rfl rfl (by simp [Value.oneCell']) ?_
 intro ba wa Na
 have Fa := Na.ge E
 have Oa_bs := Na.lt Bs
 replace Bs := Na.keep Bs
 replace E := E.ext Na.ext
 have Ba := Na.blk
 refine WpL_nil (Wp_seq_region ?_)
 refine qV (r_loadAgg (vs := [(I6 2), (.slice (some ⟨bs, 0, none⟩) 1 1), (.slice none 0 0), (I6 0), (I6 0), (.bool false)]) rfl agg25 siz25 rfl (Ba.cells rfl)) ?_
 refine qV (r_build (ps := [(0, (I6 1))]) (v := (.agg #[(I6 1), (.slice none 0 0), (.slice none 0 0), (I6 0), (I6 0), (.bool false)])) rfl (by kernel_rfl)) ?_
 refine qV (r_loadAgg (vs := [(I6 2), (.slice (some ⟨bs, 0, none⟩) 1 1), (.slice none 0 0), (I6 0), (I6 0), (.bool false)]) rfl agg25 siz25 rfl (Ba.cells rfl)) ?_
 refine s_buildSlice (ps := [(0, (.agg #[(I6 2), (.slice (some ⟨bs, 0, none⟩) 1 1), (.slice none 0 0), (I6 0), (I6 0), (.bool false)]))]) (c := #[(I6 2), (.slice (some ⟨bs, 0, none⟩) 1 1), (.slice none 0 0), (I6 0), (I6 0), (.bool false)]) (by decide) rfl Tryz.underlying23 siz25 zer25 (by decide) (by decide) (by kernel_rfl) ?_
 intro bk wk Nk
 have Fk := Nk.ge E
 have Ok_bs := Nk.lt Bs
 have Ok_ba := Nk.lt Ba
 replace Bs := Nk.keep Bs
 replace Ba := Nk.keep Ba
 replace E := E.ext Nk.ext
 have Bk := Nk.blk
 refine qV (r_build (ps := [(0, (I6 5)), (2, (.slice (some ⟨bk, 0, none⟩) 1 1))]) (v := (.agg #[(I6 5), (.slice none 0 0), (.slice (some ⟨bk, 0, none⟩) 1 1), (I6 0), (I6 0), (.bool false)])) rfl (by kernel_rfl)) ?_
 refine s_buildSlice (ps := [(0, (.agg #[(I6 2), (.slice (some ⟨bs, 0, none⟩) 1 1), (.slice none 0 0), (I6 0), (I6 0), (.bool false)])), (1, (.agg #[(I6 1), (.slice none 0 0), (.slice none 0 0), (I6 0), (I6 0), (.bool false)])), (2, (.agg #[(I6 5), (.slice none 0 0), (.slice (some ⟨bk, 0, none⟩) 1 1), (I6 0), (I6 0), (.bool false)]))]) (c := #[(I6 2), (.slice (some ⟨bs, 0, none⟩) 1 1), (.slice none 0 0), (I6 0), (I6 0), (.bool false), (I6 1), (.slice none 0 0), (.slice none 0 0), (I6 0), (I6 0), (.bool false), (I6 5), (.slice none 0 0), (.slice (some ⟨bk, 0, none⟩) 1 1), (I6 0), (I6 0), (.bool false)]) (by decide) rfl Tryz.underlying23 siz25 zer25 (by decide) (by decide) (by kernel_rfl) ?_
 intro bl wl Nl
 have Fl := Nl.ge E
 have Ol_bs := Nl.lt Bs
 have Ol_ba := Nl.lt Ba
 have Ol_bk := Nl.lt Bk
 replace Bs := Nl.keep Bs
 replace Ba := Nl.keep Ba
 replace Bk := Nl.keep Bk
 replace E := E.ext Nl.ext
 have Bl := Nl.blk
 refine qV (r_build (ps := [(0, (I6 3)), (2, (.slice (some ⟨bl, 0, none⟩) 3 3))]) (v := (.agg #[(I6 3), (.slice none 0 0), (.slice (some ⟨bl, 0, none⟩) 3 3), (I6 0), (I6 0), (.bool false)])) rfl (by kernel_rfl)) ?_
 refine s_allocStore (v := (.agg #[(I6 3), (.slice none 0 0), (.slice (some ⟨bl, 0, none⟩) 3 3), (I6 0), (I6 0), (.bool false)])) (c := #[(I6 3), (.slice none 0 0), (.slice (some ⟨bl, 0, none⟩) 3 3), (I6 0), (I6 0), (.bool false)]) (n := 6) (by decide) zer25 rfl siz25 rfl rfl rfl (by simp [Value.oneCell']) ?_
 intro bm wm Nm
 have Fm := Nm.ge E
 have Om_bs := Nm.lt Bs
 have Om_ba := Nm.lt Ba
 have Om_bk := Nm.lt Bk
 have Om_bl := Nm.lt Bl
 replace Bs := Nm.keep Bs
 replace Ba := Nm.keep Ba
 replace Bk := Nm.keep Bk
 replace Bl := Nm.keep Bl
 replace E := E.ext Nm.ext
 have Bm := Nm.blk
 refine WpL_nil (Wp_seq_region ?_)
 refine qV (r_loadAgg (vs := [(I6 3), (.slice none 0 0), (.slice (some ⟨bl, 0, none⟩) 3 3), (I6 0), (I6 0), (.bool false)]) rfl agg25 siz25 rfl (Bm.cells rfl)) ?_
 have hsp : SpansAt wm (.slice (some ⟨bs, 0, none⟩) 1 1) [(97, 97)] := spans_of_blk [(97, 97)] Bs (by simp) (by simp)
 have hone : ReAt wm (oneT 97) [.int .i64 2, .slice (some ⟨bs, 0, none⟩) 1 1, .slice none 0 0, .int .i64 0, .int .i64 0, .bool false] := one_at hsp
 have hstar : ReAt wm (.mk 5 [] [oneT 97] 0 0 false) [.int .i64 5, .slice none 0 0, .slice (some ⟨bk, 0, none⟩) 1 1, .int .i64 0, .int .i64 0, .bool false] := ReAt.of (set := []) (args := [oneT 97]) (SlAt.nil _ _ _ _) (by simp) (.inr ⟨bk, 0, rfl, by simp only [ResAt]; exact ⟨⟨_, Bk.cells rfl, hone⟩, trivial⟩⟩)
 have hbeg : ReAt wm begT [.int .i64 3, .slice none 0 0, .slice (some ⟨bl, 0, none⟩) 3 3, .int .i64 0, .int .i64 0, .bool false] := ReAt.of (set := []) (args := [oneT 97, emptyT, .mk 5 [] [oneT 97] 0 0 false]) (SlAt.nil _ _ _ _) (by simp) (.inr ⟨bl, 0, rfl, by simp only [ResAt]; exact ⟨⟨_, Bl.cells rfl, hone⟩, ⟨_, Bl.cells rfl, ReIn.at _ (re_empty (fun _ => True) _ 1)⟩, ⟨_, Bl.cells rfl, hstar⟩, trivial⟩⟩)
 have E2 : Chg none1 wm wm := Chg.refl _ _
 refine WpL_enter rfl rfl (by decide) (r_callF Tryz.func39 nm39 bd39 rfl) ((normal_c _ begT _ hbeg).mono (R' := fun v w => ∃ us, v = .tuple #[.agg us.toArray, .int .i64 0] ∧ ReAt w begN us ∧ Ext wm w) (by rintro v w ⟨us, h1, h2, h3⟩; rw [beg_fits] at h1 h2; rw [if_pos rfl, beg_norm] at h2; exact ⟨us, h1, h2, h3⟩)) ?_
 rintro _ w19 ⟨us, rfl, hre, X19⟩
 replace Bs := X19.keep Bs
 replace Ba := X19.keep Ba
 replace Bk := X19.keep Bk
 replace Bl := X19.keep Bl
 replace Bm := X19.keep Bm
 replace E := E.ext X19
 replace E2 := E2.ext X19
 obtain ⟨zsa, zsc, zaa, zac, rfl, _, _, _⟩ := hre.form
 refine qM _ rfl ?_
 refine qV (r_extract rfl rfl) ?_
 refine qV (r_extract rfl rfl) ?_
 refine s_allocStore (v := (.agg #[(I6 3), (.slice zsa 0 zsc), (.slice zaa 2 zac), (I6 0), (I6 0), (.bool false)])) (c := #[(I6 3), (.slice zsa 0 zsc), (.slice zaa 2 zac), (I6 0), (I6 0), (.bool false)]) (n := 6) (by decide) zer25 rfl siz25 rfl rfl rfl (by simp [Value.oneCell']) ?_
 intro bn wn Nn
 have Fn := Nn.ge E
 have Fn_E2 := Nn.ge E2
 have On_bs := Nn.lt Bs
 have On_ba := Nn.lt Ba
 have On_bk := Nn.lt Bk
 have On_bl := Nn.lt Bl
 have On_bm := Nn.lt Bm
 replace Bs := Nn.keep Bs
 replace Ba := Nn.keep Ba
 replace Bk := Nn.keep Bk
 replace Bl := Nn.keep Bl
 replace Bm := Nn.keep Bm
 replace E := E.ext Nn.ext
 have Bn := Nn.blk
 replace E2 := E2.ext Nn.ext
 refine qA _ rfl ?_
 refine WpL_nil (Wp_seq_region ?_)
 refine qV (r_build (ps := [(0, (I6 1))]) (v := (.agg #[(I6 1), (.slice none 0 0), (.slice none 0 0), (I6 0), (I6 0), (.bool false)])) rfl (by kernel_rfl)) ?_
 refine WpL_enter rfl rfl (by decide) (r_callF Tryz.func17 nm17 bd17 rfl) ((null_c _ emptyT _ (ReIn.at _ (re_empty (fun _ => True) _ 1))).mono (R' := fun v w => v = .tuple #[.bool true, .int .i64 0] ∧ Ext wn w) (fun v w h => ⟨by rw [h.1, beg_null.1, beg_null.2]; rfl, h.2⟩)) ?_
 rintro _ w29 ⟨rfl, X29⟩
 replace Bs := X29.keep Bs
 replace Ba := X29.keep Ba
 replace Bk := X29.keep Bk
 replace Bl := X29.keep Bl
 replace Bm := X29.keep Bm
 replace Bn := X29.keep Bn
 replace E := E.ext X29
 replace E2 := E2.ext X29
 refine qM _ rfl ?_
 refine qV (r_extract rfl rfl) ?_
 refine qV (r_extract rfl rfl) ?_
 refine qA _ rfl ?_
 refine qA _ rfl ?_
 refine WpL_nil (Wp_seq_region ?_)
 refine qM _ rfl ?_
 refine qV (r_eql rfl rfl) ?_
 refine qM _ rfl ?_
 refine WpL_guard_yes rfl rfl (by decide) rfl ?_
 refine qM _ rfl ?_
 refine WpL_guard_yes rfl rfl (by decide) rfl ?_
 refine qV (r_eql rfl rfl) ?_
 refine qV (r_pick rfl rfl) ?_
 refine qM _ rfl ?_
 refine WpL_guard_yes rfl rfl (by decide) rfl ?_
 refine qM _ rfl ?_
 refine qV (r_pick rfl rfl) ?_
 refine qM _ rfl ?_
 refine WpL_guard_yes rfl rfl (by decide) rfl ?_
 refine qF bn 0 2 rfl Tryz.underlying25 rfl siz23 rfl ?_
 refine WpL_guard_yes rfl rfl (by decide) rfl ?_
 refine qV (r_load rfl flat23 (Bn.cell rfl)) ?_
 refine WpL_guard_yes rfl rfl (by decide) rfl ?_
 refine qV (r_lenSlice Tryz.underlying23 rfl) ?_
 refine WpL_guard_yes rfl rfl (by decide) rfl ?_
 refine qV (r_eql rfl rfl) ?_
 refine qV (r_pick rfl rfl) ?_
 refine qM _ rfl ?_
 refine WpL_guard_yes rfl rfl (by decide) rfl ?_
 refine qV (r_loadAgg (vs := [(I6 3), (.slice none 0 0), (.slice (some ⟨bl, 0, none⟩) 3 3), (I6 0), (I6 0), (.bool false)]) rfl agg25 siz25 rfl (Bm.cells rfl)) ?_
 refine WpL_guard_yes rfl rfl (by decide) rfl ?_
 refine WpL_enter rfl rfl (by decide) (r_callF Tryz.func10 nm10 bd10 rfl) ((size_c _ begT _ (ReAt.ext E2 _ hbeg) (by rw [beg_size]; decide)).mono (R' := fun v w => v = .int .i64 5 ∧ Ext w29 w) (fun v w h => ⟨by rw [h.1, beg_size]; rfl, h.2⟩)) ?_
 rintro _ w39 ⟨rfl, X39⟩
 replace Bs := X39.keep Bs
 replace Ba := X39.keep Ba
 replace Bk := X39.keep Bk
 replace Bl := X39.keep Bl
 replace Bm := X39.keep Bm
 replace Bn := X39.keep Bn
 replace E := E.ext X39
 replace E2 := E2.ext X39
 refine WpL_guard_yes rfl rfl (by decide) rfl ?_
 refine qV (r_eql rfl rfl) ?_
 refine qV (r_pick rfl rfl) ?_
 refine qM _ rfl ?_
 refine WpL_guard_yes rfl rfl (by decide) rfl ?_
 refine qV (r_loadAgg (vs := [(I6 3), (.slice none 0 0), (.slice (some ⟨bl, 0, none⟩) 3 3), (I6 0), (I6 0), (.bool false)]) rfl agg25 siz25 rfl (Bm.cells rfl)) ?_
 refine WpL_guard_yes rfl rfl (by decide) rfl ?_
 refine s_buildSlice (ps := [(0, (I6 5))]) (c := #[(I6 5)]) (by decide) rfl Tryz.underlying46 siz3 zer3 (by decide) (by decide) (by kernel_rfl) ?_
 intro bu wu Nu
 have Fu := Nu.ge E
 have Fu_E2 := Nu.ge E2
 have Ou_bs := Nu.lt Bs
 have Ou_ba := Nu.lt Ba
 have Ou_bk := Nu.lt Bk
 have Ou_bl := Nu.lt Bl
 have Ou_bm := Nu.lt Bm
 have Ou_bn := Nu.lt Bn
 replace Bs := Nu.keep Bs
 replace Ba := Nu.keep Ba
 replace Bk := Nu.keep Bk
 replace Bl := Nu.keep Bl
 replace Bm := Nu.keep Bm
 replace Bn := Nu.keep Bn
 replace E := E.ext Nu.ext
 have Bu := Nu.blk
 replace E2 := E2.ext Nu.ext
 refine WpL_guard_yes rfl rfl (by decide) rfl ?_
 refine WpL_enter rfl rfl (by decide) (r_callF Tryz.func15 nm15 bd15 rfl) ((uses_c _ begT _ [5] _ (ReAt.ext E2 _ hbeg) (ints_of_blk [5] Bu (by simp) (by simp))).mono (R' := fun v w => v = .bool true ∧ Ext wu w) (fun v w h => ⟨by rw [h.1, beg_uses], h.2⟩)) ?_
 rintro _ w49 ⟨rfl, X49⟩
 replace Bs := X49.keep Bs
 replace Ba := X49.keep Ba
 replace Bk := X49.keep Bk
 replace Bl := X49.keep Bl
 replace Bm := X49.keep Bm
 replace Bn := X49.keep Bn
 replace Bu := X49.keep Bu
 replace E := E.ext X49
 replace E2 := E2.ext X49
 refine qV (r_pick rfl rfl) ?_
 refine qA _ rfl ?_
 refine WpL_nil (Wp_ret ?_)
 refine fin_tmp Tryz.results5 (v := (.bool true)) rfl ?_
 exact ⟨rfl, E⟩
end Go.Proofs
namespace Go.Proofs
open Go Go.Eng
set_option maxRecDepth 100000
mutual
theorem uses_pre (ks : List Int) : ∀ t : Re, usesB ks t = (preL t).any fun x => ks.contains x.kind
  | .mk k set args mn mx ng => by simp only [usesB, preL, List.any_cons, uses_pres ks args]; rfl
theorem uses_pres (ks : List Int) : ∀ ts : List Re, usesBs ks ts = (preLs ts).any fun x => ks.contains x.kind
  | [] => rfl
  | t :: ts => by simp only [usesBs, preLs, List.any_append, uses_pre ks t, uses_pres ks ts]
end
theorem any_take_succ {α : Type} {l : List α} {k : Nat} {x : α} {f : α → Bool} (h : l[k]? = some x) : (l.take (k + 1)).any f = ((l.take k).any f || f x) := by
 rw [List.take_add_one, h, Option.toList_some, List.any_append]; simp
set_option maxHeartbeats 2000000 in
theorem hasR_c (w0 : World) (t : Re) (vs : List Value) (vk : Value) (ks : List Int) (ht : ReAt w0 t vs) (hk : IntsAt w0 vk ks) (hs : t.size ≤ 1000000) (hkl : ks.length ≤ 1000) :
  Ret Tryz.prog 16 #[.agg vs.toArray, vk] w0 fun v w => v = .bool (usesB ks t) ∧ Ext w0 w := by
 have ht0 := ht
 obtain ⟨sa, sc, aa, ac, rfl, hset, hlen, hargs⟩ := ht.form
 obtain ⟨ka, kc, rfl⟩ := SlAt.form hk
 simp only [List.length_map] at hk ⊢
 rw [uses_pre]
 refine Ret_of Tryz.func16 rfl Tryz.ntmps16 (Nat.le_of_ble_eq_true rfl) ?_
 have E : Chg none1 w0 w0 := Chg.refl _ _
 refine Wp_seq_region ?_
 refine s_box (v := (.agg (R6 t sa sc aa ac))) (c := (R6 t sa sc aa ac)) (by decide) rfl rfl ?_
 intro b1 w1 N1
 have F1 := N1.ge E
 replace E := E.ext N1.ext
 have B1 := N1.blk
 refine qA _ rfl ?_
 refine WpL_nil (Wp_seq (Wp_seq_region ?_))
 refine qV (r_loadAgg (vs := [(I6 t.kind), (.slice sa t.set.length sc), (.slice aa t.args.length ac), (I6 t.mn), (I6 t.mx), (.bool t.neg)]) rfl agg25 siz25 rfl (B1.cells rfl)) ?_
 refine WpL_enter rfl rfl (by decide) (r_callF Tryz.func11 nm11 bd11 rfl) (pre_c _ t _ _ (ReAt.ext E t ht0) (by omega)) ?_
 rintro _ w9 ⟨la, lc, rows, rfl, hsl, hrows, X9⟩
 replace B1 := X9.keep B1
 replace E := E.ext X9
 obtain ⟨L, hL⟩ : ∃ L, L = preL t := ⟨_, rfl⟩
 have hLl : L.length = t.size := by rw [hL, preL_len]
 have htk : (preL t).take (1000000 : Int).toNat = L := by rw [hL]; exact List.take_of_length_le (by rw [preL_len]; exact hs)
 rw [htk] at hsl hrows ⊢
 have hrows' : RowsOf w9 L rows := RowsOf.ext X9 hrows
 rw [← hL]
 have EQ : Chg none1 w9 w9 := Chg.refl _ _
 refine qV (r_lenSlice Tryz.underlying23 rfl) ?_
 refine qM _ rfl ?_
 refine WpL_nil (Wp_block ?_)
 refine Wp_loop (fun nn_ σ W2 => ∃ (k : Nat), (∃ jj_, σ = upds jj_ [(1, (.slice ka ks.length kc)), (10, (.slice la L.length lc)), (11, (I6 (L.length : Int))), (12, (I6 (k : Int)))]) ∧ Chg none1 w0 W2 ∧ Chg none1 w9 W2 ∧ Blk W2 b1 (R6 t sa sc aa ac) 25 ∧ (k ≤ L.length) ∧ (((L.take k).any fun x => ks.contains x.kind) = false) ∧ nn_ = L.length - k) (n := L.length - 0) ?_ ?_
 ·exact ⟨0, Fits.out ⟨rfl, rfl, rfl, rfl, trivial⟩, E, EQ, B1, Nat.zero_le _, rfl, rfl⟩
 ·clear E EQ B1
  rintro _ _ W2 ⟨k, ⟨j2, rfl⟩, E, EQ, B1, hk1, hp, rfl⟩
  refine Wp_seq_region ?_
  refine qV (r_lss rfl rfl) ?_
  refine WpL_nil (Wp_seq ?_)
  refine Wp_cond rfl (fun hlt => ?_) (fun hlt => ?_)
  ·have khlt := hlt
   replace hlt := of_decide_eq_true hlt
   obtain ⟨x, hx⟩ := get_of_lt (l := L) (i := k) (by omega)
   obtain ⟨r, hr, hxr⟩ := hrows'.get hx
   obtain ⟨b, o, rfl, hcl⟩ := SlAt.at hsl (by omega)
   have hcr := (hcl k r hr).ext EQ
   obtain ⟨xa, xc, ya, yc, rfl, hxset, hxlen, hxargs⟩ := hxr.form
   refine Wp_skip (thn_normal (Wp_seq (Wp_block (Wp_seq_region ?_))))
   refine qV (r_indexSlice (b := b) (o := o) (len := L.length) (cap := lc) (i := k) (o' := o + k * 6) rfl rfl rfl Tryz.underlying23 siz25 (by omega) (by omega)) ?_
   refine qV (r_loadAgg rfl agg25 siz25 rfl (hcr)) ?_
   refine s_allocStore (v := (.agg (R6 x xa xc ya yc))) (c := (R6 x xa xc ya yc)) (n := 6) (by decide) zer25 rfl siz25 rfl rfl rfl (by simp [Value.oneCell']) ?_
   intro bu wu Nu
   have Fu := Nu.ge E
   have Fu_EQ := Nu.ge EQ
   have Ou_b1 := Nu.lt B1
   replace B1 := Nu.keep B1
   replace E := E.ext Nu.ext
   have Bu := Nu.blk
   replace EQ := EQ.ext Nu.ext
   refine WpL_nil (Wp_seq_region ?_)
   refine qM _ rfl ?_
   refine qV (r_lenSlice Tryz.underlying46 rfl) ?_
   refine qM _ rfl ?_
   refine WpL_nil (Wp_block ?_)
   refine Wp_loop (fun nn_ σ W4 => ∃ (j : Nat), (∃ jj_, σ = upds jj_ [(1, (.slice ka ks.length kc)), (6, (P6 bu 0)), (10, (.slice (some ⟨b, o, none⟩) L.length lc)), (11, (I6 (L.length : Int))), (12, (I6 (k : Int))), (16, (.slice ka ks.length kc)), (17, (I6 (ks.length : Int))), (18, (I6 (j : Int)))]) ∧ Chg none1 w0 W4 ∧ Chg none1 w9 W4 ∧ Blk W4 b1 (R6 t sa sc aa ac) 25 ∧ Blk W4 bu (R6 x xa xc ya yc) 25 ∧ (j ≤ ks.length) ∧ ((ks.take j).contains x.kind = false) ∧ nn_ = ks.length - j) (n := ks.length - 0) ?_ ?_
   ·exact ⟨0, Fits.out ⟨rfl, rfl, rfl, rfl, rfl, rfl, rfl, rfl, trivial⟩, E, EQ, B1, Bu, Nat.zero_le _, rfl, rfl⟩
   ·clear E EQ B1 Bu
    rintro _ _ W4 ⟨j, ⟨j4, rfl⟩, E, EQ, B1, Bu, hj, hq, rfl⟩
    refine Wp_seq_region ?_
    refine qV (r_lss rfl rfl) ?_
    refine WpL_nil (Wp_seq ?_)
    refine Wp_cond rfl (fun hlt2 => ?_) (fun hlt2 => ?_)
    ·have khlt2 := hlt2
     replace hlt2 := of_decide_eq_true hlt2
     obtain ⟨c, hc⟩ := get_of_lt (l := ks) (i := j) (by omega)
     obtain ⟨kb, ko, rfl, hkc⟩ := ints_cells hk (by omega)
     refine Wp_skip (thn_normal (Wp_seq (Wp_block (Wp_seq_region ?_))))
     refine qV (r_indexSlice (b := kb) (o := ko) (len := ks.length) (cap := kc) (i := j) (o' := ko + j) rfl rfl rfl Tryz.underlying46 siz3 (by omega) (by omega)) ?_
     refine qV (r_load rfl flat3 (E.cell (fun f => f) (hkc j c hc))) ?_
     refine qA _ rfl ?_
     refine WpL_nil (Wp_seq_region ?_)
     refine qF bu 0 0 rfl Tryz.underlying25 rfl siz3 rfl ?_
     refine qV (r_load rfl flat3 (Bu.cell rfl)) ?_
     refine qM _ rfl ?_
     refine qV (r_eql rfl rfl) ?_
     refine WpL_nil ?_
     refine Wp_cond rfl (fun he => ?_) (fun he => ?_)
     ·have khe := he
      replace he := of_decide_eq_true he
      refine Wp_seq_region ?_
      refine qA _ rfl ?_
      refine WpL_nil (Wp_ret (inB_ret (thn_ret (thn_ret (inB_ret (inB_ret (thn_ret (thn_ret (inB_ret (thn_ret ?_))))))))))
      refine fin_tmp Tryz.results16 (v := (.bool true)) rfl ?_
      exact ⟨by rw [List.any_eq_true.2 ⟨x, List.mem_of_getElem? hx, by rw [List.contains_iff_mem, he]; exact List.mem_of_getElem? hc⟩], E⟩
     ·have khe := he
      replace he := of_decide_eq_false he
      refine Wp_skip (inB_normal (thn_normal (Wp_region ?_)))
      refine qV (r_add rfl rfl (wI64 (by omega))) ?_
      refine qM _ rfl ?_
      refine WpL_nil (thn_normal ?_)
      exact ⟨ks.length - (j + 1), by omega, j + 1, Fits.out ⟨rfl, rfl, rfl, rfl, rfl, rfl, rfl, rfl, trivial⟩, E, EQ, B1, Bu, (by omega), (by rw [List.take_add_one, hc, Option.toList_some]; rw [Bool.eq_false_iff, ne_eq, List.contains_iff_mem] at hq ⊢; intro h; rcases List.mem_append.1 h with h | h; exact hq h; exact he (by simpa using h)), rfl⟩
    ·have khlt2 := hlt2
     replace hlt2 := of_decide_eq_false hlt2
     have hjj : ks.take j = ks := List.take_of_length_le (by omega)
     rw [hjj] at hq
     refine Wp_exit (thn_exit (thn_exit (inB_here (inB_normal (thn_normal (Wp_region ?_))))))
     refine qV (r_add rfl rfl (wI64 (by omega))) ?_
     refine qM _ rfl ?_
     refine WpL_nil (thn_normal ?_)
     exact ⟨L.length - (k + 1), by omega, k + 1, Fits.out ⟨rfl, rfl, rfl, rfl, trivial⟩, E, EQ, B1, (by omega), (by rw [any_take_succ hx, hp, hq]; rfl), rfl⟩
  ·have khlt := hlt
   replace hlt := of_decide_eq_false hlt
   have hkk : L.take k = L := List.take_of_length_le (by omega)
   rw [hkk] at hp
   refine Wp_exit (thn_exit (thn_exit (inB_here (thn_normal (Wp_seq_region ?_)))))
   refine qA _ rfl ?_
   refine WpL_nil (Wp_ret ?_)
   refine fin_tmp Tryz.results16 (v := (.bool false)) rfl ?_
   exact ⟨by rw [hp], E⟩
end Go.Proofs
namespace Go.Proofs
open Go Go.Eng Go.Sort
set_option maxRecDepth 100000
theorem emptRs_all (ts : List Re) : emptRs ts = ts.all emptR := by
  induction ts with
  | nil => rfl
  | cons t ts ih => simp [emptRs, ih]
theorem emptAny_any (ts : List Re) : emptAny ts = ts.any emptR := by
  induction ts with
  | nil => rfl
  | cons t ts ih => simp [emptAny, ih]
end Go.Proofs
namespace Go.Proofs
open Go Go.Eng Go.Sort
set_option maxRecDepth 100000
theorem emptR_eq (t : Re) : emptR t = if t.kind = 1 ∨ t.kind = 5 then true else if t.kind = 3 ∨ t.kind = 7 ∨ t.kind = 9 then emptRs t.args else if t.kind = 4 then emptAny t.args else if t.kind = 6 then (decide (t.mn = 0) || emptRs t.args) else if t.kind = 8 then !emptRs t.args else if t.kind = 10 then (emptRs t.args != t.neg) else false := by
  cases t with
  | mk k s a m x g => simp only [emptR]; rfl
end Go.Proofs
namespace Go.Proofs
open Go Go.Eng
set_option maxRecDepth 100000
def nms (t : Re) : Nat := t.size * 50 + t.mx.toNat
theorem nms_sub {t x : Re} (hs : x.size < t.size) (hx : x.mx.toNat ≤ 8) : nms x < nms t := by
 unfold nms; omega
def NullOk (text : List Int) (M : Nat) : Prop := ∀ t (i j : Nat), i = 0 → j = 0 → nms t < M → okM t → ∀ (w0 : World) (vs : List Value) (vt : Value), ReAt w0 t vs → IntsAt w0 vt text →
  Ret Tryz.prog 55 #[.agg vs.toArray, vt, .int .i64 (i : Int), .int .i64 (j : Int)] w0 fun v w => v = .bool (emptR t) ∧ Ext w0 w
set_option maxHeartbeats 2000000 in
theorem nrep_c (text : List Int) (hn : text = []) (M : Nat) (ih : NullOk text M) (t : Re) (i j : Nat) (hij : i = 0) (hj : j = 0) (hM : nms t ≤ M) (hok : okRe t) (h6 : t.kind = 6) (w0 : World) (vs : List Value) (vt : Value) (ht : ReAt w0 t vs) (htx : IntsAt w0 vt text) :
    Ret Tryz.prog 92 #[.agg vs.toArray, vt, .int .i64 (i : Int), .int .i64 (j : Int)] w0 fun v w => v = .bool (emptR t) ∧ Ext w0 w := by
  have ht0 := ht
  obtain ⟨sa, sc, aa, ac, rfl, hset, hlen, hargs⟩ := ht.form
  obtain ⟨ta, tc, rfl⟩ := SlAt.form htx
  simp only [List.length_map] at htx ⊢
  have hone := okRe_one hok (by omega)
  have hrep := okRe_rep hok h6
  obtain ⟨x, hx⟩ := get_of_lt (l := t.args) (i := 0) (by omega)
  have hxo := okRes_get (okRe_args hok) hx
  have hxs := Re.size_arg hx
  have hax : t.args = [x] := by
    match h : t.args, hone, hx with
    | [y], _, hy => simp at hy; rw [hy]
  have hsp : emptR t = (decide (t.mn = 0) || emptR x) := by rw [emptR_eq, if_neg (by omega), if_neg (by omega), if_neg (by omega), if_pos h6, hax]; simp [emptRs]
  have hrs : emptR (.mk 6 [] t.args (max 0 (t.mn - 1)) (t.mx - 1) false) = (decide (max 0 (t.mn - 1) = 0) || emptR x) := by rw [hax]; simp [emptR, emptRs]
  obtain ⟨ab, ao, rfl, hres⟩ := args_at hargs (by omega)
  obtain ⟨us, hus, hxt⟩ := hres.get hx
  refine Ret_of Tryz.func92 rfl Tryz.ntmps92 (Nat.le_of_ble_eq_true rfl) ?_
  have E : Chg none1 w0 w0 := Chg.refl _ _
  refine Wp_seq_region ?_
  refine s_box (v := (.agg (R6 t sa sc (some ⟨ab, ao, none⟩) ac))) (c := (R6 t sa sc (some ⟨ab, ao, none⟩) ac)) (by decide) rfl rfl ?_
  intro b1 w1 N1
  have F1 := N1.ge E
  replace E := E.ext N1.ext
  have B1 := N1.blk
  refine qA _ rfl ?_
  refine WpL_nil (Wp_seq (Wp_seq_region ?_))
  refine qF b1 0 3 rfl Tryz.underlying25 rfl siz3 rfl ?_
  refine qV (r_load rfl flat3 (B1.cell rfl)) ?_
  obtain ⟨e2, he2⟩ : ∃ e, (decide ((t.mn : Int) = 0)) = e := ⟨_, rfl⟩
  refine qV ((r_eql rfl rfl).trans (by rw [he2]; try rfl)) ?_
  refine qM _ rfl ?_
  refine qG (.bool e2) (yU e2 (I6 (i : Int))) (by cases e2 <;> first | exact gA | exact gB | exact .inl ⟨rfl, r_move rfl⟩) ?_
  refine qG (.bool e2) (yU e2 (I6 (j : Int))) (by cases e2 <;> first | exact gA | exact gB | exact .inl ⟨rfl, r_move rfl⟩) ?_
  obtain ⟨e3, he3⟩ : ∃ e, (decide ((((i : Nat) : Int) : Int) = ((j : Nat) : Int))) = e := ⟨_, rfl⟩
  refine qG (.bool e2) (yU e2 (.bool e3)) (by cases e2 <;> first | exact gA | exact gB | exact .inl ⟨rfl, (r_eql rfl rfl).trans (by rw [he3]; try rfl)⟩) ?_
  obtain ⟨e4, he4⟩ : ∃ e, (e2 && e3) = e := ⟨_, rfl⟩
  refine qV (r_pick (v := .bool e4) rfl (by rw [← he4]; cases e2 <;> rfl)) ?_
  refine WpL_nil ?_
  subst he4
  subst he3
  subst he2
  refine Wp_cond rfl (fun h0 => ?_) (fun h0 => ?_)
  · have kh0 := h0
    simp at h0
    refine Wp_seq_region ?_
    refine qA _ rfl ?_
    refine WpL_nil (Wp_ret (thn_ret ?_))
    refine fin_tmp Tryz.results92 (v := (.bool true)) rfl ?_
    exact ⟨bool_true (by rw [hsp]; simp [h0.1]), E⟩
  · have kh0 := h0
    simp at h0
    refine Wp_skip (thn_normal (Wp_seq (Wp_seq_region ?_)))
    refine qF b1 0 4 rfl Tryz.underlying25 rfl siz3 rfl ?_
    refine qV (r_load rfl flat3 (B1.cell rfl)) ?_
    refine qV (r_eql rfl rfl) ?_
    refine WpL_nil ?_
    refine Wp_cond rfl (fun hmx => ?_) (fun hmx => ?_)
    · have khmx := hmx
      replace hmx := of_decide_eq_true hmx
      refine Wp_seq_region ?_
      refine qA _ rfl ?_
      refine WpL_nil (Wp_ret (thn_ret ?_))
      refine fin_tmp Tryz.results92 (v := (.bool false)) rfl ?_
      exact absurd hmx (by have := h0; omega)
    · have khmx := hmx
      replace hmx := of_decide_eq_false hmx
      refine Wp_skip (thn_normal (Wp_seq_region ?_))
      refine qF b1 0 3 rfl Tryz.underlying25 rfl siz3 rfl ?_
      refine qV (r_load rfl flat3 (B1.cell rfl)) ?_
      refine qV (r_sub rfl rfl (wI64 (by omega))) ?_
      refine qV (r_max2 (c := max 0 (t.mn - 1)) rfl rfl rfl) ?_
      refine qF b1 0 4 rfl Tryz.underlying25 rfl siz3 rfl ?_
      refine qV (r_load rfl flat3 (B1.cell rfl)) ?_
      refine qV (r_sub rfl rfl (wI64 (by omega))) ?_
      refine qF b1 0 2 rfl Tryz.underlying25 rfl siz23 rfl ?_
      refine qV (r_load rfl flat23 (B1.cell rfl)) ?_
      refine qV (r_build (ps := [(0, (I6 6)), (3, (I6 (max 0 (t.mn - 1)))), (4, (I6 (t.mx - 1))), (2, (.slice (some ⟨ab, ao, none⟩) t.args.length ac))]) (v := (.agg #[(I6 6), (.slice none 0 0), (.slice (some ⟨ab, ao, none⟩) t.args.length ac), (I6 (max 0 (t.mn - 1))), (I6 (t.mx - 1)), (.bool false)])) rfl (by kernel_rfl)) ?_
      refine s_allocStore (v := (.agg #[(I6 6), (.slice none 0 0), (.slice (some ⟨ab, ao, none⟩) t.args.length ac), (I6 (max 0 (t.mn - 1))), (I6 (t.mx - 1)), (.bool false)])) (c := #[(I6 6), (.slice none 0 0), (.slice (some ⟨ab, ao, none⟩) t.args.length ac), (I6 (max 0 (t.mn - 1))), (I6 (t.mx - 1)), (.bool false)]) (n := 6) (by decide) zer25 rfl siz25 rfl rfl rfl (by simp [Value.oneCell']) ?_
      intro b7 w7 N7
      have F7 := N7.ge E
      have O7_b1 := N7.lt B1
      replace B1 := N7.keep B1
      replace E := E.ext N7.ext
      have B7 := N7.blk
      refine WpL_nil (Wp_seq (Wp_seq_region ?_))
      refine qM _ rfl ?_
      refine qA _ rfl ?_
      refine WpL_nil (Wp_block ?_)
      have hrest : ReAt w0 (.mk 6 [] t.args (max 0 (t.mn - 1)) (t.mx - 1) false) [.int .i64 6, .slice none 0 0, .slice (some ⟨ab, ao, none⟩) t.args.length ac, .int .i64 (max 0 (t.mn - 1)), .int .i64 (t.mx - 1), .bool false] := ReAt.of (set := []) (SlAt.nil _ _ _ _) hlen (.inr ⟨ab, ao, rfl, hres⟩)
      have hrok : okRe (.mk 6 [] t.args (max 0 (t.mn - 1)) (t.mx - 1) false) := by
        rw [hax]; simp only [okRe, okRes]
        exact ⟨node_rep (by omega) (by omega) (by omega) x, hxo, trivial⟩
      have hrms : ∀ k, i ≤ k → k ≤ j → nms (.mk 6 [] t.args (max 0 (t.mn - 1)) (t.mx - 1) false) < M := by
        intro k h1 h2
        have hz : (Re.mk 6 [] t.args (max 0 (t.mn - 1)) (t.mx - 1) false).size = t.size := by rw [Re.size_eq, Re.size_eq]; rfl
        have e1 : (t.mx - 1).toNat + 1 = t.mx.toNat := by omega
        unfold nms at hM ⊢
        rw [hz, show (Re.mk 6 [] t.args (max 0 (t.mn - 1)) (t.mx - 1) false).mx = t.mx - 1 from rfl]; clear hz; generalize (t.mx - 1).toNat = p at e1 ⊢; generalize t.mx.toNat = q at e1 hM; omega
      refine Wp_loop (fun nn_ σ W8 => ∃ (k : Nat), (∃ jj_, σ = upds jj_ [(1, (.slice ta text.length tc)), (2, (I6 (i : Int))), (3, (I6 (j : Int))), (4, (P6 b1 0)), (9, (P6 b7 0)), (10, (I6 (k : Int)))]) ∧ Chg none1 w0 W8 ∧ Blk W8 b1 (R6 t sa sc (some ⟨ab, ao, none⟩) ac) 25 ∧ Blk W8 b7 #[(I6 6), (.slice none 0 0), (.slice (some ⟨ab, ao, none⟩) t.args.length ac), (I6 (max 0 (t.mn - 1))), (I6 (t.mx - 1)), (.bool false)] 25 ∧ (i ≤ k ∧ k ≤ j + 1) ∧ (∀ m, i ≤ m → m < k → ¬ (emptR x = true ∧ emptR (.mk 6 [] t.args (max 0 (t.mn - 1)) (t.mx - 1) false) = true)) ∧ nn_ = j + 1 - k) (n := j + 1 - i) ?_ ?_
      · exact ⟨i, Fits.out ⟨rfl, rfl, rfl, rfl, rfl, rfl, trivial⟩, E, B1, B7, (by omega), (fun m h1 h2 => by omega), rfl⟩
      · clear E B1 B7
        rintro _ _ W8 ⟨k, ⟨j8, rfl⟩, E, B1, B7, hk, hp, rfl⟩
        refine Wp_seq (Wp_seq_region ?_)
        refine qM _ rfl ?_
        refine qM _ rfl ?_
        refine qV (r_leq rfl rfl) ?_
        refine WpL_nil ?_
        refine Wp_cond rfl (fun hlt => ?_) (fun hlt => ?_)
        · have khlt := hlt
          replace hlt := of_decide_eq_true hlt
          refine Wp_skip (thn_normal (Wp_seq (Wp_block (Wp_seq_region ?_))))
          refine qF b1 0 2 rfl Tryz.underlying25 rfl siz23 rfl ?_
          refine qV (r_load rfl flat23 (B1.cell rfl)) ?_
          refine qV (r_indexSlice (b := ab) (o := ao) (len := t.args.length) (cap := ac) (i := 0) (o' := ao + 0 * 6) rfl rfl rfl Tryz.underlying23 siz25 (by omega) (by omega)) ?_
          refine qV (r_loadAgg rfl agg25 siz25 hxt.len (hus.ext E)) ?_
          refine qM _ rfl ?_
          refine qM _ rfl ?_
          refine qM _ rfl ?_
          refine WpL_enter rfl rfl (by decide) (r_callF Tryz.func55 nm55 bd55 rfl) (ih x i k (by omega) (by omega) (Nat.lt_of_lt_of_le (nms_sub hxs (okM_mx (okM_of hxo))) hM) (okM_of hxo) _ us _ (ReAt.ext E x hxt) (htx.ext E)) ?_
          rintro _ w9 ⟨rfl, X9⟩
          replace B1 := X9.keep B1
          replace B7 := X9.keep B7
          replace E := E.ext X9
          refine qM _ rfl ?_
          rcases Bool.eq_false_or_eq_true (emptR x) with hA | hA
          · have khA := hA
            refine WpL_guard_yes rfl rfl (by decide) (congrArg Value.bool hA) ?_
            refine qV (r_loadAgg (vs := [(I6 6), (.slice none 0 0), (.slice (some ⟨ab, ao, none⟩) t.args.length ac), (I6 (max 0 (t.mn - 1))), (I6 (t.mx - 1)), (.bool false)]) rfl agg25 siz25 rfl (B7.cells rfl)) ?_
            refine WpL_guard_yes rfl rfl (by decide) (congrArg Value.bool hA) ?_
            refine qM _ rfl ?_
            refine WpL_guard_yes rfl rfl (by decide) (congrArg Value.bool hA) ?_
            refine qM _ rfl ?_
            refine WpL_guard_yes rfl rfl (by decide) (congrArg Value.bool hA) ?_
            refine qM _ rfl ?_
            refine WpL_guard_yes rfl rfl (by decide) (congrArg Value.bool hA) ?_
            refine WpL_enter rfl rfl (by decide) (r_callF Tryz.func55 nm55 bd55 rfl) (ih _ k j (by omega) (by omega) (hrms k (by omega) (by omega)) (okM_of hrok) _ _ _ (ReAt.ext E _ hrest) (htx.ext E)) ?_
            rintro _ w19 ⟨rfl, X19⟩
            replace B1 := X19.keep B1
            replace B7 := X19.keep B7
            replace E := E.ext X19
            refine qV (r_pick (v := (.bool (emptR (.mk 6 [] t.args (max 0 (t.mn - 1)) (t.mx - 1) false)))) rfl (by rw [hA]; rfl)) ?_
            refine WpL_nil ?_
            refine Wp_cond rfl (fun hB => ?_) (fun hB => ?_)
            · have khB := hB
              refine Wp_seq_region ?_
              refine qA _ rfl ?_
              refine WpL_nil (Wp_ret (inB_ret (thn_ret (thn_ret (inB_ret (thn_ret ?_))))))
              refine fin_tmp Tryz.results92 (v := (.bool true)) rfl ?_
              exact ⟨bool_true (by rw [hsp, hA]; simp), E⟩
            · have khB := hB
              refine Wp_skip (inB_normal (thn_normal (Wp_region ?_)))
              refine qM _ rfl ?_
              refine qV (r_add rfl rfl (wI64 (by omega))) ?_
              refine qA _ rfl ?_
              refine WpL_nil (thn_normal ?_)
              exact ⟨j + 1 - (k + 1), by omega, k + 1, Fits.out ⟨rfl, rfl, rfl, rfl, rfl, rfl, trivial⟩, E, B1, B7, (by omega), search_next hp (fun h => absurd h.2 (by rw [hB]; decide)), rfl⟩
          · have khA := hA
            refine WpL_guard_no rfl rfl (by decide) (v := .bool false) (congrArg Value.bool hA) (Or.inl rfl) ?_
            refine WpL_guard_no rfl rfl (by decide) (v := .bool false) (congrArg Value.bool hA) (Or.inl rfl) ?_
            refine WpL_guard_no rfl rfl (by decide) (v := .bool false) (congrArg Value.bool hA) (Or.inl rfl) ?_
            refine WpL_guard_no rfl rfl (by decide) (v := .bool false) (congrArg Value.bool hA) (Or.inl rfl) ?_
            refine WpL_guard_no rfl rfl (by decide) (v := .bool false) (congrArg Value.bool hA) (Or.inl rfl) ?_
            refine qV (r_pick (v := (.bool false)) rfl (by rw [hA]; rfl)) ?_
            refine WpL_nil ?_
            refine Wp_cond_false rfl ?_
            refine Wp_skip (inB_normal (thn_normal (Wp_region ?_)))
            refine qM _ rfl ?_
            refine qV (r_add rfl rfl (wI64 (by omega))) ?_
            refine qA _ rfl ?_
            refine WpL_nil (thn_normal ?_)
            exact ⟨j + 1 - (k + 1), by omega, k + 1, Fits.out ⟨rfl, rfl, rfl, rfl, rfl, rfl, trivial⟩, E, B1, B7, (by omega), search_next hp (fun h => absurd h.1 (by rw [hA]; decide)), rfl⟩
        · have khlt := hlt
          replace hlt := of_decide_eq_false hlt
          refine Wp_exit (thn_exit (thn_exit (inB_here (thn_normal (Wp_seq_region ?_)))))
          refine qA _ rfl ?_
          refine WpL_nil (Wp_ret ?_)
          refine fin_tmp Tryz.results92 (v := (.bool false)) rfl ?_
          exact ⟨bool_false (fun h => by rw [hsp] at h; have hx1 : emptR x = true := (by simpa [show ¬ t.mn = 0 by omega] using h); exact hp 0 (by omega) (by omega) ⟨hx1, by simp [hrs, hx1]⟩), E⟩
theorem emptR_split {t x : Re} {l : List Re} (h : emptR t = emptRs t.args) (hc : t.args = x :: l) : emptR t = (emptR x && emptR (.mk 3 [] l 0 0 false)) := by
 rw [h, hc]; simp [emptRs, emptR]
set_option maxHeartbeats 8000000 in
theorem mnull_c (text : List Int) (hn : text = []) : ∀ M, NullOk text M := by
  intro M
  induction M with
  | zero => intro t i j _ _ h; omega
  | succ M ih =>
  intro t i j hij hj hM hok w0 vs vt ht htx
  have ht0 := ht
  have hok0 := hok
  have hoka := okM_args hok
  obtain ⟨sa, sc, aa, ac, rfl, hset, hlen, hargs⟩ := ht.form
  obtain ⟨ta, tc, rfl⟩ := SlAt.form htx
  simp only [List.length_map] at htx ⊢
  have hM' : nms t ≤ M := by omega
  have hEq := emptR_eq t
  refine Ret_of Tryz.func55 rfl Tryz.ntmps55 (Nat.le_of_ble_eq_true rfl) ?_
  have E : Chg none1 w0 w0 := Chg.refl _ _
  refine Wp_seq_region ?_
  refine s_box (v := (.agg (R6 t sa sc aa ac))) (c := (R6 t sa sc aa ac)) (by decide) rfl rfl ?_
  intro b1 w1 N1
  have F1 := N1.ge E
  replace E := E.ext N1.ext
  have B1 := N1.blk
  refine qA _ rfl ?_
  refine WpL_nil (Wp_seq (Wp_seq_region ?_))
  refine qF b1 0 0 rfl Tryz.underlying25 rfl siz3 rfl ?_
  refine qV (r_load rfl flat3 (B1.cell rfl)) ?_
  refine WpL_nil (Wp_block (Wp_seq_region ?_))
  refine qV (r_eql rfl rfl) ?_
  refine qA _ rfl ?_
  refine WpL_nil ?_
  refine Wp_cond rfl (fun h1 => ?_) (fun h1 => ?_)
  · have kh1 := h1
    replace h1 := of_decide_eq_true h1
    refine Wp_seq_region ?_
    refine qM _ rfl ?_
    refine qM _ rfl ?_
    refine qV (r_eql rfl rfl) ?_
    refine qA _ rfl ?_
    refine WpL_nil (Wp_ret (inB_ret (thn_ret ?_)))
    refine fin_tmp Tryz.results55 (v := (.bool (decide ((((i : Nat) : Int) : Int) = ((j : Nat) : Int))))) rfl ?_
    exact ⟨bool_eq (by rw [hEq, if_pos (.inl h1)]; exact decide_eq_true (by omega)), E⟩
  · have kh1 := h1
    replace h1 := of_decide_eq_false h1
    refine Wp_seq_region ?_
    refine qV (r_eql rfl rfl) ?_
    refine qA _ rfl ?_
    refine WpL_nil ?_
    refine Wp_cond rfl (fun h2 => ?_) (fun h2 => ?_)
    · have kh2 := h2
      replace h2 := of_decide_eq_true h2
      have hkn : decide (((j : Nat) : Int) = ((i : Nat) : Int) + 1) = false := decide_eq_false (by omega)
      refine Wp_seq ?_
      obtain ⟨Fs4, hFs4⟩ : ∃ Fs : List Fact, Fs = [.eq (I6 (j : Int)), .eq (I6 (i : Int)), .eq (I6 ((i : Int) + 1)), .eq (.bool false), .eq (.bool false), .eq undef, .eq undef, .eq undef, .eq undef, .eq undef, .eq undef, .eq undef, .eq (.bool false), .eq (.bool false)] := ⟨_, rfl⟩
      refine Wp_dag [27, 28, 29, 30, 31, 32, 33, 34, 35, 36, 37, 38, 39, 8] [[], [], [1], [0, 2], [3], [4], [4, 5], [4], [4], [4, 7, 8], [4, 9], [4, 6, 10], [4, 11], [0, 1, 2, 3, 4, 5, 6, 7, 8, 9, 10, 11, 12]] Fs4 hFs4 mixed (by kernel_rfl) (by kernel_rfl) ?_ ?_
      · intro wd X0
        refine DagSteps.cons (fun s' w' X U H => Or.inl ⟨?_, ?_⟩) ?_
        · exact Guarded_none rfl
        · exact Does_val (r_move (U 3 rfl)) (Ext.refl _) rfl
        refine DagSteps.cons (fun s' w' X U H => Or.inl ⟨?_, ?_⟩) ?_
        · exact Guarded_none rfl
        · exact Does_val (r_move (U 2 rfl)) (Ext.refl _) rfl
        refine DagSteps.cons (fun s' w' X U H => Or.inl ⟨?_, ?_⟩) ?_
        · exact Guarded_none rfl
        · have e28 : s' 28 = (.int .i64 ((i : Nat) : Int)) := H 1 rfl 28 (.eq (.int .i64 ((i : Nat) : Int))) rfl (by rw [hFs4]; rfl)
          exact Does_val (r_add e28 rfl (wI64 (by omega))) (Ext.refl _) rfl
        refine DagSteps.cons (fun s' w' X U H => Or.inl ⟨?_, ?_⟩) ?_
        · exact Guarded_none rfl
        · have e27 : s' 27 = (.int .i64 ((j : Nat) : Int)) := H 0 rfl 27 (.eq (.int .i64 ((j : Nat) : Int))) rfl (by rw [hFs4]; rfl)
          have e29 : s' 29 = (.int .i64 (((i : Nat) : Int) + 1)) := H 2 rfl 29 (.eq (.int .i64 (((i : Nat) : Int) + 1))) rfl (by rw [hFs4]; rfl)
          exact Does_val (Eq.trans (r_eql e27 e29) (by rw [hkn])) (Ext.refl _) rfl
        refine DagSteps.cons (fun s' w' X U H => Or.inl ⟨?_, ?_⟩) ?_
        · exact Guarded_none rfl
        · have e30 : s' 30 = (.bool false) := H 3 rfl 30 (.eq (.bool false)) rfl (by rw [hFs4]; rfl)
          exact Does_val (r_move e30) (Ext.refl _) rfl
        refine DagSteps.cons (fun s' w' X U H => Or.inr ⟨?_, rfl⟩) ?_
        · exact Unmet_mk rfl rfl (d := 31) (Or.inl (H 4 rfl 31 (.eq (.bool false)) rfl (by rw [hFs4]; rfl)))
        refine DagSteps.cons (fun s' w' X U H => Or.inr ⟨?_, rfl⟩) ?_
        · exact Unmet_mk rfl rfl (d := 31) (Or.inl (H 4 rfl 31 (.eq (.bool false)) rfl (by rw [hFs4]; rfl)))
        refine DagSteps.cons (fun s' w' X U H => Or.inr ⟨?_, rfl⟩) ?_
        · exact Unmet_mk rfl rfl (d := 31) (Or.inl (H 4 rfl 31 (.eq (.bool false)) rfl (by rw [hFs4]; rfl)))
        refine DagSteps.cons (fun s' w' X U H => Or.inr ⟨?_, rfl⟩) ?_
        · exact Unmet_mk rfl rfl (d := 31) (Or.inl (H 4 rfl 31 (.eq (.bool false)) rfl (by rw [hFs4]; rfl)))
        refine DagSteps.cons (fun s' w' X U H => Or.inr ⟨?_, rfl⟩) ?_
        · exact Unmet_mk rfl rfl (d := 31) (Or.inl (H 4 rfl 31 (.eq (.bool false)) rfl (by rw [hFs4]; rfl)))
        refine DagSteps.cons (fun s' w' X U H => Or.inr ⟨?_, rfl⟩) ?_
        · exact Unmet_mk rfl rfl (d := 31) (Or.inl (H 4 rfl 31 (.eq (.bool false)) rfl (by rw [hFs4]; rfl)))
        refine DagSteps.cons (fun s' w' X U H => Or.inr ⟨?_, rfl⟩) ?_
        · exact Unmet_mk rfl rfl (d := 31) (Or.inl (H 4 rfl 31 (.eq (.bool false)) rfl (by rw [hFs4]; rfl)))
        refine DagSteps.cons (fun s' w' X U H => Or.inl ⟨?_, ?_⟩) ?_
        · exact Guarded_none rfl
        · have e31 : s' 31 = (.bool false) := H 4 rfl 31 (.eq (.bool false)) rfl (by rw [hFs4]; rfl)
          exact Does_val (r_pick e31 rfl) (Ext.refl _) rfl
        refine DagSteps.cons (fun s' w' X U H => Or.inl ⟨?_, ?_⟩) ?_
        · exact Guarded_none rfl
        · have e39 : s' 39 = (.bool false) := H 12 rfl 39 (.eq (.bool false)) rfl (by rw [hFs4]; rfl)
          exact Does_val (r_assign e39) (Ext.refl _) rfl
        exact DagSteps.nil
      · intro s' w4 X4 U H
        obtain ⟨j4, rfl⟩ := Fits.out (σ := s') (l := [(8, (.bool false))]) ⟨(show s' 8 = (.bool false) from H 13 8 (.eq (.bool false)) rfl (by rw [hFs4]; rfl)), trivial⟩
        clear U H
        replace B1 := X4.keep B1
        replace E := E.ext X4
        refine thn_normal (Wp_ret (inB_ret (thn_ret ?_)))
        refine fin_tmp Tryz.results55 (v := (.bool false)) rfl ?_
        exact ⟨bool_false (by rw [hEq]; simp [h2]), E⟩
    · have kh2 := h2
      replace h2 := of_decide_eq_false h2
      refine Wp_seq_region ?_
      refine qV (r_eql rfl rfl) ?_
      refine qA _ rfl ?_
      refine WpL_nil ?_
      refine Wp_cond rfl (fun h3 => ?_) (fun h3 => ?_)
      · have kh3 := h3
        replace h3 := of_decide_eq_true h3
        have hlen0 : 0 < t.args.length := by
          rcases hok with ⟨_, h, _, _⟩ | ⟨_, h⟩
          · exact h
          · exact absurd h3 h
        obtain ⟨x, hx⟩ := get_of_lt (l := t.args) (i := 0) (by omega)
        have hxo := okRes_get hoka hx
        have hxs := Re.size_arg hx
        obtain ⟨ab, ao, rfl, hres⟩ := args_at hargs (by omega)
        obtain ⟨us, hus, hxt⟩ := hres.get hx
        have hcons : t.args = x :: t.args.drop 1 := by rw [← drop_cons hx]; rfl
        refine Wp_seq (Wp_seq_region ?_)
        refine qF b1 0 2 rfl Tryz.underlying25 rfl siz23 rfl ?_
        refine qV (r_load rfl flat23 (B1.cell rfl)) ?_
        refine qV (r_lenSlice Tryz.underlying23 rfl) ?_
        refine qV (r_eql rfl rfl) ?_
        refine WpL_nil ?_
        refine Wp_cond rfl (fun hl1 => ?_) (fun hl1 => ?_)
        · have khl1 := hl1
          replace hl1 := of_decide_eq_true hl1
          refine Wp_seq_region ?_
          refine qF b1 0 2 rfl Tryz.underlying25 rfl siz23 rfl ?_
          refine qV (r_load rfl flat23 (B1.cell rfl)) ?_
          refine qV (r_indexSlice (b := ab) (o := ao) (len := t.args.length) (cap := ac) (i := 0) (o' := ao + 0 * 6) rfl rfl rfl Tryz.underlying23 siz25 (by omega) (by omega)) ?_
          refine qV (r_loadAgg rfl agg25 siz25 hxt.len (hus.ext E)) ?_
          refine qM _ rfl ?_
          refine qM _ rfl ?_
          refine qM (I6 (j : Int)) rfl ?_
          refine WpL_enter rfl rfl (by decide) (r_callF (vs := [(.agg us.toArray), (.slice ta text.length tc), (I6 (i : Int)), (I6 (j : Int))]) Tryz.func55 nm55 bd55 rfl) (ih x i j hij hj (Nat.lt_of_lt_of_le (nms_sub hxs (okM_mx (okM_of hxo))) hM') (okM_of hxo) _ us _ (ReAt.ext E x hxt) (htx.ext E)) ?_
          rintro _ w9 ⟨rfl, X9⟩
          replace B1 := X9.keep B1
          replace E := E.ext X9
          refine qA (.bool (emptR x)) rfl ?_
          refine WpL_nil (Wp_ret (thn_ret (inB_ret (thn_ret ?_))))
          refine fin_tmp Tryz.results55 (v := (.bool (emptR x))) rfl ?_
          exact ⟨bool_eq (by rw [hEq, if_neg (by omega), if_pos (.inl h3), hcons, List.drop_eq_nil_of_le (by omega)]; simp [emptRs]), E⟩
        · have khl1 := hl1
          replace hl1 := of_decide_eq_false hl1
          have hsp : emptR t = (emptR x && emptR (.mk 3 [] (t.args.drop 1) 0 0 false)) := emptR_split (by rw [hEq, if_neg (by omega), if_pos (.inl h3)]) hcons
          refine Wp_skip (thn_normal (Wp_seq_region ?_))
          refine qF b1 0 2 rfl Tryz.underlying25 rfl siz23 rfl ?_
          refine qV (r_load (v := (.slice (some ⟨ab, ao, none⟩) t.args.length ac)) rfl flat23 (B1.cell rfl)) ?_
          obtain ⟨sl, hsl⟩ : ∃ a' : Option Addr, (if ac = 1 then (some ⟨ab, ao, none⟩) else Option.map (fun q : Addr => q.add (1 * 6)) (some ⟨ab, ao, none⟩)) = a' := ⟨_, rfl⟩
          refine qV (r_sliceLo (a := (some ⟨ab, ao, none⟩)) (len := t.args.length) (cap := ac) (lo := 1) (l := 1) (n' := (t.args.length - 1)) (c' := (ac - 1)) Tryz.underlying23 siz25 rfl rfl (by omega) (by omega) hsl (by omega) (by omega)) ?_
          rw [if_neg (by omega)] at hsl
          simp only [Option.map_some, Addr.add_lit] at hsl
          subst hsl
          have hdl : (t.args.drop 1).length = t.args.length - 1 := by simp
          have hrest : ReAt w0 (.mk 3 [] (t.args.drop 1) 0 0 false) [.int .i64 3, .slice none 0 0, .slice (some ⟨ab, ao + 1 * 6, none⟩) (t.args.length - 1) (ac - 1), .int .i64 0, .int .i64 0, .bool false] := by
            rw [← hdl]
            refine ReAt.of (set := []) (SlAt.nil _ _ _ _) ⟨by omega, by omega⟩ (.inr ⟨ab, ao + 1 * 6, rfl, ResAt.mk fun i' t' ht' => ?_⟩)
            rw [List.getElem?_drop] at ht'
            have := hres.get ht'
            rwa [show ao + (1 + i') * 6 = ao + 1 * 6 + i' * 6 from by omega] at this
          have hroka : okRes (t.args.drop 1) := by rw [hcons] at hoka; simp only [okRes] at hoka; exact hoka.2
          have hrok : okM (.mk 3 [] (t.args.drop 1) 0 0 false) := .inl ⟨rfl, by show 0 < (t.args.drop 1).length; omega, hroka, rfl⟩
          have hrs : (Re.mk 3 [] (t.args.drop 1) 0 0 false).size < t.size := by
            have hz : Re.sizes t.args = x.size + Re.sizes (t.args.drop 1) := by rw [hcons]; simp [Re.sizes]
            have hp := x.size_pos
            rw [Re.size_eq, Re.size_eq t]
            show Re.sizes (t.args.drop 1) + 1 < _
            omega
          refine qV (r_build (ps := [(0, (I6 3)), (2, (.slice (some ⟨ab, ao + 1 * 6, none⟩) (t.args.length - 1) (ac - 1)))]) (v := (.agg #[(I6 3), (.slice none 0 0), (.slice (some ⟨ab, ao + 1 * 6, none⟩) (t.args.length - 1) (ac - 1)), (I6 0), (I6 0), (.bool false)])) rfl (by kernel_rfl)) ?_
          refine s_allocStore (v := (.agg #[(I6 3), (.slice none 0 0), (.slice (some ⟨ab, ao + 1 * 6, none⟩) (t.args.length - 1) (ac - 1)), (I6 0), (I6 0), (.bool false)])) (c := #[(I6 3), (.slice none 0 0), (.slice (some ⟨ab, ao + 1 * 6, none⟩) (t.args.length - 1) (ac - 1)), (I6 0), (I6 0), (.bool false)]) (n := 6) (by decide) zer25 rfl siz25 rfl rfl rfl (by simp [Value.oneCell']) ?_
          intro bq wq Nq
          have Fq := Nq.ge E
          have Oq_b1 := Nq.lt B1
          replace B1 := Nq.keep B1
          replace E := E.ext Nq.ext
          have Bq := Nq.blk
          refine WpL_nil (Wp_seq_region ?_)
          refine qM _ rfl ?_
          refine qA _ rfl ?_
          refine WpL_nil (Wp_block ?_)
          refine Wp_loop (fun nn_ σ W7 => ∃ (k : Nat), (∃ jj_, σ = upds jj_ [(1, (.slice ta text.length tc)), (2, (I6 (i : Int))), (3, (I6 (j : Int))), (4, (P6 b1 0)), (9, (P6 bq 0)), (10, (I6 (k : Int)))]) ∧ Chg none1 w0 W7 ∧ Blk W7 b1 (R6 t sa sc (some ⟨ab, ao, none⟩) ac) 25 ∧ Blk W7 bq #[(I6 3), (.slice none 0 0), (.slice (some ⟨ab, ao + 1 * 6, none⟩) (t.args.length - 1) (ac - 1)), (I6 0), (I6 0), (.bool false)] 25 ∧ (i ≤ k ∧ k ≤ j + 1) ∧ (∀ m, i ≤ m → m < k → ¬ (emptR x = true ∧ emptR (.mk 3 [] (t.args.drop 1) 0 0 false) = true)) ∧ nn_ = j + 1 - k) (n := j + 1 - i) ?_ ?_
          · exact ⟨i, Fits.out ⟨rfl, rfl, rfl, rfl, rfl, rfl, trivial⟩, E, B1, Bq, (by omega), (fun m h1 h2 => by omega), rfl⟩
          · clear E B1 Bq
            rintro _ _ W7 ⟨k, ⟨j7, rfl⟩, E, B1, Bq, hk, hp, rfl⟩
            refine Wp_seq (Wp_seq_region ?_)
            refine qM _ rfl ?_
            refine qM _ rfl ?_
            refine qV (r_leq rfl rfl) ?_
            refine WpL_nil ?_
            refine Wp_cond rfl (fun hlt => ?_) (fun hlt => ?_)
            · have khlt := hlt
              replace hlt := of_decide_eq_true hlt
              refine Wp_skip (thn_normal (Wp_seq (Wp_block (Wp_seq_region ?_))))
              refine qF b1 0 2 rfl Tryz.underlying25 rfl siz23 rfl ?_
              refine qV (r_load rfl flat23 (B1.cell rfl)) ?_
              refine qV (r_indexSlice (b := ab) (o := ao) (len := t.args.length) (cap := ac) (i := 0) (o' := ao + 0 * 6) rfl rfl rfl Tryz.underlying23 siz25 (by omega) (by omega)) ?_
              refine qV (r_loadAgg rfl agg25 siz25 hxt.len (hus.ext E)) ?_
              refine qM _ rfl ?_
              refine qM _ rfl ?_
              refine qM _ rfl ?_
              refine WpL_enter rfl rfl (by decide) (r_callF Tryz.func55 nm55 bd55 rfl) (ih x i k (by omega) (by omega) (Nat.lt_of_lt_of_le (nms_sub hxs (okM_mx (okM_of hxo))) hM') (okM_of hxo) _ us _ (ReAt.ext E x hxt) (htx.ext E)) ?_
              rintro _ w9 ⟨rfl, X9⟩
              replace B1 := X9.keep B1
              replace Bq := X9.keep Bq
              replace E := E.ext X9
              refine qM _ rfl ?_
              rcases Bool.eq_false_or_eq_true (emptR x) with hA | hA
              · have khA := hA
                refine WpL_guard_yes rfl rfl (by decide) (congrArg Value.bool hA) ?_
                refine qV (r_loadAgg (vs := [(I6 3), (.slice none 0 0), (.slice (some ⟨ab, ao + 1 * 6, none⟩) (t.args.length - 1) (ac - 1)), (I6 0), (I6 0), (.bool false)]) rfl agg25 siz25 rfl (Bq.cells rfl)) ?_
                refine WpL_guard_yes rfl rfl (by decide) (congrArg Value.bool hA) ?_
                refine qM _ rfl ?_
                refine WpL_guard_yes rfl rfl (by decide) (congrArg Value.bool hA) ?_
                refine qM _ rfl ?_
                refine WpL_guard_yes rfl rfl (by decide) (congrArg Value.bool hA) ?_
                refine qM _ rfl ?_
                refine WpL_guard_yes rfl rfl (by decide) (congrArg Value.bool hA) ?_
                refine WpL_enter rfl rfl (by decide) (r_callF Tryz.func55 nm55 bd55 rfl) (ih _ k j (by omega) (by omega) (Nat.lt_of_lt_of_le (nms_sub hrs (Nat.zero_le _)) hM') hrok _ _ _ (ReAt.ext E _ hrest) (htx.ext E)) ?_
                rintro _ w19 ⟨rfl, X19⟩
                replace B1 := X19.keep B1
                replace Bq := X19.keep Bq
                replace E := E.ext X19
                refine qV (r_pick (v := (.bool (emptR (.mk 3 [] (t.args.drop 1) 0 0 false)))) rfl (by rw [hA]; rfl)) ?_
                refine WpL_nil ?_
                refine Wp_cond rfl (fun hB => ?_) (fun hB => ?_)
                · have khB := hB
                  refine Wp_seq_region ?_
                  refine qA _ rfl ?_
                  refine WpL_nil (Wp_ret (inB_ret (thn_ret (thn_ret (inB_ret (inB_ret (thn_ret ?_)))))))
                  refine fin_tmp Tryz.results55 (v := (.bool true)) rfl ?_
                  exact ⟨bool_true (by rw [hsp, hA, hB]; rfl), E⟩
                · have khB := hB
                  refine Wp_skip (inB_normal (thn_normal (Wp_region ?_)))
                  refine qM _ rfl ?_
                  refine qV (r_add rfl rfl (wI64 (by omega))) ?_
                  refine qA _ rfl ?_
                  refine WpL_nil (thn_normal ?_)
                  exact ⟨j + 1 - (k + 1), by omega, k + 1, Fits.out ⟨rfl, rfl, rfl, rfl, rfl, rfl, trivial⟩, E, B1, Bq, (by omega), search_next hp (fun h => absurd h.2 (by rw [hB]; decide)), rfl⟩
              · have khA := hA
                refine WpL_guard_no rfl rfl (by decide) (v := .bool false) (congrArg Value.bool hA) (Or.inl rfl) ?_
                refine WpL_guard_no rfl rfl (by decide) (v := .bool false) (congrArg Value.bool hA) (Or.inl rfl) ?_
                refine WpL_guard_no rfl rfl (by decide) (v := .bool false) (congrArg Value.bool hA) (Or.inl rfl) ?_
                refine WpL_guard_no rfl rfl (by decide) (v := .bool false) (congrArg Value.bool hA) (Or.inl rfl) ?_
                refine WpL_guard_no rfl rfl (by decide) (v := .bool false) (congrArg Value.bool hA) (Or.inl rfl) ?_
                refine qV (r_pick (v := (.bool false)) rfl (by rw [hA]; rfl)) ?_
                refine WpL_nil ?_
                refine Wp_cond_false rfl ?_
                refine Wp_skip (inB_normal (thn_normal (Wp_region ?_)))
                refine qM _ rfl ?_
                refine qV (r_add rfl rfl (wI64 (by omega))) ?_
                refine qA _ rfl ?_
                refine WpL_nil (thn_normal ?_)
                exact ⟨j + 1 - (k + 1), by omega, k + 1, Fits.out ⟨rfl, rfl, rfl, rfl, rfl, rfl, trivial⟩, E, B1, Bq, (by omega), search_next hp (fun h => absurd h.1 (by rw [hA]; decide)), rfl⟩
            · have khlt := hlt
              replace hlt := of_decide_eq_false hlt
              refine Wp_exit (thn_exit (thn_exit (inB_here (inB_normal (thn_normal (Wp_seq_region ?_))))))
              refine qA _ rfl ?_
              refine WpL_nil (Wp_ret ?_)
              refine fin_tmp Tryz.results55 (v := (.bool false)) rfl ?_
              exact ⟨bool_false (fun h => by rw [hsp, Bool.and_eq_true] at h; exact hp 0 (by omega) (by omega) h), E⟩
      · have kh3 := h3
        replace h3 := of_decide_eq_false h3
        have hokr : okRe t := by
          rcases hok with ⟨h, _⟩ | ⟨h, _⟩
          · exact absurd h h3
          · exact h
        refine Wp_seq_region ?_
        refine qV (r_eql rfl rfl) ?_
        refine qA _ rfl ?_
        refine WpL_nil ?_
        refine Wp_cond rfl (fun h4 => ?_) (fun h4 => ?_)
        · have kh4 := h4
          replace h4 := of_decide_eq_true h4
          have hsp : emptR t = t.args.any emptR := by rw [hEq, if_neg (by omega), if_neg (by omega), if_pos h4, emptAny_any]
          refine Wp_seq_region ?_
          refine qF b1 0 2 rfl Tryz.underlying25 rfl siz23 rfl ?_
          refine qV (r_load rfl flat23 (B1.cell rfl)) ?_
          refine qV (r_lenSlice Tryz.underlying23 rfl) ?_
          refine qM _ rfl ?_
          refine WpL_nil (Wp_block ?_)
          refine Wp_loop (fun nn_ σ W12 => ∃ (k : Nat), (∃ jj_, σ = upds jj_ [(1, (.slice ta text.length tc)), (2, (I6 (i : Int))), (3, (I6 (j : Int))), (82, (.slice aa t.args.length ac)), (83, (I6 (t.args.length : Int))), (84, (I6 (k : Int)))]) ∧ Chg none1 w0 W12 ∧ Blk W12 b1 (R6 t sa sc aa ac) 25 ∧ (k ≤ t.args.length) ∧ (t.args.any emptR = (t.args.drop k).any emptR) ∧ nn_ = t.args.length - k) (n := t.args.length - 0) ?_ ?_
          · exact ⟨0, Fits.out ⟨rfl, rfl, rfl, rfl, rfl, rfl, trivial⟩, E, B1, Nat.zero_le _, rfl, rfl⟩
          · clear E B1
            rintro _ _ W12 ⟨k, ⟨j12, rfl⟩, E, B1, hk, hp, rfl⟩
            refine Wp_seq_region ?_
            refine qV (r_lss rfl rfl) ?_
            refine WpL_nil (Wp_seq ?_)
            refine Wp_cond rfl (fun hlt => ?_) (fun hlt => ?_)
            · have khlt := hlt
              replace hlt := of_decide_eq_true hlt
              obtain ⟨x, hx⟩ := get_of_lt (l := t.args) (i := k) (by omega)
              have hxo := okRes_get hoka hx
              have hxs := Re.size_arg hx
              obtain ⟨ab, ao, rfl, hres⟩ := args_at hargs (by omega)
              obtain ⟨us, hus, hxt⟩ := hres.get hx
              have hd := drop_cons hx
              refine Wp_skip (thn_normal (Wp_seq (Wp_block (Wp_seq_region ?_))))
              refine qV (r_indexSlice (b := ab) (o := ao) (len := t.args.length) (cap := ac) (i := k) (o' := ao + k * 6) rfl rfl rfl Tryz.underlying23 siz25 (by omega) (by omega)) ?_
              refine qV (r_loadAgg rfl agg25 siz25 hxt.len (hus.ext E)) ?_
              refine s_allocStore (v := (.agg us.toArray)) (c := us.toArray) (n := 6) (by decide) zer25 rfl siz25 rfl rfl (by simpa using hxt.len) (by simpa using ReAt.one hxt) ?_
              intro b14 w14 N14
              have F14 := N14.ge E
              have O14_b1 := N14.lt B1
              replace B1 := N14.keep B1
              replace E := E.ext N14.ext
              have B14 := N14.blk
              refine WpL_nil (Wp_seq_region ?_)
              refine qV (r_loadAgg rfl agg25 siz25 hxt.len (B14.cells (by simp))) ?_
              refine qM _ rfl ?_
              refine qM _ rfl ?_
              refine qM _ rfl ?_
              refine WpL_enter rfl rfl (by decide) (r_callF Tryz.func55 nm55 bd55 rfl) (ih x i j hij hj (Nat.lt_of_lt_of_le (nms_sub hxs (okM_mx (okM_of hxo))) hM') (okM_of hxo) _ us _ (ReAt.ext E x hxt) (htx.ext E)) ?_
              rintro _ w9 ⟨rfl, X9⟩
              replace B1 := X9.keep B1
              replace B14 := X9.keep B14
              replace E := E.ext X9
              refine WpL_nil ?_
              refine Wp_cond rfl (fun hB => ?_) (fun hB => ?_)
              · have khB := hB
                refine Wp_seq_region ?_
                refine qA _ rfl ?_
                refine WpL_nil (Wp_ret (inB_ret (thn_ret (thn_ret (inB_ret (inB_ret (thn_ret ?_)))))))
                refine fin_tmp Tryz.results55 (v := (.bool true)) rfl ?_
                exact ⟨bool_true (by rw [hsp, hp, hd, List.any_cons, hB]; rfl), E⟩
              · have khB := hB
                refine Wp_skip (inB_normal (thn_normal (Wp_region ?_)))
                refine qV (r_add rfl rfl (wI64 (by omega))) ?_
                refine qM _ rfl ?_
                refine WpL_nil (thn_normal ?_)
                exact ⟨t.args.length - (k + 1), by omega, k + 1, Fits.out ⟨rfl, rfl, rfl, rfl, rfl, rfl, trivial⟩, E, B1, (by omega), (by rw [hp, hd, List.any_cons, hB]; rfl), rfl⟩
            · have khlt := hlt
              replace hlt := of_decide_eq_false hlt
              have hkl : t.args.drop k = [] := List.drop_eq_nil_of_le (by omega)
              refine Wp_exit (thn_exit (thn_exit (inB_here (inB_normal (thn_normal (Wp_seq_region ?_))))))
              refine qA _ rfl ?_
              refine WpL_nil (Wp_ret ?_)
              refine fin_tmp Tryz.results55 (v := (.bool false)) rfl ?_
              exact ⟨bool_false (by rw [hsp, hp, hkl]; simp), E⟩
        · have kh4 := h4
          replace h4 := of_decide_eq_false h4
          refine Wp_seq_region ?_
          refine qV (r_eql rfl rfl) ?_
          refine qA _ rfl ?_
          refine WpL_nil ?_
          refine Wp_cond rfl (fun h5 => ?_) (fun h5 => ?_)
          · have kh5 := h5
            replace h5 := of_decide_eq_true h5
            have hone := okRe_one hokr (by omega)
            obtain ⟨x, hx⟩ := get_of_lt (l := t.args) (i := 0) (by omega)
            have hxo := okRes_get hoka hx
            have hxs := Re.size_arg hx
            obtain ⟨ab, ao, rfl, hres⟩ := args_at hargs (by omega)
            obtain ⟨us, hus, hxt⟩ := hres.get hx
            refine Wp_seq (Wp_seq_region ?_)
            refine qM _ rfl ?_
            refine qM _ rfl ?_
            refine qV (r_eql rfl rfl) ?_
            refine WpL_nil ?_
            have hc17 : (decide ((((i : Nat) : Int) : Int) = ((j : Nat) : Int))) = true := decide_eq_true (by omega)
            refine Wp_cond_true (congrArg Value.bool hc17) ?_
            refine Wp_seq_region ?_
            refine qA _ rfl ?_
            refine WpL_nil (Wp_ret (thn_ret (inB_ret (thn_ret ?_))))
            refine fin_tmp Tryz.results55 (v := (.bool true)) rfl ?_
            exact ⟨bool_true (by rw [hEq, if_pos (.inr h5)]), E⟩
          · have kh5 := h5
            replace h5 := of_decide_eq_false h5
            refine Wp_seq_region ?_
            refine qV (r_eql rfl rfl) ?_
            refine qA _ rfl ?_
            refine WpL_nil ?_
            refine Wp_cond rfl (fun h6 => ?_) (fun h6 => ?_)
            · have kh6 := h6
              replace h6 := of_decide_eq_true h6
              refine Wp_seq_region ?_
              refine qV (r_loadAgg (vs := [(I6 t.kind), (.slice sa t.set.length sc), (.slice aa t.args.length ac), (I6 t.mn), (I6 t.mx), (.bool t.neg)]) rfl agg25 siz25 rfl (B1.cells rfl)) ?_
              refine qM _ rfl ?_
              refine qM _ rfl ?_
              refine qM _ rfl ?_
              refine WpL_enter rfl rfl (by decide) (r_callF Tryz.func92 nm92 bd92 rfl) (nrep_c text hn M ih t i j hij hj hM' hokr h6 _ _ _ (ReAt.ext E t ht0) (htx.ext E)) ?_
              rintro _ w9 ⟨rfl, X9⟩
              replace B1 := X9.keep B1
              replace E := E.ext X9
              refine qA _ rfl ?_
              refine WpL_nil (Wp_ret (inB_ret (thn_ret ?_)))
              refine fin_tmp Tryz.results55 (v := (.bool (emptR t))) rfl ?_
              exact ⟨rfl, E⟩
            · have kh6 := h6
              replace h6 := of_decide_eq_false h6
              refine Wp_seq_region ?_
              refine qV (r_eql rfl rfl) ?_
              refine qA _ rfl ?_
              refine WpL_nil ?_
              refine Wp_cond rfl (fun h7 => ?_) (fun h7 => ?_)
              · have kh7 := h7
                replace h7 := of_decide_eq_true h7
                have hsp : emptR t = t.args.all emptR := by rw [hEq, if_neg (by omega), if_pos (by omega), emptRs_all]
                refine Wp_seq (Wp_seq_region ?_)
                refine qF b1 0 2 rfl Tryz.underlying25 rfl siz23 rfl ?_
                refine qV (r_load rfl flat23 (B1.cell rfl)) ?_
                refine qV (r_lenSlice Tryz.underlying23 rfl) ?_
                refine qM _ rfl ?_
                refine WpL_nil (Wp_block ?_)
                refine Wp_loop (fun nn_ σ W20 => ∃ (k : Nat), (∃ jj_, σ = upds jj_ [(1, (.slice ta text.length tc)), (2, (I6 (i : Int))), (3, (I6 (j : Int))), (131, (.slice aa t.args.length ac)), (132, (I6 (t.args.length : Int))), (133, (I6 (k : Int)))]) ∧ Chg none1 w0 W20 ∧ Blk W20 b1 (R6 t sa sc aa ac) 25 ∧ (k ≤ t.args.length) ∧ (t.args.all emptR = (t.args.drop k).all emptR) ∧ nn_ = t.args.length - k) (n := t.args.length - 0) ?_ ?_
                · exact ⟨0, Fits.out ⟨rfl, rfl, rfl, rfl, rfl, rfl, trivial⟩, E, B1, Nat.zero_le _, rfl, rfl⟩
                · clear E B1
                  rintro _ _ W20 ⟨k, ⟨j20, rfl⟩, E, B1, hk, hp, rfl⟩
                  refine Wp_seq_region ?_
                  refine qV (r_lss rfl rfl) ?_
                  refine WpL_nil (Wp_seq ?_)
                  refine Wp_cond rfl (fun hlt => ?_) (fun hlt => ?_)
                  · have khlt := hlt
                    replace hlt := of_decide_eq_true hlt
                    obtain ⟨x, hx⟩ := get_of_lt (l := t.args) (i := k) (by omega)
                    have hxo := okRes_get hoka hx
                    have hxs := Re.size_arg hx
                    obtain ⟨ab, ao, rfl, hres⟩ := args_at hargs (by omega)
                    obtain ⟨us, hus, hxt⟩ := hres.get hx
                    have hd := drop_cons hx
                    refine Wp_skip (thn_normal (Wp_seq (Wp_block (Wp_seq_region ?_))))
                    refine qV (r_indexSlice (b := ab) (o := ao) (len := t.args.length) (cap := ac) (i := k) (o' := ao + k * 6) rfl rfl rfl Tryz.underlying23 siz25 (by omega) (by omega)) ?_
                    refine qV (r_loadAgg rfl agg25 siz25 hxt.len (hus.ext E)) ?_
                    refine s_allocStore (v := (.agg us.toArray)) (c := us.toArray) (n := 6) (by decide) zer25 rfl siz25 rfl rfl (by simpa using hxt.len) (by simpa using ReAt.one hxt) ?_
                    intro b22 w22 N22
                    have F22 := N22.ge E
                    have O22_b1 := N22.lt B1
                    replace B1 := N22.keep B1
                    replace E := E.ext N22.ext
                    have B22 := N22.blk
                    refine WpL_nil (Wp_seq_region ?_)
                    refine qV (r_loadAgg rfl agg25 siz25 hxt.len (B22.cells (by simp))) ?_
                    refine qM _ rfl ?_
                    refine qM _ rfl ?_
                    refine qM _ rfl ?_
                    refine WpL_enter rfl rfl (by decide) (r_callF Tryz.func55 nm55 bd55 rfl) (ih x i j hij hj (Nat.lt_of_lt_of_le (nms_sub hxs (okM_mx (okM_of hxo))) hM') (okM_of hxo) _ us _ (ReAt.ext E x hxt) (htx.ext E)) ?_
                    rintro _ w9 ⟨rfl, X9⟩
                    replace B1 := X9.keep B1
                    replace B22 := X9.keep B22
                    replace E := E.ext X9
                    refine qV (r_not rfl) ?_
                    refine WpL_nil ?_
                    refine Wp_cond rfl (fun hB => ?_) (fun hB => ?_)
                    · have khB := hB
                      replace hB := by simpa using hB
                      refine Wp_seq_region ?_
                      refine qA _ rfl ?_
                      refine WpL_nil (Wp_ret (inB_ret (thn_ret (thn_ret (inB_ret (thn_ret (inB_ret (thn_ret ?_))))))))
                      refine fin_tmp Tryz.results55 (v := (.bool false)) rfl ?_
                      exact ⟨bool_false (by rw [hsp, hp, hd, List.all_cons, hB]; simp), E⟩
                    · have khB := hB
                      replace hB := by simpa using hB
                      refine Wp_skip (inB_normal (thn_normal (Wp_region ?_)))
                      refine qV (r_add rfl rfl (wI64 (by omega))) ?_
                      refine qM _ rfl ?_
                      refine WpL_nil (thn_normal ?_)
                      exact ⟨t.args.length - (k + 1), by omega, k + 1, Fits.out ⟨rfl, rfl, rfl, rfl, rfl, rfl, trivial⟩, E, B1, (by omega), (by rw [hp, hd, List.all_cons, hB]; rfl), rfl⟩
                  · have khlt := hlt
                    replace hlt := of_decide_eq_false hlt
                    have hkl : t.args.drop k = [] := List.drop_eq_nil_of_le (by omega)
                    refine Wp_exit (thn_exit (thn_exit (inB_here (thn_normal (Wp_seq_region ?_)))))
                    refine qA _ rfl ?_
                    refine WpL_nil (Wp_ret (inB_ret (thn_ret ?_)))
                    refine fin_tmp Tryz.results55 (v := (.bool true)) rfl ?_
                    exact ⟨bool_true (by rw [hsp, hp, hkl]; rfl), E⟩
              · have kh7 := h7
                replace h7 := of_decide_eq_false h7
                refine Wp_seq_region ?_
                refine qV (r_eql rfl rfl) ?_
                refine qA _ rfl ?_
                refine WpL_nil ?_
                refine Wp_cond rfl (fun h8 => ?_) (fun h8 => ?_)
                · have kh8 := h8
                  replace h8 := of_decide_eq_true h8
                  have hone := okRe_one hokr (by omega)
                  obtain ⟨x, hx⟩ := get_of_lt (l := t.args) (i := 0) (by omega)
                  have hxo := okRes_get hoka hx
                  have hxs := Re.size_arg hx
                  obtain ⟨ab, ao, rfl, hres⟩ := args_at hargs (by omega)
                  obtain ⟨us, hus, hxt⟩ := hres.get hx
                  refine Wp_seq_region ?_
                  refine qF b1 0 2 rfl Tryz.underlying25 rfl siz23 rfl ?_
                  refine qV (r_load rfl flat23 (B1.cell rfl)) ?_
                  refine qV (r_indexSlice (b := ab) (o := ao) (len := t.args.length) (cap := ac) (i := 0) (o' := ao + 0 * 6) rfl rfl rfl Tryz.underlying23 siz25 (by omega) (by omega)) ?_
                  refine qV (r_loadAgg rfl agg25 siz25 hxt.len (hus.ext E)) ?_
                  refine qM _ rfl ?_
                  refine qM _ rfl ?_
                  refine qM _ rfl ?_
                  refine WpL_enter rfl rfl (by decide) (r_callF Tryz.func55 nm55 bd55 rfl) (ih x i j hij hj (Nat.lt_of_lt_of_le (nms_sub hxs (okM_mx (okM_of hxo))) hM') (okM_of hxo) _ us _ (ReAt.ext E x hxt) (htx.ext E)) ?_
                  rintro _ w9 ⟨rfl, X9⟩
                  replace B1 := X9.keep B1
                  replace E := E.ext X9
                  have hax : t.args = [x] := by
                    match h : t.args, hone, hx with
                    | [y], _, hy => simp at hy; rw [hy]
                  refine qV (r_not rfl) ?_
                  refine qA _ rfl ?_
                  refine WpL_nil (Wp_ret (inB_ret (thn_ret ?_)))
                  refine fin_tmp Tryz.results55 (v := (.bool (!(emptR x)))) rfl ?_
                  exact ⟨bool_eq (by rw [hEq, if_neg (by omega), if_neg (by omega), if_neg (by omega), if_neg (by omega), if_pos h8, hax]; simp [emptRs]), E⟩
                · have kh8 := h8
                  replace h8 := of_decide_eq_false h8
                  refine Wp_seq_region ?_
                  refine qV (r_eql rfl rfl) ?_
                  refine qA _ rfl ?_
                  refine WpL_nil ?_
                  refine Wp_cond rfl (fun h9 => ?_) (fun h9 => ?_)
                  · have kh9 := h9
                    replace h9 := of_decide_eq_true h9
                    have hone := okRe_one hokr (by omega)
                    obtain ⟨x, hx⟩ := get_of_lt (l := t.args) (i := 0) (by omega)
                    have hxo := okRes_get hoka hx
                    have hxs := Re.size_arg hx
                    obtain ⟨ab, ao, rfl, hres⟩ := args_at hargs (by omega)
                    obtain ⟨us, hus, hxt⟩ := hres.get hx
                    refine Wp_seq_region ?_
                    refine qF b1 0 2 rfl Tryz.underlying25 rfl siz23 rfl ?_
                    refine qV (r_load rfl flat23 (B1.cell rfl)) ?_
                    refine qV (r_indexSlice (b := ab) (o := ao) (len := t.args.length) (cap := ac) (i := 0) (o' := ao + 0 * 6) rfl rfl rfl Tryz.underlying23 siz25 (by omega) (by omega)) ?_
                    refine qV (r_loadAgg rfl agg25 siz25 hxt.len (hus.ext E)) ?_
                    refine qM _ rfl ?_
                    refine qM _ rfl ?_
                    refine qM _ rfl ?_
                    refine WpL_enter rfl rfl (by decide) (r_callF Tryz.func55 nm55 bd55 rfl) (ih x i j hij hj (Nat.lt_of_lt_of_le (nms_sub hxs (okM_mx (okM_of hxo))) hM') (okM_of hxo) _ us _ (ReAt.ext E x hxt) (htx.ext E)) ?_
                    rintro _ w9 ⟨rfl, X9⟩
                    replace B1 := X9.keep B1
                    replace E := E.ext X9
                    have hax : t.args = [x] := by
                      match h : t.args, hone, hx with
                      | [y], _, hy => simp at hy; rw [hy]
                    refine qA _ rfl ?_
                    refine WpL_nil (Wp_ret (inB_ret (thn_ret ?_)))
                    refine fin_tmp Tryz.results55 (v := (.bool (emptR x))) rfl ?_
                    exact ⟨bool_eq (by rw [hEq, if_neg (by omega), if_pos (by omega), hax]; simp [emptRs]), E⟩
                  · have kh9 := h9
                    replace h9 := of_decide_eq_false h9
                    refine Wp_seq_region ?_
                    refine qV (r_eql rfl rfl) ?_
                    refine qA _ rfl ?_
                    refine WpL_nil ?_
                    refine Wp_cond rfl (fun h10 => ?_) (fun h10 => ?_)
                    · have kh10 := h10
                      replace h10 := of_decide_eq_true h10
                      have hone := okRe_one hokr (by omega)
                      obtain ⟨x, hx⟩ := get_of_lt (l := t.args) (i := 0) (by omega)
                      have hxo := okRes_get hoka hx
                      have hxs := Re.size_arg hx
                      obtain ⟨ab, ao, rfl, hres⟩ := args_at hargs (by omega)
                      obtain ⟨us, hus, hxt⟩ := hres.get hx
                      have hax : t.args = [x] := by
                        match h : t.args, hone, hx with
                        | [y], _, hy => simp at hy; rw [hy]
                      have hsp : emptR t = (emptR x != t.neg) := by rw [hEq, if_neg (by omega), if_neg (by omega), if_neg (by omega), if_neg (by omega), if_neg (by omega), if_pos h10, hax]; simp [emptRs]
                      refine Wp_seq_region ?_
                      refine qA _ rfl ?_
                      refine WpL_nil (Wp_seq (Wp_seq_region ?_))
                      refine qM _ rfl ?_
                      refine qA _ rfl ?_
                      refine WpL_nil (Wp_block ?_)
                      refine Wp_loop (fun nn_ σ W27 => ∃ (k : Nat) (s : Bool), (∃ jj_, σ = upds jj_ [(1, (.slice ta text.length tc)), (2, (I6 (i : Int))), (3, (I6 (j : Int))), (4, (P6 b1 0)), (17, (I6 (k : Int))), (16, (.bool s))]) ∧ Chg none1 w0 W27 ∧ Blk W27 b1 (R6 t sa sc (some ⟨ab, ao, none⟩) ac) 25 ∧ (k ≤ 1) ∧ (s = (decide (k = 1) && emptR x)) ∧ nn_ = 1 - k) (n := 1 - i) ?_ ?_
                      · exact ⟨i, false, Fits.out ⟨rfl, rfl, rfl, rfl, rfl, rfl, trivial⟩, E, B1, (by omega), (by rw [hij]; rfl), rfl⟩
                      · clear E B1
                        rintro _ _ W27 ⟨k, s, ⟨j27, rfl⟩, E, B1, hk, hp, rfl⟩
                        refine Wp_seq (Wp_seq_region ?_)
                        refine qM _ rfl ?_
                        refine qM _ rfl ?_
                        refine qV (r_lenSlice Tryz.underlying46 rfl) ?_
                        obtain ⟨e28, he28⟩ : ∃ e, (decide ((((k : Nat) : Int) : Int) ≤ ((text.length : Nat) : Int))) = e := ⟨_, rfl⟩
                        refine qV ((r_leq rfl rfl).trans (by rw [he28]; try rfl)) ?_
                        refine qM _ rfl ?_
                        refine qG (.bool e28) (yU e28 (I6 (i : Int))) (by cases e28 <;> first | exact gA | exact gB | exact .inl ⟨rfl, r_move rfl⟩) ?_
                        refine qG (.bool e28) (yU e28 (I6 (j : Int))) (by cases e28 <;> first | exact gA | exact gB | exact .inl ⟨rfl, r_move rfl⟩) ?_
                        obtain ⟨e29, he29⟩ : ∃ e, (decide ((((i : Nat) : Int) : Int) = ((j : Nat) : Int))) = e := ⟨_, rfl⟩
                        refine qG (.bool e28) (yU e28 (.bool e29)) (by cases e28 <;> first | exact gA | exact gB | exact .inl ⟨rfl, (r_eql rfl rfl).trans (by rw [he29]; try rfl)⟩) ?_
                        obtain ⟨e30, he30⟩ : ∃ e, (e28 && e29) = e := ⟨_, rfl⟩
                        refine qV (r_pick (v := .bool e30) rfl (by rw [← he30]; cases e28 <;> rfl)) ?_
                        refine WpL_nil ?_
                        subst he30
                        subst he29
                        subst he28
                        refine Wp_cond rfl (fun hlt => ?_) (fun hlt => ?_)
                        · have khlt := hlt
                          simp [hn] at hlt
                          refine Wp_skip (thn_normal (Wp_seq (Wp_block (Wp_region ?_))))
                          refine qM _ rfl ?_
                          refine qM _ rfl ?_
                          rcases Bool.eq_false_or_eq_true (s) with hS | hS
                          · have khS := hS
                            refine WpL_guard_no rfl rfl (by decide) (v := .bool true) (congrArg Value.bool hS) (Or.inl rfl) ?_
                            refine WpL_guard_no rfl rfl (by decide) (v := .bool true) (congrArg Value.bool hS) (Or.inl rfl) ?_
                            refine WpL_guard_no rfl rfl (by decide) (v := .bool true) (congrArg Value.bool hS) (Or.inl rfl) ?_
                            refine WpL_guard_no rfl rfl (by decide) (v := .bool true) (congrArg Value.bool hS) (Or.inl rfl) ?_
                            refine WpL_guard_no rfl rfl (by decide) (v := .bool true) (congrArg Value.bool hS) (Or.inl rfl) ?_
                            refine WpL_guard_no rfl rfl (by decide) (v := .bool true) (congrArg Value.bool hS) (Or.inl rfl) ?_
                            refine WpL_guard_no rfl rfl (by decide) (v := .bool true) (congrArg Value.bool hS) (Or.inl rfl) ?_
                            refine WpL_guard_no rfl rfl (by decide) (v := .bool true) (congrArg Value.bool hS) (Or.inl rfl) ?_
                            refine qV (r_pick (v := (.bool true)) rfl (by rw [hS]; rfl)) ?_
                            refine qA _ rfl ?_
                            refine WpL_nil (inB_normal (thn_normal (Wp_region ?_)))
                            refine qM _ rfl ?_
                            refine qV (r_add rfl rfl (wI64 (by omega))) ?_
                            refine qA _ rfl ?_
                            refine WpL_nil (thn_normal ?_)
                            exact ⟨1 - (k + 1), by omega, k + 1, true, Fits.out ⟨rfl, rfl, rfl, rfl, rfl, rfl, trivial⟩, E, B1, (by omega), (by rw [hp] at hS; simp at hS; omega), rfl⟩
                          · have khS := hS
                            refine WpL_guard_yes rfl rfl (by decide) (congrArg Value.bool hS) ?_
                            refine qF b1 0 2 rfl Tryz.underlying25 rfl siz23 rfl ?_
                            refine WpL_guard_yes rfl rfl (by decide) (congrArg Value.bool hS) ?_
                            refine qV (r_load rfl flat23 (B1.cell rfl)) ?_
                            refine WpL_guard_yes rfl rfl (by decide) (congrArg Value.bool hS) ?_
                            refine qV (r_indexSlice (b := ab) (o := ao) (len := t.args.length) (cap := ac) (i := 0) (o' := ao + 0 * 6) rfl rfl rfl Tryz.underlying23 siz25 (by omega) (by omega)) ?_
                            refine WpL_guard_yes rfl rfl (by decide) (congrArg Value.bool hS) ?_
                            refine qV (r_loadAgg rfl agg25 siz25 hxt.len (hus.ext E)) ?_
                            refine WpL_guard_yes rfl rfl (by decide) (congrArg Value.bool hS) ?_
                            refine qM _ rfl ?_
                            refine WpL_guard_yes rfl rfl (by decide) (congrArg Value.bool hS) ?_
                            refine qM _ rfl ?_
                            refine WpL_guard_yes rfl rfl (by decide) (congrArg Value.bool hS) ?_
                            refine qM _ rfl ?_
                            refine WpL_guard_yes rfl rfl (by decide) (congrArg Value.bool hS) ?_
                            refine WpL_enter rfl rfl (by decide) (r_callF Tryz.func55 nm55 bd55 rfl) (ih x i k hij (by omega) (Nat.lt_of_lt_of_le (nms_sub hxs (okM_mx (okM_of hxo))) hM') (okM_of hxo) _ us _ (ReAt.ext E x hxt) (htx.ext E)) ?_
                            rintro _ w9 ⟨rfl, X9⟩
                            replace B1 := X9.keep B1
                            replace E := E.ext X9
                            refine qV (r_pick (v := (.bool (emptR x))) rfl (by rw [hS]; rfl)) ?_
                            refine qA _ rfl ?_
                            refine WpL_nil (inB_normal (thn_normal (Wp_region ?_)))
                            refine qM _ rfl ?_
                            refine qV (r_add rfl rfl (wI64 (by omega))) ?_
                            refine qA _ rfl ?_
                            refine WpL_nil (thn_normal ?_)
                            exact ⟨1 - (k + 1), by omega, k + 1, emptR x, Fits.out ⟨rfl, rfl, rfl, rfl, rfl, rfl, trivial⟩, E, B1, (by omega), (by rw [decide_eq_true (show k + 1 = 1 by omega)]; rfl), rfl⟩
                        · have khlt := hlt
                          simp [hn] at hlt
                          refine Wp_exit (thn_exit (thn_exit (inB_here (thn_normal (Wp_seq_region ?_)))))
                          refine qM _ rfl ?_
                          refine qM _ rfl ?_
                          obtain ⟨e33, he33⟩ : ∃ e, (decide ((((i : Nat) : Int) : Int) = ((j : Nat) : Int))) = e := ⟨_, rfl⟩
                          refine qV ((r_eql rfl rfl).trans (by rw [he33]; try rfl)) ?_
                          refine qM _ rfl ?_
                          refine qG (.bool e33) (yU e33 (.bool s)) (by cases e33 <;> first | exact gA | exact gB | exact .inl ⟨rfl, r_move rfl⟩) ?_
                          refine qG (.bool e33) (yU e33 (P6 b1 5)) (by cases e33 <;> first | exact gA | exact gB | exact .inl ⟨rfl, r_fieldAddr rfl Tryz.underlying25 rfl siz4 rfl⟩) ?_
                          refine qG (.bool e33) (yU e33 (.bool t.neg)) (by cases e33 <;> first | exact gA | exact gB | exact .inl ⟨rfl, r_load rfl flat4 (B1.cell rfl)⟩) ?_
                          refine qG (.bool e33) (yU e33 (.bool (s != t.neg))) (by cases e33 <;> first | exact gA | exact gB | exact .inl ⟨rfl, r_neqB Tryz.underlying4 rfl rfl⟩) ?_
                          obtain ⟨e34, he34⟩ : ∃ e, (e33 && (s != t.neg)) = e := ⟨_, rfl⟩
                          refine qV (r_pick (v := .bool e34) rfl (by rw [← he34]; cases e33 <;> rfl)) ?_
                          refine qA _ rfl ?_
                          refine WpL_nil ?_
                          subst he34
                          subst he33
                          refine Wp_ret (inB_ret (thn_ret ?_))
                          refine fin_tmp Tryz.results55 (v := (.bool ((decide ((((i : Nat) : Int) : Int) = ((j : Nat) : Int))) && (s != t.neg)))) rfl ?_
                          exact ⟨bool_eq (by rw [hsp, hp, decide_eq_true (show k = 1 by omega), decide_eq_true (show ((i : Nat) : Int) = ((j : Nat) : Int) by omega)]; simp), E⟩
                    · have kh10 := h10
                      replace h10 := of_decide_eq_false h10
                      have h0 : t.kind = 0 := by have := okRe_form hokr; omega
                      refine Wp_skip (inB_normal (thn_normal (Wp_seq_region ?_)))
                      refine qA _ rfl ?_
                      refine WpL_nil (Wp_ret ?_)
                      refine fin_tmp Tryz.results55 (v := (.bool false)) rfl ?_
                      exact ⟨bool_false (by rw [hEq]; simp [h0]), E⟩
theorem null2_c (w0 : World) (t : Re) (vs : List Value) (ht : ReAt w0 t vs) (ho : okRe t) :
  Ret Tryz.prog 21 #[.agg vs.toArray] w0 fun v w => v = .bool (emptR t) ∧ Ext w0 w := by
 have ht0 := ht
 obtain ⟨sa, sc, aa, ac, rfl, _, _, _⟩ := ht.form
 refine Ret_of Tryz.func21 rfl Tryz.ntmps21 (Nat.le_of_ble_eq_true rfl) ?_
 have E : Chg none1 w0 w0 := Chg.refl _ _
 refine Wp_seq_region ?_
 refine s_box (v := (.agg (R6 t sa sc aa ac))) (c := (R6 t sa sc aa ac)) (by decide) rfl rfl ?_
 intro br wr Nr
 have Fr := Nr.ge E
 replace E := E.ext Nr.ext
 have Br := Nr.blk
 refine qA _ rfl ?_
 refine WpL_nil (Wp_seq_region ?_)
 refine qV (r_loadAgg (vs := [(I6 t.kind), (.slice sa t.set.length sc), (.slice aa t.args.length ac), (I6 t.mn), (I6 t.mx), (.bool t.neg)]) rfl agg25 siz25 rfl (Br.cells rfl)) ?_
 refine WpL_enter rfl rfl (by decide) (r_callF Tryz.func55 nm55 bd55 rfl) (mnull_c [] rfl (nms t + 1) t 0 0 rfl rfl (Nat.lt_succ_self _) (okM_of ho) _ _ _ (ReAt.ext E t ht0) (SlAt.nil _ _ _ _)) ?_
 rintro _ w9 ⟨rfl, X9⟩
 replace Br := X9.keep Br
 replace E := E.ext X9
 refine qA _ rfl ?_
 refine WpL_nil (Wp_ret ?_)
 refine fin_tmp Tryz.results21 (v := (.bool (emptR t))) rfl ?_
 exact ⟨rfl, E⟩
end Go.Proofs
namespace Go.Eng
open Go
theorem Wp_cutT {P : Program} {N : Nat} {Q : Post} {σ : Env} {w : World} {x : Code} {K : Env → World → Prop} (J : Env → World → Prop) (h : Wp P N x (thn J Q) σ w) (k : ∀ σ' w', J σ' w' → K σ' w') : Wp P N x (thn K Q) σ w :=
 Wp_mono h fun e σ' w' q => by cases e <;> first | exact k _ _ q | exact q
end Go.Eng
namespace Go.Proofs
open Go Go.Eng Go.Sort
set_option maxRecDepth 100000
theorem treesGet {Z : Nat → Prop} {w : World} : ∀ {ts : List Re} {rows : List (List Value)} {L : Nat → Prop} {i : Nat} {t : Re}, Trees Z w ts rows L → ts[i]? = some t → ∃ vs L', rows[i]? = some vs ∧ Tree Z w t vs L'
  | [], _, _, _, _, _, h => by simp at h
  | u :: ts, rows, L, i, t, hT, h => by
    simp only [Trees] at hT
    obtain ⟨vs, rs, L1, L2, rfl, h1, h2, _⟩ := hT
    cases i with
    | zero => simp at h; subst h; exact ⟨vs, L1, rfl, h1⟩
    | succ i =>
      obtain ⟨a, b, h3, h4⟩ := treesGet h2 (i := i) (by simpa using h)
      exact ⟨a, b, by simpa using h3, h4⟩
theorem treeRe {Z : Nat → Prop} {w : World} : ∀ (n : Nat) (t : Re) {vs : List Value} {L : Nat → Prop}, t.size ≤ n → Tree Z w t vs L → ReAt w t vs
  | 0, t, _, _, hn, _ => by have := t.size_pos; omega
  | n + 1, t, vs, L, hn, hT => by
    obtain ⟨sa, sc, aa, ac, rfl, h1, h2, h3⟩ := hT.form
    have : t = .mk t.kind t.set t.args t.mn t.mx t.neg := by cases t; rfl
    rw [this]
    refine ReAt.of (SlIn.at h1) h2 ?_
    rcases h3 with h3 | ⟨b, rows, rest, L', _, h4, h5, h6, h7, _⟩
    · exact .inl h3
    · refine .inr ⟨b, 0, h4, ResAt.mk fun i x hx => ?_⟩
      obtain ⟨us, L2, h8, h9⟩ := treesGet h7 hx
      refine ⟨us, fun j u hu => ?_, treeRe n x (by have := Re.size_arg hx; omega) h9⟩
      have h10 := rows_cells (rest := rest) h6 h8 j u hu
      rw [show 0 + i * 6 + j = i * 6 + j by omega]
      exact h5.cell (by simpa using h10)
mutual
theorem empty_same : ∀ t : Re, emptyB t = emptR t
  | .mk k s a m x g => by
    simp only [emptyB, emptR, emptyK, empty_sames a, some_sames a]
theorem empty_sames : ∀ ts : List Re, emptyAll ts = emptRs ts
  | [] => rfl
  | t :: ts => by simp only [emptyAll, emptRs, empty_same t, empty_sames ts]
theorem some_sames : ∀ ts : List Re, emptySome ts = emptAny ts
  | [] => rfl
  | t :: ts => by simp only [emptySome, emptAny, empty_same t, some_sames ts]
end
theorem fit_cap {m m' : Int} : ∀ (l : List Re) (n : Nat) (e : Int), n + l.length ≤ 1000000 → ((n + l.length : Nat) : Int) ≤ m → ((n + l.length : Nat) : Int) ≤ m' → walkL (fitF m) l (((n : Nat) : Int), e) = walkL (fitF m') l (((n : Nat) : Int), e)
  | [], _, _, _, _, _ => rfl
  | x :: l, n, e, h, h1, h2 => by
    simp only [List.length_cons] at h h1 h2
    simp only [walkL]
    rw [fitF_eq x (by omega) (by omega), fitF_eq x (by omega) (by omega), if_neg (show ¬ m < ((n : Nat) : Int) + 1 by omega), if_neg (show ¬ m' < ((n : Nat) : Int) + 1 by omega)]
    simp only
    rw [show ((n : Nat) : Int) + 1 = ((n + 1 : Nat) : Int) by omega, fit_cap (m := m) (m' := m') l (n + 1) _ (by omega) (by omega) (by omega)]
theorem fits_cap {t : Re} {m : Nat} (h : t.size ≤ 2000) : fitsE t ((min m 3000 : Nat) : Int) = fitsE t ((m : Nat) : Int) := by
 rcases Nat.lt_or_ge m 3000 with h1 | h1
 ·rw [Nat.min_eq_left (by omega)]
 ·rw [Nat.min_eq_right h1]
  unfold fitsE
  rw [walkF_list, walkF_list]
  have hl : (preL t).length = t.size := preL_len t
  have := fit_cap (m := ((3000 : Nat) : Int)) (m' := ((m : Nat) : Int)) (preL t) 0 0 (by omega) (by omega) (by omega)
  rw [show (((0 : Nat) : Int), (0 : Int)) = ((0 : Int), (0 : Int)) from rfl] at this
  rw [this]
theorem requal_f {w : World} {t u : Re} {us vs : List Value} (ht : ReAt w t us) (hu : ReAt w u vs) (h : t = u) :
  Ret Tryz.prog 13 #[.agg us.toArray, .agg vs.toArray] w fun v w' => v = .bool true ∧ Ext w w' :=
 (requal_c t.size t u w us vs (Nat.le_refl _) ht hu).mono fun v w' ⟨h1, h2⟩ => ⟨h1.trans (bool_eq ((sameT_iff t u).2 h)), h2⟩
def sizF (n : Nat) : Fct := fun v _ => ∃ la lc, v = .slice la n lc
theorem sizF_ext (n : Nat) : Stable (sizF n) := fun _ _ _ _ h => h
end Go.Proofs
namespace Go.Proofs
open Go Go.Eng Go.Sort
set_option maxRecDepth 100000
set_option maxHeartbeats 16000000 in
theorem rttells_c (w0 : World) (t o : Re) (vs us : List Value) (most : Int) (ht : ReAt w0 t vs) (hu : ReAt w0 o us) (hs1 : t.size ≤ 2097152) (hs2 : o.size ≤ 2097152) (hso : setsOk t) :
  Ret Tryz.prog 3 #[.agg vs.toArray, .agg us.toArray, .int .i64 most] w0 fun v w => v = .bool true ∧ Ext w0 w := by
 obtain ⟨cl, er, hcf⟩ := close_fun
 have hcl := closeN_of hcf
 have hrc := rcloN_of hcf
 have ht0 := ht
 have hu0 := hu
 obtain ⟨sa, sc, aa, ac, rfl, _, _, _⟩ := ht.form
 obtain ⟨sa2, sc2, aa2, ac2, rfl, _, _, _⟩ := hu.form
 refine Ret_of Tryz.func3 rfl Tryz.ntmps3 (Nat.le_of_ble_eq_true rfl) ?_
 have E : Chg none1 w0 w0 := Chg.refl _ _
 refine Wp_seq_region ?_
 refine s_box (v := (.agg (R6 t sa sc aa ac))) (c := (R6 t sa sc aa ac)) (by decide) rfl rfl ?_
 intro br wr Nr
 have Fr := Nr.ge E
 replace E := E.ext Nr.ext
 have Br := Nr.blk
 refine s_box (v := (.agg (R6 o sa2 sc2 aa2 ac2))) (c := (R6 o sa2 sc2 aa2 ac2)) (by decide) rfl rfl ?_
 intro bs ws Ns
 have Fs := Ns.ge E
 have Os_br := Ns.lt Br
 replace Br := Ns.keep Br
 replace E := E.ext Ns.ext
 have Bs := Ns.blk
 refine qA (.bool false) rfl ?_
 refine WpL_nil (Wp_seq (Wp_seq_region ?_))
 refine WpL_enter rfl rfl (by decide) (r_callF (vs := []) Tryz.func5 nm5 bd5 rfl) (lbegun_c _) ?_
 rintro _ w9 ⟨rfl, X9⟩
 replace Br := X9.keep Br
 replace Bs := X9.keep Bs
 replace E := E.ext X9
 refine qV (r_not (b := true) rfl) ?_
 refine WpL_nil ?_
 refine Wp_cond_false rfl ?_
 refine Wp_skip (thn_normal (Wp_seq (Wp_seq_region ?_)))
 refine qV (r_loadAgg (vs := [(I6 t.kind), (.slice sa t.set.length sc), (.slice aa t.args.length ac), (I6 t.mn), (I6 t.mx), (.bool t.neg)]) rfl agg25 siz25 rfl (Br.cells rfl)) ?_
 refine WpL_enter rfl rfl (by decide) (r_callF (vs := [(.agg (R6 t sa sc aa ac))]) Tryz.func6 nm6 bd6 rfl) (few_c _ t _ (ReAt.ext E t ht0) hs1) ?_
 rintro _ w19 ⟨rfl, X19⟩
 replace Br := X19.keep Br
 replace Bs := X19.keep Bs
 replace E := E.ext X19
 refine qV (r_not (b := decide (t.size ≤ 2000)) rfl) ?_
 refine qM (.bool (!(decide (t.size ≤ 2000)))) rfl ?_
 rcases Bool.eq_false_or_eq_true (!(decide (t.size ≤ 2000))) with hf1 | hf1
 ·have khf1 := hf1
  refine WpL_guard_no (oj := _) rfl rfl (by decide) (v := .bool true) (congrArg Value.bool hf1) (Or.inl rfl) ?_
  refine WpL_guard_no (oj := _) rfl rfl (by decide) (v := .bool true) (congrArg Value.bool hf1) (Or.inl rfl) ?_
  refine WpL_guard_no (oj := _) rfl rfl (by decide) (v := .bool true) (congrArg Value.bool hf1) (Or.inl rfl) ?_
  refine qV (r_pick (b := !(decide (t.size ≤ 2000))) (v := (.bool true)) rfl (by rw [hf1]; rfl)) ?_
  refine qM (.bool true) rfl ?_
  refine WpL_guard_no (oj := _) rfl rfl (by decide) (v := .bool true) rfl (Or.inl rfl) ?_
  refine WpL_guard_no (oj := _) rfl rfl (by decide) (v := .bool true) rfl (Or.inl rfl) ?_
  refine qV (r_pick (b := true) (v := (.bool true)) rfl rfl) ?_
  refine WpL_nil ?_
  refine Wp_cond_true rfl ?_
  refine Wp_seq_region ?_
  refine qA (.bool true) rfl ?_
  refine WpL_nil (Wp_ret (thn_ret ?_))
  refine fin_tmp Tryz.results3 (v := (.bool true)) rfl ?_
  exact ⟨rfl, E⟩
 ·have khf1 := hf1
  have hf1' : t.size ≤ 2000 := by simpa using hf1
  refine WpL_guard_yes (oj := _) rfl rfl (by decide) (congrArg Value.bool hf1) ?_
  refine qV (r_loadAgg (vs := [(I6 o.kind), (.slice sa2 o.set.length sc2), (.slice aa2 o.args.length ac2), (I6 o.mn), (I6 o.mx), (.bool o.neg)]) rfl agg25 siz25 rfl (Bs.cells rfl)) ?_
  refine WpL_guard_yes (oj := _) rfl rfl (by decide) (congrArg Value.bool hf1) ?_
  refine WpL_enter rfl rfl (by decide) (r_callF (vs := [(.agg (R6 o sa2 sc2 aa2 ac2))]) Tryz.func6 nm6 bd6 rfl) (few_c _ o _ (ReAt.ext E o hu0) hs2) ?_
  rintro _ w29 ⟨rfl, X29⟩
  replace Br := X29.keep Br
  replace Bs := X29.keep Bs
  replace E := E.ext X29
  refine WpL_guard_yes (oj := _) rfl rfl (by decide) (congrArg Value.bool hf1) ?_
  refine qV (r_not (b := decide (o.size ≤ 2000)) rfl) ?_
  refine qV (r_pick (b := !(decide (t.size ≤ 2000))) (v := (.bool (!(decide (o.size ≤ 2000))))) rfl (by rw [hf1]; rfl)) ?_
  refine qM (.bool (!(decide (o.size ≤ 2000)))) rfl ?_
  rcases Bool.eq_false_or_eq_true (!(decide (o.size ≤ 2000))) with hf2 | hf2
  ·have khf2 := hf2
   refine WpL_guard_no (oj := _) rfl rfl (by decide) (v := .bool true) (congrArg Value.bool hf2) (Or.inl rfl) ?_
   refine WpL_guard_no (oj := _) rfl rfl (by decide) (v := .bool true) (congrArg Value.bool hf2) (Or.inl rfl) ?_
   refine qV (r_pick (b := !(decide (o.size ≤ 2000))) (v := (.bool true)) rfl (by rw [hf2]; rfl)) ?_
   refine WpL_nil ?_
   refine Wp_cond_true rfl ?_
   refine Wp_seq_region ?_
   refine qA (.bool true) rfl ?_
   refine WpL_nil (Wp_ret (thn_ret ?_))
   refine fin_tmp Tryz.results3 (v := (.bool true)) rfl ?_
   exact ⟨rfl, E⟩
  ·have khf2 := hf2
   have hf2' : o.size ≤ 2000 := by simpa using hf2
   refine WpL_guard_yes (oj := _) rfl rfl (by decide) (congrArg Value.bool hf2) ?_
   refine qM (I6 most) rfl ?_
   refine WpL_guard_yes (oj := _) rfl rfl (by decide) (congrArg Value.bool hf2) ?_
   refine qV (r_lss (k := .i64) (a := most) (b := 0) rfl rfl) ?_
   refine qV (r_pick (b := !(decide (o.size ≤ 2000))) (v := (.bool (decide ((most : Int) < 0)))) rfl (by rw [hf2]; rfl)) ?_
   refine WpL_nil ?_
   refine Wp_cond (b := decide ((most : Int) < 0)) rfl (fun hm0 => ?_) (fun hm0 => ?_)
   ·have khm0 := hm0
    replace hm0 := of_decide_eq_true hm0
    refine Wp_seq_region ?_
    refine qA (.bool true) rfl ?_
    refine WpL_nil (Wp_ret (thn_ret ?_))
    refine fin_tmp Tryz.results3 (v := (.bool true)) rfl ?_
    exact ⟨rfl, E⟩
   ·have khm0 := hm0
    replace hm0 := of_decide_eq_false hm0
    obtain ⟨m, hm⟩ := Int.eq_ofNat_of_zero_le (show 0 ≤ most by omega)
    obtain ⟨f40, h40⟩ : ∃ f, f = fitsE t 40 := ⟨_, rfl⟩
    obtain ⟨fm, hfm⟩ : ∃ f, f = fitsE t most := ⟨_, rfl⟩
    obtain ⟨sb, hsb⟩ : ∃ b, b = sameT t o := ⟨_, rfl⟩
    obtain ⟨ub, hub⟩ : ∃ b, b = usesB [8, 10] t := ⟨_, rfl⟩
    have hk1 : decide (f40 ≠ f40) = false := by simp
    have hk2 : decide (fm ≠ fm) = false := by simp
    have hk3 : decide (((t.size : Nat) : Int) ≠ ((t.size : Nat) : Int)) = false := by simp
    refine Wp_skip (thn_normal (Wp_seq_region ?_))
    refine qV (r_loadAgg (vs := [(I6 t.kind), (.slice sa t.set.length sc), (.slice aa t.args.length ac), (I6 t.mn), (I6 t.mx), (.bool t.neg)]) rfl agg25 siz25 rfl (Br.cells rfl)) ?_
    refine WpL_enter rfl rfl (by decide) (r_callF (vs := [(.agg (R6 t sa sc aa ac)), (I6 40)]) Tryz.func7 nm7 bd7 rfl) ((refck_c _ t _ 40 (by decide) (ReAt.ext E t ht0) hs1).mono (R' := fun v w => v = .int .i64 f40 ∧ Ext _ w) (fun v w h => ⟨by rw [h40]; exact h.1, h.2⟩)) ?_
    rintro _ w39 ⟨rfl, X39⟩
    replace Br := X39.keep Br
    replace Bs := X39.keep Bs
    replace E := E.ext X39
    refine qA (I6 f40) rfl ?_
    refine WpL_nil (Wp_seq (Wp_seq ?_))
    obtain ⟨Fs4, hFs4⟩ : ∃ Fs : List Fact, Fs = [.re t, .eq (I6 f40), .eq (I6 f40), .eq (.bool false), .eq (.bool false), .re t, .eq (I6 most), .eq (I6 fm), .re t, .eq (I6 most), .eq (I6 ((min m 3000 : Nat) : Int)), .eq (I6 fm), .eq (.bool false), .eq (.bool false), .eq (.bool false), .re t, .eq (I6 (t.size : Int)), .re t, .gen (sizF t.size) (sizF_ext _), .eq (I6 (t.size : Int)), .eq (.bool false), .eq (.bool false)] := ⟨_, rfl⟩
    refine Wp_dag [35, 36, 37, 38, 39, 40, 41, 42, 43, 44, 45, 46, 47, 48, 49, 50, 51, 52, 53, 54, 55, 56] [[], [0], [], [1, 2], [1, 3], [4], [4], [4, 5, 6], [4], [4], [4, 9], [4, 7, 8, 10], [4, 7, 11], [4, 12], [11, 13], [14], [14, 15], [14], [14, 16, 17], [14, 18], [14, 16, 19], [14, 20]] Fs4 hFs4 mixed (by kernel_rfl) (by kernel_rfl) ?_ ?_
    ·intro wd X0
     refine DagSteps.cons (fun s' w' X U H => Or.inl ⟨?_, ?_⟩) ?_
     ·exact Guarded_none rfl
     ·exact Does_val (r_loadAgg (vs := [(I6 t.kind), (.slice sa t.set.length sc), (.slice aa t.args.length ac), (I6 t.mn), (I6 t.mx), (.bool t.neg)]) (U 3 rfl) agg25 siz25 rfl ((X0.trans X).keep Br |>.cells rfl)) (Ext.refl _) ⟨_, rfl, ReAt.ext (X0.trans X) _ (ReAt.ext E t ht0)⟩
     refine DagSteps.cons (fun s' w' X U H => Or.inl ⟨?_, ?_⟩) ?_
     ·exact Guarded_none rfl
     ·obtain ⟨v35, e35, r35⟩ : (Fact.re t).In (s' 35) w' := H 0 rfl 35 (.re t) rfl (by rw [hFs4]; rfl)
      exact Does_enter (r_callF (vs := [(.agg v35.toArray)]) Tryz.func8 nm8 bd8 (lst1 e35)) ((check_c _ t _ r35).mono (fun v w h => ⟨by rw [h40]; exact h.1, h.2⟩))
     refine DagSteps.cons (fun s' w' X U H => Or.inl ⟨?_, ?_⟩) ?_
     ·exact Guarded_none rfl
     ·exact Does_val (r_move (v := (I6 f40)) (U 7 rfl)) (Ext.refl _) rfl
     refine DagSteps.cons (fun s' w' X U H => Or.inl ⟨?_, ?_⟩) ?_
     ·exact Guarded_none rfl
     ·have e36 : s' 36 = (.int .i64 f40) := H 1 rfl 36 (.eq (.int .i64 f40)) rfl (by rw [hFs4]; rfl)
      have e37 : s' 37 = (.int .i64 f40) := H 2 rfl 37 (.eq (.int .i64 f40)) rfl (by rw [hFs4]; rfl)
      exact Does_val (Eq.trans (r_neq (k := .i64) (a := f40) (b := f40) e36 e37) (by rw [hk1])) (Ext.refl _) rfl
     refine DagSteps.cons (fun s' w' X U H => Or.inl ⟨?_, ?_⟩) ?_
     ·exact Guarded_none rfl
     ·have e38 : s' 38 = (.bool false) := H 3 rfl 38 (.eq (.bool false)) rfl (by rw [hFs4]; rfl)
      exact Does_val (r_move (v := (.bool false)) e38) (Ext.refl _) rfl
     refine DagSteps.cons (fun s' w' X U H => Or.inl ⟨?_, ?_⟩) ?_
     ·exact Guarded_some rfl rfl (d := 39) (H 4 rfl 39 (.eq (.bool false)) rfl (by rw [hFs4]; rfl))
     ·exact Does_val (r_loadAgg (vs := [(I6 t.kind), (.slice sa t.set.length sc), (.slice aa t.args.length ac), (I6 t.mn), (I6 t.mx), (.bool t.neg)]) (U 3 rfl) agg25 siz25 rfl ((X0.trans X).keep Br |>.cells rfl)) (Ext.refl _) ⟨_, rfl, ReAt.ext (X0.trans X) _ (ReAt.ext E t ht0)⟩
     refine DagSteps.cons (fun s' w' X U H => Or.inl ⟨?_, ?_⟩) ?_
     ·exact Guarded_some rfl rfl (d := 39) (H 4 rfl 39 (.eq (.bool false)) rfl (by rw [hFs4]; rfl))
     ·exact Does_val (r_move (v := (I6 most)) (U 2 rfl)) (Ext.refl _) rfl
     refine DagSteps.cons (fun s' w' X U H => Or.inl ⟨?_, ?_⟩) ?_
     ·exact Guarded_some rfl rfl (d := 39) (H 4 rfl 39 (.eq (.bool false)) rfl (by rw [hFs4]; rfl))
     ·obtain ⟨v40, e40, r40⟩ : (Fact.re t).In (s' 40) w' := H 5 rfl 40 (.re t) rfl (by rw [hFs4]; rfl)
      have e41 : s' 41 = (.int .i64 most) := H 6 rfl 41 (.eq (.int .i64 most)) rfl (by rw [hFs4]; rfl)
      exact Does_enter (r_callF (vs := [(.agg v40.toArray), (I6 most)]) Tryz.func9 nm9 bd9 (lst2 e40 e41)) ((fits_c _ t _ r40 most).mono (fun v w h => ⟨by rw [hfm]; exact h.1, h.2⟩))
     refine DagSteps.cons (fun s' w' X U H => Or.inl ⟨?_, ?_⟩) ?_
     ·exact Guarded_some rfl rfl (d := 39) (H 4 rfl 39 (.eq (.bool false)) rfl (by rw [hFs4]; rfl))
     ·exact Does_val (r_loadAgg (vs := [(I6 t.kind), (.slice sa t.set.length sc), (.slice aa t.args.length ac), (I6 t.mn), (I6 t.mx), (.bool t.neg)]) (U 3 rfl) agg25 siz25 rfl ((X0.trans X).keep Br |>.cells rfl)) (Ext.refl _) ⟨_, rfl, ReAt.ext (X0.trans X) _ (ReAt.ext E t ht0)⟩
     refine DagSteps.cons (fun s' w' X U H => Or.inl ⟨?_, ?_⟩) ?_
     ·exact Guarded_some rfl rfl (d := 39) (H 4 rfl 39 (.eq (.bool false)) rfl (by rw [hFs4]; rfl))
     ·exact Does_val (r_move (v := (I6 most)) (U 2 rfl)) (Ext.refl _) rfl
     refine DagSteps.cons (fun s' w' X U H => Or.inl ⟨?_, ?_⟩) ?_
     ·exact Guarded_some rfl rfl (d := 39) (H 4 rfl 39 (.eq (.bool false)) rfl (by rw [hFs4]; rfl))
     ·have e44 : s' 44 = (.int .i64 most) := H 9 rfl 44 (.eq (.int .i64 most)) rfl (by rw [hFs4]; rfl)
      exact Does_val (r_minI (k := .i64) (a := most) (b := 3000) (c := ((min m 3000 : Nat) : Int)) e44 rfl (by omega)) (Ext.refl _) rfl
     refine DagSteps.cons (fun s' w' X U H => Or.inl ⟨?_, ?_⟩) ?_
     ·exact Guarded_some rfl rfl (d := 39) (H 4 rfl 39 (.eq (.bool false)) rfl (by rw [hFs4]; rfl))
     ·obtain ⟨v43, e43, r43⟩ : (Fact.re t).In (s' 43) w' := H 8 rfl 43 (.re t) rfl (by rw [hFs4]; rfl)
      have e45 : s' 45 = (.int .i64 ((min m 3000 : Nat) : Int)) := H 10 rfl 45 (.eq (.int .i64 ((min m 3000 : Nat) : Int))) rfl (by rw [hFs4]; rfl)
      exact Does_enter (r_callF (vs := [(.agg v43.toArray), (I6 ((min m 3000 : Nat) : Int))]) Tryz.func7 nm7 bd7 (lst2 e43 e45)) ((refck_c _ t _ (min m 3000) (by omega) r43 hs1).mono (fun v w h => ⟨by rw [hfm, hm, ← fits_cap hf1']; exact h.1, h.2⟩))
     refine DagSteps.cons (fun s' w' X U H => Or.inl ⟨?_, ?_⟩) ?_
     ·exact Guarded_some rfl rfl (d := 39) (H 4 rfl 39 (.eq (.bool false)) rfl (by rw [hFs4]; rfl))
     ·have e42 : s' 42 = (.int .i64 fm) := H 7 rfl 42 (.eq (.int .i64 fm)) rfl (by rw [hFs4]; rfl)
      have e46 : s' 46 = (.int .i64 fm) := H 11 rfl 46 (.eq (.int .i64 fm)) rfl (by rw [hFs4]; rfl)
      exact Does_val (Eq.trans (r_neq (k := .i64) (a := fm) (b := fm) e42 e46) (by rw [hk2])) (Ext.refl _) rfl
     refine DagSteps.cons (fun s' w' X U H => Or.inl ⟨?_, ?_⟩) ?_
     ·exact Guarded_none rfl
     ·have e39 : s' 39 = (.bool false) := H 4 rfl 39 (.eq (.bool false)) rfl (by rw [hFs4]; rfl)
      have e47 : s' 47 = (.bool false) := H 12 rfl 47 (.eq (.bool false)) rfl (by rw [hFs4]; rfl)
      exact Does_val (r_pick (b := false) (v := (.bool false)) e39 e47) (Ext.refl _) rfl
     refine DagSteps.cons (fun s' w' X U H => Or.inl ⟨?_, ?_⟩) ?_
     ·exact Guarded_none rfl
     ·have e48 : s' 48 = (.bool false) := H 13 rfl 48 (.eq (.bool false)) rfl (by rw [hFs4]; rfl)
      exact Does_val (r_move (v := (.bool false)) e48) (Ext.refl _) rfl
     refine DagSteps.cons (fun s' w' X U H => Or.inl ⟨?_, ?_⟩) ?_
     ·exact Guarded_some rfl rfl (d := 49) (H 14 rfl 49 (.eq (.bool false)) rfl (by rw [hFs4]; rfl))
     ·exact Does_val (r_loadAgg (vs := [(I6 t.kind), (.slice sa t.set.length sc), (.slice aa t.args.length ac), (I6 t.mn), (I6 t.mx), (.bool t.neg)]) (U 3 rfl) agg25 siz25 rfl ((X0.trans X).keep Br |>.cells rfl)) (Ext.refl _) ⟨_, rfl, ReAt.ext (X0.trans X) _ (ReAt.ext E t ht0)⟩
     refine DagSteps.cons (fun s' w' X U H => Or.inl ⟨?_, ?_⟩) ?_
     ·exact Guarded_some rfl rfl (d := 49) (H 14 rfl 49 (.eq (.bool false)) rfl (by rw [hFs4]; rfl))
     ·obtain ⟨v50, e50, r50⟩ : (Fact.re t).In (s' 50) w' := H 15 rfl 50 (.re t) rfl (by rw [hFs4]; rfl)
      exact Does_enter (r_callF (vs := [(.agg v50.toArray)]) Tryz.func10 nm10 bd10 (lst1 e50)) ((size_c _ t _ r50 (by omega)).mono (fun v w h => h))
     refine DagSteps.cons (fun s' w' X U H => Or.inl ⟨?_, ?_⟩) ?_
     ·exact Guarded_some rfl rfl (d := 49) (H 14 rfl 49 (.eq (.bool false)) rfl (by rw [hFs4]; rfl))
     ·exact Does_val (r_loadAgg (vs := [(I6 t.kind), (.slice sa t.set.length sc), (.slice aa t.args.length ac), (I6 t.mn), (I6 t.mx), (.bool t.neg)]) (U 3 rfl) agg25 siz25 rfl ((X0.trans X).keep Br |>.cells rfl)) (Ext.refl _) ⟨_, rfl, ReAt.ext (X0.trans X) _ (ReAt.ext E t ht0)⟩
     refine DagSteps.cons (fun s' w' X U H => Or.inl ⟨?_, ?_⟩) ?_
     ·exact Guarded_some rfl rfl (d := 49) (H 14 rfl 49 (.eq (.bool false)) rfl (by rw [hFs4]; rfl))
     ·obtain ⟨v52, e52, r52⟩ : (Fact.re t).In (s' 52) w' := H 17 rfl 52 (.re t) rfl (by rw [hFs4]; rfl)
      exact Does_enter (r_callF (vs := [(.agg v52.toArray), (I6 2001)]) Tryz.func11 nm11 bd11 (lst2 e52 rfl)) ((pre_c _ t _ _ r52 hs1).mono (fun v w h => ⟨by obtain ⟨la, lc, rows, h1, _⟩ := h; rw [List.length_take, preL_len] at h1; have h2 : min (2001 : Int).toNat t.size = t.size := (by show min 2001 t.size = t.size; omega); rw [h2] at h1; exact ⟨la, lc, h1⟩, by obtain ⟨_, _, _, _, _, _, h2⟩ := h; exact h2⟩))
     refine DagSteps.cons (fun s' w' X U H => Or.inl ⟨?_, ?_⟩) ?_
     ·exact Guarded_some rfl rfl (d := 49) (H 14 rfl 49 (.eq (.bool false)) rfl (by rw [hFs4]; rfl))
     ·obtain ⟨la53, lc53, e53⟩ := H 18 rfl 53 (.gen (sizF t.size) (sizF_ext _)) rfl (by rw [hFs4]; rfl)
      exact Does_val (r_lenSlice (ad := la53) (n := t.size) (cap := lc53) Tryz.underlying23 e53) (Ext.refl _) rfl
     refine DagSteps.cons (fun s' w' X U H => Or.inl ⟨?_, ?_⟩) ?_
     ·exact Guarded_some rfl rfl (d := 49) (H 14 rfl 49 (.eq (.bool false)) rfl (by rw [hFs4]; rfl))
     ·have e51 : s' 51 = (.int .i64 ((t.size : Nat) : Int)) := H 16 rfl 51 (.eq (.int .i64 ((t.size : Nat) : Int))) rfl (by rw [hFs4]; rfl)
      have e54 : s' 54 = (.int .i64 ((t.size : Nat) : Int)) := H 19 rfl 54 (.eq (.int .i64 ((t.size : Nat) : Int))) rfl (by rw [hFs4]; rfl)
      exact Does_val (Eq.trans (r_neq (k := .i64) (a := (t.size : Int)) (b := (t.size : Int)) e51 e54) (by rw [hk3])) (Ext.refl _) rfl
     refine DagSteps.cons (fun s' w' X U H => Or.inl ⟨?_, ?_⟩) ?_
     ·exact Guarded_none rfl
     ·have e49 : s' 49 = (.bool false) := H 14 rfl 49 (.eq (.bool false)) rfl (by rw [hFs4]; rfl)
      have e55 : s' 55 = (.bool false) := H 20 rfl 55 (.eq (.bool false)) rfl (by rw [hFs4]; rfl)
      exact Does_val (r_pick (b := false) (v := (.bool false)) e49 e55) (Ext.refl _) rfl
     exact DagSteps.nil
    ·intro s' w4 X4 U H
     obtain ⟨j4, rfl⟩ := Fits.out (σ := s') (l := [(3, (.pointer (some ⟨br, 0, none⟩))), (4, (.pointer (some ⟨bs, 0, none⟩))), (7, (.int .i64 f40)), (56, (.bool false))]) ⟨U 3 rfl, U 4 rfl, U 7 rfl, (show s' 56 = (.bool false) from H 21 56 (.eq (.bool false)) rfl (by rw [hFs4]; rfl)), trivial⟩
     clear U H
     replace Br := X4.keep Br
     replace Bs := X4.keep Bs
     replace E := E.ext X4
     refine thn_normal ?_
     refine Wp_cond_false rfl ?_
     refine Wp_skip (thn_normal (Wp_seq (Wp_seq ?_)))
     obtain ⟨Fs5, hFs5⟩ : ∃ Fs : List Fact, Fs = [.re t, .re o, .eq (.bool sb), .re t, .re o, .eq (.bool sb), .eq (.bool false), .eq (.bool false), .re t, .re t, .re t, .eq (.bool true), .eq (.bool false), .eq (.bool false), .eq (.bool false), .re t, .gen (ints2F 8 10) (ints2F_ext _ _), .eq (.bool ub), .re t, .gen (ints2F 8 10) (ints2F_ext _ _), .eq (.bool ub), .eq (.bool false), .eq (.bool false)] := ⟨_, rfl⟩
     refine Wp_dag [57, 58, 59, 60, 61, 62, 63, 64, 65, 66, 67, 68, 69, 70, 71, 72, 73, 74, 75, 76, 77, 78, 79] [[], [], [0, 1], [], [], [2, 3, 4], [2, 5], [5, 6], [7], [7, 8], [7], [7, 9, 10], [7, 11], [7, 12], [11, 13], [14], [14], [14, 15, 16], [14], [14], [14, 17, 18, 19], [14, 17, 20], [14, 21]] Fs5 hFs5 mixed (by kernel_rfl) (by kernel_rfl) ?_ ?_
     ·intro wd X0
      refine DagSteps.cons (fun s' w' X U H => Or.inl ⟨?_, ?_⟩) ?_
      ·exact Guarded_none rfl
      ·exact Does_val (r_loadAgg (vs := [(I6 t.kind), (.slice sa t.set.length sc), (.slice aa t.args.length ac), (I6 t.mn), (I6 t.mx), (.bool t.neg)]) (U 3 rfl) agg25 siz25 rfl ((X0.trans X).keep Br |>.cells rfl)) (Ext.refl _) ⟨_, rfl, ReAt.ext (X0.trans X) _ (ReAt.ext E t ht0)⟩
      refine DagSteps.cons (fun s' w' X U H => Or.inl ⟨?_, ?_⟩) ?_
      ·exact Guarded_none rfl
      ·exact Does_val (r_loadAgg (vs := [(I6 o.kind), (.slice sa2 o.set.length sc2), (.slice aa2 o.args.length ac2), (I6 o.mn), (I6 o.mx), (.bool o.neg)]) (U 4 rfl) agg25 siz25 rfl ((X0.trans X).keep Bs |>.cells rfl)) (Ext.refl _) ⟨_, rfl, ReAt.ext (X0.trans X) _ (ReAt.ext E o hu0)⟩
      refine DagSteps.cons (fun s' w' X U H => Or.inl ⟨?_, ?_⟩) ?_
      ·exact Guarded_none rfl
      ·obtain ⟨v57, e57, r57⟩ : (Fact.re t).In (s' 57) w' := H 0 rfl 57 (.re t) rfl (by rw [hFs5]; rfl)
       obtain ⟨v58, e58, r58⟩ : (Fact.re o).In (s' 58) w' := H 1 rfl 58 (.re o) rfl (by rw [hFs5]; rfl)
       exact Does_enter (r_callF (vs := [(.agg v57.toArray), (.agg v58.toArray)]) Tryz.func12 nm12 bd12 (lst2 e57 e58)) ((resame_c t.size t o _ _ _ (Nat.le_refl _) r57 r58).mono (fun v w h => ⟨by rw [hsb]; exact h.1, h.2⟩))
      refine DagSteps.cons (fun s' w' X U H => Or.inl ⟨?_, ?_⟩) ?_
      ·exact Guarded_none rfl
      ·exact Does_val (r_loadAgg (vs := [(I6 t.kind), (.slice sa t.set.length sc), (.slice aa t.args.length ac), (I6 t.mn), (I6 t.mx), (.bool t.neg)]) (U 3 rfl) agg25 siz25 rfl ((X0.trans X).keep Br |>.cells rfl)) (Ext.refl _) ⟨_, rfl, ReAt.ext (X0.trans X) _ (ReAt.ext E t ht0)⟩
      refine DagSteps.cons (fun s' w' X U H => Or.inl ⟨?_, ?_⟩) ?_
      ·exact Guarded_none rfl
      ·exact Does_val (r_loadAgg (vs := [(I6 o.kind), (.slice sa2 o.set.length sc2), (.slice aa2 o.args.length ac2), (I6 o.mn), (I6 o.mx), (.bool o.neg)]) (U 4 rfl) agg25 siz25 rfl ((X0.trans X).keep Bs |>.cells rfl)) (Ext.refl _) ⟨_, rfl, ReAt.ext (X0.trans X) _ (ReAt.ext E o hu0)⟩
      refine DagSteps.cons (fun s' w' X U H => Or.inl ⟨?_, ?_⟩) ?_
      ·exact Guarded_none rfl
      ·obtain ⟨v60, e60, r60⟩ : (Fact.re t).In (s' 60) w' := H 3 rfl 60 (.re t) rfl (by rw [hFs5]; rfl)
       obtain ⟨v61, e61, r61⟩ : (Fact.re o).In (s' 61) w' := H 4 rfl 61 (.re o) rfl (by rw [hFs5]; rfl)
       exact Does_enter (r_callF (vs := [(.agg v60.toArray), (.agg v61.toArray)]) Tryz.func13 nm13 bd13 (lst2 e60 e61)) ((requal_c t.size t o _ _ _ (Nat.le_refl _) r60 r61).mono (fun v w h => ⟨by rw [hsb]; exact h.1, h.2⟩))
      refine DagSteps.cons (fun s' w' X U H => Or.inl ⟨?_, ?_⟩) ?_
      ·exact Guarded_none rfl
      ·have e59 : s' 59 = (.bool sb) := H 2 rfl 59 (.eq (.bool sb)) rfl (by rw [hFs5]; rfl)
       have e62 : s' 62 = (.bool sb) := H 5 rfl 62 (.eq (.bool sb)) rfl (by rw [hFs5]; rfl)
       exact Does_val (Eq.trans (r_neqB (p := sb) (q := sb) Tryz.underlying4 e59 e62) (by rw [show (sb != sb) = false by cases sb <;> rfl])) (Ext.refl _) rfl
      refine DagSteps.cons (fun s' w' X U H => Or.inl ⟨?_, ?_⟩) ?_
      ·exact Guarded_none rfl
      ·have e63 : s' 63 = (.bool false) := H 6 rfl 63 (.eq (.bool false)) rfl (by rw [hFs5]; rfl)
       exact Does_val (r_move (v := (.bool false)) e63) (Ext.refl _) rfl
      refine DagSteps.cons (fun s' w' X U H => Or.inl ⟨?_, ?_⟩) ?_
      ·exact Guarded_some rfl rfl (d := 64) (H 7 rfl 64 (.eq (.bool false)) rfl (by rw [hFs5]; rfl))
      ·exact Does_val (r_loadAgg (vs := [(I6 t.kind), (.slice sa t.set.length sc), (.slice aa t.args.length ac), (I6 t.mn), (I6 t.mx), (.bool t.neg)]) (U 3 rfl) agg25 siz25 rfl ((X0.trans X).keep Br |>.cells rfl)) (Ext.refl _) ⟨_, rfl, ReAt.ext (X0.trans X) _ (ReAt.ext E t ht0)⟩
      refine DagSteps.cons (fun s' w' X U H => Or.inl ⟨?_, ?_⟩) ?_
      ·exact Guarded_some rfl rfl (d := 64) (H 7 rfl 64 (.eq (.bool false)) rfl (by rw [hFs5]; rfl))
      ·obtain ⟨v65, e65, r65⟩ : (Fact.re t).In (s' 65) w' := H 8 rfl 65 (.re t) rfl (by rw [hFs5]; rfl)
       exact Does_enter (r_callF (vs := [(.agg v65.toArray)]) Tryz.func14 nm14 bd14 (lst1 e65)) ((copy_c t.size t _ _ (Nat.le_refl _) (by omega) hso r65).mono (fun v w h => ⟨by obtain ⟨vs, Z, L, h1, h2, _⟩ := h.1; exact ⟨vs, h1, treeRe t.size t (Nat.le_refl _) h2⟩, h.2⟩))
      refine DagSteps.cons (fun s' w' X U H => Or.inl ⟨?_, ?_⟩) ?_
      ·exact Guarded_some rfl rfl (d := 64) (H 7 rfl 64 (.eq (.bool false)) rfl (by rw [hFs5]; rfl))
      ·exact Does_val (r_loadAgg (vs := [(I6 t.kind), (.slice sa t.set.length sc), (.slice aa t.args.length ac), (I6 t.mn), (I6 t.mx), (.bool t.neg)]) (U 3 rfl) agg25 siz25 rfl ((X0.trans X).keep Br |>.cells rfl)) (Ext.refl _) ⟨_, rfl, ReAt.ext (X0.trans X) _ (ReAt.ext E t ht0)⟩
      refine DagSteps.cons (fun s' w' X U H => Or.inl ⟨?_, ?_⟩) ?_
      ·exact Guarded_some rfl rfl (d := 64) (H 7 rfl 64 (.eq (.bool false)) rfl (by rw [hFs5]; rfl))
      ·obtain ⟨v66, e66, r66⟩ : (Fact.re t).In (s' 66) w' := H 9 rfl 66 (.re t) rfl (by rw [hFs5]; rfl)
       obtain ⟨v67, e67, r67⟩ : (Fact.re t).In (s' 67) w' := H 10 rfl 67 (.re t) rfl (by rw [hFs5]; rfl)
       exact Does_enter (r_callF (vs := [(.agg v66.toArray), (.agg v67.toArray)]) Tryz.func13 nm13 bd13 (lst2 e66 e67)) (requal_f r66 r67 rfl)
      refine DagSteps.cons (fun s' w' X U H => Or.inl ⟨?_, ?_⟩) ?_
      ·exact Guarded_some rfl rfl (d := 64) (H 7 rfl 64 (.eq (.bool false)) rfl (by rw [hFs5]; rfl))
      ·have e68 : s' 68 = (.bool true) := H 11 rfl 68 (.eq (.bool true)) rfl (by rw [hFs5]; rfl)
       exact Does_val (r_not (b := true) e68) (Ext.refl _) rfl
      refine DagSteps.cons (fun s' w' X U H => Or.inl ⟨?_, ?_⟩) ?_
      ·exact Guarded_none rfl
      ·have e64 : s' 64 = (.bool false) := H 7 rfl 64 (.eq (.bool false)) rfl (by rw [hFs5]; rfl)
       have e69 : s' 69 = (.bool false) := H 12 rfl 69 (.eq (.bool false)) rfl (by rw [hFs5]; rfl)
       exact Does_val (r_pick (b := false) (v := (.bool false)) e64 e69) (Ext.refl _) rfl
      refine DagSteps.cons (fun s' w' X U H => Or.inl ⟨?_, ?_⟩) ?_
      ·exact Guarded_none rfl
      ·have e70 : s' 70 = (.bool false) := H 13 rfl 70 (.eq (.bool false)) rfl (by rw [hFs5]; rfl)
       exact Does_val (r_move (v := (.bool false)) e70) (Ext.refl _) rfl
      refine DagSteps.cons (fun s' w' X U H => Or.inl ⟨?_, ?_⟩) ?_
      ·exact Guarded_some rfl rfl (d := 71) (H 14 rfl 71 (.eq (.bool false)) rfl (by rw [hFs5]; rfl))
      ·exact Does_val (r_loadAgg (vs := [(I6 t.kind), (.slice sa t.set.length sc), (.slice aa t.args.length ac), (I6 t.mn), (I6 t.mx), (.bool t.neg)]) (U 3 rfl) agg25 siz25 rfl ((X0.trans X).keep Br |>.cells rfl)) (Ext.refl _) ⟨_, rfl, ReAt.ext (X0.trans X) _ (ReAt.ext E t ht0)⟩
      refine DagSteps.cons (fun s' w' X U H => Or.inl ⟨?_, ?_⟩) ?_
      ·exact Guarded_some rfl rfl (d := 71) (H 14 rfl 71 (.eq (.bool false)) rfl (by rw [hFs5]; rfl))
      ·exact Does_ints2 rfl rfl
      refine DagSteps.cons (fun s' w' X U H => Or.inl ⟨?_, ?_⟩) ?_
      ·exact Guarded_some rfl rfl (d := 71) (H 14 rfl 71 (.eq (.bool false)) rfl (by rw [hFs5]; rfl))
      ·obtain ⟨v72, e72, r72⟩ : (Fact.re t).In (s' 72) w' := H 15 rfl 72 (.re t) rfl (by rw [hFs5]; rfl)
       obtain ⟨b73, e73, i73⟩ := H 16 rfl 73 (.gen (ints2F 8 10) (ints2F_ext _ _)) rfl (by rw [hFs5]; rfl)
       exact Does_enter (r_callF (vs := [(.agg v72.toArray), (.slice (some ⟨b73, 0, none⟩) 2 2)]) Tryz.func15 nm15 bd15 (lst2 e72 e73)) ((uses_c _ t _ [8, 10] _ r72 (by rw [← e73]; exact i73)).mono (fun v w h => ⟨by rw [hub]; exact h.1, h.2⟩))
      refine DagSteps.cons (fun s' w' X U H => Or.inl ⟨?_, ?_⟩) ?_
      ·exact Guarded_some rfl rfl (d := 71) (H 14 rfl 71 (.eq (.bool false)) rfl (by rw [hFs5]; rfl))
      ·exact Does_val (r_loadAgg (vs := [(I6 t.kind), (.slice sa t.set.length sc), (.slice aa t.args.length ac), (I6 t.mn), (I6 t.mx), (.bool t.neg)]) (U 3 rfl) agg25 siz25 rfl ((X0.trans X).keep Br |>.cells rfl)) (Ext.refl _) ⟨_, rfl, ReAt.ext (X0.trans X) _ (ReAt.ext E t ht0)⟩
      refine DagSteps.cons (fun s' w' X U H => Or.inl ⟨?_, ?_⟩) ?_
      ·exact Guarded_some rfl rfl (d := 71) (H 14 rfl 71 (.eq (.bool false)) rfl (by rw [hFs5]; rfl))
      ·exact Does_ints2 rfl rfl
      refine DagSteps.cons (fun s' w' X U H => Or.inl ⟨?_, ?_⟩) ?_
      ·exact Guarded_some rfl rfl (d := 71) (H 14 rfl 71 (.eq (.bool false)) rfl (by rw [hFs5]; rfl))
      ·obtain ⟨v75, e75, r75⟩ : (Fact.re t).In (s' 75) w' := H 18 rfl 75 (.re t) rfl (by rw [hFs5]; rfl)
       obtain ⟨b76, e76, i76⟩ := H 19 rfl 76 (.gen (ints2F 8 10) (ints2F_ext _ _)) rfl (by rw [hFs5]; rfl)
       exact Does_enter (r_callF (vs := [(.agg v75.toArray), (.slice (some ⟨b76, 0, none⟩) 2 2)]) Tryz.func16 nm16 bd16 (lst2 e75 e76)) ((hasR_c _ t _ _ [8, 10] r75 (by rw [← e76]; exact i76) (by omega) (by decide)).mono (fun v w h => ⟨by rw [hub]; exact h.1, h.2⟩))
      refine DagSteps.cons (fun s' w' X U H => Or.inl ⟨?_, ?_⟩) ?_
      ·exact Guarded_some rfl rfl (d := 71) (H 14 rfl 71 (.eq (.bool false)) rfl (by rw [hFs5]; rfl))
      ·have e74 : s' 74 = (.bool ub) := H 17 rfl 74 (.eq (.bool ub)) rfl (by rw [hFs5]; rfl)
       have e77 : s' 77 = (.bool ub) := H 20 rfl 77 (.eq (.bool ub)) rfl (by rw [hFs5]; rfl)
       exact Does_val (Eq.trans (r_neqB (p := ub) (q := ub) Tryz.underlying4 e74 e77) (by rw [show (ub != ub) = false by cases ub <;> rfl])) (Ext.refl _) rfl
      refine DagSteps.cons (fun s' w' X U H => Or.inl ⟨?_, ?_⟩) ?_
      ·exact Guarded_none rfl
      ·have e71 : s' 71 = (.bool false) := H 14 rfl 71 (.eq (.bool false)) rfl (by rw [hFs5]; rfl)
       have e78 : s' 78 = (.bool false) := H 21 rfl 78 (.eq (.bool false)) rfl (by rw [hFs5]; rfl)
       exact Does_val (r_pick (b := false) (v := (.bool false)) e71 e78) (Ext.refl _) rfl
      exact DagSteps.nil
     ·intro s' w5 X5 U H
      obtain ⟨j5, rfl⟩ := Fits.out (σ := s') (l := [(3, (.pointer (some ⟨br, 0, none⟩))), (7, (.int .i64 f40)), (79, (.bool false))]) ⟨U 3 rfl, U 7 rfl, (show s' 79 = (.bool false) from H 22 79 (.eq (.bool false)) rfl (by rw [hFs5]; rfl)), trivial⟩
      clear U H
      replace Br := X5.keep Br
      replace Bs := X5.keep Bs
      replace E := E.ext X5
      obtain ⟨nb, hnb⟩ : ∃ b, b = (decide (f40 = 0) && emptyB t) := ⟨_, rfl⟩
      refine thn_normal ?_
      refine Wp_cond_false rfl ?_
      refine Wp_skip (thn_normal (Wp_seq_region ?_))
      refine qV (r_loadAgg (vs := [(I6 t.kind), (.slice sa t.set.length sc), (.slice aa t.args.length ac), (I6 t.mn), (I6 t.mx), (.bool t.neg)]) rfl agg25 siz25 rfl (Br.cells rfl)) ?_
      refine WpL_enter rfl rfl (by decide) (r_callF (vs := [(.agg (R6 t sa sc aa ac))]) Tryz.func17 nm17 bd17 rfl) ((null_c _ t _ (ReAt.ext E t ht0)).mono (R' := fun v w => v = .tuple #[.bool nb, .int .i64 f40] ∧ Ext _ w) (fun v w h => ⟨by rw [hnb, h40]; exact h.1, h.2⟩)) ?_
      rintro _ w49 ⟨rfl, X49⟩
      replace Br := X49.keep Br
      replace Bs := X49.keep Bs
      replace E := E.ext X49
      obtain ⟨ss, hss⟩ : ∃ s, s = (if fitsE t 40 = 0 then setsL t else []) := ⟨_, rfl⟩
      refine qM (.tuple #[(.bool nb), (I6 f40)]) rfl ?_
      refine qV (r_extract (vs := #[(.bool nb), (I6 f40)]) (v := (.bool nb)) rfl rfl) ?_
      refine qV (r_extract (vs := #[(.bool nb), (I6 f40)]) (v := (I6 f40)) rfl rfl) ?_
      refine qA (.bool nb) rfl ?_
      refine qA (I6 f40) rfl ?_
      refine WpL_nil (Wp_seq_region ?_)
      refine qV (r_loadAgg (vs := [(I6 t.kind), (.slice sa t.set.length sc), (.slice aa t.args.length ac), (I6 t.mn), (I6 t.mx), (.bool t.neg)]) rfl agg25 siz25 rfl (Br.cells rfl)) ?_
      refine WpL_enter rfl rfl (by decide) (r_callF (vs := [(.agg (R6 t sa sc aa ac))]) Tryz.func18 nm18 bd18 rfl) ((Sets5_c _ t _ (ReAt.ext E t ht0)).mono (R' := fun v w => (∃ a c, v = .tuple #[.slice a ss.length c, .int .i64 f40] ∧ SpssAt w (.slice a ss.length c) ss) ∧ Ext _ w) (fun v w h => ⟨by rw [hss, h40]; exact h.1, h.2⟩)) ?_
      rintro _ w59 ⟨⟨sa9, sc9, rfl, hsp9⟩, X59⟩
      replace Br := X59.keep Br
      replace Bs := X59.keep Bs
      replace E := E.ext X59
      obtain ⟨rv, hrv⟩ : ∃ r, r = revV t := ⟨_, rfl⟩
      refine qM (.tuple #[(.slice sa9 ss.length sc9), (I6 f40)]) rfl ?_
      refine qV (r_extract (vs := #[(.slice sa9 ss.length sc9), (I6 f40)]) (v := (.slice sa9 ss.length sc9)) rfl rfl) ?_
      refine qV (r_extract (vs := #[(.slice sa9 ss.length sc9), (I6 f40)]) (v := (I6 f40)) rfl rfl) ?_
      refine qA (.slice sa9 ss.length sc9) rfl ?_
      refine qA (I6 f40) rfl ?_
      refine WpL_nil (Wp_seq_region ?_)
      refine qV (r_loadAgg (vs := [(I6 t.kind), (.slice sa t.set.length sc), (.slice aa t.args.length ac), (I6 t.mn), (I6 t.mx), (.bool t.neg)]) rfl agg25 siz25 rfl (Br.cells rfl)) ?_
      refine WpL_enter rfl rfl (by decide) (r_callF (vs := [(.agg (R6 t sa sc aa ac))]) Tryz.func19 nm19 bd19 rfl) ((Rev5_c _ t _ (ReAt.ext E t ht0)).mono (R' := fun v w => (∃ us, v = .tuple #[.agg us.toArray, .int .i64 rv.2] ∧ ReAt w rv.1 us) ∧ Ext _ w) (fun v w h => ⟨by rw [hrv]; exact h.1, h.2⟩)) ?_
      rintro _ w69 ⟨⟨us9, rfl, hre9⟩, X69⟩
      replace Br := X69.keep Br
      replace Bs := X69.keep Bs
      replace hsp9 := hsp9.ext X69
      replace E := E.ext X69
      have hre8 := hre9
      obtain ⟨qa, qc, qb, qd, rfl, _, _, _⟩ := hre9.form
      obtain ⟨fv, hfv⟩ : ∃ r, r = foldV cl er t := ⟨_, rfl⟩
      refine qM (.tuple #[(.agg #[(I6 rv.1.kind), (.slice qa rv.1.set.length qc), (.slice qb rv.1.args.length qd), (I6 rv.1.mn), (I6 rv.1.mx), (.bool rv.1.neg)]), (I6 rv.2)]) rfl ?_
      refine qV (r_extract (vs := #[(.agg #[(I6 rv.1.kind), (.slice qa rv.1.set.length qc), (.slice qb rv.1.args.length qd), (I6 rv.1.mn), (I6 rv.1.mx), (.bool rv.1.neg)]), (I6 rv.2)]) (v := (.agg #[(I6 rv.1.kind), (.slice qa rv.1.set.length qc), (.slice qb rv.1.args.length qd), (I6 rv.1.mn), (I6 rv.1.mx), (.bool rv.1.neg)])) rfl rfl) ?_
      refine qV (r_extract (vs := #[(.agg #[(I6 rv.1.kind), (.slice qa rv.1.set.length qc), (.slice qb rv.1.args.length qd), (I6 rv.1.mn), (I6 rv.1.mx), (.bool rv.1.neg)]), (I6 rv.2)]) (v := (I6 rv.2)) rfl rfl) ?_
      refine s_allocStore (v := (.agg #[(I6 rv.1.kind), (.slice qa rv.1.set.length qc), (.slice qb rv.1.args.length qd), (I6 rv.1.mn), (I6 rv.1.mx), (.bool rv.1.neg)])) (c := #[(I6 rv.1.kind), (.slice qa rv.1.set.length qc), (.slice qb rv.1.args.length qd), (I6 rv.1.mn), (I6 rv.1.mx), (.bool rv.1.neg)]) (n := 6) (by decide) zer25 rfl siz25 rfl rfl rfl (by simp [Value.oneCell']) ?_
      intro bv wv Nv
      have Fv := Nv.ge E
      have Ov_br := Nv.lt Br
      have Ov_bs := Nv.lt Bs
      replace Br := Nv.keep Br
      replace Bs := Nv.keep Bs
      replace hsp9 := hsp9.ext Nv.ext
      replace hre8 := ReAt.ext Nv.ext _ hre8
      replace E := E.ext Nv.ext
      have Bv := Nv.blk
      refine qA (I6 rv.2) rfl ?_
      refine WpL_nil (Wp_seq_region ?_)
      refine qV (r_loadAgg (vs := [(I6 t.kind), (.slice sa t.set.length sc), (.slice aa t.args.length ac), (I6 t.mn), (I6 t.mx), (.bool t.neg)]) rfl agg25 siz25 rfl (Br.cells rfl)) ?_
      refine WpL_enter rfl rfl (by decide) (r_callF (vs := [(.agg (R6 t sa sc aa ac))]) Tryz.func20 nm20 bd20 rfl) ((Fold5_c hcl _ t _ (ReAt.ext E t ht0)).mono (R' := fun v w => (∃ us, v = .tuple #[.agg us.toArray, .int .i64 fv.2] ∧ ReAt w fv.1 us) ∧ Ext _ w) (fun v w h => ⟨by rw [hfv]; exact h.1, h.2⟩)) ?_
      rintro _ w79 ⟨⟨us8, rfl, hfo9⟩, X79⟩
      replace Br := X79.keep Br
      replace Bs := X79.keep Bs
      replace Bv := X79.keep Bv
      replace hsp9 := hsp9.ext X79
      replace hre8 := ReAt.ext X79 _ hre8
      replace E := E.ext X79
      have hfo8 := hfo9
      obtain ⟨ra, rc, rb, rd, rfl, _, _, _⟩ := hfo9.form
      refine qM (.tuple #[(.agg #[(I6 fv.1.kind), (.slice ra fv.1.set.length rc), (.slice rb fv.1.args.length rd), (I6 fv.1.mn), (I6 fv.1.mx), (.bool fv.1.neg)]), (I6 fv.2)]) rfl ?_
      refine qV (r_extract (vs := #[(.agg #[(I6 fv.1.kind), (.slice ra fv.1.set.length rc), (.slice rb fv.1.args.length rd), (I6 fv.1.mn), (I6 fv.1.mx), (.bool fv.1.neg)]), (I6 fv.2)]) (v := (.agg #[(I6 fv.1.kind), (.slice ra fv.1.set.length rc), (.slice rb fv.1.args.length rd), (I6 fv.1.mn), (I6 fv.1.mx), (.bool fv.1.neg)])) rfl rfl) ?_
      refine qV (r_extract (vs := #[(.agg #[(I6 fv.1.kind), (.slice ra fv.1.set.length rc), (.slice rb fv.1.args.length rd), (I6 fv.1.mn), (I6 fv.1.mx), (.bool fv.1.neg)]), (I6 fv.2)]) (v := (I6 fv.2)) rfl rfl) ?_
      refine s_allocStore (v := (.agg #[(I6 fv.1.kind), (.slice ra fv.1.set.length rc), (.slice rb fv.1.args.length rd), (I6 fv.1.mn), (I6 fv.1.mx), (.bool fv.1.neg)])) (c := #[(I6 fv.1.kind), (.slice ra fv.1.set.length rc), (.slice rb fv.1.args.length rd), (I6 fv.1.mn), (I6 fv.1.mx), (.bool fv.1.neg)]) (n := 6) (by decide) zer25 rfl siz25 rfl rfl rfl (by simp [Value.oneCell']) ?_
      intro bf wf Nf
      have Ff := Nf.ge E
      have Of_br := Nf.lt Br
      have Of_bs := Nf.lt Bs
      have Of_bv := Nf.lt Bv
      replace Br := Nf.keep Br
      replace Bs := Nf.keep Bs
      replace Bv := Nf.keep Bv
      replace hsp9 := hsp9.ext Nf.ext
      replace hre8 := ReAt.ext Nf.ext _ hre8
      replace hfo8 := ReAt.ext Nf.ext _ hfo8
      replace E := E.ext Nf.ext
      have Bf := Nf.blk
      refine qA (I6 fv.2) rfl ?_
      refine WpL_nil (Wp_seq (Wp_seq_region ?_))
      refine qM (I6 f40) rfl ?_
      refine qV (r_neq (k := .i64) (a := f40) (b := 0) rfl rfl) ?_
      refine WpL_nil ?_
      refine Wp_cond (b := decide ((f40 : Int) ≠ 0)) rfl (fun hw => ?_) (fun hw => ?_)
      ·have khw := hw
       replace hw := of_decide_eq_true hw
       have hw2 : fitsE t 40 ≠ 0 := by rw [← h40]; exact hw
       have hnb2 : nb = false := by rw [hnb, decide_eq_false hw]; rfl
       have hss2 : ss = [] := by rw [hss, if_neg hw2]
       have hrv2 : rv = (noneT, f40) := by rw [hrv, h40]; unfold revV; rw [if_pos hw2]
       have hfv2 : fv = (noneT, f40) := by rw [hfv, h40]; unfold foldV; rw [if_pos hw2]
       have hk4 : decide ((f40 : Int) = f40) = true := by simp
       have hk5 : decide ((rv.2 : Int) = f40) = true := by rw [hrv2]; simp
       have hk6 : decide ((fv.2 : Int) = f40) = true := by rw [hfv2]; simp
       have hk7 : decide ((((ss.length : Nat) : Int) : Int) = 0) = true := by rw [hss2]; rfl
       refine Wp_seq_region ?_
       refine qM (I6 f40) rfl ?_
       refine qM (I6 f40) rfl ?_
       refine qV (r_eql (k := .i64) (a := f40) (b := f40) rfl rfl) ?_
       refine qM (.bool (decide ((f40 : Int) = f40))) rfl ?_
       refine WpL_guard_yes (oj := _) rfl rfl (by decide) (congrArg Value.bool hk4) ?_
       refine qM (I6 f40) rfl ?_
       refine WpL_guard_yes (oj := _) rfl rfl (by decide) (congrArg Value.bool hk4) ?_
       refine qM (I6 f40) rfl ?_
       refine WpL_guard_yes (oj := _) rfl rfl (by decide) (congrArg Value.bool hk4) ?_
       refine qV (r_eql (k := .i64) (a := f40) (b := f40) rfl rfl) ?_
       refine qV (r_pick (b := decide ((f40 : Int) = f40)) (v := (.bool (decide ((f40 : Int) = f40)))) rfl (by rw [hk4]; rfl)) ?_
       refine qM (.bool (decide ((f40 : Int) = f40))) rfl ?_
       refine WpL_guard_yes (oj := _) rfl rfl (by decide) (congrArg Value.bool hk4) ?_
       refine qM (I6 rv.2) rfl ?_
       refine WpL_guard_yes (oj := _) rfl rfl (by decide) (congrArg Value.bool hk4) ?_
       refine qM (I6 f40) rfl ?_
       refine WpL_guard_yes (oj := _) rfl rfl (by decide) (congrArg Value.bool hk4) ?_
       refine qV (r_eql (k := .i64) (a := rv.2) (b := f40) rfl rfl) ?_
       refine qV (r_pick (b := decide ((f40 : Int) = f40)) (v := (.bool (decide ((rv.2 : Int) = f40)))) rfl (by rw [hk4]; rfl)) ?_
       refine qM (.bool (decide ((rv.2 : Int) = f40))) rfl ?_
       refine WpL_guard_yes (oj := _) rfl rfl (by decide) (congrArg Value.bool hk5) ?_
       refine qM (I6 fv.2) rfl ?_
       refine WpL_guard_yes (oj := _) rfl rfl (by decide) (congrArg Value.bool hk5) ?_
       refine qM (I6 f40) rfl ?_
       refine WpL_guard_yes (oj := _) rfl rfl (by decide) (congrArg Value.bool hk5) ?_
       refine qV (r_eql (k := .i64) (a := fv.2) (b := f40) rfl rfl) ?_
       refine qV (r_pick (b := decide ((rv.2 : Int) = f40)) (v := (.bool (decide ((fv.2 : Int) = f40)))) rfl (by rw [hk5]; rfl)) ?_
       refine qM (.bool (decide ((fv.2 : Int) = f40))) rfl ?_
       refine WpL_guard_yes (oj := _) rfl rfl (by decide) (congrArg Value.bool hk6) ?_
       refine qM (.bool nb) rfl ?_
       refine WpL_guard_yes (oj := _) rfl rfl (by decide) (congrArg Value.bool hk6) ?_
       refine qV (r_not (b := nb) rfl) ?_
       have hk_7 : (!nb) = true := by rw [hnb2]; rfl
       refine qV (r_pick (b := decide ((fv.2 : Int) = f40)) (v := (.bool (!nb))) rfl (by rw [hk6]; rfl)) ?_
       refine qM (.bool (!nb)) rfl ?_
       refine WpL_guard_yes (oj := _) rfl rfl (by decide) (congrArg Value.bool hk_7) ?_
       refine qM (.slice sa9 ss.length sc9) rfl ?_
       refine WpL_guard_yes (oj := _) rfl rfl (by decide) (congrArg Value.bool hk_7) ?_
       refine qV (r_lenSlice (ad := sa9) (n := ss.length) (cap := sc9) Tryz.underlying38 rfl) ?_
       refine WpL_guard_yes (oj := _) rfl rfl (by decide) (congrArg Value.bool hk_7) ?_
       refine qV (r_eql (k := .i64) (a := (ss.length : Int)) (b := 0) rfl rfl) ?_
       refine qV (r_pick (b := !nb) (v := (.bool (decide (((ss.length : Int) : Int) = 0)))) rfl (by rw [hk_7]; rfl)) ?_
       refine qM (.bool (decide (((ss.length : Int) : Int) = 0))) rfl ?_
       refine WpL_guard_yes (oj := _) rfl rfl (by decide) (congrArg Value.bool hk7) ?_
       refine qV (r_loadAgg (vs := [(I6 rv.1.kind), (.slice qa rv.1.set.length qc), (.slice qb rv.1.args.length qd), (I6 rv.1.mn), (I6 rv.1.mx), (.bool rv.1.neg)]) rfl agg25 siz25 rfl (Bv.cells rfl)) ?_
       refine WpL_guard_yes (oj := _) rfl rfl (by decide) (congrArg Value.bool hk7) ?_
       refine qV (r_build (ps := []) (v := (.agg #[(I6 0), (.slice none 0 0), (.slice none 0 0), (I6 0), (I6 0), (.bool false)])) rfl (by kernel_rfl)) ?_
       refine WpL_guard_yes (oj := _) rfl rfl (by decide) (congrArg Value.bool hk7) ?_
       refine WpL_enter rfl rfl (by decide) (r_callF (vs := [(.agg #[(I6 rv.1.kind), (.slice qa rv.1.set.length qc), (.slice qb rv.1.args.length qd), (I6 rv.1.mn), (I6 rv.1.mx), (.bool rv.1.neg)]), (.agg #[(I6 0), (.slice none 0 0), (.slice none 0 0), (I6 0), (I6 0), (.bool false)])]) Tryz.func13 nm13 bd13 rfl) (requal_f hre8 (ReIn.at _ (fold_z (S := fun _ => True))) (by rw [hrv2])) ?_
       rintro _ w89 ⟨rfl, X89⟩
       replace Br := X89.keep Br
       replace Bs := X89.keep Bs
       replace Bv := X89.keep Bv
       replace Bf := X89.keep Bf
       replace hsp9 := hsp9.ext X89
       replace hre8 := ReAt.ext X89 _ hre8
       replace hfo8 := ReAt.ext X89 _ hfo8
       replace E := E.ext X89
       refine qV (r_pick (b := decide (((ss.length : Int) : Int) = 0)) (v := (.bool true)) rfl (by rw [hk7]; rfl)) ?_
       refine qM (.bool true) rfl ?_
       refine WpL_guard_yes (oj := _) rfl rfl (by decide) rfl ?_
       refine qV (r_loadAgg (vs := [(I6 fv.1.kind), (.slice ra fv.1.set.length rc), (.slice rb fv.1.args.length rd), (I6 fv.1.mn), (I6 fv.1.mx), (.bool fv.1.neg)]) rfl agg25 siz25 rfl (Bf.cells rfl)) ?_
       refine WpL_guard_yes (oj := _) rfl rfl (by decide) rfl ?_
       refine qV (r_build (ps := []) (v := (.agg #[(I6 0), (.slice none 0 0), (.slice none 0 0), (I6 0), (I6 0), (.bool false)])) rfl (by kernel_rfl)) ?_
       refine WpL_guard_yes (oj := _) rfl rfl (by decide) rfl ?_
       refine WpL_enter rfl rfl (by decide) (r_callF (vs := [(.agg #[(I6 fv.1.kind), (.slice ra fv.1.set.length rc), (.slice rb fv.1.args.length rd), (I6 fv.1.mn), (I6 fv.1.mx), (.bool fv.1.neg)]), (.agg #[(I6 0), (.slice none 0 0), (.slice none 0 0), (I6 0), (I6 0), (.bool false)])]) Tryz.func13 nm13 bd13 rfl) (requal_f hfo8 (ReIn.at _ (fold_z (S := fun _ => True))) (by rw [hfv2])) ?_
       rintro _ w99 ⟨rfl, X99⟩
       replace Br := X99.keep Br
       replace Bs := X99.keep Bs
       replace Bv := X99.keep Bv
       replace Bf := X99.keep Bf
       replace hsp9 := hsp9.ext X99
       replace hre8 := ReAt.ext X99 _ hre8
       replace hfo8 := ReAt.ext X99 _ hfo8
       replace E := E.ext X99
       refine qV (r_pick (b := true) (v := (.bool true)) rfl rfl) ?_
       refine qA (.bool true) rfl ?_
       refine WpL_nil (Wp_ret (thn_ret ?_))
       refine fin_tmp Tryz.results3 (v := (.bool true)) rfl ?_
       exact ⟨rfl, E⟩
      ·have khw := hw
       replace hw := of_decide_eq_false hw
       have hw0 : fitsE t 40 = 0 := by rw [← h40]; omega
       obtain ⟨hok, hsz⟩ := (fitsE_zero (by decide) (by decide)).1 hw0
       obtain ⟨eb, heb⟩ : ∃ b, b = emptR t := ⟨_, rfl⟩
       have hk8 : (nb != eb) = false := by rw [hnb, heb, h40, hw0, empty_same]; simp
       have hss2 : ss = setsL t := by rw [hss, if_pos hw0]
       refine Wp_skip (thn_normal (Wp_seq (Wp_seq_region ?_)))
       refine qM (I6 f40) rfl ?_
       refine qV (r_neq (k := .i64) (a := f40) (b := 0) rfl rfl) ?_
       refine qM (.bool (decide ((f40 : Int) ≠ 0))) rfl ?_
       refine WpL_guard_yes (oj := _) rfl rfl (by decide) (congrArg Value.bool khw) ?_
       refine qM (.bool nb) rfl ?_
       refine WpL_guard_yes (oj := _) rfl rfl (by decide) (congrArg Value.bool khw) ?_
       refine qV (r_loadAgg (vs := [(I6 t.kind), (.slice sa t.set.length sc), (.slice aa t.args.length ac), (I6 t.mn), (I6 t.mx), (.bool t.neg)]) rfl agg25 siz25 rfl (Br.cells rfl)) ?_
       refine WpL_guard_yes (oj := _) rfl rfl (by decide) (congrArg Value.bool khw) ?_
       refine WpL_enter rfl rfl (by decide) (r_callF (vs := [(.agg (R6 t sa sc aa ac))]) Tryz.func21 nm21 bd21 rfl) ((null2_c _ t _ (ReAt.ext E t ht0) hok).mono (R' := fun v w => v = .bool eb ∧ Ext _ w) (fun v w h => ⟨by rw [heb]; exact h.1, h.2⟩)) ?_
       rintro _ w89 ⟨rfl, X89⟩
       replace Br := X89.keep Br
       replace Bs := X89.keep Bs
       replace Bv := X89.keep Bv
       replace Bf := X89.keep Bf
       replace hsp9 := hsp9.ext X89
       replace hre8 := ReAt.ext X89 _ hre8
       replace hfo8 := ReAt.ext X89 _ hfo8
       replace E := E.ext X89
       refine WpL_guard_yes (oj := _) rfl rfl (by decide) (congrArg Value.bool khw) ?_
       refine qV (r_neqB (p := nb) (q := eb) Tryz.underlying4 rfl rfl) ?_
       refine qV (r_pick (b := decide ((f40 : Int) ≠ 0)) (v := (.bool (nb != eb))) rfl (by rw [khw]; rfl)) ?_
       refine qM (.bool (nb != eb)) rfl ?_
       refine WpL_guard_yes (oj := _) rfl rfl (by decide) (congrArg Value.bool hk8) ?_
       refine qM (I6 f40) rfl ?_
       refine WpL_guard_yes (oj := _) rfl rfl (by decide) (congrArg Value.bool hk8) ?_
       refine qV (r_neq (k := .i64) (a := f40) (b := 0) rfl rfl) ?_
       refine qV (r_pick (b := nb != eb) (v := (.bool (decide ((f40 : Int) ≠ 0)))) rfl (by rw [hk8]; rfl)) ?_
       refine qM (.bool (decide ((f40 : Int) ≠ 0))) rfl ?_
       refine WpL_guard_yes (oj := _) rfl rfl (by decide) (congrArg Value.bool khw) ?_
       refine qM (.slice sa9 ss.length sc9) rfl ?_
       refine WpL_guard_yes (oj := _) rfl rfl (by decide) (congrArg Value.bool khw) ?_
       refine qV (r_loadAgg (vs := [(I6 t.kind), (.slice sa t.set.length sc), (.slice aa t.args.length ac), (I6 t.mn), (I6 t.mx), (.bool t.neg)]) rfl agg25 siz25 rfl (Br.cells rfl)) ?_
       refine WpL_guard_yes (oj := _) rfl rfl (by decide) (congrArg Value.bool khw) ?_
       refine WpL_enter rfl rfl (by decide) (r_callF (vs := [(.agg (R6 t sa sc aa ac))]) Tryz.func23 nm23 bd23 rfl) (setsof_c _ t _ (ReAt.ext E t ht0) (by omega)) ?_
       rintro v99 w99 ⟨hso9, X99⟩
       replace Br := X99.keep Br
       replace Bs := X99.keep Bs
       replace Bv := X99.keep Bv
       replace Bf := X99.keep Bf
       replace hsp9 := hsp9.ext X99
       replace hre8 := ReAt.ext X99 _ hre8
       replace hfo8 := ReAt.ext X99 _ hfo8
       replace E := E.ext X99
       refine WpL_guard_yes (oj := _) rfl rfl (by decide) (congrArg Value.bool khw) ?_
       refine WpL_enter rfl rfl (by decide) (r_callF (vs := [(.slice sa9 ss.length sc9), v99]) Tryz.func22 nm22 bd22 rfl) ((sseq_c _ _ _ ss (setsL t) hsp9 hso9).mono (R' := fun v w => v = .bool true ∧ Ext _ w) (fun v w h => ⟨by rw [h.1, decide_eq_true hss2], h.2⟩)) ?_
       rintro _ w109 ⟨rfl, X109⟩
       replace Br := X109.keep Br
       replace Bs := X109.keep Bs
       replace Bv := X109.keep Bv
       replace Bf := X109.keep Bf
       replace hsp9 := hsp9.ext X109
       replace hre8 := ReAt.ext X109 _ hre8
       replace hfo8 := ReAt.ext X109 _ hfo8
       replace E := E.ext X109
       obtain ⟨n79, hn79⟩ : ∃ n, n = (w109).heap.size := ⟨_, rfl⟩
       have hreI := ReIn.of_at rv.1 hre8
       have hfoI := ReIn.of_at fv.1 hfo8
       rw [← hn79] at hreI hfoI
       refine WpL_guard_yes (oj := _) rfl rfl (by decide) (congrArg Value.bool khw) ?_
       refine qV (r_not (b := true) rfl) ?_
       refine qV (r_pick (b := decide ((f40 : Int) ≠ 0)) (v := (.bool false)) rfl (by rw [khw]; rfl)) ?_
       refine WpL_nil ?_
       refine Wp_cond_false rfl ?_
       refine Wp_skip (thn_normal (Wp_seq_region ?_))
       refine qV (r_build (ps := []) (v := (.agg #[(I6 0), (.slice none 0 0), (.slice none 0 0), (I6 0), (I6 0), (.bool false)])) rfl (by kernel_rfl)) ?_
       refine s_allocStore (v := (.agg #[(I6 0), (.slice none 0 0), (.slice none 0 0), (I6 0), (I6 0), (.bool false)])) (c := #[(I6 0), (.slice none 0 0), (.slice none 0 0), (I6 0), (I6 0), (.bool false)]) (n := 6) (by decide) zer25 rfl siz25 rfl rfl rfl (by simp [Value.oneCell']) ?_
       intro bw ww Nw
       have Fw := Nw.ge E
       have Ow_br := Nw.lt Br
       have Ow_bs := Nw.lt Bs
       have Ow_bv := Nw.lt Bv
       have Ow_bf := Nw.lt Bf
       replace Br := Nw.keep Br
       replace Bs := Nw.keep Bs
       replace Bv := Nw.keep Bv
       replace Bf := Nw.keep Bf
       replace hreI := ReIn.ext Nw.ext _ hreI
       replace hfoI := ReIn.ext Nw.ext _ hfoI
       replace E := E.ext Nw.ext
       have Bw := Nw.blk
       refine qA (I6 3) rfl ?_
       refine WpL_nil (Wp_seq (Wp_seq_region ?_))
       refine qV (r_loadAgg (vs := [(I6 t.kind), (.slice sa t.set.length sc), (.slice aa t.args.length ac), (I6 t.mn), (I6 t.mx), (.bool t.neg)]) rfl agg25 siz25 rfl (Br.cells rfl)) ?_
       refine s_buildSlice (ps := [(0, (I6 10))]) (c := #[(I6 10)]) (by decide) rfl Tryz.underlying46 siz3 zer3 (by decide) (by decide) (by kernel_rfl) ?_
       intro bu wu Nu
       have Fu := Nu.ge E
       have Ou_br := Nu.lt Br
       have Ou_bs := Nu.lt Bs
       have Ou_bv := Nu.lt Bv
       have Ou_bf := Nu.lt Bf
       have Ou_bw := Nu.lt Bw
       replace Br := Nu.keep Br
       replace Bs := Nu.keep Bs
       replace Bv := Nu.keep Bv
       replace Bf := Nu.keep Bf
       replace Bw := Nu.keep Bw
       replace hreI := ReIn.ext Nu.ext _ hreI
       replace hfoI := ReIn.ext Nu.ext _ hfoI
       replace E := E.ext Nu.ext
       have Bu := Nu.blk
       have hbw : n79 ≤ bw := by have := Nw.eq; omega
       refine WpL_enter rfl rfl (by decide) (r_callF (vs := [(.agg (R6 t sa sc aa ac)), (.slice (some ⟨bu, 0, none⟩) 1 1)]) Tryz.func16 nm16 bd16 rfl) ((hasR_c _ t _ _ [10] (ReAt.ext E t ht0) (ints_of_blk [10] Bu (by simp) (by simp)) (by omega) (by decide)).mono (R' := fun v w => v = .bool (usesB [10] t) ∧ Ext _ w) (fun v w h => h)) ?_
       rintro _ w119 ⟨rfl, X119⟩
       replace Br := X119.keep Br
       replace Bs := X119.keep Bs
       replace Bv := X119.keep Bv
       replace Bf := X119.keep Bf
       replace Bw := X119.keep Bw
       replace Bu := X119.keep Bu
       replace hreI := ReIn.ext X119 _ hreI
       replace hfoI := ReIn.ext X119 _ hfoI
       replace E := E.ext X119
       refine qV (r_not (b := (usesB [10] t)) rfl) ?_
       refine WpL_nil ?_
       refine Wp_cutT (fun σ W8 => ∃ (wr : Re) (we : Int) (c1 : Option Addr) (c2 : Nat) (c3 : Option Addr) (c4 : Nat), (∃ jj_, σ = upds jj_ [(3, (P6 br 0)), (12, (P6 bv 0)), (13, (I6 rv.2)), (14, (P6 bf 0)), (15, (I6 fv.2)), (16, (P6 bw 0)), (17, (I6 we))]) ∧ Chg none1 w0 W8 ∧ Blk W8 br (R6 t sa sc aa ac) 25 ∧ Blk W8 bs (R6 o sa2 sc2 aa2 ac2) 25 ∧ Blk W8 bv #[(I6 rv.1.kind), (.slice qa rv.1.set.length qc), (.slice qb rv.1.args.length qd), (I6 rv.1.mn), (I6 rv.1.mx), (.bool rv.1.neg)] 25 ∧ Blk W8 bf #[(I6 fv.1.kind), (.slice ra fv.1.set.length rc), (.slice rb fv.1.args.length rd), (I6 fv.1.mn), (I6 fv.1.mx), (.bool fv.1.neg)] 25 ∧ Blk W8 bw (#[.int .i64 wr.kind, .slice c1 wr.set.length c2, .slice c3 wr.args.length c4, .int .i64 wr.mn, .int .i64 wr.mx, .bool wr.neg]) 25 ∧ Blk W8 bu #[(I6 10)] 3 ∧ (revV t = (wr, we)) ∧ (ReAt W8 wr [.int .i64 wr.kind, .slice c1 wr.set.length c2, .slice c3 wr.args.length c4, .int .i64 wr.mn, .int .i64 wr.mx, .bool wr.neg]) ∧ (ReIn (fun y => y < n79) W8 rv.1 [.int .i64 rv.1.kind, .slice qa rv.1.set.length qc, .slice qb rv.1.args.length qd, .int .i64 rv.1.mn, .int .i64 rv.1.mx, .bool rv.1.neg]) ∧ (ReIn (fun y => y < n79) W8 fv.1 [.int .i64 fv.1.kind, .slice ra fv.1.set.length rc, .slice rb fv.1.args.length rd, .int .i64 fv.1.mn, .int .i64 fv.1.mx, .bool fv.1.neg])) ?_ ?_
       ·skip
        refine Wp_cond (b := !(usesB [10] t)) rfl (fun hx10 => ?_) (fun hx10 => ?_)
        ·have khx10 := hx10
         replace hx10 := by simpa using hx10
         have hwr : revV t = (revT t, 0) := by unfold revV; rw [if_neg (by rw [hw0]; decide), if_neg (by rw [hx10]; decide)]
         obtain ⟨RT, hRT⟩ : ∃ r, r = revT t := ⟨_, rfl⟩
         obtain ⟨n89, hn89⟩ : ∃ n, n = (w119).heap.size := ⟨_, rfl⟩
         have hbw2 : bw < n89 := by rw [hn89]; exact Bw.lt
         refine Wp_region ?_
         refine qV (r_loadAgg (vs := [(I6 t.kind), (.slice sa t.set.length sc), (.slice aa t.args.length ac), (I6 t.mn), (I6 t.mx), (.bool t.neg)]) rfl agg25 siz25 rfl (Br.cells rfl)) ?_
         refine WpL_enter rfl rfl (by decide) (r_callF (vs := [(.agg (R6 t sa sc aa ac))]) Tryz.func24 nm24 bd24 rfl) ((rreversed_c t.size t _ _ (fun y => y < w0.heap.size) (Nat.le_refl _) (by omega) (ReIn.ext E t (ReIn.of_at t ht0)) (fun y hy => by have := E.size; have h2 : y < w0.heap.size := hy; omega)).mono (R' := fun v w => (∃ us, v = .agg us.toArray ∧ ReIn (fun b => b < w0.heap.size ∨ n89 ≤ b) w RT us) ∧ Ext _ w) (fun v w h => ⟨by obtain ⟨us, h1, h2, _⟩ := h; rw [hRT, hn89]; exact ⟨us, h1, h2⟩, by obtain ⟨_, _, _, h3⟩ := h; exact h3⟩)) ?_
         rintro _ w129 ⟨⟨us7, rfl, hrt⟩, X129⟩
         replace Br := X129.keep Br
         replace Bs := X129.keep Bs
         replace Bv := X129.keep Bv
         replace Bf := X129.keep Bf
         replace Bw := X129.keep Bw
         replace Bu := X129.keep Bu
         replace hreI := ReIn.ext X129 _ hreI
         replace hfoI := ReIn.ext X129 _ hfoI
         replace E := E.ext X129
         have hrt0 := hrt
         obtain ⟨ta, tc, tb, td, rfl, _, _, _⟩ := hrt.form
         refine s_storeAgg (b := bw) (o := 0) (c' := (R6 RT ta tc tb td)) rfl rfl (by simp [Value.oneCell']) siz25 rfl Bw (by first | (simp; done) | exact Nat.le_of_ble_eq_true rfl) rfl ?_
         intro w10 S10
         replace hrt0 := ReIn.chg S10.chg (fun y hy h => by have h2 : y = bw := h; rcases hy with h1 | h1; (have := E.size; omega); omega) _ hrt0
         replace hreI := ReIn.chg S10.chg (fun y hy h => by have h2 : y = bw := h; have h3 : y < n79 := hy; omega) _ hreI
         replace hfoI := ReIn.chg S10.chg (fun y hy h => by have h2 : y = bw := h; have h3 : y < n79 := hy; omega) _ hfoI
         replace Br := S10.keep (by omega) Br
         replace Bs := S10.keep (by omega) Bs
         replace Bv := S10.keep (by omega) Bv
         replace Bf := S10.keep (by omega) Bf
         replace Bu := S10.keep (by omega) Bu
         replace E := S10.step E (by first | exact Or.inl (by omega) | exact Or.inr rfl | exact Or.inr (by assumption) | exact Or.inr (by simp) | exact Or.inr (by omega) | exact Or.inr (by dsimp only; omega))
         replace Bw := S10.blk
         refine qA (I6 0) rfl ?_
         refine WpL_nil (thn_normal ?_)
         exact ⟨RT, 0, ta, tc, tb, td, Fits.out ⟨rfl, rfl, rfl, rfl, rfl, rfl, rfl, trivial⟩, E, Br, Bs, Bv, Bf, Bw, Bu, (by rw [hRT]; exact hwr), ReIn.at _ hrt0, hreI, hfoI⟩
        ·have khx10 := hx10
         replace hx10 := by simpa using hx10
         have hwr : revV t = (noneT, 3) := by unfold revV; rw [if_neg (by rw [hw0]; decide), if_pos (by simpa using hx10)]
         refine Wp_skip (thn_normal ?_)
         exact ⟨noneT, 3, none, 0, none, 0, Fits.out ⟨rfl, rfl, rfl, rfl, rfl, rfl, rfl, trivial⟩, E, Br, Bs, Bv, Bf, Bw, Bu, hwr, ReIn.at _ (fold_z (S := fun _ => True)), hreI, hfoI⟩
       ·clear E Br Bs Bv Bf Bw Bu
        rintro _ W8 ⟨wr, we, c1, c2, c3, c4, ⟨j8, rfl⟩, E, Br, Bs, Bv, Bf, Bw, Bu, hwr, hwa, hreI, hfoI⟩
        have hk9 : decide ((rv.2 : Int) ≠ we) = false := by rw [hrv, hwr]; simp
        refine Wp_seq (Wp_seq_region ?_)
        refine qM (I6 rv.2) rfl ?_
        refine qM (I6 we) rfl ?_
        refine qV (r_neq (k := .i64) (a := rv.2) (b := we) rfl rfl) ?_
        refine qM (.bool (decide ((rv.2 : Int) ≠ we))) rfl ?_
        refine WpL_guard_yes (oj := _) rfl rfl (by decide) (congrArg Value.bool hk9) ?_
        refine qV (r_loadAgg (vs := [(I6 rv.1.kind), (.slice qa rv.1.set.length qc), (.slice qb rv.1.args.length qd), (I6 rv.1.mn), (I6 rv.1.mx), (.bool rv.1.neg)]) rfl agg25 siz25 rfl (Bv.cells rfl)) ?_
        refine WpL_guard_yes (oj := _) rfl rfl (by decide) (congrArg Value.bool hk9) ?_
        refine qV (r_loadAgg (vs := [(I6 wr.kind), (.slice c1 wr.set.length c2), (.slice c3 wr.args.length c4), (I6 wr.mn), (I6 wr.mx), (.bool wr.neg)]) rfl agg25 siz25 rfl (Bw.cells rfl)) ?_
        refine WpL_guard_yes (oj := _) rfl rfl (by decide) (congrArg Value.bool hk9) ?_
        refine WpL_enter rfl rfl (by decide) (r_callF (vs := [(.agg #[(I6 rv.1.kind), (.slice qa rv.1.set.length qc), (.slice qb rv.1.args.length qd), (I6 rv.1.mn), (I6 rv.1.mx), (.bool rv.1.neg)]), (.agg (R6 wr c1 c2 c3 c4))]) Tryz.func13 nm13 bd13 rfl) (requal_f (ReIn.at _ hreI) hwa (by rw [hrv, hwr])) ?_
        rintro _ w89 ⟨rfl, X89⟩
        replace Br := X89.keep Br
        replace Bs := X89.keep Bs
        replace Bv := X89.keep Bv
        replace Bf := X89.keep Bf
        replace Bw := X89.keep Bw
        replace Bu := X89.keep Bu
        replace hreI := ReIn.ext X89 _ hreI
        replace hfoI := ReIn.ext X89 _ hfoI
        replace E := E.ext X89
        refine WpL_guard_yes (oj := _) rfl rfl (by decide) (congrArg Value.bool hk9) ?_
        refine qV (r_not (b := true) rfl) ?_
        refine qV (r_pick (b := decide ((rv.2 : Int) ≠ we)) (v := (.bool false)) rfl (by rw [hk9]; rfl)) ?_
        refine WpL_nil ?_
        refine Wp_cond_false rfl ?_
        refine Wp_skip (thn_normal (Wp_seq_region ?_))
        refine qV (r_build (ps := []) (v := (.agg #[(I6 0), (.slice none 0 0), (.slice none 0 0), (I6 0), (I6 0), (.bool false)])) rfl (by kernel_rfl)) ?_
        refine s_storeAgg (b := bw) (o := 0) (c' := #[(I6 0), (.slice none 0 0), (.slice none 0 0), (I6 0), (I6 0), (.bool false)]) rfl rfl (by simp [Value.oneCell']) siz25 rfl Bw (by first | (simp; done) | exact Nat.le_of_ble_eq_true rfl) rfl ?_
        intro w11 S11
        replace hfoI := ReIn.chg S11.chg (fun y hy h => by have h2 : y = bw := h; have h3 : y < n79 := hy; omega) _ hfoI
        replace Br := S11.keep (by omega) Br
        replace Bs := S11.keep (by omega) Bs
        replace Bv := S11.keep (by omega) Bv
        replace Bf := S11.keep (by omega) Bf
        replace Bu := S11.keep (by omega) Bu
        replace E := S11.step E (by first | exact Or.inl (by omega) | exact Or.inr rfl | exact Or.inr (by assumption) | exact Or.inr (by simp) | exact Or.inr (by omega) | exact Or.inr (by dsimp only; omega))
        replace Bw := S11.blk
        refine qA (I6 3) rfl ?_
        refine WpL_nil (Wp_seq (Wp_seq_region ?_))
        refine qV (r_loadAgg (vs := [(I6 t.kind), (.slice sa t.set.length sc), (.slice aa t.args.length ac), (I6 t.mn), (I6 t.mx), (.bool t.neg)]) rfl agg25 siz25 rfl (Br.cells rfl)) ?_
        refine s_buildSlice (ps := [(0, (I6 7)), (1, (I6 8)), (2, (I6 10))]) (c := #[(I6 7), (I6 8), (I6 10)]) (by decide) rfl Tryz.underlying46 siz3 zer3 (by decide) (by decide) (by kernel_rfl) ?_
        intro bz wz Nz
        have Fz := Nz.ge E
        have Oz_br := Nz.lt Br
        have Oz_bs := Nz.lt Bs
        have Oz_bv := Nz.lt Bv
        have Oz_bf := Nz.lt Bf
        have Oz_bw := Nz.lt Bw
        have Oz_bu := Nz.lt Bu
        replace Br := Nz.keep Br
        replace Bs := Nz.keep Bs
        replace Bv := Nz.keep Bv
        replace Bf := Nz.keep Bf
        replace Bw := Nz.keep Bw
        replace Bu := Nz.keep Bu
        replace hfoI := ReIn.ext Nz.ext _ hfoI
        replace E := E.ext Nz.ext
        have Bz := Nz.blk
        refine WpL_enter rfl rfl (by decide) (r_callF (vs := [(.agg (R6 t sa sc aa ac)), (.slice (some ⟨bz, 0, none⟩) 3 3)]) Tryz.func16 nm16 bd16 rfl) ((hasR_c _ t _ _ [7, 8, 10] (ReAt.ext E t ht0) (ints_of_blk [7, 8, 10] Bz (by simp) (by simp)) (by omega) (by decide)).mono (R' := fun v w => v = .bool (usesB [7, 8, 10] t) ∧ Ext _ w) (fun v w h => h)) ?_
        rintro _ w119 ⟨rfl, X119⟩
        replace Br := X119.keep Br
        replace Bs := X119.keep Bs
        replace Bv := X119.keep Bv
        replace Bf := X119.keep Bf
        replace Bw := X119.keep Bw
        replace Bu := X119.keep Bu
        replace Bz := X119.keep Bz
        replace hfoI := ReIn.ext X119 _ hfoI
        replace E := E.ext X119
        refine qV (r_not (b := (usesB [7, 8, 10] t)) rfl) ?_
        refine WpL_nil ?_
        refine Wp_cutT (fun σ W12 => ∃ (wf : Re) (we : Int) (c1 : Option Addr) (c2 : Nat) (c3 : Option Addr) (c4 : Nat), (∃ jj_, σ = upds jj_ [(14, (P6 bf 0)), (15, (I6 fv.2)), (16, (P6 bw 0)), (18, (I6 we))]) ∧ Chg none1 w0 W12 ∧ Blk W12 br (R6 t sa sc aa ac) 25 ∧ Blk W12 bs (R6 o sa2 sc2 aa2 ac2) 25 ∧ Blk W12 bv #[(I6 rv.1.kind), (.slice qa rv.1.set.length qc), (.slice qb rv.1.args.length qd), (I6 rv.1.mn), (I6 rv.1.mx), (.bool rv.1.neg)] 25 ∧ Blk W12 bf #[(I6 fv.1.kind), (.slice ra fv.1.set.length rc), (.slice rb fv.1.args.length rd), (I6 fv.1.mn), (I6 fv.1.mx), (.bool fv.1.neg)] 25 ∧ Blk W12 bw (#[.int .i64 wf.kind, .slice c1 wf.set.length c2, .slice c3 wf.args.length c4, .int .i64 wf.mn, .int .i64 wf.mx, .bool wf.neg]) 25 ∧ Blk W12 bu #[(I6 10)] 3 ∧ Blk W12 bz #[(I6 7), (I6 8), (I6 10)] 3 ∧ (foldV cl er t = (wf, we)) ∧ (ReAt W12 wf [.int .i64 wf.kind, .slice c1 wf.set.length c2, .slice c3 wf.args.length c4, .int .i64 wf.mn, .int .i64 wf.mx, .bool wf.neg]) ∧ (ReIn (fun y => y < n79) W12 fv.1 [.int .i64 fv.1.kind, .slice ra fv.1.set.length rc, .slice rb fv.1.args.length rd, .int .i64 fv.1.mn, .int .i64 fv.1.mx, .bool fv.1.neg])) ?_ ?_
        ·skip
         refine Wp_cond (b := !(usesB [7, 8, 10] t)) rfl (fun hx78 => ?_) (fun hx78 => ?_)
         ·have khx78 := hx78
          replace hx78 := by simpa using hx78
          obtain ⟨RT, hRT⟩ : ∃ r, r = (if nxE er t 0 = 0 then foldT cl t else noneT) := ⟨_, rfl⟩
          obtain ⟨e9, he9⟩ : ∃ r, r = nxE er t 0 := ⟨_, rfl⟩
          have hwr : foldV cl er t = (RT, e9) := by unfold foldV; rw [if_neg (by rw [hw0]; decide), if_neg (by rw [hx78]; decide), hRT, he9]; by_cases h9 : nxE er t 0 = 0; (rw [if_neg (by omega), if_pos h9, h9]); (rw [if_pos h9, if_neg h9])
          obtain ⟨n89, hn89⟩ : ∃ n, n = (w119).heap.size := ⟨_, rfl⟩
          have hbw2 : bw < n89 := by rw [hn89]; exact Bw.lt
          refine Wp_region ?_
          refine qV (r_loadAgg (vs := [(I6 t.kind), (.slice sa t.set.length sc), (.slice aa t.args.length ac), (I6 t.mn), (I6 t.mx), (.bool t.neg)]) rfl agg25 siz25 rfl (Br.cells rfl)) ?_
          refine WpL_enter rfl rfl (by decide) (r_callF (vs := [(.agg (R6 t sa sc aa ac))]) Tryz.func25 nm25 bd25 rfl) ((rfold_c hrc _ (fun y => y < w0.heap.size) t _ (ReIn.ext E t (ReIn.of_at t ht0)) (fun y hy => by have := E.size; have h2 : y < w0.heap.size := hy; omega) (by omega)).mono (R' := fun v w => (∃ us, v = .tuple #[.agg us.toArray, .int .i64 e9] ∧ ReIn (fun b => b < w0.heap.size ∨ n89 ≤ b) w RT us) ∧ Ext _ w) (fun v w h => ⟨by rw [hRT, he9, hn89]; exact h.1, h.2⟩)) ?_
          rintro _ w129 ⟨⟨us7, rfl, hrt⟩, X129⟩
          replace Br := X129.keep Br
          replace Bs := X129.keep Bs
          replace Bv := X129.keep Bv
          replace Bf := X129.keep Bf
          replace Bw := X129.keep Bw
          replace Bu := X129.keep Bu
          replace Bz := X129.keep Bz
          replace hfoI := ReIn.ext X129 _ hfoI
          replace E := E.ext X129
          have hrt0 := hrt
          obtain ⟨ta, tc, tb, td, rfl, _, _, _⟩ := hrt.form
          refine qM (.tuple #[(.agg (R6 RT ta tc tb td)), (I6 e9)]) rfl ?_
          refine qV (r_extract (vs := #[(.agg (R6 RT ta tc tb td)), (I6 e9)]) (v := (.agg (R6 RT ta tc tb td))) rfl rfl) ?_
          refine qV (r_extract (vs := #[(.agg (R6 RT ta tc tb td)), (I6 e9)]) (v := (I6 e9)) rfl rfl) ?_
          refine s_storeAgg (b := bw) (o := 0) (c' := (R6 RT ta tc tb td)) rfl rfl (by simp [Value.oneCell']) siz25 rfl Bw (by first | (simp; done) | exact Nat.le_of_ble_eq_true rfl) rfl ?_
          intro w14 S14
          replace hfoI := ReIn.chg S14.chg (fun y hy h => by have h2 : y = bw := h; have h3 : y < n79 := hy; omega) _ hfoI
          replace hrt0 := ReIn.chg S14.chg (fun y hy h => by have h2 : y = bw := h; rcases hy with h1 | h1; (have := E.size; omega); omega) _ hrt0
          replace Br := S14.keep (by omega) Br
          replace Bs := S14.keep (by omega) Bs
          replace Bv := S14.keep (by omega) Bv
          replace Bf := S14.keep (by omega) Bf
          replace Bu := S14.keep (by omega) Bu
          replace Bz := S14.keep (by omega) Bz
          replace E := S14.step E (by first | exact Or.inl (by omega) | exact Or.inr rfl | exact Or.inr (by assumption) | exact Or.inr (by simp) | exact Or.inr (by omega) | exact Or.inr (by dsimp only; omega))
          replace Bw := S14.blk
          refine qA (I6 e9) rfl ?_
          refine WpL_nil (thn_normal ?_)
          exact ⟨RT, e9, ta, tc, tb, td, Fits.out ⟨rfl, rfl, rfl, rfl, trivial⟩, E, Br, Bs, Bv, Bf, Bw, Bu, Bz, hwr, ReIn.at _ hrt0, hfoI⟩
         ·have khx78 := hx78
          replace hx78 := by simpa using hx78
          have hwr : foldV cl er t = (noneT, 3) := by unfold foldV; rw [if_neg (by rw [hw0]; decide), if_pos (by simpa using hx78)]
          refine Wp_skip (thn_normal ?_)
          exact ⟨noneT, 3, none, 0, none, 0, Fits.out ⟨rfl, rfl, rfl, rfl, trivial⟩, E, Br, Bs, Bv, Bf, Bw, Bu, Bz, hwr, ReIn.at _ (fold_z (S := fun _ => True)), hfoI⟩
        ·clear E Br Bs Bv Bf Bw Bu Bz
         rintro _ W12 ⟨wf, we, c1, c2, c3, c4, ⟨j12, rfl⟩, E, Br, Bs, Bv, Bf, Bw, Bu, Bz, hwr2, hwa2, hfoI⟩
         have hk10 : decide ((fv.2 : Int) = we) = true := by rw [hfv, hwr2]; simp
         refine Wp_seq_region ?_
         refine qM (I6 fv.2) rfl ?_
         refine qM (I6 we) rfl ?_
         refine qV (r_eql (k := .i64) (a := fv.2) (b := we) rfl rfl) ?_
         refine qM (.bool (decide ((fv.2 : Int) = we))) rfl ?_
         refine WpL_guard_yes (oj := _) rfl rfl (by decide) (congrArg Value.bool hk10) ?_
         refine qV (r_loadAgg (vs := [(I6 fv.1.kind), (.slice ra fv.1.set.length rc), (.slice rb fv.1.args.length rd), (I6 fv.1.mn), (I6 fv.1.mx), (.bool fv.1.neg)]) rfl agg25 siz25 rfl (Bf.cells rfl)) ?_
         refine WpL_guard_yes (oj := _) rfl rfl (by decide) (congrArg Value.bool hk10) ?_
         refine qV (r_loadAgg (vs := [(I6 wf.kind), (.slice c1 wf.set.length c2), (.slice c3 wf.args.length c4), (I6 wf.mn), (I6 wf.mx), (.bool wf.neg)]) rfl agg25 siz25 rfl (Bw.cells rfl)) ?_
         refine WpL_guard_yes (oj := _) rfl rfl (by decide) (congrArg Value.bool hk10) ?_
         refine WpL_enter rfl rfl (by decide) (r_callF (vs := [(.agg #[(I6 fv.1.kind), (.slice ra fv.1.set.length rc), (.slice rb fv.1.args.length rd), (I6 fv.1.mn), (I6 fv.1.mx), (.bool fv.1.neg)]), (.agg (R6 wf c1 c2 c3 c4))]) Tryz.func13 nm13 bd13 rfl) (requal_f (ReIn.at _ hfoI) hwa2 (by rw [hfv, hwr2])) ?_
         rintro _ w89 ⟨rfl, X89⟩
         replace Br := X89.keep Br
         replace Bs := X89.keep Bs
         replace Bv := X89.keep Bv
         replace Bf := X89.keep Bf
         replace Bw := X89.keep Bw
         replace Bu := X89.keep Bu
         replace Bz := X89.keep Bz
         replace hfoI := ReIn.ext X89 _ hfoI
         replace E := E.ext X89
         refine qV (r_pick (b := decide ((fv.2 : Int) = we)) (v := (.bool true)) rfl (by rw [hk10]; rfl)) ?_
         refine qA (.bool true) rfl ?_
         refine WpL_nil (Wp_ret ?_)
         refine fin_tmp Tryz.results3 (v := (.bool true)) rfl ?_
         exact ⟨rfl, E⟩
end Go.Proofs
namespace Go.Proofs
open Go Go.Eng
set_option maxRecDepth 100000
section
variable {H : Type} {enc : TypeId × Value → H} {P : Program} {w : World} {base : Nat} {spare : Nat → Bool} {held : Bool}
theorem cells_at {a : Addr} {k : Nat} {cs : List Value} (hk : 0 < k) (h : w.cells? base a k = some cs) : ∃ b o, a = ⟨b, o, none⟩ ∧ cs.length = k ∧ CellsAt w b o cs := by
  obtain ⟨h1, h2, h3⟩ := World.cells?_some h
  obtain ⟨b, o, s⟩ := a
  have hlen : cs.length = k := by first | exact h2 | exact h1 | omega
  have h0 := h3 0 (by omega)
  have hs : s = none := by
    cases s with
    | none => rfl
    | some s =>
      exfalso
      have hc : ∃ v, w.cell? ⟨b, o, some s⟩ = some v := ⟨_, by simpa [Addr.add, List.getElem?_eq_getElem (show 0 < cs.length by omega)] using h0⟩
      obtain ⟨v, hv⟩ := hc
      simp [World.cell?] at hv
      cases hh : w.heap[b]? <;> simp [hh] at hv
      split at hv <;> simp at hv
  subst hs
  refine ⟨b, o, rfl, hlen, fun i v hv => ?_⟩
  have := h3 i (by have := lt_of_get hv; omega)
  rw [Addr.add_lit] at this
  rw [this, hv]
theorem rows_map {α : Type} {f : α → List Value} : ∀ {rows : List (List Value)}, (∀ r ∈ rows, ∃ y, r = f y) → ∃ l : List α, rows = l.map f
  | [], _ => ⟨[], rfl⟩
  | r :: rows, h => by
    obtain ⟨y, hy⟩ := h r (by simp)
    obtain ⟨l, hl⟩ := rows_map (rows := rows) (f := f) fun r' hr' => h r' (List.mem_cons_of_mem _ hr')
    exact ⟨y :: l, by rw [hy, hl]; rfl⟩
end
section
variable {H : Type} {enc : TypeId × Value → H} {w : World} {base : Nat} {spare : Nat → Bool} {held : Bool}
theorem cells67 : Tryz.prog.cellsOf 67 = 2 := by kernel_rfl
theorem cells25 : Tryz.prog.cellsOf 25 = 6 := by kernel_rfl
theorem cells3 : Tryz.prog.cellsOf 3 = 1 := by kernel_rfl
theorem cells4 : Tryz.prog.cellsOf 4 = 1 := by kernel_rfl
theorem cells23 : Tryz.prog.cellsOf 23 = 1 := by kernel_rfl
theorem cells22 : Tryz.prog.cellsOf 22 = 1 := by kernel_rfl
theorem open_span {fuel : Nat} {cs : List Value} {x : DataW H × List MemPlace} (h : DataW.trod enc Tryz.prog w base spare held fuel 67 cs = some x) : ∃ s : Int × Int, cs = spanV s := by
  obtain ⟨xs, n, rfl, _, hl, hx, hf⟩ := DataW.trod_struct Tryz.underlying67 h
  rw [cells67] at hl
  match cs, hl with
  | [c0, c1], _ =>
    have h0 : DataW.trod enc Tryz.prog w base spare held n 3 (([c0, c1].drop 0).take (Tryz.prog.cellsOf 3)) = xs[0]? := hf 0 _ rfl
    have h1 : DataW.trod enc Tryz.prog w base spare held n 3 (([c0, c1].drop 1).take (Tryz.prog.cellsOf 3)) = xs[1]? := hf 1 _ rfl
    simp only [cells3, List.drop, List.take] at h0 h1
    rw [List.getElem?_eq_getElem (by rw [hx]; decide)] at h0 h1
    obtain ⟨a, e0, _⟩ := DataW.trod_int Tryz.underlying3 h0
    obtain ⟨b, e1, _⟩ := DataW.trod_int Tryz.underlying3 h1
    simp at e0 e1
    subst e0; subst e1
    exact ⟨(a, b), rfl⟩
end
end Go.Proofs
namespace Go.Proofs
open Go Go.Eng
set_option maxRecDepth 100000
section
variable {H : Type} {enc : TypeId × Value → H} {P : Program} {w : World} {base : Nat} {spare : Nat → Bool} {held : Bool}
/-- A slice, if each of its elements is read: with what was read. -/
theorem open_rowsB {t e k fuel : Nat} {cs : List Value} {x : DataW H × List MemPlace} {R : List Value → DataW H → Prop} (ht : P.underlying t = some (.slice e)) (hc : P.cellsOf e = k) (hk : 0 < k)
    (h : DataW.trod enc P w base spare held fuel t cs = some x) (hR : ∀ n cs' y, n < fuel → DataW.trod enc P w base spare held n e cs' = some y → R cs' y.1) :
    ∃ a rows cap, cs = [.slice a rows.length cap] ∧ SlAt w k (.slice a rows.length cap) rows ∧ (∀ r ∈ rows, r.length = k) ∧ rows.length ≤ cap ∧ cap ≤ maxLen ∧
      (rows = [] ∨ ∃ ds sp, x.1 = .slice ds sp ∧ ds.length = rows.length ∧ ∀ (i : Nat) r, rows[i]? = some r → ∃ d, ds[i]? = some d ∧ R r d) := by
  rcases DataW.trod_slice ht h with ⟨rfl, _⟩ | ⟨a, len, cap, elems, rest, n, rfl, rfl, rfl, hb, hl, hm, hlen, hel, _, _⟩
  · exact ⟨none, [], 0, rfl, SlAt.nil _ _ _ _, by simp, by simp, by simp [maxLen], .inl rfl⟩
  · have each : ∀ i, i < len → ∃ cs' y, w.cells? base (a.add (i * k)) k = some cs' ∧ elems[i]? = some y ∧ R cs' y.1 := by
      intro i hi
      have := hel i hi
      rw [List.getElem?_eq_getElem (by omega), hc, Option.bind_eq_some_iff] at this
      obtain ⟨cs', h1, h2⟩ := this
      exact ⟨cs', _, h1, List.getElem?_eq_getElem (by omega), hR n cs' _ (by omega) h2⟩
    have fam : ∀ m, m ≤ len → ∃ rows : List (List Value), rows.length = m ∧ ∀ (i : Nat) r, rows[i]? = some r → w.cells? base (a.add (i * k)) k = some r ∧ ∃ y, elems[i]? = some y ∧ R r y.1 := by
      intro m
      induction m with
      | zero => intro _; exact ⟨[], rfl, by simp⟩
      | succ m ih =>
        intro hm
        obtain ⟨rows, h1, h2⟩ := ih (by omega)
        obtain ⟨cs', y, h3, h4, h5⟩ := each m (by omega)
        refine ⟨rows ++ [cs'], by simp [h1], fun i r hr => ?_⟩
        rcases Nat.lt_or_ge i rows.length with hi | hi
        · rw [List.getElem?_append_left hi] at hr; exact h2 i r hr
        · rw [List.getElem?_append_right hi] at hr
          have hi' := lt_of_get hr
          simp at hi'
          obtain rfl : i = m := by omega
          simp [h1] at hr
          subst hr
          exact ⟨h3, y, h4, h5⟩
    obtain ⟨rows, hrl, hrows⟩ := fam len (Nat.le_refl _)
    have hmax : rows.length ≤ 9223372036854775807 := by simp only [maxLen] at hm; omega
    refine ⟨some a, rows, cap, by rw [hrl], ⟨some a, cap, rfl, hmax, by omega, ?_⟩, ?_, by omega, hm, .inr ⟨elems.map (·.1), rest.map (·.1), rfl, by simp; omega, fun i r hr => ?_⟩⟩
    · rcases Nat.eq_zero_or_pos len with h0 | h0
      · left; exact List.eq_nil_of_length_eq_zero (by omega)
      · right
        obtain ⟨r0, hr0⟩ := get_of_lt (l := rows) (i := 0) (by omega)
        have h1 := (hrows 0 r0 hr0).1
        have hz : a.add (0 * k) = a := by simp [Addr.add]
        rw [hz] at h1
        obtain ⟨b, o, rfl, _, _⟩ := cells_at hk h1
        refine ⟨b, o, rfl, fun i r hr => ?_⟩
        have h2 := (hrows i r hr).1
        rw [Addr.add_lit] at h2
        obtain ⟨b', o', he, _, h3⟩ := cells_at hk h2
        cases he
        exact h3
    · intro r hr
      obtain ⟨i, hi⟩ := List.mem_iff_getElem?.1 hr
      have h2 := hrows i r hi
      obtain ⟨_, _, _, h3, _⟩ := cells_at hk h2.1
      exact h3
    · obtain ⟨_, y, h4, h5⟩ := hrows i r hr
      exact ⟨y.1, by simp [h4], h5⟩
end
section
variable {H : Type} {enc : TypeId × Value → H} {w : World} {base : Nat} {spare : Nat → Bool} {held : Bool}
theorem bulk_get {l : List (DataW H)} {i : Nat} {d : DataW H} (h : l[i]? = some d) : YtmgnaaonmhaflaaGreat.Rows.uptoBulk d ≤ YtmgnaaonmhaflaaGreat.Rows.uptoBulkAll l := by
  induction l generalizing i with
  | nil => simp at h
  | cons x r ih =>
    simp only [YtmgnaaonmhaflaaGreat.Rows.uptoBulkAll]
    cases i with
    | zero => simp at h; subst h; omega
    | succ i => have := ih (i := i) (by simpa using h); omega
end
end Go.Proofs
namespace Go.Proofs
open Go Go.Eng
set_option maxRecDepth 100000
section
variable {H : Type} {enc : TypeId × Value → H} {w : World} {base : Nat} {spare : Nat → Bool} {held : Bool}
/-- What was read is a slice of n elements (or nothing was). -/
def Many (d : DataW H) (n : Nat) : Prop := n = 0 ∨ ∃ ds sp, d = .slice ds sp ∧ ds.length = n
theorem open_spansN {fuel : Nat} {cs : List Value} {x : DataW H × List MemPlace} (h : DataW.trod enc Tryz.prog w base spare held fuel 22 cs = some x) : ∃ a l cap, cs = [.slice a l.length cap] ∧ SpansAt w (.slice a l.length cap) l ∧ Many x.1 l.length := by
 obtain ⟨a, rows, cap, rfl, h1, h2, _, _, h3⟩ := open_rowsB (R := fun cs _ => ∃ s : Int × Int, cs = spanV s) Tryz.underlying22 cells67 (by decide) h (fun n cs' y _ hy => open_span hy)
 have h4 : ∀ r ∈ rows, ∃ s : Int × Int, r = spanV s := by
  intro r hr
  rcases h3 with rfl | ⟨ds, sp, _, _, h5⟩
  ·cases hr
  ·obtain ⟨i, hi⟩ := List.mem_iff_getElem?.1 hr
   obtain ⟨_, _, h6⟩ := h5 i r hi
   exact h6
 obtain ⟨l, rfl⟩ := rows_map h4
 refine ⟨a, l, cap, by simp, by simpa [SpansAt] using h1, ?_⟩
 rcases h3 with h5 | ⟨ds, sp, h5, h6, _⟩
 ·left; simpa using h5
 ·right; exact ⟨ds, sp, h5, by simpa using h6⟩
theorem bulk_le : ∀ (l : List (DataW H)), l.length ≤ YtmgnaaonmhaflaaGreat.Rows.uptoBulkAll l
  | [] => Nat.le_refl _
  | d :: r => by
    have h1 := bulk_le r
    have h2 : 1 ≤ YtmgnaaonmhaflaaGreat.Rows.uptoBulk d := by cases d <;> first | (simp [YtmgnaaonmhaflaaGreat.Rows.uptoBulk]; done) | (rename_i l; cases l <;> simp [YtmgnaaonmhaflaaGreat.Rows.uptoBulk])
    simp only [YtmgnaaonmhaflaaGreat.Rows.uptoBulkAll, List.length_cons]; omega
theorem Many.bulk {d : DataW H} {n : Nat} (hm : Many d n) : n ≤ YtmgnaaonmhaflaaGreat.Rows.uptoBulk d := by
 rcases hm with rfl | ⟨es, sp, rfl, rfl⟩
 ·exact Nat.zero_le _
 ·have := bulk_le es
  simp only [YtmgnaaonmhaflaaGreat.Rows.uptoBulk]; omega
end
end Go.Proofs
namespace Go.Proofs
open Go Go.Eng
set_option maxRecDepth 100000
theorem setsOks_append : ∀ {a b : List Re}, setsOks a → setsOks b → setsOks (a ++ b)
  | [], _, _, h => h
  | t :: a, b, h1, h2 => by
    simp only [setsOks] at h1
    simp only [List.cons_append, setsOks]
    exact ⟨h1.1, setsOks_append h1.2 h2⟩
section
variable {H : Type} {enc : TypeId × Value → H} {w : World} {base : Nat} {spare : Nat → Bool} {held : Bool}
theorem res_of_rowsS {b o : Nat} : ∀ {rows : List (List Value)} {ds : List (DataW H)}, ds.length = rows.length → (∀ (i : Nat) r, rows[i]? = some r → CellsAt w b (o + i * 6) r ∧ ∃ d, ds[i]? = some d ∧ ∃ t, ReAt w t r ∧ t.size ≤ YtmgnaaonmhaflaaGreat.Rows.uptoBulk d ∧ (YtmgnaaonmhaflaaGreat.Rows.uptoBulk d ≤ 2000000 → setsOk t)) → ∃ ts : List Re, ts.length = rows.length ∧ (∀ (i : Nat) t, ts[i]? = some t → ∃ vs, CellsAt w b (o + i * 6) vs ∧ ReAt w t vs) ∧ Re.sizes ts ≤ YtmgnaaonmhaflaaGreat.Rows.uptoBulkAll ds ∧ (YtmgnaaonmhaflaaGreat.Rows.uptoBulkAll ds ≤ 2000000 → setsOks ts) := by
  intro rows ds hl h
  have key : ∀ m, m ≤ rows.length → ∃ ts : List Re, ts.length = m ∧ (∀ (i : Nat) t, ts[i]? = some t → ∃ vs, CellsAt w b (o + i * 6) vs ∧ ReAt w t vs) ∧ Re.sizes ts ≤ YtmgnaaonmhaflaaGreat.Rows.uptoBulkAll (ds.take m) ∧ (YtmgnaaonmhaflaaGreat.Rows.uptoBulkAll (ds.take m) ≤ 2000000 → setsOks ts) := by
    intro m
    induction m with
    | zero => intro _; exact ⟨[], rfl, by simp, by simp [Re.sizes], fun _ => by simp [setsOks]⟩
    | succ m ih =>
      intro hm
      obtain ⟨ts, h1, h2, h3, h8⟩ := ih (by omega)
      obtain ⟨r, hr⟩ := get_of_lt (l := rows) (i := m) (by omega)
      obtain ⟨h4, d, hd, t, h5, h6, h9⟩ := h m r hr
      refine ⟨ts ++ [t], by simp [h1], fun i t' ht => ?_, ?_⟩
      · rcases Nat.lt_or_ge i ts.length with hi | hi
        · rw [List.getElem?_append_left hi] at ht; exact h2 i t' ht
        · rw [List.getElem?_append_right hi] at ht
          have hi' := lt_of_get ht
          simp at hi'
          obtain rfl : i = m := by omega
          simp [h1] at ht
          subst ht
          exact ⟨r, h4, h5⟩
      · have happ : ∀ (a c : List (DataW H)), YtmgnaaonmhaflaaGreat.Rows.uptoBulkAll (a ++ c) = YtmgnaaonmhaflaaGreat.Rows.uptoBulkAll a + YtmgnaaonmhaflaaGreat.Rows.uptoBulkAll c := by
          intro a c
          induction a with
          | nil => simp [YtmgnaaonmhaflaaGreat.Rows.uptoBulkAll]
          | cons y a ih2 => simp only [List.cons_append, YtmgnaaonmhaflaaGreat.Rows.uptoBulkAll, ih2]; omega
        rw [List.take_add_one, hd, happ, Re.sizes_append]
        simp only [Option.toList_some, YtmgnaaonmhaflaaGreat.Rows.uptoBulkAll, Re.sizes]
        exact ⟨by omega, fun hb => setsOks_append (h8 (by omega)) (by simp only [setsOks]; exact ⟨h9 (by omega), trivial⟩)⟩
  obtain ⟨ts, h1, h2, h3, h4⟩ := key rows.length (Nat.le_refl _)
  rw [← hl, List.take_length] at h3 h4
  exact ⟨ts, h1, h2, h3, h4⟩
theorem open_reS : ∀ (fuel : Nat) {cs : List Value} {x : DataW H × List MemPlace}, DataW.trod enc Tryz.prog w base spare held fuel 25 cs = some x → ∃ t, ReAt w t cs ∧ t.size ≤ YtmgnaaonmhaflaaGreat.Rows.uptoBulk x.1 ∧ (YtmgnaaonmhaflaaGreat.Rows.uptoBulk x.1 ≤ 2000000 → setsOk t) := by
  intro fuel
  induction fuel using Nat.strongRecOn with
  | _ fuel ih =>
  intro cs x h
  obtain ⟨xs, n, rfl, rfl, hl, hx, hf⟩ := DataW.trod_struct Tryz.underlying25 h
  rw [cells25] at hl
  match cs, hl with
  | [c0, c1, c2, c3, c4, c5], _ =>
    have h0 : DataW.trod enc Tryz.prog w base spare held n 3 (([c0, c1, c2, c3, c4, c5].drop 0).take (Tryz.prog.cellsOf 3)) = xs[0]? := hf 0 _ rfl
    have h1 : DataW.trod enc Tryz.prog w base spare held n 22 (([c0, c1, c2, c3, c4, c5].drop 1).take (Tryz.prog.cellsOf 22)) = xs[1]? := hf 1 _ rfl
    have h2 : DataW.trod enc Tryz.prog w base spare held n 23 (([c0, c1, c2, c3, c4, c5].drop 2).take (Tryz.prog.cellsOf 23)) = xs[2]? := hf 2 _ rfl
    have h3 : DataW.trod enc Tryz.prog w base spare held n 3 (([c0, c1, c2, c3, c4, c5].drop 3).take (Tryz.prog.cellsOf 3)) = xs[3]? := hf 3 _ rfl
    have h4 : DataW.trod enc Tryz.prog w base spare held n 3 (([c0, c1, c2, c3, c4, c5].drop 4).take (Tryz.prog.cellsOf 3)) = xs[4]? := hf 4 _ rfl
    have h5 : DataW.trod enc Tryz.prog w base spare held n 4 (([c0, c1, c2, c3, c4, c5].drop 5).take (Tryz.prog.cellsOf 4)) = xs[5]? := hf 5 _ rfl
    simp only [cells3, cells4, cells23, cells22, List.drop, List.take] at h0 h1 h2 h3 h4 h5
    have hlen6 : xs.length = 6 := hx
    obtain ⟨y2, hy2⟩ := get_of_lt (l := xs) (i := 2) (by omega)
    have hb2 : YtmgnaaonmhaflaaGreat.Rows.uptoBulk y2.1 ≤ YtmgnaaonmhaflaaGreat.Rows.uptoBulkAll (xs.map (·.1)) := bulk_get (i := 2) (by simp [hy2])
    have hbx : YtmgnaaonmhaflaaGreat.Rows.uptoBulk (DataW.agg (xs.map (·.1))) = YtmgnaaonmhaflaaGreat.Rows.uptoBulkAll (xs.map (·.1)) + 1 := by simp only [YtmgnaaonmhaflaaGreat.Rows.uptoBulk]
    rw [hy2] at h2
    rw [List.getElem?_eq_getElem (by rw [hx]; decide)] at h0 h1 h3 h4 h5
    obtain ⟨k, e0, _⟩ := DataW.trod_int Tryz.underlying3 h0
    obtain ⟨mn, e3, _⟩ := DataW.trod_int Tryz.underlying3 h3
    obtain ⟨mx, e4, _⟩ := DataW.trod_int Tryz.underlying3 h4
    obtain ⟨ng, e5, _⟩ := DataW.trod_bool Tryz.underlying4 h5
    obtain ⟨y1, hy1⟩ := get_of_lt (l := xs) (i := 1) (by omega)
    have hb1 : YtmgnaaonmhaflaaGreat.Rows.uptoBulk y1.1 ≤ YtmgnaaonmhaflaaGreat.Rows.uptoBulkAll (xs.map (·.1)) := bulk_get (i := 1) (by simp [hy1])
    obtain ⟨sa, set, sc, e1, hs, hmany⟩ := open_spansN (h1.trans ((List.getElem?_eq_getElem (by rw [hx]; decide)).symm.trans hy1))
    have hset := hmany.bulk
    obtain ⟨aa, rows, ac, e2, ha, hrows, hcap, hmax, hds⟩ := open_rowsB (R := fun cs d => ∃ t, ReAt w t cs ∧ t.size ≤ YtmgnaaonmhaflaaGreat.Rows.uptoBulk d ∧ (YtmgnaaonmhaflaaGreat.Rows.uptoBulk d ≤ 2000000 → setsOk t)) Tryz.underlying23 cells25 (by decide) h2 (fun m cs' y hm hy => ih m (by omega) hy)
    simp at e0 e1 e2 e3 e4 e5
    subst e0; subst e1; subst e2; subst e3; subst e4; subst e5
    rcases Nat.eq_zero_or_pos rows.length with hz | hz
    · have : rows = [] := List.eq_nil_of_length_eq_zero hz
      subst this
      refine ⟨.mk k set [] mn mx ng, ReAt.of (args := []) hs ⟨by simp, by simp only [maxLen] at hmax; omega⟩ (.inl rfl), ?_, fun hq => ?_⟩
      · simp only [Re.size, Re.sizes]; omega
      · have hq2 : YtmgnaaonmhaflaaGreat.Rows.uptoBulk (DataW.agg (xs.map (·.1))) ≤ 2000000 := hq
        simp only [setsOk, setsOks, and_true]; omega
    · obtain ⟨b, o, rfl, hcells⟩ := SlAt.at ha hz
      rcases hds with rfl | ⟨ds, sp, hy, hdl, hd⟩
      · simp at hz
      obtain ⟨ts, hts, htg, hsz, hso⟩ := res_of_rowsS (w := w) (b := b) (o := o) (rows := rows) hdl fun i r hr => ⟨hcells i r hr, hd i r hr⟩
      refine ⟨.mk k set ts mn mx ng, ?_, ?_, ?_⟩
      · rw [← hts]
        exact ReAt.of hs ⟨by omega, by simp only [maxLen] at hmax; omega⟩ (.inr ⟨b, o, rfl, ResAt.mk htg⟩)
      · rw [hy] at hb2
        simp only [YtmgnaaonmhaflaaGreat.Rows.uptoBulk] at hb2
        simp only [Re.size]
        omega
      · rw [hy] at hb2
        simp only [YtmgnaaonmhaflaaGreat.Rows.uptoBulk] at hb2
        intro hq
        have hq2 : YtmgnaaonmhaflaaGreat.Rows.uptoBulk (DataW.agg (xs.map (·.1))) ≤ 2000000 := hq
        simp only [setsOk]
        exact ⟨by omega, hso (by omega)⟩
end
end Go.Proofs
