/- Contracts and plain lemmas, part 5. -/
import Derived.Tactics
import Derived.Deep.Quiet
import Derived.Laws.AppendOwn
import Derived.KernelRfl
import Derived.Laws.Entries
import Derived.Laws.Build
import Derived.Below
import Derived.RowKit3
import Derived.StillTail
import Derived.Sort.Grow
import Derived.Deep.Draws
import Derived.Test.YtncmfkibflogkaaChecked
import Derived.Laws.StructEq
import Derived.MapKept
import Derived.Laws.BytesArg
import Derived.Laws.CopyRow
import Derived.DeepKeys3
import Derived.Test.YtncmfkibflogkaaRe4
namespace Go.Proofs
open Go Go.Eng Go.Sort
set_option maxRecDepth 100000
theorem bD_at {w : World} {a p q n T1 T2 T3 T4 : Nat} (Ba : Blk w a #[.int .i64 (-1), .int .i64 7] T1) (Bp : Blk w p #[.int .i64 1] T2) (Bq : Blk w q #[.int .i64 (-1)] T3) (Bn : Blk w n #[.slice (some ⟨p, 0, none⟩) 1 1, .slice (some ⟨q, 0, none⟩) 1 1] T4) :
    DfaAt w bD [.int .i64 0, .slice (some ⟨a, 0, none⟩) 2 2, .slice (some ⟨n, 0, none⟩) 2 2] := by
  refine ⟨_, _, _, _, rfl, ints_own (l := [-1, 7]) (rest := []) Ba (by decide) (by decide), [.slice (some ⟨p, 0, none⟩) 1 1, .slice (some ⟨q, 0, none⟩) 1 1], ⟨_, _, rfl, by simp, by simp, .inr ⟨n, 0, rfl, ?_⟩⟩, rfl, ?_⟩
  · intro i r hr
    rcases i with _ | _ | i
    · simp at hr; subst hr
      intro j u hu
      cases j with
      | zero => simp at hu; subst hu; exact Bn.cell rfl
      | succ j => simp at hu
    · simp at hr; subst hr
      intro j u hu
      cases j with
      | zero => simp at hu; subst hu; exact Bn.cell rfl
      | succ j => simp at hu
    · simp at hr
  · intro i u l hu hl
    rcases i with _ | _ | i
    · simp [bD] at hu hl; subst hu; subst hl; exact ints_own (l := [1]) (rest := []) Bp (by decide) (by decide)
    · simp [bD] at hu hl; subst hu; subst hl; exact ints_own (l := [-1]) (rest := []) Bq (by decide) (by decide)
    · simp at hu
def evnF : Fct := fun v w => ∃ aa ac na nc, v = .agg #[.int .i64 0, .slice aa 2 ac, .slice na 2 nc] ∧ DfaAt w evnD [.int .i64 0, .slice aa 2 ac, .slice na 2 nc]
theorem evnF_ext : ∀ v w w', Ext w w' → evnF v w → evnF v w' := by
  rintro v w w' e ⟨aa, ac, na, nc, h1, h2⟩
  exact ⟨aa, ac, na, nc, h1, h2.ext e⟩
set_option maxHeartbeats 4000000 in
theorem mbegun_c (w0 : World) : Ret Try.prog 20 #[] w0 fun r w => r = .bool true ∧ Ext w0 w := by
  refine Ret_of Try.func20 rfl Try.ntmps20 (Nat.le_of_ble_eq_true rfl) ?_
  have E : Chg none1 w0 w0 := Chg.refl _ _
  refine Wp_seq_region ?_
  refine WpL_val rfl rfl (by decide) (r_assign (v := (.bool false)) rfl) ?_
  refine WpL_nil ?_
  refine Wp_seq_region ?_
  refine WpL_enter rfl rfl (by decide) (r_callF (vs := []) Try.func27 nm27 bd27 rfl) (evn_d _) ?_
  rintro _ w9 ⟨⟨aa, ac, na, nc, rfl, hv⟩, X9⟩
  replace E := E.ext X9
  refine WpL_enter rfl rfl (by decide) (r_callF (vs := [(.agg #[(.int .i64 0), (.slice aa 2 ac), (.slice na 2 nc)])]) Try.func22 nm22 bd22 rfl) (miniMin_c _ 2 1 evnD _ evn_ok hv (by decide) (by decide) evnD_acc) ?_
  rintro _ w19 ⟨⟨C1, ca1, cc1, ma1, mc1, hC1, hl1, hx1, rfl, hN1⟩, X19⟩
  replace E := E.ext X19
  have hD1 := hN1.at'
  have he1 := CanOf.uniq hC1 can_evn (fun w _ => rfl)
  refine WpL_val rfl rfl (by decide) (r_move (v := (.tuple #[(.agg #[(.int .i64 C1.start), (.slice ca1 C1.accept.length cc1), (.slice ma1 C1.next.length mc1)]), (.int .i64 0)])) rfl) ?_
  refine WpL_val rfl rfl (by decide) (r_extract (vs := #[(.agg #[(.int .i64 C1.start), (.slice ca1 C1.accept.length cc1), (.slice ma1 C1.next.length mc1)]), (.int .i64 0)]) (v := (.agg #[(.int .i64 C1.start), (.slice ca1 C1.accept.length cc1), (.slice ma1 C1.next.length mc1)])) rfl rfl) ?_
  refine WpL_val rfl rfl (by decide) (r_extract (vs := #[(.agg #[(.int .i64 C1.start), (.slice ca1 C1.accept.length cc1), (.slice ma1 C1.next.length mc1)]), (.int .i64 0)]) (v := (.int .i64 0)) rfl rfl) ?_
  refine s_allocStore (v := (.agg #[(.int .i64 C1.start), (.slice ca1 C1.accept.length cc1), (.slice ma1 C1.next.length mc1)])) (c := #[(.int .i64 C1.start), (.slice ca1 C1.accept.length cc1), (.slice ma1 C1.next.length mc1)]) (n := 3) (by decide) zer25 rfl siz25 rfl rfl rfl (by simp [Value.oneCell']) ?_
  intro bd wd Nd
  have Fd := Nd.ge E
  replace hD1 := hD1.ext Nd.ext
  replace E := E.ext Nd.ext
  have Bd := Nd.blk
  refine WpL_val rfl rfl (by decide) (r_assign (v := (.int .i64 0)) rfl) ?_
  refine WpL_nil ?_
  refine Wp_seq_region ?_
  refine s_buildSlice (ps := [(0, (.int .i64 (-1))), (1, (.int .i64 7))]) (c := #[(.int .i64 (-1)), (.int .i64 7)]) (by decide) rfl Try.underlying22 siz3 zer3 (by decide) (by decide) (by kernel_rfl) ?_
  intro bp wp Np
  have Fp := Np.ge E
  have Op_bd := Np.lt Bd
  replace Bd := Np.keep Bd
  replace hD1 := hD1.ext Np.ext
  replace E := E.ext Np.ext
  have Bp := Np.blk
  refine s_buildSlice (ps := [(0, (.int .i64 1))]) (c := #[(.int .i64 1)]) (by decide) rfl Try.underlying22 siz3 zer3 (by decide) (by decide) (by kernel_rfl) ?_
  intro bq wq Nq
  have Fq := Nq.ge E
  have Oq_bd := Nq.lt Bd
  have Oq_bp := Nq.lt Bp
  replace Bd := Nq.keep Bd
  replace Bp := Nq.keep Bp
  replace hD1 := hD1.ext Nq.ext
  replace E := E.ext Nq.ext
  have Bq := Nq.blk
  refine s_buildSlice (ps := [(0, (.int .i64 (-1)))]) (c := #[(.int .i64 (-1))]) (by decide) rfl Try.underlying22 siz3 zer3 (by decide) (by decide) (by kernel_rfl) ?_
  intro br wr Nr
  have Fr := Nr.ge E
  have Or_bd := Nr.lt Bd
  have Or_bp := Nr.lt Bp
  have Or_bq := Nr.lt Bq
  replace Bd := Nr.keep Bd
  replace Bp := Nr.keep Bp
  replace Bq := Nr.keep Bq
  replace hD1 := hD1.ext Nr.ext
  replace E := E.ext Nr.ext
  have Br := Nr.blk
  refine s_buildSlice (ps := [(0, (.slice (some ⟨bq, 0, none⟩) 1 1)), (1, (.slice (some ⟨br, 0, none⟩) 1 1))]) (c := #[(.slice (some ⟨bq, 0, none⟩) 1 1), (.slice (some ⟨br, 0, none⟩) 1 1)]) (by decide) rfl Try.underlying23 siz22 zer22 (by decide) (by decide) (by kernel_rfl) ?_
  intro bs ws Ns
  have Fs := Ns.ge E
  have Os_bd := Ns.lt Bd
  have Os_bp := Ns.lt Bp
  have Os_bq := Ns.lt Bq
  have Os_br := Ns.lt Br
  replace Bd := Ns.keep Bd
  replace Bp := Ns.keep Bp
  replace Bq := Ns.keep Bq
  replace Br := Ns.keep Br
  replace hD1 := hD1.ext Ns.ext
  replace E := E.ext Ns.ext
  have Bs := Ns.blk
  refine WpL_val rfl rfl (by decide) (r_build (ps := [(1, (.slice (some ⟨bp, 0, none⟩) 2 2)), (2, (.slice (some ⟨bs, 0, none⟩) 2 2))]) (v := (.agg #[(.int .i64 0), (.slice (some ⟨bp, 0, none⟩) 2 2), (.slice (some ⟨bs, 0, none⟩) 2 2)])) rfl (by kernel_rfl)) ?_
  refine WpL_enter rfl rfl (by decide) (r_callF (vs := [(.agg #[(.int .i64 0), (.slice (some ⟨bp, 0, none⟩) 2 2), (.slice (some ⟨bs, 0, none⟩) 2 2)])]) Try.func23 nm23 bd23 rfl) (back_c _ 2 1 64 bD _ bD_ok (bD_at Bp Bq Br Bs) (by decide) (by decide) (by decide) (by decide) (fun m hm hl => few_bits hm.ok.1 (by omega))) ?_
  rintro _ w29 ⟨⟨C2, ca2, cc2, ma2, mc2, hC2, hl2, hx2, rfl, hN2⟩, X29⟩
  replace Bd := X29.keep Bd
  replace Bp := X29.keep Bp
  replace Bq := X29.keep Bq
  replace Br := X29.keep Br
  replace Bs := X29.keep Bs
  replace hD1 := hD1.ext X29
  replace E := E.ext X29
  have hD2 := hN2.at'
  have he2 := CanOf.uniq hC2 can_bk (fun w _ => rfl)
  have hlen2 : C2.next.length = 2 ∧ C2.accept.length = 2 := by rw [he2]; exact ⟨rfl, rfl⟩
  obtain ⟨hAcc2, _⟩ := hD2.parts
  obtain ⟨cb, co, rfl, hcx⟩ := ints_cells hAcc2 (by omega)
  have hc1 := hcx 1 0 (by rw [he2]; rfl)
  refine WpL_val rfl rfl (by decide) (r_move (v := (.tuple #[(.agg #[(.int .i64 C2.start), (.slice (some ⟨cb, co, none⟩) C2.accept.length cc2), (.slice ma2 C2.next.length mc2)]), (.int .i64 0)])) rfl) ?_
  refine WpL_val rfl rfl (by decide) (r_extract (vs := #[(.agg #[(.int .i64 C2.start), (.slice (some ⟨cb, co, none⟩) C2.accept.length cc2), (.slice ma2 C2.next.length mc2)]), (.int .i64 0)]) (v := (.agg #[(.int .i64 C2.start), (.slice (some ⟨cb, co, none⟩) C2.accept.length cc2), (.slice ma2 C2.next.length mc2)])) rfl rfl) ?_
  refine WpL_val rfl rfl (by decide) (r_extract (vs := #[(.agg #[(.int .i64 C2.start), (.slice (some ⟨cb, co, none⟩) C2.accept.length cc2), (.slice ma2 C2.next.length mc2)]), (.int .i64 0)]) (v := (.int .i64 0)) rfl rfl) ?_
  refine s_allocStore (v := (.agg #[(.int .i64 C2.start), (.slice (some ⟨cb, co, none⟩) C2.accept.length cc2), (.slice ma2 C2.next.length mc2)])) (c := #[(.int .i64 C2.start), (.slice (some ⟨cb, co, none⟩) C2.accept.length cc2), (.slice ma2 C2.next.length mc2)]) (n := 3) (by decide) zer25 rfl siz25 rfl rfl rfl (by simp [Value.oneCell']) ?_
  intro be we Ne
  have Fe := Ne.ge E
  have Oe_bd := Ne.lt Bd
  have Oe_bp := Ne.lt Bp
  have Oe_bq := Ne.lt Bq
  have Oe_br := Ne.lt Br
  have Oe_bs := Ne.lt Bs
  replace Bd := Ne.keep Bd
  replace Bp := Ne.keep Bp
  replace Bq := Ne.keep Bq
  replace Br := Ne.keep Br
  replace Bs := Ne.keep Bs
  replace hD1 := hD1.ext Ne.ext
  replace hc1 := Ne.ext.cell hc1
  replace E := E.ext Ne.ext
  have Be := Ne.blk
  refine WpL_val rfl rfl (by decide) (r_assign (v := (.int .i64 0)) rfl) ?_
  refine WpL_nil ?_
  have hk1 : decide (((C2.next.length : Nat) : Int) = 2) = true := decide_eq_true (by omega)
  have hq2 : decide (C1 = evnD) = true := decide_eq_true he1
  have hz_1 : w0.heap.size ≤ we.heap.size := E.size
  have lz_1_bd : bd < we.heap.size := Bd.lt
  have lz_1_bp : bp < we.heap.size := Bp.lt
  have lz_1_bq : bq < we.heap.size := Bq.lt
  have lz_1_br : br < we.heap.size := Br.lt
  have lz_1_bs : bs < we.heap.size := Bs.lt
  have lz_1_be : be < we.heap.size := Be.lt
  refine Wp_seq ?_
  obtain ⟨Fs1, hFs1⟩ : ∃ Fs : List FctS, Fs = [(fun _ _ v _ => v = (.int .i64 0)), (fun _ _ v _ => v = (.bool true)), (fun _ _ v _ => v = (.bool true)), (fun _ _ v _ => v = (.int .i64 0)), (fun _ _ v _ => v = (.bool true)), (fun _ _ v _ => v = (.bool true)), (fun _ _ v _ => v = (.bool true)), (fun _ _ v _ => v = (.agg #[(.int .i64 C1.start), (.slice ca1 C1.accept.length cc1), (.slice ma1 C1.next.length mc1)])), (fun _ _ => evnF), (fun _ _ v _ => v = (.bool true)), (fun _ _ v _ => v = (.bool true)), (fun _ _ v _ => v = (.bool true)), (fun _ _ v _ => v = (.pointer (some ⟨be, 2, none⟩))), (fun _ _ v _ => v = (.slice ma2 C2.next.length mc2)), (fun _ _ v _ => v = (.int .i64 ((C2.next.length : Nat) : Int))), (fun _ _ v _ => v = (.bool true)), (fun _ _ v _ => v = (.bool true)), (fun _ _ v _ => v = (.bool true)), (fun _ _ v _ => v = (.pointer (some ⟨be, 1, none⟩))), (fun _ _ v _ => v = (.slice (some ⟨cb, co, none⟩) C2.accept.length cc2)), (fun _ _ v _ => v = (.pointer (some ⟨cb, co + 1, none⟩))), (fun _ _ v _ => v = (.int .i64 0)), (fun _ _ v _ => v = (.bool true)), (fun _ _ v _ => v = (.bool true)), (fun _ _ v _ => v = undef)] := ⟨_, rfl⟩
  refine Wp_dagS (MsL []) [true, true, true, true, true, true, true, true, true, true, true, true, true, true, true, true, true, true, true, true, true, true, true, true, false] [24] [19, 20, 21, 22, 23, 24, 25, 26, 27, 28, 29, 30, 31, 32, 33, 34, 35, 36, 37, 38, 39, 40, 41, 42, 67] [[], [0], [1], [2], [2, 3], [2, 4], [2, 5], [6], [6], [6, 7, 8], [6, 9], [9, 10], [11], [11, 12], [11, 13], [11, 14], [11, 15], [11, 16], [17], [17, 18], [17, 19], [17, 20], [17, 21], [17, 22], []] [[], [0], [1, 0], [2, 1, 0], [2, 1, 0, 3], [2, 1, 0, 4, 3], [2, 1, 0, 5, 4, 3], [6, 2, 1, 0, 5, 4, 3], [6, 2, 1, 0, 5, 4, 3], [6, 2, 1, 0, 5, 4, 3, 7, 8], [6, 2, 1, 0, 5, 4, 3, 9, 7, 8], [9, 6, 2, 1, 0, 5, 4, 3, 7, 8, 10], [11, 9, 6, 2, 1, 0, 5, 4, 3, 7, 8, 10], [11, 9, 6, 2, 1, 0, 5, 4, 3, 7, 8, 10, 12], [11, 9, 6, 2, 1, 0, 5, 4, 3, 7, 8, 10, 13, 12], [11, 9, 6, 2, 1, 0, 5, 4, 3, 7, 8, 10, 14, 13, 12], [11, 9, 6, 2, 1, 0, 5, 4, 3, 7, 8, 10, 15, 14, 13, 12], [11, 9, 6, 2, 1, 0, 5, 4, 3, 7, 8, 10, 16, 15, 14, 13, 12], [17, 11, 9, 6, 2, 1, 0, 5, 4, 3, 7, 8, 10, 16, 15, 14, 13, 12], [17, 11, 9, 6, 2, 1, 0, 5, 4, 3, 7, 8, 10, 16, 15, 14, 13, 12, 18], [17, 11, 9, 6, 2, 1, 0, 5, 4, 3, 7, 8, 10, 16, 15, 14, 13, 12, 19, 18], [17, 11, 9, 6, 2, 1, 0, 5, 4, 3, 7, 8, 10, 16, 15, 14, 13, 12, 20, 19, 18], [17, 11, 9, 6, 2, 1, 0, 5, 4, 3, 7, 8, 10, 16, 15, 14, 13, 12, 21, 20, 19, 18], [17, 11, 9, 6, 2, 1, 0, 5, 4, 3, 7, 8, 10, 16, 15, 14, 13, 12, 22, 21, 20, 19, 18], []] Fs1 hFs1 (by kernel_rfl) mixed (by kernel_rfl) (by kernel_rfl) (by kernel_rfl) (by kernel_rfl) ?_ ?_
  · intro wd X0
    refine DagStepsS.cons (StabS.eq) (LocS.const) (fun S s' w' hi hN X U H => Or.inl ⟨Guarded_none rfl, ?_⟩) ?_
    · replace X := X.mono (M' := none1) (fun y _ h => by
          obtain ⟨j, hj, h⟩ := h
          exact h.elim)
      exact DoesT_pure (r_move (v := (.int .i64 0)) (U 2 rfl)) rfl
    refine DagStepsS.cons (StabS.eq) (LocS.const) (fun S s' w' hi hN X U H => Or.inl ⟨Guarded_none rfl, ?_⟩) ?_
    · replace X := X.mono (M' := none1) (fun y _ h => by
          obtain ⟨j, hj, h⟩ := h
          exact h.elim)
      have e19 : s' 19 = (.int .i64 0) := (H 0 rfl).2 19 (fun _ _ v _ => v = (.int .i64 0)) rfl (by rw [hFs1]; rfl)
      exact DoesT_pure (r_eql (k := .i64) (a := 0) (b := 0) e19 rfl) rfl
    refine DagStepsS.cons (StabS.eq) (LocS.const) (fun S s' w' hi hN X U H => Or.inl ⟨Guarded_none rfl, ?_⟩) ?_
    · replace X := X.mono (M' := none1) (fun y _ h => by
          obtain ⟨j, hj, h⟩ := h
          exact h.elim)
      have e20 : s' 20 = (.bool true) := (H 1 rfl).2 20 (fun _ _ v _ => v = (.bool true)) rfl (by rw [hFs1]; rfl)
      exact DoesT_pure (r_move (v := (.bool true)) e20) rfl
    refine DagStepsS.cons (StabS.eq) (LocS.const) (fun S s' w' hi hN X U H => Or.inl ⟨Guarded_some rfl rfl (d := 21) ((H 2 rfl).2 21 (fun _ _ v _ => v = (.bool true)) rfl (by rw [hFs1]; rfl)), ?_⟩) ?_
    · replace X := X.mono (M' := none1) (fun y _ h => by
          obtain ⟨j, hj, h⟩ := h
          exact h.elim)
      exact DoesT_pure (r_move (v := (.int .i64 0)) (U 4 rfl)) rfl
    refine DagStepsS.cons (StabS.eq) (LocS.const) (fun S s' w' hi hN X U H => Or.inl ⟨Guarded_some rfl rfl (d := 21) ((H 2 rfl).2 21 (fun _ _ v _ => v = (.bool true)) rfl (by rw [hFs1]; rfl)), ?_⟩) ?_
    · replace X := X.mono (M' := none1) (fun y _ h => by
          obtain ⟨j, hj, h⟩ := h
          exact h.elim)
      have e22 : s' 22 = (.int .i64 0) := (H 3 rfl).2 22 (fun _ _ v _ => v = (.int .i64 0)) rfl (by rw [hFs1]; rfl)
      exact DoesT_pure (r_eql (k := .i64) (a := 0) (b := 0) e22 rfl) rfl
    refine DagStepsS.cons (StabS.eq) (LocS.const) (fun S s' w' hi hN X U H => Or.inl ⟨Guarded_none rfl, ?_⟩) ?_
    · replace X := X.mono (M' := none1) (fun y _ h => by
          obtain ⟨j, hj, h⟩ := h
          exact h.elim)
      have e21 : s' 21 = (.bool true) := (H 2 rfl).2 21 (fun _ _ v _ => v = (.bool true)) rfl (by rw [hFs1]; rfl)
      have e23 : s' 23 = (.bool true) := (H 4 rfl).2 23 (fun _ _ v _ => v = (.bool true)) rfl (by rw [hFs1]; rfl)
      exact DoesT_pure (r_pick (b := true) (v := (.bool true)) e21 e23) rfl
    refine DagStepsS.cons (StabS.eq) (LocS.const) (fun S s' w' hi hN X U H => Or.inl ⟨Guarded_none rfl, ?_⟩) ?_
    · replace X := X.mono (M' := none1) (fun y _ h => by
          obtain ⟨j, hj, h⟩ := h
          exact h.elim)
      have e24 : s' 24 = (.bool true) := (H 5 rfl).2 24 (fun _ _ v _ => v = (.bool true)) rfl (by rw [hFs1]; rfl)
      exact DoesT_pure (r_move (v := (.bool true)) e24) rfl
    refine DagStepsS.cons (StabS.eq) (LocS.const) (fun S s' w' hi hN X U H => Or.inl ⟨Guarded_some rfl rfl (d := 25) ((H 6 rfl).2 25 (fun _ _ v _ => v = (.bool true)) rfl (by rw [hFs1]; rfl)), ?_⟩) ?_
    · replace X := X.mono (M' := none1) (fun y _ h => by
          obtain ⟨j, hj, h⟩ := h
          exact h.elim)
      exact DoesT_pure (r_loadAgg (vs := [(.int .i64 C1.start), (.slice ca1 C1.accept.length cc1), (.slice ma1 C1.next.length mc1)]) (U 1 rfl) agg25 siz25 rfl (((X0.trans X).keep Bd).cells rfl)) rfl
    refine DagStepsS.cons (StabS.chg (U := none1) (evnF_ext) (fun p y hp hw h => by
          exact h.elim)) (LocS.const) (fun S s' w' hi hN X U H => Or.inl ⟨Guarded_some rfl rfl (d := 25) ((H 6 rfl).2 25 (fun _ _ v _ => v = (.bool true)) rfl (by rw [hFs1]; rfl)), ?_⟩) ?_
    · replace X := X.mono (M' := none1) (fun y _ h => by
          obtain ⟨j, hj, h⟩ := h
          exact h.elim)
      exact DoesT_callE (r_callF (vs := []) Try.func27 nm27 bd27 rfl) ((evn_d _).mono (fun v w h => h))
    refine DagStepsS.cons (StabS.eq) (LocS.const) (fun S s' w' hi hN X U H => Or.inl ⟨Guarded_some rfl rfl (d := 25) ((H 6 rfl).2 25 (fun _ _ v _ => v = (.bool true)) rfl (by rw [hFs1]; rfl)), ?_⟩) ?_
    · replace X := X.mono (M' := none1) (fun y _ h => by
          obtain ⟨j, hj, h⟩ := h
          exact h.elim)
      have e26 : s' 26 = (.agg #[(.int .i64 C1.start), (.slice ca1 C1.accept.length cc1), (.slice ma1 C1.next.length mc1)]) := (H 7 rfl).2 26 (fun _ _ v _ => v = (.agg #[(.int .i64 C1.start), (.slice ca1 C1.accept.length cc1), (.slice ma1 C1.next.length mc1)])) rfl (by rw [hFs1]; rfl)
      obtain ⟨aa27, ac27, na27, nc27, e27, d27⟩ := (show ((fun _ _ => evnF) : FctS) S s' (s' 27) w' from (H 8 rfl).2 27 (fun _ _ => evnF) rfl (by rw [hFs1]; rfl))
      exact DoesT_callE (r_callF (vs := [(.agg #[(.int .i64 C1.start), (.slice ca1 C1.accept.length cc1), (.slice ma1 C1.next.length mc1)]), (.agg #[(.int .i64 0), (.slice aa27 2 ac27), (.slice na27 2 nc27)])]) Try.func25 nm25 bd25 (lst2 e26 e27)) ((equalD_c _ C1 evnD _ _ (hD1.ext (X0.trans X)) d27 (by omega)).mono (fun v w h => ⟨h.1.trans (by rw [hq2]), h.2⟩))
    refine DagStepsS.cons (StabS.eq) (LocS.const) (fun S s' w' hi hN X U H => Or.inl ⟨Guarded_none rfl, ?_⟩) ?_
    · replace X := X.mono (M' := none1) (fun y _ h => by
          obtain ⟨j, hj, h⟩ := h
          exact h.elim)
      have e25 : s' 25 = (.bool true) := (H 6 rfl).2 25 (fun _ _ v _ => v = (.bool true)) rfl (by rw [hFs1]; rfl)
      have e28 : s' 28 = (.bool true) := (H 9 rfl).2 28 (fun _ _ v _ => v = (.bool true)) rfl (by rw [hFs1]; rfl)
      exact DoesT_pure (r_pick (b := true) (v := (.bool true)) e25 e28) rfl
    refine DagStepsS.cons (StabS.eq) (LocS.const) (fun S s' w' hi hN X U H => Or.inl ⟨Guarded_none rfl, ?_⟩) ?_
    · replace X := X.mono (M' := none1) (fun y _ h => by
          obtain ⟨j, hj, h⟩ := h
          exact h.elim)
      have e29 : s' 29 = (.bool true) := (H 10 rfl).2 29 (fun _ _ v _ => v = (.bool true)) rfl (by rw [hFs1]; rfl)
      exact DoesT_pure (r_move (v := (.bool true)) e29) rfl
    refine DagStepsS.cons (StabS.eq) (LocS.const) (fun S s' w' hi hN X U H => Or.inl ⟨Guarded_some rfl rfl (d := 30) ((H 11 rfl).2 30 (fun _ _ v _ => v = (.bool true)) rfl (by rw [hFs1]; rfl)), ?_⟩) ?_
    · replace X := X.mono (M' := none1) (fun y _ h => by
          obtain ⟨j, hj, h⟩ := h
          exact h.elim)
      exact DoesT_pure (r_fieldAddr (b := be) (o := 0) (o' := 2) (U 3 rfl) Try.underlying25 rfl siz23 rfl) rfl
    refine DagStepsS.cons (StabS.eq) (LocS.const) (fun S s' w' hi hN X U H => Or.inl ⟨Guarded_some rfl rfl (d := 30) ((H 11 rfl).2 30 (fun _ _ v _ => v = (.bool true)) rfl (by rw [hFs1]; rfl)), ?_⟩) ?_
    · replace X := X.mono (M' := none1) (fun y _ h => by
          obtain ⟨j, hj, h⟩ := h
          exact h.elim)
      have e31 : s' 31 = (.pointer (some ⟨be, 2, none⟩)) := (H 12 rfl).2 31 (fun _ _ v _ => v = (.pointer (some ⟨be, 2, none⟩))) rfl (by rw [hFs1]; rfl)
      exact DoesT_pure (r_load (v := (.slice ma2 C2.next.length mc2)) e31 flat23 (((X0.trans X).keep Be).cell rfl)) rfl
    refine DagStepsS.cons (StabS.eq) (LocS.const) (fun S s' w' hi hN X U H => Or.inl ⟨Guarded_some rfl rfl (d := 30) ((H 11 rfl).2 30 (fun _ _ v _ => v = (.bool true)) rfl (by rw [hFs1]; rfl)), ?_⟩) ?_
    · replace X := X.mono (M' := none1) (fun y _ h => by
          obtain ⟨j, hj, h⟩ := h
          exact h.elim)
      have e32 : s' 32 = (.slice ma2 C2.next.length mc2) := (H 13 rfl).2 32 (fun _ _ v _ => v = (.slice ma2 C2.next.length mc2)) rfl (by rw [hFs1]; rfl)
      exact DoesT_pure (r_lenSlice (ad := ma2) (n := C2.next.length) (cap := mc2) Try.underlying23 e32) rfl
    refine DagStepsS.cons (StabS.eq) (LocS.const) (fun S s' w' hi hN X U H => Or.inl ⟨Guarded_some rfl rfl (d := 30) ((H 11 rfl).2 30 (fun _ _ v _ => v = (.bool true)) rfl (by rw [hFs1]; rfl)), ?_⟩) ?_
    · replace X := X.mono (M' := none1) (fun y _ h => by
          obtain ⟨j, hj, h⟩ := h
          exact h.elim)
      have e33 : s' 33 = (.int .i64 ((C2.next.length : Nat) : Int)) := (H 14 rfl).2 33 (fun _ _ v _ => v = (.int .i64 ((C2.next.length : Nat) : Int))) rfl (by rw [hFs1]; rfl)
      exact DoesT_pure (Eq.trans (r_eql (k := .i64) (a := ((C2.next.length : Nat) : Int)) (b := 2) e33 rfl) (by rw [hk1])) rfl
    refine DagStepsS.cons (StabS.eq) (LocS.const) (fun S s' w' hi hN X U H => Or.inl ⟨Guarded_none rfl, ?_⟩) ?_
    · replace X := X.mono (M' := none1) (fun y _ h => by
          obtain ⟨j, hj, h⟩ := h
          exact h.elim)
      have e30 : s' 30 = (.bool true) := (H 11 rfl).2 30 (fun _ _ v _ => v = (.bool true)) rfl (by rw [hFs1]; rfl)
      have e34 : s' 34 = (.bool true) := (H 15 rfl).2 34 (fun _ _ v _ => v = (.bool true)) rfl (by rw [hFs1]; rfl)
      exact DoesT_pure (r_pick (b := true) (v := (.bool true)) e30 e34) rfl
    refine DagStepsS.cons (StabS.eq) (LocS.const) (fun S s' w' hi hN X U H => Or.inl ⟨Guarded_none rfl, ?_⟩) ?_
    · replace X := X.mono (M' := none1) (fun y _ h => by
          obtain ⟨j, hj, h⟩ := h
          exact h.elim)
      have e35 : s' 35 = (.bool true) := (H 16 rfl).2 35 (fun _ _ v _ => v = (.bool true)) rfl (by rw [hFs1]; rfl)
      exact DoesT_pure (r_move (v := (.bool true)) e35) rfl
    refine DagStepsS.cons (StabS.eq) (LocS.const) (fun S s' w' hi hN X U H => Or.inl ⟨Guarded_some rfl rfl (d := 36) ((H 17 rfl).2 36 (fun _ _ v _ => v = (.bool true)) rfl (by rw [hFs1]; rfl)), ?_⟩) ?_
    · replace X := X.mono (M' := none1) (fun y _ h => by
          obtain ⟨j, hj, h⟩ := h
          exact h.elim)
      exact DoesT_pure (r_fieldAddr (b := be) (o := 0) (o' := 1) (U 3 rfl) Try.underlying25 rfl siz22 rfl) rfl
    refine DagStepsS.cons (StabS.eq) (LocS.const) (fun S s' w' hi hN X U H => Or.inl ⟨Guarded_some rfl rfl (d := 36) ((H 17 rfl).2 36 (fun _ _ v _ => v = (.bool true)) rfl (by rw [hFs1]; rfl)), ?_⟩) ?_
    · replace X := X.mono (M' := none1) (fun y _ h => by
          obtain ⟨j, hj, h⟩ := h
          exact h.elim)
      have e37 : s' 37 = (.pointer (some ⟨be, 1, none⟩)) := (H 18 rfl).2 37 (fun _ _ v _ => v = (.pointer (some ⟨be, 1, none⟩))) rfl (by rw [hFs1]; rfl)
      exact DoesT_pure (r_load (v := (.slice (some ⟨cb, co, none⟩) C2.accept.length cc2)) e37 flat22 (((X0.trans X).keep Be).cell rfl)) rfl
    refine DagStepsS.cons (StabS.eq) (LocS.const) (fun S s' w' hi hN X U H => Or.inl ⟨Guarded_some rfl rfl (d := 36) ((H 17 rfl).2 36 (fun _ _ v _ => v = (.bool true)) rfl (by rw [hFs1]; rfl)), ?_⟩) ?_
    · replace X := X.mono (M' := none1) (fun y _ h => by
          obtain ⟨j, hj, h⟩ := h
          exact h.elim)
      have e38 : s' 38 = (.slice (some ⟨cb, co, none⟩) C2.accept.length cc2) := (H 19 rfl).2 38 (fun _ _ v _ => v = (.slice (some ⟨cb, co, none⟩) C2.accept.length cc2)) rfl (by rw [hFs1]; rfl)
      exact DoesT_pure (r_indexSlice (b := cb) (o := co) (len := C2.accept.length) (cap := cc2) (i := 1) (o' := co + 1) e38 rfl rfl Try.underlying22 siz3 (by omega) (by omega)) rfl
    refine DagStepsS.cons (StabS.eq) (LocS.const) (fun S s' w' hi hN X U H => Or.inl ⟨Guarded_some rfl rfl (d := 36) ((H 17 rfl).2 36 (fun _ _ v _ => v = (.bool true)) rfl (by rw [hFs1]; rfl)), ?_⟩) ?_
    · replace X := X.mono (M' := none1) (fun y _ h => by
          obtain ⟨j, hj, h⟩ := h
          exact h.elim)
      have e39 : s' 39 = (.pointer (some ⟨cb, co + 1, none⟩)) := (H 20 rfl).2 39 (fun _ _ v _ => v = (.pointer (some ⟨cb, co + 1, none⟩))) rfl (by rw [hFs1]; rfl)
      exact DoesT_pure (r_load (v := (.int .i64 0)) e39 flat3 ((X0.trans X).cell hc1)) rfl
    refine DagStepsS.cons (StabS.eq) (LocS.const) (fun S s' w' hi hN X U H => Or.inl ⟨Guarded_some rfl rfl (d := 36) ((H 17 rfl).2 36 (fun _ _ v _ => v = (.bool true)) rfl (by rw [hFs1]; rfl)), ?_⟩) ?_
    · replace X := X.mono (M' := none1) (fun y _ h => by
          obtain ⟨j, hj, h⟩ := h
          exact h.elim)
      have e40 : s' 40 = (.int .i64 0) := (H 21 rfl).2 40 (fun _ _ v _ => v = (.int .i64 0)) rfl (by rw [hFs1]; rfl)
      exact DoesT_pure (r_eql (k := .i64) (a := 0) (b := 0) e40 rfl) rfl
    refine DagStepsS.cons (StabS.eq) (LocS.const) (fun S s' w' hi hN X U H => Or.inl ⟨Guarded_none rfl, ?_⟩) ?_
    · replace X := X.mono (M' := none1) (fun y _ h => by
          obtain ⟨j, hj, h⟩ := h
          exact h.elim)
      have e36 : s' 36 = (.bool true) := (H 17 rfl).2 36 (fun _ _ v _ => v = (.bool true)) rfl (by rw [hFs1]; rfl)
      have e41 : s' 41 = (.bool true) := (H 22 rfl).2 41 (fun _ _ v _ => v = (.bool true)) rfl (by rw [hFs1]; rfl)
      exact DoesT_pure (r_pick (b := true) (v := (.bool true)) e36 e41) rfl
    refine DagStepsS.tail ?_
    exact DagStepsS.nil
  · intro s' wd1 w1 X0 X1 U H
    replace X1 := X1.mono (M' := none1) (fun y _ h => by
        obtain ⟨j, hj, h⟩ := h
        exact h.elim)
    have e42 : s' 42 = (.bool true) := H 23 rfl 42 (fun _ _ v _ => v = (.bool true)) rfl (by rw [hFs1]; rfl)
    obtain ⟨j1, rfl⟩ := Fits.out (σ := s') (l := [(42, (.bool true))]) ⟨e42, trivial⟩
    clear U H
    replace Bd := (X0.trans X1).keep Bd
    replace Bp := (X0.trans X1).keep Bp
    replace Bq := (X0.trans X1).keep Bq
    replace Br := (X0.trans X1).keep Br
    replace Bs := (X0.trans X1).keep Bs
    replace Be := (X0.trans X1).keep Be
    replace hD1 := hD1.ext (X0.trans X1)
    replace hc1 := (X0.trans X1).cell hc1
    replace X1 := X0.trans X1
    replace E := E.ext X1
    refine WpL_val rfl rfl (by decide) (r_assign (v := (.bool true)) rfl) ?_
    refine WpL_nil ?_
    refine thn_normal ?_
    refine Wp_ret ?_
    refine fin_tmp Try.results20 (v := (.bool true)) rfl ?_
    exact ⟨rfl, E⟩
set_option maxHeartbeats 4000000 in
theorem reversed_c (w0 : World) (v : Value) (l : List Int) (hl : IntsAt w0 v l) :
    Ret Try.prog 4 #[v] w0 fun r w => r = .bool true ∧ Ext w0 w := by
  refine Ret_of Try.func4 rfl Try.ntmps4 (Nat.le_of_ble_eq_true rfl) ?_
  have E : Chg none1 w0 w0 := Chg.refl _ _
  refine Wp_seq_region ?_
  refine WpL_val rfl rfl (by decide) (r_assign (v := (.bool false)) rfl) ?_
  refine WpL_nil ?_
  refine Wp_seq ?_
  refine Wp_seq_region ?_
  refine WpL_enter rfl rfl (by decide) (r_callF (vs := []) Try.func20 nm20 bd20 rfl) (mbegun_c _) ?_
  rintro _ w9 ⟨rfl, X9⟩
  replace E := E.ext X9
  refine WpL_val rfl rfl (by decide) (r_not (b := true) rfl) ?_
  refine WpL_nil ?_
  refine Wp_cond_false rfl ?_
  refine Wp_skip ?_
  refine thn_normal ?_
  refine Wp_seq_region ?_
  refine WpL_val rfl rfl (by decide) (r_move (v := v) rfl) ?_
  refine WpL_enter rfl rfl (by decide) (r_callF (vs := [v, (.int .i64 3)]) Try.func21 nm21 bd21 rfl) (plain_d _ _ l (hl.ext E)) ?_
  rintro _ w19 ⟨⟨n, d, aa, ac, na, nc, hn, ok, hacc, rfl, hD⟩, X19⟩
  replace E := E.ext X19
  have hac2 : ∀ x ∈ d.accept, x < 2147483648 := fun x hx => by have := hacc x hx; omega
  refine s_allocStore (v := (.agg #[(.int .i64 d.start), (.slice aa n ac), (.slice na n nc)])) (c := #[(.int .i64 d.start), (.slice aa n ac), (.slice na n nc)]) (n := 3) (by decide) zer25 rfl siz25 rfl rfl rfl (by simp [Value.oneCell']) ?_
  intro bd wd Nd
  have Fd := Nd.ge E
  replace hD := hD.ext Nd.ext
  replace E := E.ext Nd.ext
  have Bd := Nd.blk
  refine WpL_nil ?_
  refine Wp_seq_region ?_
  refine WpL_val rfl rfl (by decide) (r_loadAgg (vs := [(.int .i64 d.start), (.slice aa n ac), (.slice na n nc)]) rfl agg25 siz25 rfl (Bd.cells rfl)) ?_
  refine WpL_enter rfl rfl (by decide) (r_callF (vs := [(.agg #[(.int .i64 d.start), (.slice aa n ac), (.slice na n nc)])]) Try.func22 nm22 bd22 rfl) (miniMin_c _ n 3 d _ ok hD (by omega) (by decide) hac2) ?_
  rintro _ w29 ⟨⟨C1, ca1, cc1, ma1, mc1, hC1, hl1, hx1, rfl, hN1⟩, X29⟩
  replace Bd := X29.keep Bd
  replace hD := hD.ext X29
  replace E := E.ext X29
  have hD1 := hN1.at'
  refine WpL_val rfl rfl (by decide) (r_move (v := (.tuple #[(.agg #[(.int .i64 C1.start), (.slice ca1 C1.accept.length cc1), (.slice ma1 C1.next.length mc1)]), (.int .i64 0)])) rfl) ?_
  refine WpL_val rfl rfl (by decide) (r_extract (vs := #[(.agg #[(.int .i64 C1.start), (.slice ca1 C1.accept.length cc1), (.slice ma1 C1.next.length mc1)]), (.int .i64 0)]) (v := (.agg #[(.int .i64 C1.start), (.slice ca1 C1.accept.length cc1), (.slice ma1 C1.next.length mc1)])) rfl rfl) ?_
  refine WpL_val rfl rfl (by decide) (r_extract (vs := #[(.agg #[(.int .i64 C1.start), (.slice ca1 C1.accept.length cc1), (.slice ma1 C1.next.length mc1)]), (.int .i64 0)]) (v := (.int .i64 0)) rfl rfl) ?_
  refine s_allocStore (v := (.agg #[(.int .i64 C1.start), (.slice ca1 C1.accept.length cc1), (.slice ma1 C1.next.length mc1)])) (c := #[(.int .i64 C1.start), (.slice ca1 C1.accept.length cc1), (.slice ma1 C1.next.length mc1)]) (n := 3) (by decide) zer25 rfl siz25 rfl rfl rfl (by simp [Value.oneCell']) ?_
  intro bm wm Nm
  have Fm := Nm.ge E
  have Om_bd := Nm.lt Bd
  replace Bd := Nm.keep Bd
  replace hD := hD.ext Nm.ext
  replace hD1 := hD1.ext Nm.ext
  replace E := E.ext Nm.ext
  have Bm := Nm.blk
  refine WpL_val rfl rfl (by decide) (r_assign (v := (.int .i64 0)) rfl) ?_
  refine WpL_nil ?_
  refine Wp_seq_region ?_
  refine WpL_val rfl rfl (by decide) (r_loadAgg (vs := [(.int .i64 d.start), (.slice aa n ac), (.slice na n nc)]) rfl agg25 siz25 rfl (Bd.cells rfl)) ?_
  refine WpL_enter rfl rfl (by decide) (r_callF (vs := [(.agg #[(.int .i64 d.start), (.slice aa n ac), (.slice na n nc)])]) Try.func23 nm23 bd23 rfl) (back_c _ n 3 64 d _ ok hD (by omega) (by decide) hac2 (by decide) (fun m hm hl => few_bits hm.ok.1 (by omega))) ?_
  rintro _ w39 ⟨⟨C2, ca2, cc2, ma2, mc2, hC2, hl2, hx2, rfl, hN2⟩, X39⟩
  replace Bd := X39.keep Bd
  replace Bm := X39.keep Bm
  replace hD := hD.ext X39
  replace hD1 := hD1.ext X39
  replace E := E.ext X39
  have hD2 := hN2.at'
  obtain ⟨ok2, st2, bh2, ge2⟩ := hC2.ok
  refine WpL_val rfl rfl (by decide) (r_move (v := (.tuple #[(.agg #[(.int .i64 C2.start), (.slice ca2 C2.accept.length cc2), (.slice ma2 C2.next.length mc2)]), (.int .i64 0)])) rfl) ?_
  refine WpL_val rfl rfl (by decide) (r_extract (vs := #[(.agg #[(.int .i64 C2.start), (.slice ca2 C2.accept.length cc2), (.slice ma2 C2.next.length mc2)]), (.int .i64 0)]) (v := (.agg #[(.int .i64 C2.start), (.slice ca2 C2.accept.length cc2), (.slice ma2 C2.next.length mc2)])) rfl rfl) ?_
  refine WpL_val rfl rfl (by decide) (r_extract (vs := #[(.agg #[(.int .i64 C2.start), (.slice ca2 C2.accept.length cc2), (.slice ma2 C2.next.length mc2)]), (.int .i64 0)]) (v := (.int .i64 0)) rfl rfl) ?_
  refine s_allocStore (v := (.agg #[(.int .i64 C2.start), (.slice ca2 C2.accept.length cc2), (.slice ma2 C2.next.length mc2)])) (c := #[(.int .i64 C2.start), (.slice ca2 C2.accept.length cc2), (.slice ma2 C2.next.length mc2)]) (n := 3) (by decide) zer25 rfl siz25 rfl rfl rfl (by simp [Value.oneCell']) ?_
  intro bb wb Nb
  have Fb := Nb.ge E
  have Ob_bd := Nb.lt Bd
  have Ob_bm := Nb.lt Bm
  replace Bd := Nb.keep Bd
  replace Bm := Nb.keep Bm
  replace hD := hD.ext Nb.ext
  replace hD1 := hD1.ext Nb.ext
  replace hD2 := hD2.ext Nb.ext
  replace E := E.ext Nb.ext
  have Bb := Nb.blk
  refine WpL_val rfl rfl (by decide) (r_assign (v := (.int .i64 0)) rfl) ?_
  refine WpL_nil ?_
  refine Wp_seq_region ?_
  refine WpL_val rfl rfl (by decide) (r_loadAgg (vs := [(.int .i64 C2.start), (.slice ca2 C2.accept.length cc2), (.slice ma2 C2.next.length mc2)]) rfl agg25 siz25 rfl (Bb.cells rfl)) ?_
  refine WpL_enter rfl rfl (by decide) (r_callF (vs := [(.agg #[(.int .i64 C2.start), (.slice ca2 C2.accept.length cc2), (.slice ma2 C2.next.length mc2)])]) Try.func23 nm23 bd23 rfl) (back_c _ C2.next.length 3 (n + 1) C2 _ ok2 hD2 (by omega) (by decide) hx2 (by omega) (fun m hm hl => few_back ok hC2 hm)) ?_
  rintro _ w49 ⟨⟨C3, ca3, cc3, ma3, mc3, hC3, hl3, hx3, rfl, hN3⟩, X49⟩
  replace Bd := X49.keep Bd
  replace Bm := X49.keep Bm
  replace Bb := X49.keep Bb
  replace hD := hD.ext X49
  replace hD1 := hD1.ext X49
  replace hD2 := hD2.ext X49
  replace E := E.ext X49
  have hD3 := hN3.at'
  have heq : C1 = C3 := CanOf.uniq hC1 hC3 fun w hw => (revB_twice ok hacc hC2 hw).symm
  refine WpL_val rfl rfl (by decide) (r_move (v := (.tuple #[(.agg #[(.int .i64 C3.start), (.slice ca3 C3.accept.length cc3), (.slice ma3 C3.next.length mc3)]), (.int .i64 0)])) rfl) ?_
  refine WpL_val rfl rfl (by decide) (r_extract (vs := #[(.agg #[(.int .i64 C3.start), (.slice ca3 C3.accept.length cc3), (.slice ma3 C3.next.length mc3)]), (.int .i64 0)]) (v := (.agg #[(.int .i64 C3.start), (.slice ca3 C3.accept.length cc3), (.slice ma3 C3.next.length mc3)])) rfl rfl) ?_
  refine WpL_val rfl rfl (by decide) (r_extract (vs := #[(.agg #[(.int .i64 C3.start), (.slice ca3 C3.accept.length cc3), (.slice ma3 C3.next.length mc3)]), (.int .i64 0)]) (v := (.int .i64 0)) rfl rfl) ?_
  refine s_allocStore (v := (.agg #[(.int .i64 C3.start), (.slice ca3 C3.accept.length cc3), (.slice ma3 C3.next.length mc3)])) (c := #[(.int .i64 C3.start), (.slice ca3 C3.accept.length cc3), (.slice ma3 C3.next.length mc3)]) (n := 3) (by decide) zer25 rfl siz25 rfl rfl rfl (by simp [Value.oneCell']) ?_
  intro bc wc Nc
  have Fc := Nc.ge E
  have Oc_bd := Nc.lt Bd
  have Oc_bm := Nc.lt Bm
  have Oc_bb := Nc.lt Bb
  replace Bd := Nc.keep Bd
  replace Bm := Nc.keep Bm
  replace Bb := Nc.keep Bb
  replace hD := hD.ext Nc.ext
  replace hD1 := hD1.ext Nc.ext
  replace hD2 := hD2.ext Nc.ext
  replace hD3 := hD3.ext Nc.ext
  replace E := E.ext Nc.ext
  have Bc := Nc.blk
  refine WpL_val rfl rfl (by decide) (r_assign (v := (.int .i64 0)) rfl) ?_
  refine WpL_nil ?_
  refine Wp_seq_region ?_
  refine WpL_val rfl rfl (by decide) (r_move (v := (.int .i64 0)) rfl) ?_
  refine WpL_val rfl rfl (by decide) (r_move (v := (.int .i64 0)) rfl) ?_
  refine WpL_val rfl rfl (by decide) (r_move (v := (.int .i64 0)) rfl) ?_
  refine s_buildSlice (ps := [(0, (.int .i64 0)), (1, (.int .i64 0)), (2, (.int .i64 0))]) (c := #[(.int .i64 0), (.int .i64 0), (.int .i64 0)]) (by decide) rfl Try.underlying85 siz26 zer26 (by decide) (by decide) (by kernel_rfl) ?_
  intro bg wg Ng
  have Fg := Ng.ge E
  have Og_bd := Ng.lt Bd
  have Og_bm := Ng.lt Bm
  have Og_bb := Ng.lt Bb
  have Og_bc := Ng.lt Bc
  replace Bd := Ng.keep Bd
  replace Bm := Ng.keep Bm
  replace Bb := Ng.keep Bb
  replace Bc := Ng.keep Bc
  replace hD := hD.ext Ng.ext
  replace hD1 := hD1.ext Ng.ext
  replace hD2 := hD2.ext Ng.ext
  replace hD3 := hD3.ext Ng.ext
  replace E := E.ext Ng.ext
  have Bg := Ng.blk
  refine WpL_enter rfl rfl (by decide) (r_callF (vs := [(.slice (some ⟨bg, 0, none⟩) 3 3)]) Try.func24 nm24 bd24 rfl) (good_c _ _ [0, 0, 0] (ints_of_blk [0, 0, 0] Bg (by decide) (by decide))) ?_
  rintro _ w59 ⟨rfl, X59⟩
  replace Bd := X59.keep Bd
  replace Bm := X59.keep Bm
  replace Bb := X59.keep Bb
  replace Bc := X59.keep Bc
  replace Bg := X59.keep Bg
  replace hD := hD.ext X59
  replace hD1 := hD1.ext X59
  replace hD2 := hD2.ext X59
  replace hD3 := hD3.ext X59
  replace E := E.ext X59
  refine WpL_val rfl rfl (by decide) (r_move (v := (.bool true)) rfl) ?_
  refine WpL_guard_yes (oj := _) rfl rfl (by decide) rfl ?_
  refine WpL_val rfl rfl (by decide) (r_loadAgg (vs := [(.int .i64 C1.start), (.slice ca1 C1.accept.length cc1), (.slice ma1 C1.next.length mc1)]) rfl agg25 siz25 rfl (Bm.cells rfl)) ?_
  refine WpL_guard_yes (oj := _) rfl rfl (by decide) rfl ?_
  refine WpL_val rfl rfl (by decide) (r_loadAgg (vs := [(.int .i64 C3.start), (.slice ca3 C3.accept.length cc3), (.slice ma3 C3.next.length mc3)]) rfl agg25 siz25 rfl (Bc.cells rfl)) ?_
  refine WpL_guard_yes (oj := _) rfl rfl (by decide) rfl ?_
  refine WpL_enter rfl rfl (by decide) (r_callF (vs := [(.agg #[(.int .i64 C1.start), (.slice ca1 C1.accept.length cc1), (.slice ma1 C1.next.length mc1)]), (.agg #[(.int .i64 C3.start), (.slice ca3 C3.accept.length cc3), (.slice ma3 C3.next.length mc3)])]) Try.func25 nm25 bd25 rfl) (equalD_c _ C1 C3 _ _ hD1 hD3 (by omega)) ?_
  rintro _ w69 ⟨rfl, X69⟩
  replace Bd := X69.keep Bd
  replace Bm := X69.keep Bm
  replace Bb := X69.keep Bb
  replace Bc := X69.keep Bc
  replace Bg := X69.keep Bg
  replace hD := hD.ext X69
  replace hD1 := hD1.ext X69
  replace hD2 := hD2.ext X69
  replace hD3 := hD3.ext X69
  replace E := E.ext X69
  refine WpL_val rfl rfl (by decide) (r_pick (b := true) (v := (.bool (decide (C1 = C3)))) rfl rfl) ?_
  refine WpL_val rfl rfl (by decide) (r_assign (v := (.bool (decide (C1 = C3)))) rfl) ?_
  refine WpL_nil ?_
  refine Wp_ret ?_
  refine fin_tmp Try.results4 (v := (.bool (decide (C1 = C3)))) rfl ?_
  exact ⟨bool_eq (decide_eq_true heq), E⟩
end Go.Proofs
