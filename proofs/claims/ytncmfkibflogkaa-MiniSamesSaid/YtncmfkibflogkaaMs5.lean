/- Contracts and plain lemmas, part 5. -/
import Derived.Tactics
import Derived.Deep.Quiet
import Derived.Laws.AppendOwn
import Derived.KernelRfl
import Derived.Laws.Entries
import Derived.Laws.Build
import Derived.Below
import Derived.RowKit3
import Derived.StillTail
import Derived.Sort.Grow
import Derived.Deep.Draws
import Derived.Test.YtncmfkibflogkaaChecked
import Derived.Laws.StructEq
import Derived.MapKept
import Derived.Laws.BytesArg
import Derived.Laws.CopyRow
import Derived.DeepKeys3
import Derived.OpenShut
import Derived.ChangeSlices
import Derived.Test.YtncmfkibflogkaaMs4
namespace Go.Proofs
open Go Go.Eng Go.Sort
set_option maxRecDepth 100000
theorem row_cells {w : World} {n c : Nat} {d : Dfa} {dv : List Value} (ok : OkD n c d) (h : DfaAt w d dv) (hn : 1 ≤ n) : ∃ aa ac nb no nc, dv = [.int .i64 d.start, .slice aa d.accept.length ac, .slice (some ⟨nb, no, none⟩) d.next.length nc] ∧ ∀ s x : Nat, s < n → x < c → ∃ rb ro rc, w.cell? ⟨nb, no + s, none⟩ = some (.slice (some ⟨rb, ro, none⟩) c rc) ∧ w.cell? ⟨rb, ro + x, none⟩ = some (.int .i64 (toD d ((s : Nat) : Int) x)) := by
  obtain ⟨aa, ac, na, nc, rfl, _, hnx⟩ := h
  have hnl := ok.nl
  obtain ⟨nb, no, rfl, hcl⟩ := intss_cells hnx (by omega)
  refine ⟨aa, ac, nb, no, nc, rfl, fun s x hs hx => ?_⟩
  obtain ⟨row, hrow⟩ := get_of_lt (l := d.next) (i := s) (by omega)
  have hrl := (ok.row row (List.mem_of_getElem? hrow)).1
  obtain ⟨ra, rc, h1, h2⟩ := hcl s row hrow
  obtain ⟨rb, ro, rfl, h3⟩ := ints_cells h2 (by omega)
  obtain ⟨y, hy⟩ := get_of_lt (l := row) (i := x) (by omega)
  rw [hrl] at h1
  exact ⟨rb, ro, rc, h1, by rw [(toD_row ok hrow hy).1]; exact h3 x y hy⟩
set_option maxHeartbeats 4000000 in
theorem next9_c (w0 : World) (n m c : Nat) (a b : Dfa) (av bv : List Value) (ba bb : Nat) (oka : OkD n c a) (okb : OkD m c b) (ha : DfaAt w0 a av) (hb : DfaAt w0 b bv) (hBa : Blk w0 ba av.toArray 25) (hBb : Blk w0 bb bv.toArray 25) (s : Value) (p : Int × Int) (x : Nat) (hs : IntsAt w0 s [p.1, p.2]) (hp : (-1 ≤ p.1 ∧ p.1 < n) ∧ (-1 ≤ p.2 ∧ p.2 < m)) (hn : 1 ≤ n ∧ 1 ≤ m) (hx : x < c) :
    Ret Try.prog 15 #[s, .int .i64 ((x : Nat) : Int), .pointer (some ⟨ba, 0, none⟩), .pointer (some ⟨bb, 0, none⟩)] w0 fun r w => (∃ q, r = .slice (some ⟨q, 0, none⟩) 2 2 ∧ w0.heap.size ≤ q ∧ Blk w q #[.int .i64 (toD a p.1 x), .int .i64 (toD b p.2 x)] TDI) ∧ Ext w0 w := by
  obtain ⟨aa, ac, na, no, nc, rfl, hA2⟩ := row_cells oka ha hn.1
  obtain ⟨aa2, ac2, na2, no2, nc2, rfl, hB2⟩ := row_cells okb hb hn.2
  obtain ⟨sa, sc, rfl⟩ := SlAt.form hs
  simp only [List.length_map, List.length_cons, List.length_nil, Nat.zero_add, Nat.reduceAdd] at hs ⊢
  obtain ⟨sb, so, rfl, hsx⟩ := ints_cells (n := 2) hs (by decide)
  have hs0 := hsx 0 p.1 rfl
  have hs1 := hsx 1 p.2 rfl
  have hnl := oka.nl
  have hml := okb.nl
  refine Ret_of Try.func15 rfl Try.ntmps15 (Nat.le_of_ble_eq_true rfl) ?_
  have E : Chg none1 w0 w0 := Chg.refl _ _
  refine Wp_seq_region ?_
  refine WpL_val rfl rfl (by decide) (r_assign (v := (.slice none 0 0)) rfl) ?_
  refine WpL_nil ?_
  refine Wp_seq_region ?_
  refine s_buildSlice (ps := [(0, (.int .i64 (-1))), (1, (.int .i64 (-1)))]) (c := #[(.int .i64 (-1)), (.int .i64 (-1))]) (by decide) rfl Try.underlying22 siz3 zer3 (by decide) (by decide) (by kernel_rfl) ?_
  intro bq wq Nq
  have Fq := Nq.ge E
  have Oq_ba := Nq.lt hBa
  have Oq_bb := Nq.lt hBb
  replace hBa := Nq.keep hBa
  replace hBb := Nq.keep hBb
  replace E := E.ext Nq.ext
  have Bq := Nq.blk
  refine WpL_val rfl rfl (by decide) (r_assign (v := (.slice (some ⟨bq, 0, none⟩) 2 2)) rfl) ?_
  refine WpL_nil ?_
  refine Wp_seq ?_
  refine Wp_seq_region ?_
  refine WpL_val rfl rfl (by decide) (r_move (v := (.slice (some ⟨sb, so, none⟩) 2 sc)) rfl) ?_
  refine WpL_val rfl rfl (by decide) (r_indexSlice (b := sb) (o := so) (len := 2) (cap := sc) (i := 0) (o' := so + 0) rfl rfl rfl Try.underlying22 siz3 (by omega) (by omega)) ?_
  have hbq0 : w0.heap.size ≤ bq := by omega
  refine WpL_val rfl rfl (by decide) (r_load (v := (.int .i64 p.1)) rfl flat3 (E.cell (fun f => f) hs0)) ?_
  refine WpL_val rfl rfl (by decide) (r_geq (k := .i64) (a := p.1) (b := 0) rfl rfl) ?_
  refine WpL_nil ?_
  refine Wp_cond (b := decide ((0 : Int) ≤ p.1)) rfl (fun h1 => ?_) (fun h1 => ?_)
  · have kh1 := h1
    replace h1 := of_decide_eq_true h1
    obtain ⟨pN, hpN⟩ := Int.eq_ofNat_of_zero_le h1
    obtain ⟨rb, ro, rc, hr1, hr2⟩ := hA2 pN x (by omega) hx
    rw [← hpN] at hr2
    have hz_2 : w0.heap.size ≤ wq.heap.size := E.size
    have lz_2_ba : ba < wq.heap.size := hBa.lt
    have lz_2_bb : bb < wq.heap.size := hBb.lt
    have lz_2_bq : bq < wq.heap.size := Bq.lt
    obtain ⟨Fs2, hFs2⟩ : ∃ Fs : List FctS, Fs = [(fun _ _ v _ => v = (.slice (some ⟨bq, 0, none⟩) 2 2)), (fun _ _ v _ => v = (.pointer (some ⟨ba, 2, none⟩))), (fun _ _ v _ => v = (.slice (some ⟨na, no, none⟩) a.next.length nc)), (fun _ _ v _ => v = (.slice (some ⟨sb, so, none⟩) 2 sc)), (fun _ _ v _ => v = (.pointer (some ⟨sb, so + 0, none⟩))), (fun _ _ v _ => v = (.int .i64 p.1)), (fun _ _ v _ => v = (.pointer (some ⟨na, no + pN, none⟩))), (fun _ _ v _ => v = (.slice (some ⟨rb, ro, none⟩) c rc)), (fun _ _ v _ => v = (.int .i64 ((x : Nat) : Int))), (fun _ _ v _ => v = (.pointer (some ⟨rb, ro + x, none⟩))), (fun _ _ v _ => v = (.int .i64 (toD a p.1 x))), (fun _ _ v _ => v = (.pointer (some ⟨bq, 0, none⟩))), (fun _ _ => (fun _ w => Blk w bq #[(.int .i64 (toD a p.1 x)), (.int .i64 (-1))] 3))] := ⟨_, rfl⟩
    refine Wp_dagS (MsL [(12, (fun y => y = bq))]) [true, true, true, true, true, true, true, true, true, true, true, true, true] [] [13, 14, 15, 16, 17, 18, 19, 20, 21, 22, 23, 24, 54] [[], [], [1], [], [3], [4], [2, 5], [6], [], [7, 8], [9], [0, 1, 2, 3, 4, 5, 6, 7, 8, 9, 10], [0, 1, 2, 3, 4, 5, 6, 7, 8, 9, 10, 11]] [[], [], [1], [], [3], [4, 3], [2, 1, 5, 4, 3], [6, 2, 1, 5, 4, 3], [], [7, 6, 2, 1, 5, 4, 3, 8], [9, 7, 6, 2, 1, 5, 4, 3, 8], [0, 1, 2, 3, 4, 5, 6, 7, 8, 9, 10], [0, 1, 2, 3, 4, 5, 6, 7, 8, 9, 10, 11]] Fs2 hFs2 (by kernel_rfl) mixed (by kernel_rfl) (by kernel_rfl) (by kernel_rfl) (by kernel_rfl) ?_ ?_
    · intro wd X0
      refine DagStepsS.cons (StabS.eq) (LocS.const) (fun S s' w' hi hN X U H => Or.inl ⟨Guarded_none rfl, ?_⟩) ?_
      · replace X := X.mono (M' := none1) (fun y _ h => by
            obtain ⟨j, hj, h⟩ := h
            rcases MsL_or h with ⟨rfl, h0⟩ | h0
            · exact Bool.noConfusion (hj.symm.trans (hN 12 rfl))
            exact h0.elim)
        exact DoesT_pure (r_move (v := (.slice (some ⟨bq, 0, none⟩) 2 2)) (U 7 rfl)) rfl
      refine DagStepsS.cons (StabS.eq) (LocS.const) (fun S s' w' hi hN X U H => Or.inl ⟨Guarded_none rfl, ?_⟩) ?_
      · replace X := X.mono (M' := none1) (fun y _ h => by
            obtain ⟨j, hj, h⟩ := h
            rcases MsL_or h with ⟨rfl, h0⟩ | h0
            · exact Bool.noConfusion (hj.symm.trans (hN 12 rfl))
            exact h0.elim)
        exact DoesT_pure (r_fieldAddr (b := ba) (o := 0) (o' := 2) (U 2 rfl) Try.underlying25 rfl siz23 rfl) rfl
      refine DagStepsS.cons (StabS.eq) (LocS.const) (fun S s' w' hi hN X U H => Or.inl ⟨Guarded_none rfl, ?_⟩) ?_
      · replace X := X.mono (M' := none1) (fun y _ h => by
            obtain ⟨j, hj, h⟩ := h
            rcases MsL_or h with ⟨rfl, h0⟩ | h0
            · exact Bool.noConfusion (hj.symm.trans (hN 12 rfl))
            exact h0.elim)
        have e14 : s' 14 = (.pointer (some ⟨ba, 2, none⟩)) := (H 1 rfl).2 14 (fun _ _ v _ => v = (.pointer (some ⟨ba, 2, none⟩))) rfl (by rw [hFs2]; rfl)
        exact DoesT_pure (r_load (v := (.slice (some ⟨na, no, none⟩) a.next.length nc)) e14 flat23 (((X0.trans X).keep hBa).cell rfl)) rfl
      refine DagStepsS.cons (StabS.eq) (LocS.const) (fun S s' w' hi hN X U H => Or.inl ⟨Guarded_none rfl, ?_⟩) ?_
      · replace X := X.mono (M' := none1) (fun y _ h => by
            obtain ⟨j, hj, h⟩ := h
            rcases MsL_or h with ⟨rfl, h0⟩ | h0
            · exact Bool.noConfusion (hj.symm.trans (hN 12 rfl))
            exact h0.elim)
        exact DoesT_pure (r_move (v := (.slice (some ⟨sb, so, none⟩) 2 sc)) (U 0 rfl)) rfl
      refine DagStepsS.cons (StabS.eq) (LocS.const) (fun S s' w' hi hN X U H => Or.inl ⟨Guarded_none rfl, ?_⟩) ?_
      · replace X := X.mono (M' := none1) (fun y _ h => by
            obtain ⟨j, hj, h⟩ := h
            rcases MsL_or h with ⟨rfl, h0⟩ | h0
            · exact Bool.noConfusion (hj.symm.trans (hN 12 rfl))
            exact h0.elim)
        have e16 : s' 16 = (.slice (some ⟨sb, so, none⟩) 2 sc) := (H 3 rfl).2 16 (fun _ _ v _ => v = (.slice (some ⟨sb, so, none⟩) 2 sc)) rfl (by rw [hFs2]; rfl)
        exact DoesT_pure (r_indexSlice (b := sb) (o := so) (len := 2) (cap := sc) (i := 0) (o' := so + 0) e16 rfl rfl Try.underlying22 siz3 (by omega) (by omega)) rfl
      refine DagStepsS.cons (StabS.eq) (LocS.const) (fun S s' w' hi hN X U H => Or.inl ⟨Guarded_none rfl, ?_⟩) ?_
      · replace X := X.mono (M' := none1) (fun y _ h => by
            obtain ⟨j, hj, h⟩ := h
            rcases MsL_or h with ⟨rfl, h0⟩ | h0
            · exact Bool.noConfusion (hj.symm.trans (hN 12 rfl))
            exact h0.elim)
        have e17 : s' 17 = (.pointer (some ⟨sb, so + 0, none⟩)) := (H 4 rfl).2 17 (fun _ _ v _ => v = (.pointer (some ⟨sb, so + 0, none⟩))) rfl (by rw [hFs2]; rfl)
        exact DoesT_pure (r_load (v := (.int .i64 p.1)) e17 flat3 ((Ext.trans E (X0.trans X)).cell hs0)) rfl
      refine DagStepsS.cons (StabS.eq) (LocS.const) (fun S s' w' hi hN X U H => Or.inl ⟨Guarded_none rfl, ?_⟩) ?_
      · replace X := X.mono (M' := none1) (fun y _ h => by
            obtain ⟨j, hj, h⟩ := h
            rcases MsL_or h with ⟨rfl, h0⟩ | h0
            · exact Bool.noConfusion (hj.symm.trans (hN 12 rfl))
            exact h0.elim)
        have e15 : s' 15 = (.slice (some ⟨na, no, none⟩) a.next.length nc) := (H 2 rfl).2 15 (fun _ _ v _ => v = (.slice (some ⟨na, no, none⟩) a.next.length nc)) rfl (by rw [hFs2]; rfl)
        have e18 : s' 18 = (.int .i64 p.1) := (H 5 rfl).2 18 (fun _ _ v _ => v = (.int .i64 p.1)) rfl (by rw [hFs2]; rfl)
        exact DoesT_pure (r_indexSlice (b := na) (o := no) (len := a.next.length) (cap := nc) (i := pN) (o' := no + pN) e15 e18 (by omega) Try.underlying23 siz22 (by omega) (by omega)) rfl
      refine DagStepsS.cons (StabS.eq) (LocS.const) (fun S s' w' hi hN X U H => Or.inl ⟨Guarded_none rfl, ?_⟩) ?_
      · replace X := X.mono (M' := none1) (fun y _ h => by
            obtain ⟨j, hj, h⟩ := h
            rcases MsL_or h with ⟨rfl, h0⟩ | h0
            · exact Bool.noConfusion (hj.symm.trans (hN 12 rfl))
            exact h0.elim)
        have e19 : s' 19 = (.pointer (some ⟨na, no + pN, none⟩)) := (H 6 rfl).2 19 (fun _ _ v _ => v = (.pointer (some ⟨na, no + pN, none⟩))) rfl (by rw [hFs2]; rfl)
        exact DoesT_pure (r_load (v := (.slice (some ⟨rb, ro, none⟩) c rc)) e19 flat22 ((Ext.trans E (X0.trans X)).cell hr1)) rfl
      refine DagStepsS.cons (StabS.eq) (LocS.const) (fun S s' w' hi hN X U H => Or.inl ⟨Guarded_none rfl, ?_⟩) ?_
      · replace X := X.mono (M' := none1) (fun y _ h => by
            obtain ⟨j, hj, h⟩ := h
            rcases MsL_or h with ⟨rfl, h0⟩ | h0
            · exact Bool.noConfusion (hj.symm.trans (hN 12 rfl))
            exact h0.elim)
        exact DoesT_pure (r_move (v := (.int .i64 ((x : Nat) : Int))) (U 1 rfl)) rfl
      refine DagStepsS.cons (StabS.eq) (LocS.const) (fun S s' w' hi hN X U H => Or.inl ⟨Guarded_none rfl, ?_⟩) ?_
      · replace X := X.mono (M' := none1) (fun y _ h => by
            obtain ⟨j, hj, h⟩ := h
            rcases MsL_or h with ⟨rfl, h0⟩ | h0
            · exact Bool.noConfusion (hj.symm.trans (hN 12 rfl))
            exact h0.elim)
        have e20 : s' 20 = (.slice (some ⟨rb, ro, none⟩) c rc) := (H 7 rfl).2 20 (fun _ _ v _ => v = (.slice (some ⟨rb, ro, none⟩) c rc)) rfl (by rw [hFs2]; rfl)
        have e21 : s' 21 = (.int .i64 ((x : Nat) : Int)) := (H 8 rfl).2 21 (fun _ _ v _ => v = (.int .i64 ((x : Nat) : Int))) rfl (by rw [hFs2]; rfl)
        exact DoesT_pure (r_indexSlice (b := rb) (o := ro) (len := c) (cap := rc) (i := x) (o' := ro + x) e20 e21 rfl Try.underlying22 siz3 (by omega) (by omega)) rfl
      refine DagStepsS.cons (StabS.eq) (LocS.const) (fun S s' w' hi hN X U H => Or.inl ⟨Guarded_none rfl, ?_⟩) ?_
      · replace X := X.mono (M' := none1) (fun y _ h => by
            obtain ⟨j, hj, h⟩ := h
            rcases MsL_or h with ⟨rfl, h0⟩ | h0
            · exact Bool.noConfusion (hj.symm.trans (hN 12 rfl))
            exact h0.elim)
        have e22 : s' 22 = (.pointer (some ⟨rb, ro + x, none⟩)) := (H 9 rfl).2 22 (fun _ _ v _ => v = (.pointer (some ⟨rb, ro + x, none⟩))) rfl (by rw [hFs2]; rfl)
        exact DoesT_pure (r_load (v := (.int .i64 (toD a p.1 x))) e22 flat3 ((Ext.trans E (X0.trans X)).cell hr2)) rfl
      refine DagStepsS.cons (StabS.eq) (LocS.const) (fun S s' w' hi hN X U H => Or.inl ⟨Guarded_none rfl, ?_⟩) ?_
      · replace X := X.mono (M' := none1) (fun y _ h => by
            obtain ⟨j, hj, h⟩ := h
            rcases MsL_or h with ⟨rfl, h0⟩ | h0
            · exact Bool.noConfusion (hj.symm.trans (hN 12 rfl))
            exact h0.elim)
        have e13 : s' 13 = (.slice (some ⟨bq, 0, none⟩) 2 2) := (H 0 rfl).2 13 (fun _ _ v _ => v = (.slice (some ⟨bq, 0, none⟩) 2 2)) rfl (by rw [hFs2]; rfl)
        exact DoesT_pure (r_indexSlice (b := bq) (o := 0) (len := 2) (cap := 2) (i := 0) (o' := 0) e13 rfl rfl Try.underlying22 siz3 (by omega) (by omega)) rfl
      refine DagStepsS.cons (StabS.chg (U := none1) (fun v w w' x h => Chg.keep x (fun h => h) h) (fun p y hp hw h => by
            rcases MsL_or h with ⟨rfl, h0⟩ | h0
            · exact absurd rfl hp
            exact h0.elim)) (LocS.const) (fun S s' w' hi hN X U H => Or.inl ⟨Guarded_none rfl, ?_⟩) ?_
      · replace X := X.mono (M' := none1) (fun y _ h => by
            obtain ⟨j, hj, h⟩ := h
            rcases MsL_or h with ⟨rfl, h0⟩ | h0
            · exact Bool.noConfusion (hj.symm.trans hi)
            exact h0.elim)
        have e24 : s' 24 = (.pointer (some ⟨bq, 0, none⟩)) := (H 11 rfl).2 24 (fun _ _ v _ => v = (.pointer (some ⟨bq, 0, none⟩))) rfl (by rw [hFs2]; rfl)
        have e23 : s' 23 = (.int .i64 (toD a p.1 x)) := (H 10 rfl).2 23 (fun _ _ v _ => v = (.int .i64 (toD a p.1 x))) rfl (by rw [hFs2]; rfl)
        exact DoesT_store (b := bq) (o := 0) e24 e23 rfl siz3 ((X0.trans X).keep Bq) (by simp) (by first | exact .inl ⟨rfl, rfl⟩ | exact .inr (.inl ⟨rfl, rfl⟩) | exact .inr (.inr (.inl ⟨rfl, rfl⟩))) (fun w9 h => by have h2 := h.blk; simpa using h2)
      exact DagStepsS.nil
    · intro s' wd2 w2 X0 X2 U H
      replace X2 := X2.mono (M' := (fun y => (fun y => y = bq) y)) (fun y _ h => by
          obtain ⟨j, hj, h⟩ := h
          rcases MsL_or h with ⟨rfl, h0⟩ | h0
          · exact h0
          exact h0.elim)
      obtain B54 := (show ((fun _ _ => (fun _ w => Blk w bq #[(.int .i64 (toD a p.1 x)), (.int .i64 (-1))] 3)) : FctS) (allS [true, true, true, true, true, true, true, true, true, true, true, true, true]) s' (s' 54) w2 from H 12 rfl 54 (fun _ _ => (fun _ w => Blk w bq #[(.int .i64 (toD a p.1 x)), (.int .i64 (-1))] 3)) rfl (by rw [hFs2]; rfl))
      obtain ⟨j2, rfl⟩ := Fits.out (σ := s') (l := [(0, (.slice (some ⟨sb, so, none⟩) 2 sc)), (1, (.int .i64 ((x : Nat) : Int))), (3, (.pointer (some ⟨bb, 0, none⟩))), (7, (.slice (some ⟨bq, 0, none⟩) 2 2))]) ⟨U 0 rfl, U 1 rfl, U 3 rfl, U 7 rfl, trivial⟩
      clear U H
      replace Bq := B54
      replace hBa := Chg.keep X2 (fun h => by dsimp only at h; omega) (X0.keep hBa)
      replace hBb := Chg.keep X2 (fun h => by dsimp only at h; omega) (X0.keep hBb)
      replace E := (E.ext X0).step X2 (fun y hy h => by dsimp only at h; omega)
      refine WpL_nil ?_
      refine thn_normal ?_
      refine Wp_seq ?_
      refine Wp_seq_region ?_
      refine WpL_val rfl rfl (by decide) (r_move (v := (.slice (some ⟨sb, so, none⟩) 2 sc)) rfl) ?_
      refine WpL_val rfl rfl (by decide) (r_indexSlice (b := sb) (o := so) (len := 2) (cap := sc) (i := 1) (o' := so + 1) rfl rfl rfl Try.underlying22 siz3 (by omega) (by omega)) ?_
      refine WpL_val rfl rfl (by decide) (r_load (v := (.int .i64 p.2)) rfl flat3 (E.cell (fun f => f) hs1)) ?_
      refine WpL_val rfl rfl (by decide) (r_geq (k := .i64) (a := p.2) (b := 0) rfl rfl) ?_
      refine WpL_nil ?_
      refine Wp_cond (b := decide ((0 : Int) ≤ p.2)) rfl (fun h2 => ?_) (fun h2 => ?_)
      · have kh2 := h2
        replace h2 := of_decide_eq_true h2
        obtain ⟨pM, hpM⟩ := Int.eq_ofNat_of_zero_le h2
        obtain ⟨rb2, ro2, rc2, hr3, hr4⟩ := hB2 pM x (by omega) hx
        rw [← hpM] at hr4
        have hz_4 : w0.heap.size ≤ w2.heap.size := E.size
        have lz_4_ba : ba < w2.heap.size := hBa.lt
        have lz_4_bb : bb < w2.heap.size := hBb.lt
        have lz_4_bq : bq < w2.heap.size := Bq.lt
        obtain ⟨Fs4, hFs4⟩ : ∃ Fs : List FctS, Fs = [(fun _ _ v _ => v = (.slice (some ⟨bq, 0, none⟩) 2 2)), (fun _ _ v _ => v = (.pointer (some ⟨bb, 2, none⟩))), (fun _ _ v _ => v = (.slice (some ⟨na2, no2, none⟩) b.next.length nc2)), (fun _ _ v _ => v = (.slice (some ⟨sb, so, none⟩) 2 sc)), (fun _ _ v _ => v = (.pointer (some ⟨sb, so + 1, none⟩))), (fun _ _ v _ => v = (.int .i64 p.2)), (fun _ _ v _ => v = (.pointer (some ⟨na2, no2 + pM, none⟩))), (fun _ _ v _ => v = (.slice (some ⟨rb2, ro2, none⟩) c rc2)), (fun _ _ v _ => v = (.int .i64 ((x : Nat) : Int))), (fun _ _ v _ => v = (.pointer (some ⟨rb2, ro2 + x, none⟩))), (fun _ _ v _ => v = (.int .i64 (toD b p.2 x))), (fun _ _ v _ => v = (.pointer (some ⟨bq, 1, none⟩))), (fun _ _ => (fun _ w => Blk w bq #[(.int .i64 (toD a p.1 x)), (.int .i64 (toD b p.2 x))] 3))] := ⟨_, rfl⟩
        refine Wp_dagS (MsL [(12, (fun y => y = bq))]) [true, true, true, true, true, true, true, true, true, true, true, true, true] [] [29, 30, 31, 32, 33, 34, 35, 36, 37, 38, 39, 40, 54] [[], [], [1], [], [3], [4], [2, 5], [6], [], [7, 8], [9], [0, 1, 2, 3, 4, 5, 6, 7, 8, 9, 10], [0, 1, 2, 3, 4, 5, 6, 7, 8, 9, 10, 11]] [[], [], [1], [], [3], [4, 3], [2, 1, 5, 4, 3], [6, 2, 1, 5, 4, 3], [], [7, 6, 2, 1, 5, 4, 3, 8], [9, 7, 6, 2, 1, 5, 4, 3, 8], [0, 1, 2, 3, 4, 5, 6, 7, 8, 9, 10], [0, 1, 2, 3, 4, 5, 6, 7, 8, 9, 10, 11]] Fs4 hFs4 (by kernel_rfl) mixed (by kernel_rfl) (by kernel_rfl) (by kernel_rfl) (by kernel_rfl) ?_ ?_
        · intro wd X0
          refine DagStepsS.cons (StabS.eq) (LocS.const) (fun S s' w' hi hN X U H => Or.inl ⟨Guarded_none rfl, ?_⟩) ?_
          · replace X := X.mono (M' := none1) (fun y _ h => by
                obtain ⟨j, hj, h⟩ := h
                rcases MsL_or h with ⟨rfl, h0⟩ | h0
                · exact Bool.noConfusion (hj.symm.trans (hN 12 rfl))
                exact h0.elim)
            exact DoesT_pure (r_move (v := (.slice (some ⟨bq, 0, none⟩) 2 2)) (U 7 rfl)) rfl
          refine DagStepsS.cons (StabS.eq) (LocS.const) (fun S s' w' hi hN X U H => Or.inl ⟨Guarded_none rfl, ?_⟩) ?_
          · replace X := X.mono (M' := none1) (fun y _ h => by
                obtain ⟨j, hj, h⟩ := h
                rcases MsL_or h with ⟨rfl, h0⟩ | h0
                · exact Bool.noConfusion (hj.symm.trans (hN 12 rfl))
                exact h0.elim)
            exact DoesT_pure (r_fieldAddr (b := bb) (o := 0) (o' := 2) (U 3 rfl) Try.underlying25 rfl siz23 rfl) rfl
          refine DagStepsS.cons (StabS.eq) (LocS.const) (fun S s' w' hi hN X U H => Or.inl ⟨Guarded_none rfl, ?_⟩) ?_
          · replace X := X.mono (M' := none1) (fun y _ h => by
                obtain ⟨j, hj, h⟩ := h
                rcases MsL_or h with ⟨rfl, h0⟩ | h0
                · exact Bool.noConfusion (hj.symm.trans (hN 12 rfl))
                exact h0.elim)
            have e30 : s' 30 = (.pointer (some ⟨bb, 2, none⟩)) := (H 1 rfl).2 30 (fun _ _ v _ => v = (.pointer (some ⟨bb, 2, none⟩))) rfl (by rw [hFs4]; rfl)
            exact DoesT_pure (r_load (v := (.slice (some ⟨na2, no2, none⟩) b.next.length nc2)) e30 flat23 (((X0.trans X).keep hBb).cell rfl)) rfl
          refine DagStepsS.cons (StabS.eq) (LocS.const) (fun S s' w' hi hN X U H => Or.inl ⟨Guarded_none rfl, ?_⟩) ?_
          · replace X := X.mono (M' := none1) (fun y _ h => by
                obtain ⟨j, hj, h⟩ := h
                rcases MsL_or h with ⟨rfl, h0⟩ | h0
                · exact Bool.noConfusion (hj.symm.trans (hN 12 rfl))
                exact h0.elim)
            exact DoesT_pure (r_move (v := (.slice (some ⟨sb, so, none⟩) 2 sc)) (U 0 rfl)) rfl
          refine DagStepsS.cons (StabS.eq) (LocS.const) (fun S s' w' hi hN X U H => Or.inl ⟨Guarded_none rfl, ?_⟩) ?_
          · replace X := X.mono (M' := none1) (fun y _ h => by
                obtain ⟨j, hj, h⟩ := h
                rcases MsL_or h with ⟨rfl, h0⟩ | h0
                · exact Bool.noConfusion (hj.symm.trans (hN 12 rfl))
                exact h0.elim)
            have e32 : s' 32 = (.slice (some ⟨sb, so, none⟩) 2 sc) := (H 3 rfl).2 32 (fun _ _ v _ => v = (.slice (some ⟨sb, so, none⟩) 2 sc)) rfl (by rw [hFs4]; rfl)
            exact DoesT_pure (r_indexSlice (b := sb) (o := so) (len := 2) (cap := sc) (i := 1) (o' := so + 1) e32 rfl rfl Try.underlying22 siz3 (by omega) (by omega)) rfl
          refine DagStepsS.cons (StabS.eq) (LocS.const) (fun S s' w' hi hN X U H => Or.inl ⟨Guarded_none rfl, ?_⟩) ?_
          · replace X := X.mono (M' := none1) (fun y _ h => by
                obtain ⟨j, hj, h⟩ := h
                rcases MsL_or h with ⟨rfl, h0⟩ | h0
                · exact Bool.noConfusion (hj.symm.trans (hN 12 rfl))
                exact h0.elim)
            have e33 : s' 33 = (.pointer (some ⟨sb, so + 1, none⟩)) := (H 4 rfl).2 33 (fun _ _ v _ => v = (.pointer (some ⟨sb, so + 1, none⟩))) rfl (by rw [hFs4]; rfl)
            exact DoesT_pure (r_load (v := (.int .i64 p.2)) e33 flat3 ((Ext.trans E (X0.trans X)).cell hs1)) rfl
          refine DagStepsS.cons (StabS.eq) (LocS.const) (fun S s' w' hi hN X U H => Or.inl ⟨Guarded_none rfl, ?_⟩) ?_
          · replace X := X.mono (M' := none1) (fun y _ h => by
                obtain ⟨j, hj, h⟩ := h
                rcases MsL_or h with ⟨rfl, h0⟩ | h0
                · exact Bool.noConfusion (hj.symm.trans (hN 12 rfl))
                exact h0.elim)
            have e31 : s' 31 = (.slice (some ⟨na2, no2, none⟩) b.next.length nc2) := (H 2 rfl).2 31 (fun _ _ v _ => v = (.slice (some ⟨na2, no2, none⟩) b.next.length nc2)) rfl (by rw [hFs4]; rfl)
            have e34 : s' 34 = (.int .i64 p.2) := (H 5 rfl).2 34 (fun _ _ v _ => v = (.int .i64 p.2)) rfl (by rw [hFs4]; rfl)
            exact DoesT_pure (r_indexSlice (b := na2) (o := no2) (len := b.next.length) (cap := nc2) (i := pM) (o' := no2 + pM) e31 e34 (by omega) Try.underlying23 siz22 (by omega) (by omega)) rfl
          refine DagStepsS.cons (StabS.eq) (LocS.const) (fun S s' w' hi hN X U H => Or.inl ⟨Guarded_none rfl, ?_⟩) ?_
          · replace X := X.mono (M' := none1) (fun y _ h => by
                obtain ⟨j, hj, h⟩ := h
                rcases MsL_or h with ⟨rfl, h0⟩ | h0
                · exact Bool.noConfusion (hj.symm.trans (hN 12 rfl))
                exact h0.elim)
            have e35 : s' 35 = (.pointer (some ⟨na2, no2 + pM, none⟩)) := (H 6 rfl).2 35 (fun _ _ v _ => v = (.pointer (some ⟨na2, no2 + pM, none⟩))) rfl (by rw [hFs4]; rfl)
            exact DoesT_pure (r_load (v := (.slice (some ⟨rb2, ro2, none⟩) c rc2)) e35 flat22 ((Ext.trans E (X0.trans X)).cell hr3)) rfl
          refine DagStepsS.cons (StabS.eq) (LocS.const) (fun S s' w' hi hN X U H => Or.inl ⟨Guarded_none rfl, ?_⟩) ?_
          · replace X := X.mono (M' := none1) (fun y _ h => by
                obtain ⟨j, hj, h⟩ := h
                rcases MsL_or h with ⟨rfl, h0⟩ | h0
                · exact Bool.noConfusion (hj.symm.trans (hN 12 rfl))
                exact h0.elim)
            exact DoesT_pure (r_move (v := (.int .i64 ((x : Nat) : Int))) (U 1 rfl)) rfl
          refine DagStepsS.cons (StabS.eq) (LocS.const) (fun S s' w' hi hN X U H => Or.inl ⟨Guarded_none rfl, ?_⟩) ?_
          · replace X := X.mono (M' := none1) (fun y _ h => by
                obtain ⟨j, hj, h⟩ := h
                rcases MsL_or h with ⟨rfl, h0⟩ | h0
                · exact Bool.noConfusion (hj.symm.trans (hN 12 rfl))
                exact h0.elim)
            have e36 : s' 36 = (.slice (some ⟨rb2, ro2, none⟩) c rc2) := (H 7 rfl).2 36 (fun _ _ v _ => v = (.slice (some ⟨rb2, ro2, none⟩) c rc2)) rfl (by rw [hFs4]; rfl)
            have e37 : s' 37 = (.int .i64 ((x : Nat) : Int)) := (H 8 rfl).2 37 (fun _ _ v _ => v = (.int .i64 ((x : Nat) : Int))) rfl (by rw [hFs4]; rfl)
            exact DoesT_pure (r_indexSlice (b := rb2) (o := ro2) (len := c) (cap := rc2) (i := x) (o' := ro2 + x) e36 e37 rfl Try.underlying22 siz3 (by omega) (by omega)) rfl
          refine DagStepsS.cons (StabS.eq) (LocS.const) (fun S s' w' hi hN X U H => Or.inl ⟨Guarded_none rfl, ?_⟩) ?_
          · replace X := X.mono (M' := none1) (fun y _ h => by
                obtain ⟨j, hj, h⟩ := h
                rcases MsL_or h with ⟨rfl, h0⟩ | h0
                · exact Bool.noConfusion (hj.symm.trans (hN 12 rfl))
                exact h0.elim)
            have e38 : s' 38 = (.pointer (some ⟨rb2, ro2 + x, none⟩)) := (H 9 rfl).2 38 (fun _ _ v _ => v = (.pointer (some ⟨rb2, ro2 + x, none⟩))) rfl (by rw [hFs4]; rfl)
            exact DoesT_pure (r_load (v := (.int .i64 (toD b p.2 x))) e38 flat3 ((Ext.trans E (X0.trans X)).cell hr4)) rfl
          refine DagStepsS.cons (StabS.eq) (LocS.const) (fun S s' w' hi hN X U H => Or.inl ⟨Guarded_none rfl, ?_⟩) ?_
          · replace X := X.mono (M' := none1) (fun y _ h => by
                obtain ⟨j, hj, h⟩ := h
                rcases MsL_or h with ⟨rfl, h0⟩ | h0
                · exact Bool.noConfusion (hj.symm.trans (hN 12 rfl))
                exact h0.elim)
            have e29 : s' 29 = (.slice (some ⟨bq, 0, none⟩) 2 2) := (H 0 rfl).2 29 (fun _ _ v _ => v = (.slice (some ⟨bq, 0, none⟩) 2 2)) rfl (by rw [hFs4]; rfl)
            exact DoesT_pure (r_indexSlice (b := bq) (o := 0) (len := 2) (cap := 2) (i := 1) (o' := 1) e29 rfl rfl Try.underlying22 siz3 (by omega) (by omega)) rfl
          refine DagStepsS.cons (StabS.chg (U := none1) (fun v w w' x h => Chg.keep x (fun h => h) h) (fun p y hp hw h => by
                rcases MsL_or h with ⟨rfl, h0⟩ | h0
                · exact absurd rfl hp
                exact h0.elim)) (LocS.const) (fun S s' w' hi hN X U H => Or.inl ⟨Guarded_none rfl, ?_⟩) ?_
          · replace X := X.mono (M' := none1) (fun y _ h => by
                obtain ⟨j, hj, h⟩ := h
                rcases MsL_or h with ⟨rfl, h0⟩ | h0
                · exact Bool.noConfusion (hj.symm.trans hi)
                exact h0.elim)
            have e40 : s' 40 = (.pointer (some ⟨bq, 1, none⟩)) := (H 11 rfl).2 40 (fun _ _ v _ => v = (.pointer (some ⟨bq, 1, none⟩))) rfl (by rw [hFs4]; rfl)
            have e39 : s' 39 = (.int .i64 (toD b p.2 x)) := (H 10 rfl).2 39 (fun _ _ v _ => v = (.int .i64 (toD b p.2 x))) rfl (by rw [hFs4]; rfl)
            exact DoesT_store (b := bq) (o := 1) e40 e39 rfl siz3 ((X0.trans X).keep Bq) (by simp) (by first | exact .inl ⟨rfl, rfl⟩ | exact .inr (.inl ⟨rfl, rfl⟩) | exact .inr (.inr (.inl ⟨rfl, rfl⟩))) (fun w9 h => by have h2 := h.blk; simpa using h2)
          exact DagStepsS.nil
        · intro s' wd4 w4 X0 X4 U H
          replace X4 := X4.mono (M' := (fun y => (fun y => y = bq) y)) (fun y _ h => by
              obtain ⟨j, hj, h⟩ := h
              rcases MsL_or h with ⟨rfl, h0⟩ | h0
              · exact h0
              exact h0.elim)
          obtain B54 := (show ((fun _ _ => (fun _ w => Blk w bq #[(.int .i64 (toD a p.1 x)), (.int .i64 (toD b p.2 x))] 3)) : FctS) (allS [true, true, true, true, true, true, true, true, true, true, true, true, true]) s' (s' 54) w4 from H 12 rfl 54 (fun _ _ => (fun _ w => Blk w bq #[(.int .i64 (toD a p.1 x)), (.int .i64 (toD b p.2 x))] 3)) rfl (by rw [hFs4]; rfl))
          obtain ⟨j4, rfl⟩ := Fits.out (σ := s') (l := [(7, (.slice (some ⟨bq, 0, none⟩) 2 2))]) ⟨U 7 rfl, trivial⟩
          clear U H
          replace Bq := B54
          replace hBa := Chg.keep X4 (fun h => by dsimp only at h; omega) (X0.keep hBa)
          replace hBb := Chg.keep X4 (fun h => by dsimp only at h; omega) (X0.keep hBb)
          replace E := (E.ext X0).step X4 (fun y hy h => by dsimp only at h; omega)
          refine WpL_nil ?_
          refine thn_normal ?_
          refine Wp_seq_region ?_
          refine WpL_val rfl rfl (by decide) (r_move (v := (.slice (some ⟨bq, 0, none⟩) 2 2)) rfl) ?_
          refine WpL_val rfl rfl (by decide) (r_assign (v := (.slice (some ⟨bq, 0, none⟩) 2 2)) rfl) ?_
          refine WpL_nil ?_
          refine Wp_ret ?_
          refine fin_tmp Try.results15 (v := (.slice (some ⟨bq, 0, none⟩) 2 2)) rfl ?_
          exact ⟨⟨bq, rfl, hbq0, by skip; exact Bq⟩, E⟩
      · have kh2 := h2
        replace h2 := of_decide_eq_false h2
        refine Wp_skip ?_
        refine thn_normal ?_
        refine Wp_seq_region ?_
        refine WpL_val rfl rfl (by decide) (r_move (v := (.slice (some ⟨bq, 0, none⟩) 2 2)) rfl) ?_
        refine WpL_val rfl rfl (by decide) (r_assign (v := (.slice (some ⟨bq, 0, none⟩) 2 2)) rfl) ?_
        refine WpL_nil ?_
        refine Wp_ret ?_
        refine fin_tmp Try.results15 (v := (.slice (some ⟨bq, 0, none⟩) 2 2)) rfl ?_
        exact ⟨⟨bq, rfl, hbq0, by skip; rw [toD_neg (by omega : p.2 < 0) x]; exact Bq⟩, E⟩
  · have kh1 := h1
    replace h1 := of_decide_eq_false h1
    refine Wp_skip ?_
    refine thn_normal ?_
    refine Wp_seq ?_
    refine Wp_seq_region ?_
    refine WpL_val rfl rfl (by decide) (r_move (v := (.slice (some ⟨sb, so, none⟩) 2 sc)) rfl) ?_
    refine WpL_val rfl rfl (by decide) (r_indexSlice (b := sb) (o := so) (len := 2) (cap := sc) (i := 1) (o' := so + 1) rfl rfl rfl Try.underlying22 siz3 (by omega) (by omega)) ?_
    refine WpL_val rfl rfl (by decide) (r_load (v := (.int .i64 p.2)) rfl flat3 (E.cell (fun f => f) hs1)) ?_
    refine WpL_val rfl rfl (by decide) (r_geq (k := .i64) (a := p.2) (b := 0) rfl rfl) ?_
    refine WpL_nil ?_
    refine Wp_cond (b := decide ((0 : Int) ≤ p.2)) rfl (fun h2 => ?_) (fun h2 => ?_)
    · have kh2 := h2
      replace h2 := of_decide_eq_true h2
      obtain ⟨pM, hpM⟩ := Int.eq_ofNat_of_zero_le h2
      obtain ⟨rb2, ro2, rc2, hr3, hr4⟩ := hB2 pM x (by omega) hx
      rw [← hpM] at hr4
      have hz_6 : w0.heap.size ≤ wq.heap.size := E.size
      have lz_6_ba : ba < wq.heap.size := hBa.lt
      have lz_6_bb : bb < wq.heap.size := hBb.lt
      have lz_6_bq : bq < wq.heap.size := Bq.lt
      obtain ⟨Fs6, hFs6⟩ : ∃ Fs : List FctS, Fs = [(fun _ _ v _ => v = (.slice (some ⟨bq, 0, none⟩) 2 2)), (fun _ _ v _ => v = (.pointer (some ⟨bb, 2, none⟩))), (fun _ _ v _ => v = (.slice (some ⟨na2, no2, none⟩) b.next.length nc2)), (fun _ _ v _ => v = (.slice (some ⟨sb, so, none⟩) 2 sc)), (fun _ _ v _ => v = (.pointer (some ⟨sb, so + 1, none⟩))), (fun _ _ v _ => v = (.int .i64 p.2)), (fun _ _ v _ => v = (.pointer (some ⟨na2, no2 + pM, none⟩))), (fun _ _ v _ => v = (.slice (some ⟨rb2, ro2, none⟩) c rc2)), (fun _ _ v _ => v = (.int .i64 ((x : Nat) : Int))), (fun _ _ v _ => v = (.pointer (some ⟨rb2, ro2 + x, none⟩))), (fun _ _ v _ => v = (.int .i64 (toD b p.2 x))), (fun _ _ v _ => v = (.pointer (some ⟨bq, 1, none⟩))), (fun _ _ => (fun _ w => Blk w bq #[(.int .i64 (-1)), (.int .i64 (toD b p.2 x))] 3))] := ⟨_, rfl⟩
      refine Wp_dagS (MsL [(12, (fun y => y = bq))]) [true, true, true, true, true, true, true, true, true, true, true, true, true] [] [29, 30, 31, 32, 33, 34, 35, 36, 37, 38, 39, 40, 54] [[], [], [1], [], [3], [4], [2, 5], [6], [], [7, 8], [9], [0, 1, 2, 3, 4, 5, 6, 7, 8, 9, 10], [0, 1, 2, 3, 4, 5, 6, 7, 8, 9, 10, 11]] [[], [], [1], [], [3], [4, 3], [2, 1, 5, 4, 3], [6, 2, 1, 5, 4, 3], [], [7, 6, 2, 1, 5, 4, 3, 8], [9, 7, 6, 2, 1, 5, 4, 3, 8], [0, 1, 2, 3, 4, 5, 6, 7, 8, 9, 10], [0, 1, 2, 3, 4, 5, 6, 7, 8, 9, 10, 11]] Fs6 hFs6 (by kernel_rfl) mixed (by kernel_rfl) (by kernel_rfl) (by kernel_rfl) (by kernel_rfl) ?_ ?_
      · intro wd X0
        refine DagStepsS.cons (StabS.eq) (LocS.const) (fun S s' w' hi hN X U H => Or.inl ⟨Guarded_none rfl, ?_⟩) ?_
        · replace X := X.mono (M' := none1) (fun y _ h => by
              obtain ⟨j, hj, h⟩ := h
              rcases MsL_or h with ⟨rfl, h0⟩ | h0
              · exact Bool.noConfusion (hj.symm.trans (hN 12 rfl))
              exact h0.elim)
          exact DoesT_pure (r_move (v := (.slice (some ⟨bq, 0, none⟩) 2 2)) (U 7 rfl)) rfl
        refine DagStepsS.cons (StabS.eq) (LocS.const) (fun S s' w' hi hN X U H => Or.inl ⟨Guarded_none rfl, ?_⟩) ?_
        · replace X := X.mono (M' := none1) (fun y _ h => by
              obtain ⟨j, hj, h⟩ := h
              rcases MsL_or h with ⟨rfl, h0⟩ | h0
              · exact Bool.noConfusion (hj.symm.trans (hN 12 rfl))
              exact h0.elim)
          exact DoesT_pure (r_fieldAddr (b := bb) (o := 0) (o' := 2) (U 3 rfl) Try.underlying25 rfl siz23 rfl) rfl
        refine DagStepsS.cons (StabS.eq) (LocS.const) (fun S s' w' hi hN X U H => Or.inl ⟨Guarded_none rfl, ?_⟩) ?_
        · replace X := X.mono (M' := none1) (fun y _ h => by
              obtain ⟨j, hj, h⟩ := h
              rcases MsL_or h with ⟨rfl, h0⟩ | h0
              · exact Bool.noConfusion (hj.symm.trans (hN 12 rfl))
              exact h0.elim)
          have e30 : s' 30 = (.pointer (some ⟨bb, 2, none⟩)) := (H 1 rfl).2 30 (fun _ _ v _ => v = (.pointer (some ⟨bb, 2, none⟩))) rfl (by rw [hFs6]; rfl)
          exact DoesT_pure (r_load (v := (.slice (some ⟨na2, no2, none⟩) b.next.length nc2)) e30 flat23 (((X0.trans X).keep hBb).cell rfl)) rfl
        refine DagStepsS.cons (StabS.eq) (LocS.const) (fun S s' w' hi hN X U H => Or.inl ⟨Guarded_none rfl, ?_⟩) ?_
        · replace X := X.mono (M' := none1) (fun y _ h => by
              obtain ⟨j, hj, h⟩ := h
              rcases MsL_or h with ⟨rfl, h0⟩ | h0
              · exact Bool.noConfusion (hj.symm.trans (hN 12 rfl))
              exact h0.elim)
          exact DoesT_pure (r_move (v := (.slice (some ⟨sb, so, none⟩) 2 sc)) (U 0 rfl)) rfl
        refine DagStepsS.cons (StabS.eq) (LocS.const) (fun S s' w' hi hN X U H => Or.inl ⟨Guarded_none rfl, ?_⟩) ?_
        · replace X := X.mono (M' := none1) (fun y _ h => by
              obtain ⟨j, hj, h⟩ := h
              rcases MsL_or h with ⟨rfl, h0⟩ | h0
              · exact Bool.noConfusion (hj.symm.trans (hN 12 rfl))
              exact h0.elim)
          have e32 : s' 32 = (.slice (some ⟨sb, so, none⟩) 2 sc) := (H 3 rfl).2 32 (fun _ _ v _ => v = (.slice (some ⟨sb, so, none⟩) 2 sc)) rfl (by rw [hFs6]; rfl)
          exact DoesT_pure (r_indexSlice (b := sb) (o := so) (len := 2) (cap := sc) (i := 1) (o' := so + 1) e32 rfl rfl Try.underlying22 siz3 (by omega) (by omega)) rfl
        refine DagStepsS.cons (StabS.eq) (LocS.const) (fun S s' w' hi hN X U H => Or.inl ⟨Guarded_none rfl, ?_⟩) ?_
        · replace X := X.mono (M' := none1) (fun y _ h => by
              obtain ⟨j, hj, h⟩ := h
              rcases MsL_or h with ⟨rfl, h0⟩ | h0
              · exact Bool.noConfusion (hj.symm.trans (hN 12 rfl))
              exact h0.elim)
          have e33 : s' 33 = (.pointer (some ⟨sb, so + 1, none⟩)) := (H 4 rfl).2 33 (fun _ _ v _ => v = (.pointer (some ⟨sb, so + 1, none⟩))) rfl (by rw [hFs6]; rfl)
          exact DoesT_pure (r_load (v := (.int .i64 p.2)) e33 flat3 ((Ext.trans E (X0.trans X)).cell hs1)) rfl
        refine DagStepsS.cons (StabS.eq) (LocS.const) (fun S s' w' hi hN X U H => Or.inl ⟨Guarded_none rfl, ?_⟩) ?_
        · replace X := X.mono (M' := none1) (fun y _ h => by
              obtain ⟨j, hj, h⟩ := h
              rcases MsL_or h with ⟨rfl, h0⟩ | h0
              · exact Bool.noConfusion (hj.symm.trans (hN 12 rfl))
              exact h0.elim)
          have e31 : s' 31 = (.slice (some ⟨na2, no2, none⟩) b.next.length nc2) := (H 2 rfl).2 31 (fun _ _ v _ => v = (.slice (some ⟨na2, no2, none⟩) b.next.length nc2)) rfl (by rw [hFs6]; rfl)
          have e34 : s' 34 = (.int .i64 p.2) := (H 5 rfl).2 34 (fun _ _ v _ => v = (.int .i64 p.2)) rfl (by rw [hFs6]; rfl)
          exact DoesT_pure (r_indexSlice (b := na2) (o := no2) (len := b.next.length) (cap := nc2) (i := pM) (o' := no2 + pM) e31 e34 (by omega) Try.underlying23 siz22 (by omega) (by omega)) rfl
        refine DagStepsS.cons (StabS.eq) (LocS.const) (fun S s' w' hi hN X U H => Or.inl ⟨Guarded_none rfl, ?_⟩) ?_
        · replace X := X.mono (M' := none1) (fun y _ h => by
              obtain ⟨j, hj, h⟩ := h
              rcases MsL_or h with ⟨rfl, h0⟩ | h0
              · exact Bool.noConfusion (hj.symm.trans (hN 12 rfl))
              exact h0.elim)
          have e35 : s' 35 = (.pointer (some ⟨na2, no2 + pM, none⟩)) := (H 6 rfl).2 35 (fun _ _ v _ => v = (.pointer (some ⟨na2, no2 + pM, none⟩))) rfl (by rw [hFs6]; rfl)
          exact DoesT_pure (r_load (v := (.slice (some ⟨rb2, ro2, none⟩) c rc2)) e35 flat22 ((Ext.trans E (X0.trans X)).cell hr3)) rfl
        refine DagStepsS.cons (StabS.eq) (LocS.const) (fun S s' w' hi hN X U H => Or.inl ⟨Guarded_none rfl, ?_⟩) ?_
        · replace X := X.mono (M' := none1) (fun y _ h => by
              obtain ⟨j, hj, h⟩ := h
              rcases MsL_or h with ⟨rfl, h0⟩ | h0
              · exact Bool.noConfusion (hj.symm.trans (hN 12 rfl))
              exact h0.elim)
          exact DoesT_pure (r_move (v := (.int .i64 ((x : Nat) : Int))) (U 1 rfl)) rfl
        refine DagStepsS.cons (StabS.eq) (LocS.const) (fun S s' w' hi hN X U H => Or.inl ⟨Guarded_none rfl, ?_⟩) ?_
        · replace X := X.mono (M' := none1) (fun y _ h => by
              obtain ⟨j, hj, h⟩ := h
              rcases MsL_or h with ⟨rfl, h0⟩ | h0
              · exact Bool.noConfusion (hj.symm.trans (hN 12 rfl))
              exact h0.elim)
          have e36 : s' 36 = (.slice (some ⟨rb2, ro2, none⟩) c rc2) := (H 7 rfl).2 36 (fun _ _ v _ => v = (.slice (some ⟨rb2, ro2, none⟩) c rc2)) rfl (by rw [hFs6]; rfl)
          have e37 : s' 37 = (.int .i64 ((x : Nat) : Int)) := (H 8 rfl).2 37 (fun _ _ v _ => v = (.int .i64 ((x : Nat) : Int))) rfl (by rw [hFs6]; rfl)
          exact DoesT_pure (r_indexSlice (b := rb2) (o := ro2) (len := c) (cap := rc2) (i := x) (o' := ro2 + x) e36 e37 rfl Try.underlying22 siz3 (by omega) (by omega)) rfl
        refine DagStepsS.cons (StabS.eq) (LocS.const) (fun S s' w' hi hN X U H => Or.inl ⟨Guarded_none rfl, ?_⟩) ?_
        · replace X := X.mono (M' := none1) (fun y _ h => by
              obtain ⟨j, hj, h⟩ := h
              rcases MsL_or h with ⟨rfl, h0⟩ | h0
              · exact Bool.noConfusion (hj.symm.trans (hN 12 rfl))
              exact h0.elim)
          have e38 : s' 38 = (.pointer (some ⟨rb2, ro2 + x, none⟩)) := (H 9 rfl).2 38 (fun _ _ v _ => v = (.pointer (some ⟨rb2, ro2 + x, none⟩))) rfl (by rw [hFs6]; rfl)
          exact DoesT_pure (r_load (v := (.int .i64 (toD b p.2 x))) e38 flat3 ((Ext.trans E (X0.trans X)).cell hr4)) rfl
        refine DagStepsS.cons (StabS.eq) (LocS.const) (fun S s' w' hi hN X U H => Or.inl ⟨Guarded_none rfl, ?_⟩) ?_
        · replace X := X.mono (M' := none1) (fun y _ h => by
              obtain ⟨j, hj, h⟩ := h
              rcases MsL_or h with ⟨rfl, h0⟩ | h0
              · exact Bool.noConfusion (hj.symm.trans (hN 12 rfl))
              exact h0.elim)
          have e29 : s' 29 = (.slice (some ⟨bq, 0, none⟩) 2 2) := (H 0 rfl).2 29 (fun _ _ v _ => v = (.slice (some ⟨bq, 0, none⟩) 2 2)) rfl (by rw [hFs6]; rfl)
          exact DoesT_pure (r_indexSlice (b := bq) (o := 0) (len := 2) (cap := 2) (i := 1) (o' := 1) e29 rfl rfl Try.underlying22 siz3 (by omega) (by omega)) rfl
        refine DagStepsS.cons (StabS.chg (U := none1) (fun v w w' x h => Chg.keep x (fun h => h) h) (fun p y hp hw h => by
              rcases MsL_or h with ⟨rfl, h0⟩ | h0
              · exact absurd rfl hp
              exact h0.elim)) (LocS.const) (fun S s' w' hi hN X U H => Or.inl ⟨Guarded_none rfl, ?_⟩) ?_
        · replace X := X.mono (M' := none1) (fun y _ h => by
              obtain ⟨j, hj, h⟩ := h
              rcases MsL_or h with ⟨rfl, h0⟩ | h0
              · exact Bool.noConfusion (hj.symm.trans hi)
              exact h0.elim)
          have e40 : s' 40 = (.pointer (some ⟨bq, 1, none⟩)) := (H 11 rfl).2 40 (fun _ _ v _ => v = (.pointer (some ⟨bq, 1, none⟩))) rfl (by rw [hFs6]; rfl)
          have e39 : s' 39 = (.int .i64 (toD b p.2 x)) := (H 10 rfl).2 39 (fun _ _ v _ => v = (.int .i64 (toD b p.2 x))) rfl (by rw [hFs6]; rfl)
          exact DoesT_store (b := bq) (o := 1) e40 e39 rfl siz3 ((X0.trans X).keep Bq) (by simp) (by first | exact .inl ⟨rfl, rfl⟩ | exact .inr (.inl ⟨rfl, rfl⟩) | exact .inr (.inr (.inl ⟨rfl, rfl⟩))) (fun w9 h => by have h2 := h.blk; simpa using h2)
        exact DagStepsS.nil
      · intro s' wd6 w6 X0 X6 U H
        replace X6 := X6.mono (M' := (fun y => (fun y => y = bq) y)) (fun y _ h => by
            obtain ⟨j, hj, h⟩ := h
            rcases MsL_or h with ⟨rfl, h0⟩ | h0
            · exact h0
            exact h0.elim)
        obtain B54 := (show ((fun _ _ => (fun _ w => Blk w bq #[(.int .i64 (-1)), (.int .i64 (toD b p.2 x))] 3)) : FctS) (allS [true, true, true, true, true, true, true, true, true, true, true, true, true]) s' (s' 54) w6 from H 12 rfl 54 (fun _ _ => (fun _ w => Blk w bq #[(.int .i64 (-1)), (.int .i64 (toD b p.2 x))] 3)) rfl (by rw [hFs6]; rfl))
        obtain ⟨j6, rfl⟩ := Fits.out (σ := s') (l := [(7, (.slice (some ⟨bq, 0, none⟩) 2 2))]) ⟨U 7 rfl, trivial⟩
        clear U H
        replace Bq := B54
        replace hBa := Chg.keep X6 (fun h => by dsimp only at h; omega) (X0.keep hBa)
        replace hBb := Chg.keep X6 (fun h => by dsimp only at h; omega) (X0.keep hBb)
        replace E := (E.ext X0).step X6 (fun y hy h => by dsimp only at h; omega)
        refine WpL_nil ?_
        refine thn_normal ?_
        refine Wp_seq_region ?_
        refine WpL_val rfl rfl (by decide) (r_move (v := (.slice (some ⟨bq, 0, none⟩) 2 2)) rfl) ?_
        refine WpL_val rfl rfl (by decide) (r_assign (v := (.slice (some ⟨bq, 0, none⟩) 2 2)) rfl) ?_
        refine WpL_nil ?_
        refine Wp_ret ?_
        refine fin_tmp Try.results15 (v := (.slice (some ⟨bq, 0, none⟩) 2 2)) rfl ?_
        exact ⟨⟨bq, rfl, hbq0, by rw [toD_neg (by omega : p.1 < 0) x]; exact Bq⟩, E⟩
    · have kh2 := h2
      replace h2 := of_decide_eq_false h2
      refine Wp_skip ?_
      refine thn_normal ?_
      refine Wp_seq_region ?_
      refine WpL_val rfl rfl (by decide) (r_move (v := (.slice (some ⟨bq, 0, none⟩) 2 2)) rfl) ?_
      refine WpL_val rfl rfl (by decide) (r_assign (v := (.slice (some ⟨bq, 0, none⟩) 2 2)) rfl) ?_
      refine WpL_nil ?_
      refine Wp_ret ?_
      refine fin_tmp Try.results15 (v := (.slice (some ⟨bq, 0, none⟩) 2 2)) rfl ?_
      exact ⟨⟨bq, rfl, hbq0, by rw [toD_neg (by omega : p.1 < 0) x]; rw [toD_neg (by omega : p.2 < 0) x]; exact Bq⟩, E⟩
set_option maxHeartbeats 4000000 in
theorem stop9_c (w0 : World) (n m c : Nat) (a b : Dfa) (av bv : List Value) (ba bb : Nat) (oka : OkD n c a) (okb : OkD m c b) (ha : DfaAt w0 a av) (hb : DfaAt w0 b bv) (hBa : Blk w0 ba av.toArray 25) (hBb : Blk w0 bb bv.toArray 25) (s : Value) (p : Int × Int) (hs : IntsAt w0 s [p.1, p.2]) (hp : (-1 ≤ p.1 ∧ p.1 < n) ∧ (-1 ≤ p.2 ∧ p.2 < m)) :
    Ret Try.prog 17 #[s, .pointer (some ⟨ba, 0, none⟩), .pointer (some ⟨bb, 0, none⟩)] w0 fun r w => r = .bool (tgtB a b p) ∧ Ext w0 w := by
  obtain ⟨aa, ac, na, nc, rfl, _, _⟩ := id ha
  obtain ⟨aa2, ac2, na2, nc2, rfl, _, _⟩ := id hb
  obtain ⟨sa, sc, rfl⟩ := SlAt.form hs
  simp only [List.length_map, List.length_cons, List.length_nil, Nat.zero_add, Nat.reduceAdd] at hs ⊢
  obtain ⟨sb, so, rfl, hsx⟩ := ints_cells (n := 2) hs (by decide)
  have hs0 := hsx 0 p.1 rfl
  have hs1 := hsx 1 p.2 rfl
  refine Ret_of Try.func17 rfl Try.ntmps17 (Nat.le_of_ble_eq_true rfl) ?_
  have E : Chg none1 w0 w0 := Chg.refl _ _
  refine Wp_seq_region ?_
  refine WpL_val rfl rfl (by decide) (r_assign (v := (.bool false)) rfl) ?_
  refine WpL_nil ?_
  have hz_1 : w0.heap.size ≤ w0.heap.size := E.size
  have lz_1_ba : ba < w0.heap.size := hBa.lt
  have lz_1_bb : bb < w0.heap.size := hBb.lt
  refine Wp_seq ?_
  obtain ⟨Fs1, hFs1⟩ : ∃ Fs : List FctS, Fs = [(fun _ _ v _ => v = (.agg #[(.int .i64 a.start), (.slice aa a.accept.length ac), (.slice na a.next.length nc)])), (fun _ _ v _ => v = (.slice (some ⟨sb, so, none⟩) 2 sc)), (fun _ _ v _ => v = (.pointer (some ⟨sb, so + 0, none⟩))), (fun _ _ v _ => v = (.int .i64 p.1)), (fun _ _ v _ => v = (.int .i64 (atD a p.1))), (fun _ _ v _ => v = (.agg #[(.int .i64 b.start), (.slice aa2 b.accept.length ac2), (.slice na2 b.next.length nc2)])), (fun _ _ v _ => v = (.slice (some ⟨sb, so, none⟩) 2 sc)), (fun _ _ v _ => v = (.pointer (some ⟨sb, so + 1, none⟩))), (fun _ _ v _ => v = (.int .i64 p.2)), (fun _ _ v _ => v = (.int .i64 (atD b p.2))), (fun _ _ v _ => v = (.bool (decide ((atD a p.1 : Int) ≠ atD b p.2)))), (fun _ _ v _ => v = undef)] := ⟨_, rfl⟩
  refine Wp_dagS (MsL []) [true, true, true, true, true, true, true, true, true, true, true, false] [11] [5, 6, 7, 8, 9, 10, 11, 12, 13, 14, 15, 27] [[], [], [1], [2], [0, 3], [], [], [6], [7], [4, 5, 8], [4, 9], []] [[], [], [1], [2, 1], [0, 3, 2, 1], [], [], [6], [7, 6], [4, 0, 3, 2, 1, 5, 8, 7, 6], [4, 0, 3, 2, 1, 9, 5, 8, 7, 6], []] Fs1 hFs1 (by kernel_rfl) mixed (by kernel_rfl) (by kernel_rfl) (by kernel_rfl) (by kernel_rfl) ?_ ?_
  · intro wd X0
    refine DagStepsS.cons (StabS.eq) (LocS.const) (fun S s' w' hi hN X U H => Or.inl ⟨Guarded_none rfl, ?_⟩) ?_
    · replace X := X.mono (M' := none1) (fun y _ h => by
          obtain ⟨j, hj, h⟩ := h
          exact h.elim)
      exact DoesT_pure (r_loadAgg (vs := [(.int .i64 a.start), (.slice aa a.accept.length ac), (.slice na a.next.length nc)]) (U 1 rfl) agg25 siz25 rfl (((X0.trans X).keep hBa).cells rfl)) rfl
    refine DagStepsS.cons (StabS.eq) (LocS.const) (fun S s' w' hi hN X U H => Or.inl ⟨Guarded_none rfl, ?_⟩) ?_
    · replace X := X.mono (M' := none1) (fun y _ h => by
          obtain ⟨j, hj, h⟩ := h
          exact h.elim)
      exact DoesT_pure (r_move (v := (.slice (some ⟨sb, so, none⟩) 2 sc)) (U 0 rfl)) rfl
    refine DagStepsS.cons (StabS.eq) (LocS.const) (fun S s' w' hi hN X U H => Or.inl ⟨Guarded_none rfl, ?_⟩) ?_
    · replace X := X.mono (M' := none1) (fun y _ h => by
          obtain ⟨j, hj, h⟩ := h
          exact h.elim)
      have e6 : s' 6 = (.slice (some ⟨sb, so, none⟩) 2 sc) := (H 1 rfl).2 6 (fun _ _ v _ => v = (.slice (some ⟨sb, so, none⟩) 2 sc)) rfl (by rw [hFs1]; rfl)
      exact DoesT_pure (r_indexSlice (b := sb) (o := so) (len := 2) (cap := sc) (i := 0) (o' := so + 0) e6 rfl rfl Try.underlying22 siz3 (by omega) (by omega)) rfl
    refine DagStepsS.cons (StabS.eq) (LocS.const) (fun S s' w' hi hN X U H => Or.inl ⟨Guarded_none rfl, ?_⟩) ?_
    · replace X := X.mono (M' := none1) (fun y _ h => by
          obtain ⟨j, hj, h⟩ := h
          exact h.elim)
      have e7 : s' 7 = (.pointer (some ⟨sb, so + 0, none⟩)) := (H 2 rfl).2 7 (fun _ _ v _ => v = (.pointer (some ⟨sb, so + 0, none⟩))) rfl (by rw [hFs1]; rfl)
      exact DoesT_pure (r_load (v := (.int .i64 p.1)) e7 flat3 ((Ext.trans E (X0.trans X)).cell hs0)) rfl
    refine DagStepsS.cons (StabS.eq) (LocS.const) (fun S s' w' hi hN X U H => Or.inl ⟨Guarded_none rfl, ?_⟩) ?_
    · replace X := X.mono (M' := none1) (fun y _ h => by
          obtain ⟨j, hj, h⟩ := h
          exact h.elim)
      have e5 : s' 5 = (.agg #[(.int .i64 a.start), (.slice aa a.accept.length ac), (.slice na a.next.length nc)]) := (H 0 rfl).2 5 (fun _ _ v _ => v = (.agg #[(.int .i64 a.start), (.slice aa a.accept.length ac), (.slice na a.next.length nc)])) rfl (by rw [hFs1]; rfl)
      have e8 : s' 8 = (.int .i64 p.1) := (H 3 rfl).2 8 (fun _ _ v _ => v = (.int .i64 p.1)) rfl (by rw [hFs1]; rfl)
      exact DoesT_callE (r_callF (vs := [(.agg #[(.int .i64 a.start), (.slice aa a.accept.length ac), (.slice na a.next.length nc)]), (.int .i64 p.1), (.slice none 0 0)]) Try.func18 nm18 bd18 (lst3 e5 e8 rfl)) ((rrun0_c _ n c a _ p.1 oka (ha.ext (Ext.trans E (X0.trans X))) hp.1).mono (fun v w h => h))
    refine DagStepsS.cons (StabS.eq) (LocS.const) (fun S s' w' hi hN X U H => Or.inl ⟨Guarded_none rfl, ?_⟩) ?_
    · replace X := X.mono (M' := none1) (fun y _ h => by
          obtain ⟨j, hj, h⟩ := h
          exact h.elim)
      exact DoesT_pure (r_loadAgg (vs := [(.int .i64 b.start), (.slice aa2 b.accept.length ac2), (.slice na2 b.next.length nc2)]) (U 2 rfl) agg25 siz25 rfl (((X0.trans X).keep hBb).cells rfl)) rfl
    refine DagStepsS.cons (StabS.eq) (LocS.const) (fun S s' w' hi hN X U H => Or.inl ⟨Guarded_none rfl, ?_⟩) ?_
    · replace X := X.mono (M' := none1) (fun y _ h => by
          obtain ⟨j, hj, h⟩ := h
          exact h.elim)
      exact DoesT_pure (r_move (v := (.slice (some ⟨sb, so, none⟩) 2 sc)) (U 0 rfl)) rfl
    refine DagStepsS.cons (StabS.eq) (LocS.const) (fun S s' w' hi hN X U H => Or.inl ⟨Guarded_none rfl, ?_⟩) ?_
    · replace X := X.mono (M' := none1) (fun y _ h => by
          obtain ⟨j, hj, h⟩ := h
          exact h.elim)
      have e11 : s' 11 = (.slice (some ⟨sb, so, none⟩) 2 sc) := (H 6 rfl).2 11 (fun _ _ v _ => v = (.slice (some ⟨sb, so, none⟩) 2 sc)) rfl (by rw [hFs1]; rfl)
      exact DoesT_pure (r_indexSlice (b := sb) (o := so) (len := 2) (cap := sc) (i := 1) (o' := so + 1) e11 rfl rfl Try.underlying22 siz3 (by omega) (by omega)) rfl
    refine DagStepsS.cons (StabS.eq) (LocS.const) (fun S s' w' hi hN X U H => Or.inl ⟨Guarded_none rfl, ?_⟩) ?_
    · replace X := X.mono (M' := none1) (fun y _ h => by
          obtain ⟨j, hj, h⟩ := h
          exact h.elim)
      have e12 : s' 12 = (.pointer (some ⟨sb, so + 1, none⟩)) := (H 7 rfl).2 12 (fun _ _ v _ => v = (.pointer (some ⟨sb, so + 1, none⟩))) rfl (by rw [hFs1]; rfl)
      exact DoesT_pure (r_load (v := (.int .i64 p.2)) e12 flat3 ((Ext.trans E (X0.trans X)).cell hs1)) rfl
    refine DagStepsS.cons (StabS.eq) (LocS.const) (fun S s' w' hi hN X U H => Or.inl ⟨Guarded_none rfl, ?_⟩) ?_
    · replace X := X.mono (M' := none1) (fun y _ h => by
          obtain ⟨j, hj, h⟩ := h
          exact h.elim)
      have e10 : s' 10 = (.agg #[(.int .i64 b.start), (.slice aa2 b.accept.length ac2), (.slice na2 b.next.length nc2)]) := (H 5 rfl).2 10 (fun _ _ v _ => v = (.agg #[(.int .i64 b.start), (.slice aa2 b.accept.length ac2), (.slice na2 b.next.length nc2)])) rfl (by rw [hFs1]; rfl)
      have e13 : s' 13 = (.int .i64 p.2) := (H 8 rfl).2 13 (fun _ _ v _ => v = (.int .i64 p.2)) rfl (by rw [hFs1]; rfl)
      exact DoesT_callE (r_callF (vs := [(.agg #[(.int .i64 b.start), (.slice aa2 b.accept.length ac2), (.slice na2 b.next.length nc2)]), (.int .i64 p.2), (.slice none 0 0)]) Try.func18 nm18 bd18 (lst3 e10 e13 rfl)) ((rrun0_c _ m c b _ p.2 okb (hb.ext (Ext.trans E (X0.trans X))) hp.2).mono (fun v w h => h))
    refine DagStepsS.cons (StabS.eq) (LocS.const) (fun S s' w' hi hN X U H => Or.inl ⟨Guarded_none rfl, ?_⟩) ?_
    · replace X := X.mono (M' := none1) (fun y _ h => by
          obtain ⟨j, hj, h⟩ := h
          exact h.elim)
      have e9 : s' 9 = (.int .i64 (atD a p.1)) := (H 4 rfl).2 9 (fun _ _ v _ => v = (.int .i64 (atD a p.1))) rfl (by rw [hFs1]; rfl)
      have e14 : s' 14 = (.int .i64 (atD b p.2)) := (H 9 rfl).2 14 (fun _ _ v _ => v = (.int .i64 (atD b p.2))) rfl (by rw [hFs1]; rfl)
      exact DoesT_pure (r_neq (k := .i64) (a := atD a p.1) (b := atD b p.2) e9 e14) rfl
    refine DagStepsS.tail ?_
    exact DagStepsS.nil
  · intro s' wd1 w1 X0 X1 U H
    replace X1 := X1.mono (M' := none1) (fun y _ h => by
        obtain ⟨j, hj, h⟩ := h
        exact h.elim)
    have e15 : s' 15 = (.bool (decide ((atD a p.1 : Int) ≠ atD b p.2))) := H 10 rfl 15 (fun _ _ v _ => v = (.bool (decide ((atD a p.1 : Int) ≠ atD b p.2)))) rfl (by rw [hFs1]; rfl)
    obtain ⟨j1, rfl⟩ := Fits.out (σ := s') (l := [(15, (.bool (decide ((atD a p.1 : Int) ≠ atD b p.2))))]) ⟨e15, trivial⟩
    clear U H
    replace hBa := (X0.trans X1).keep hBa
    replace hBb := (X0.trans X1).keep hBb
    replace X1 := X0.trans X1
    replace E := E.ext X1
    refine WpL_val rfl rfl (by decide) (r_assign (v := (.bool (decide ((atD a p.1 : Int) ≠ atD b p.2)))) rfl) ?_
    refine WpL_nil ?_
    refine thn_normal ?_
    refine Wp_ret ?_
    refine fin_tmp Try.results17 (v := (.bool (decide ((atD a p.1 : Int) ≠ atD b p.2)))) rfl ?_
    exact ⟨rfl, E⟩
def d2 (x0 x1 y0 y1 : Int) : Dfa := ⟨0, [x0, x1], [[y0], [y1]]⟩
theorem d2_at {w : World} {x0 x1 y0 y1 : Int} {a p q n T1 T2 T3 T4 : Nat} (Ba : Blk w a #[.int .i64 x0, .int .i64 x1] T1) (Bp : Blk w p #[.int .i64 y0] T2) (Bq : Blk w q #[.int .i64 y1] T3) (Bn : Blk w n #[.slice (some ⟨p, 0, none⟩) 1 1, .slice (some ⟨q, 0, none⟩) 1 1] T4) :
    DfaAt w (d2 x0 x1 y0 y1) [.int .i64 0, .slice (some ⟨a, 0, none⟩) 2 2, .slice (some ⟨n, 0, none⟩) 2 2] := by
  refine ⟨_, _, _, _, rfl, ints_own (l := [x0, x1]) (rest := []) Ba (by simp) (by simp), [.slice (some ⟨p, 0, none⟩) 1 1, .slice (some ⟨q, 0, none⟩) 1 1], ⟨_, _, rfl, by simp, by simp, .inr ⟨n, 0, rfl, ?_⟩⟩, rfl, ?_⟩
  · intro i r hr
    rcases i with _ | _ | i
    · simp at hr; subst hr
      intro j u hu
      cases j with
      | zero => simp at hu; subst hu; exact Bn.cell rfl
      | succ j => simp at hu
    · simp at hr; subst hr
      intro j u hu
      cases j with
      | zero => simp at hu; subst hu; exact Bn.cell rfl
      | succ j => simp at hu
    · simp at hr
  · intro i u l hu hl
    rcases i with _ | _ | i
    · simp [d2] at hu hl; subst hu; subst hl; exact ints_own (l := [y0]) (rest := []) Bp (by simp) (by simp)
    · simp [d2] at hu hl; subst hu; subst hl; exact ints_own (l := [y1]) (rest := []) Bq (by simp) (by simp)
    · simp at hu
def oneC : Dfa := ⟨0, [0], [[0]]⟩
theorem can_one : CanOf 1 (beh (d2 0 0 1 0) (d2 0 0 1 0).start) oneC := by
  refine (canB_can (m := 1) (W := [[]]) (by decide)).congr fun w hw => ?_
  refine beh_one (D := d2 0 0 1 0) (f := id) (fun s t => t = 0 ∧ (s = 0 ∨ s = 1)) (fun s t h => ?_) (fun s t h => ?_) w hw 0 0 ⟨rfl, .inl rfl⟩
  · obtain ⟨rfl, rfl | rfl⟩ := h <;> decide
  · obtain ⟨rfl, rfl | rfl⟩ := h <;> decide
theorem d2_ok : OkD 2 1 (d2 0 0 1 0) := ⟨rfl, rfl, by decide, by decide, by decide⟩
theorem oneC_ok : OkD 1 1 oneC := ⟨rfl, rfl, by decide, by decide, by decide⟩
theorem minone_c (w0 : World) (dv : List Value) (h : DfaAt w0 (d2 0 0 1 0) dv) :
    Ret Try.prog 22 #[.agg dv.toArray] w0 fun r w => (∃ cb co cc ma mc, r = .tuple #[.agg #[.int .i64 0, .slice (some ⟨cb, co, none⟩) 1 cc, .slice ma 1 mc], .int .i64 0] ∧ DfaAt w oneC [.int .i64 0, .slice (some ⟨cb, co, none⟩) 1 cc, .slice ma 1 mc] ∧ w.cell? ⟨cb, co + 0, none⟩ = some (.int .i64 0)) ∧ Ext w0 w :=
  (miniMin_c w0 2 1 _ dv d2_ok h (by decide) (by decide) (by decide)).mono fun r w h => by
    obtain ⟨⟨C, ca, cc, ma, mc, hC, _, _, rfl, hN⟩, e⟩ := h
    obtain rfl := CanOf.uniq hC can_one (fun w _ => rfl)
    have hD := hN.at'
    obtain ⟨hA, _⟩ := hD.parts
    obtain ⟨cb, co, rfl, hcx⟩ := ints_cells hA (by decide)
    exact ⟨⟨cb, co, cc, ma, mc, rfl, hD, hcx 0 0 rfl⟩, e⟩
def sameOneF : Fct := fun v _ => ∃ ad cc, v = .tuple #[.bool false, .slice ad 1 cc, .int .i64 0]
theorem sameone_c (w0 : World) (av bv : List Value) (ha : DfaAt w0 evnD av) (hb : DfaAt w0 oneC bv) :
    Ret Try.prog 11 #[.agg av.toArray, .agg bv.toArray] w0 fun v w => sameOneF v w ∧ Ext w0 w :=
  (same_d w0 2 1 1 _ _ av bv evn_ok oneC_ok ha hb (by decide) (by decide) (by decide)).mono fun r w h => by
    obtain ⟨⟨ok, l, ad, cc, rfl, _, hS, _⟩, e⟩ := h
    have h0 : inW 1 [0] := fun x hx => by rw [List.mem_singleton] at hx; omega
    cases ok with
    | true =>
      have h9 := (hS.yes rfl).2 [0] h0
      exact absurd h9 (by decide)
    | false =>
      obtain ⟨h1, h2, h3⟩ := hS.no rfl
      have hl : l.length = 1 := by
        rcases Nat.lt_trichotomy l.length 1 with h4 | h4 | h4
        · rw [List.eq_nil_of_length_eq_zero (by omega : l.length = 0)] at h2
          exact absurd h2 (by decide)
        · exact h4
        · exact absurd (h3 [0] h0 (by simpa using h4)) (by decide)
      exact ⟨⟨ad, cc, by rw [hl]⟩, e⟩
theorem two_c (w0 : World) : Ret Try.prog 54 #[] w0 fun r w => evnF r w ∧ Ext w0 w := by
  refine Ret_of Try.func54 rfl Try.ntmps54 (Nat.le_of_ble_eq_true rfl) ?_
  have E : Chg none1 w0 w0 := Chg.refl _ _
  refine Wp_seq_region ?_
  refine s_alloc (c := #[(.int .i64 0), (.slice none 0 0), (.slice none 0 0)]) (by decide) zer25 rfl ?_
  intro bt wt Nt
  have Ft := Nt.ge E
  replace E := E.ext Nt.ext
  have Bt := Nt.blk
  refine WpL_nil ?_
  refine Wp_seq_region ?_
  refine s_buildSlice (ps := [(0, (.int .i64 0)), (1, (.int .i64 (-1)))]) (c := #[(.int .i64 0), (.int .i64 (-1))]) (by decide) rfl Try.underlying22 siz3 zer3 (by decide) (by decide) (by kernel_rfl) ?_
  intro ba wa Na
  have Fa := Na.ge E
  have Oa_bt := Na.lt Bt
  replace Bt := Na.keep Bt
  replace E := E.ext Na.ext
  have Ba := Na.blk
  refine s_buildSlice (ps := [(0, (.int .i64 1))]) (c := #[(.int .i64 1)]) (by decide) rfl Try.underlying22 siz3 zer3 (by decide) (by decide) (by kernel_rfl) ?_
  intro bp wp Np
  have Fp := Np.ge E
  have Op_bt := Np.lt Bt
  have Op_ba := Np.lt Ba
  replace Bt := Np.keep Bt
  replace Ba := Np.keep Ba
  replace E := E.ext Np.ext
  have Bp := Np.blk
  refine s_buildSlice (ps := [(0, (.int .i64 0))]) (c := #[(.int .i64 0)]) (by decide) rfl Try.underlying22 siz3 zer3 (by decide) (by decide) (by kernel_rfl) ?_
  intro bq wq Nq
  have Fq := Nq.ge E
  have Oq_bt := Nq.lt Bt
  have Oq_ba := Nq.lt Ba
  have Oq_bp := Nq.lt Bp
  replace Bt := Nq.keep Bt
  replace Ba := Nq.keep Ba
  replace Bp := Nq.keep Bp
  replace E := E.ext Nq.ext
  have Bq := Nq.blk
  refine s_buildSlice (ps := [(0, (.slice (some ⟨bp, 0, none⟩) 1 1)), (1, (.slice (some ⟨bq, 0, none⟩) 1 1))]) (c := #[(.slice (some ⟨bp, 0, none⟩) 1 1), (.slice (some ⟨bq, 0, none⟩) 1 1)]) (by decide) rfl Try.underlying23 siz22 zer22 (by decide) (by decide) (by kernel_rfl) ?_
  intro bn wn Nn
  have Fn := Nn.ge E
  have On_bt := Nn.lt Bt
  have On_ba := Nn.lt Ba
  have On_bp := Nn.lt Bp
  have On_bq := Nn.lt Bq
  replace Bt := Nn.keep Bt
  replace Ba := Nn.keep Ba
  replace Bp := Nn.keep Bp
  replace Bq := Nn.keep Bq
  replace E := E.ext Nn.ext
  have Bn := Nn.blk
  refine WpL_val rfl rfl (by decide) (r_build (ps := [(1, (.slice (some ⟨ba, 0, none⟩) 2 2)), (2, (.slice (some ⟨bn, 0, none⟩) 2 2))]) (v := (.agg #[(.int .i64 0), (.slice (some ⟨ba, 0, none⟩) 2 2), (.slice (some ⟨bn, 0, none⟩) 2 2)])) rfl (by kernel_rfl)) ?_
  refine s_storeAgg (b := bt) (o := 0) (c' := #[(.int .i64 0), (.slice (some ⟨ba, 0, none⟩) 2 2), (.slice (some ⟨bn, 0, none⟩) 2 2)]) rfl rfl (by simp [Value.oneCell']) siz25 rfl Bt (by simp) rfl ?_
  intro w1 S1
  replace Ba := S1.keep (by omega) Ba
  replace Bp := S1.keep (by omega) Bp
  replace Bq := S1.keep (by omega) Bq
  replace Bn := S1.keep (by omega) Bn
  replace E := S1.step E (by first | exact Or.inl (by omega) | exact Or.inr rfl | exact Or.inr (by assumption) | exact Or.inr (by simp) | exact Or.inr (by omega) | exact Or.inr (by dsimp only; omega))
  replace Bt := S1.blk
  refine WpL_nil ?_
  refine Wp_ret ?_
  refine fin_agg Try.results54 (vs := [(.int .i64 0), (.slice (some ⟨ba, 0, none⟩) 2 2), (.slice (some ⟨bn, 0, none⟩) 2 2)]) (b := bt) rfl agg25 siz25 rfl (Bt.cells rfl) ?_
  exact ⟨⟨_, _, _, _, rfl, d2_at Ba Bp Bq Bn⟩, E⟩
set_option maxHeartbeats 4000000 in
theorem mbegun1_c (w0 : World) : Ret Try.prog 12 #[] w0 fun r w => r = .bool true ∧ Ext w0 w := by
  refine Ret_of Try.func12 rfl Try.ntmps12 (Nat.le_of_ble_eq_true rfl) ?_
  have E : Chg none1 w0 w0 := Chg.refl _ _
  refine Wp_seq_region ?_
  refine WpL_val rfl rfl (by decide) (r_assign (v := (.bool false)) rfl) ?_
  refine WpL_nil ?_
  refine Wp_seq_region ?_
  refine s_buildSlice (ps := [(0, (.int .i64 0)), (1, (.int .i64 0))]) (c := #[(.int .i64 0), (.int .i64 0)]) (by decide) rfl Try.underlying22 siz3 zer3 (by decide) (by decide) (by kernel_rfl) ?_
  intro ba wa Na
  have Fa := Na.ge E
  replace E := E.ext Na.ext
  have Ba := Na.blk
  refine s_buildSlice (ps := [(0, (.int .i64 1))]) (c := #[(.int .i64 1)]) (by decide) rfl Try.underlying22 siz3 zer3 (by decide) (by decide) (by kernel_rfl) ?_
  intro bp wp Np
  have Fp := Np.ge E
  have Op_ba := Np.lt Ba
  replace Ba := Np.keep Ba
  replace E := E.ext Np.ext
  have Bp := Np.blk
  refine s_buildSlice (ps := [(0, (.int .i64 0))]) (c := #[(.int .i64 0)]) (by decide) rfl Try.underlying22 siz3 zer3 (by decide) (by decide) (by kernel_rfl) ?_
  intro bq wq Nq
  have Fq := Nq.ge E
  have Oq_ba := Nq.lt Ba
  have Oq_bp := Nq.lt Bp
  replace Ba := Nq.keep Ba
  replace Bp := Nq.keep Bp
  replace E := E.ext Nq.ext
  have Bq := Nq.blk
  refine s_buildSlice (ps := [(0, (.slice (some ⟨bp, 0, none⟩) 1 1)), (1, (.slice (some ⟨bq, 0, none⟩) 1 1))]) (c := #[(.slice (some ⟨bp, 0, none⟩) 1 1), (.slice (some ⟨bq, 0, none⟩) 1 1)]) (by decide) rfl Try.underlying23 siz22 zer22 (by decide) (by decide) (by kernel_rfl) ?_
  intro bn wn Nn
  have Fn := Nn.ge E
  have On_ba := Nn.lt Ba
  have On_bp := Nn.lt Bp
  have On_bq := Nn.lt Bq
  replace Ba := Nn.keep Ba
  replace Bp := Nn.keep Bp
  replace Bq := Nn.keep Bq
  replace E := E.ext Nn.ext
  have Bn := Nn.blk
  refine WpL_val rfl rfl (by decide) (r_build (ps := [(1, (.slice (some ⟨ba, 0, none⟩) 2 2)), (2, (.slice (some ⟨bn, 0, none⟩) 2 2))]) (v := (.agg #[(.int .i64 0), (.slice (some ⟨ba, 0, none⟩) 2 2), (.slice (some ⟨bn, 0, none⟩) 2 2)])) rfl (by kernel_rfl)) ?_
  refine WpL_enter rfl rfl (by decide) (r_callF (vs := [(.agg #[(.int .i64 0), (.slice (some ⟨ba, 0, none⟩) 2 2), (.slice (some ⟨bn, 0, none⟩) 2 2)])]) Try.func22 nm22 bd22 rfl) (minone_c _ _ (d2_at Ba Bp Bq Bn)) ?_
  rintro _ w19 ⟨⟨cb, co, cc1, ma1, mc1, rfl, hD1, hc1⟩, X19⟩
  replace Ba := X19.keep Ba
  replace Bp := X19.keep Bp
  replace Bq := X19.keep Bq
  replace Bn := X19.keep Bn
  replace E := E.ext X19
  refine WpL_val rfl rfl (by decide) (r_move (v := (.tuple #[(.agg #[(.int .i64 0), (.slice (some ⟨cb, co, none⟩) 1 cc1), (.slice ma1 1 mc1)]), (.int .i64 0)])) rfl) ?_
  refine WpL_val rfl rfl (by decide) (r_extract (vs := #[(.agg #[(.int .i64 0), (.slice (some ⟨cb, co, none⟩) 1 cc1), (.slice ma1 1 mc1)]), (.int .i64 0)]) (v := (.agg #[(.int .i64 0), (.slice (some ⟨cb, co, none⟩) 1 cc1), (.slice ma1 1 mc1)])) rfl rfl) ?_
  refine WpL_val rfl rfl (by decide) (r_extract (vs := #[(.agg #[(.int .i64 0), (.slice (some ⟨cb, co, none⟩) 1 cc1), (.slice ma1 1 mc1)]), (.int .i64 0)]) (v := (.int .i64 0)) rfl rfl) ?_
  refine s_allocStore (v := (.agg #[(.int .i64 0), (.slice (some ⟨cb, co, none⟩) 1 cc1), (.slice ma1 1 mc1)])) (c := #[(.int .i64 0), (.slice (some ⟨cb, co, none⟩) 1 cc1), (.slice ma1 1 mc1)]) (n := 3) (by decide) zer25 rfl siz25 rfl rfl rfl (by simp [Value.oneCell']) ?_
  intro bd wd Nd
  have Fd := Nd.ge E
  have Od_ba := Nd.lt Ba
  have Od_bp := Nd.lt Bp
  have Od_bq := Nd.lt Bq
  have Od_bn := Nd.lt Bn
  replace Ba := Nd.keep Ba
  replace Bp := Nd.keep Bp
  replace Bq := Nd.keep Bq
  replace Bn := Nd.keep Bn
  replace hD1 := hD1.ext Nd.ext
  replace hc1 := Nd.ext.cell hc1
  replace E := E.ext Nd.ext
  have Bd := Nd.blk
  refine WpL_val rfl rfl (by decide) (r_assign (v := (.int .i64 0)) rfl) ?_
  refine WpL_nil ?_
  have hz_1 : w0.heap.size ≤ wd.heap.size := E.size
  have lz_1_ba : ba < wd.heap.size := Ba.lt
  have lz_1_bp : bp < wd.heap.size := Bp.lt
  have lz_1_bq : bq < wd.heap.size := Bq.lt
  have lz_1_bn : bn < wd.heap.size := Bn.lt
  have lz_1_bd : bd < wd.heap.size := Bd.lt
  refine Wp_seq ?_
  obtain ⟨Fs1, hFs1⟩ : ∃ Fs : List FctS, Fs = [(fun _ _ => evnF), (fun _ _ v _ => v = (.agg #[(.int .i64 0), (.slice (some ⟨cb, co, none⟩) 1 cc1), (.slice ma1 1 mc1)])), (fun _ _ => sameOneF), (fun _ _ => sameOneF), (fun _ _ v _ => v = (.bool false)), (fun _ _ => fun v _ => ∃ ad cc, v = .slice ad 1 cc), (fun _ _ v _ => v = (.int .i64 0)), (fun _ _ v _ => v = (.bool false)), (fun _ _ => fun v _ => ∃ ad cc, v = .slice ad 1 cc), (fun _ _ v _ => v = undef)] := ⟨_, rfl⟩
  refine Wp_dagS (MsL []) [true, true, true, true, true, true, true, true, true, false] [9] [16, 17, 18, 15, 19, 20, 21, 3, 4, 59] [[], [], [0, 1], [2], [3], [3], [3], [0, 1, 2, 3, 4], [0, 1, 2, 3, 4, 5, 7], []] [[], [], [0, 1], [2, 0, 1], [3, 2, 0, 1], [3, 2, 0, 1], [3, 2, 0, 1], [0, 1, 2, 3, 4], [0, 1, 2, 3, 4, 5, 7], []] Fs1 hFs1 (by kernel_rfl) mixed (by kernel_rfl) (by kernel_rfl) (by kernel_rfl) (by kernel_rfl) ?_ ?_
  · intro wd X0
    refine DagStepsS.cons (StabS.chg (U := none1) (evnF_ext) (fun p y hp hw h => by
          exact h.elim)) (LocS.const) (fun S s' w' hi hN X U H => Or.inl ⟨Guarded_none rfl, ?_⟩) ?_
    · replace X := X.mono (M' := none1) (fun y _ h => by
          obtain ⟨j, hj, h⟩ := h
          exact h.elim)
      exact DoesT_callE (r_callF (vs := []) Try.func54 nm54 bd54 rfl) ((two_c _).mono (fun v w h => h))
    refine DagStepsS.cons (StabS.eq) (LocS.const) (fun S s' w' hi hN X U H => Or.inl ⟨Guarded_none rfl, ?_⟩) ?_
    · replace X := X.mono (M' := none1) (fun y _ h => by
          obtain ⟨j, hj, h⟩ := h
          exact h.elim)
      exact DoesT_pure (r_loadAgg (vs := [(.int .i64 0), (.slice (some ⟨cb, co, none⟩) 1 cc1), (.slice ma1 1 mc1)]) (U 1 rfl) agg25 siz25 rfl (((X0.trans X).keep Bd).cells rfl)) rfl
    refine DagStepsS.cons (StabS.chg (U := none1) (fun _ _ _ _ h => h) (fun p y hp hw h => by
          exact h.elim)) (LocS.const) (fun S s' w' hi hN X U H => Or.inl ⟨Guarded_none rfl, ?_⟩) ?_
    · replace X := X.mono (M' := none1) (fun y _ h => by
          obtain ⟨j, hj, h⟩ := h
          exact h.elim)
      obtain ⟨aa16, ac16, na16, nc16, e16, d16⟩ := (show ((fun _ _ => evnF) : FctS) S s' (s' 16) w' from (H 0 rfl).2 16 (fun _ _ => evnF) rfl (by rw [hFs1]; rfl))
      have e17 : s' 17 = (.agg #[(.int .i64 0), (.slice (some ⟨cb, co, none⟩) 1 cc1), (.slice ma1 1 mc1)]) := (H 1 rfl).2 17 (fun _ _ v _ => v = (.agg #[(.int .i64 0), (.slice (some ⟨cb, co, none⟩) 1 cc1), (.slice ma1 1 mc1)])) rfl (by rw [hFs1]; rfl)
      exact DoesT_callE (r_callF (vs := [(.agg #[(.int .i64 0), (.slice aa16 2 ac16), (.slice na16 2 nc16)]), (.agg #[(.int .i64 0), (.slice (some ⟨cb, co, none⟩) 1 cc1), (.slice ma1 1 mc1)])]) Try.func11 nm11 bd11 (lst2 e16 e17)) ((sameone_c _ _ _ d16 (hD1.ext (X0.trans X))).mono (fun v w h => h))
    refine DagStepsS.cons (StabS.chg (U := none1) (fun _ _ _ _ h => h) (fun p y hp hw h => by
          exact h.elim)) (LocS.const) (fun S s' w' hi hN X U H => Or.inl ⟨Guarded_none rfl, ?_⟩) ?_
    · replace X := X.mono (M' := none1) (fun y _ h => by
          obtain ⟨j, hj, h⟩ := h
          exact h.elim)
      exact DoesT_pure (r_move (v := s' 18) rfl) ((H 2 rfl).2 18 (fun _ _ => sameOneF) rfl (by rw [hFs1]; rfl))
    refine DagStepsS.cons (StabS.eq) (LocS.const) (fun S s' w' hi hN X U H => Or.inl ⟨Guarded_none rfl, ?_⟩) ?_
    · replace X := X.mono (M' := none1) (fun y _ h => by
          obtain ⟨j, hj, h⟩ := h
          exact h.elim)
      obtain ⟨ad15, cc15, e15⟩ := (show ((fun _ _ => sameOneF) : FctS) S s' (s' 15) w' from (H 3 rfl).2 15 (fun _ _ => sameOneF) rfl (by rw [hFs1]; rfl))
      exact DoesT_pure (r_extract (vs := #[.bool false, .slice ad15 1 cc15, .int .i64 0]) (v := .bool false) e15 rfl) rfl
    refine DagStepsS.cons (StabS.chg (U := none1) (fun _ _ _ _ h => h) (fun p y hp hw h => by
          exact h.elim)) (LocS.const) (fun S s' w' hi hN X U H => Or.inl ⟨Guarded_none rfl, ?_⟩) ?_
    · replace X := X.mono (M' := none1) (fun y _ h => by
          obtain ⟨j, hj, h⟩ := h
          exact h.elim)
      obtain ⟨ad15, cc15, e15⟩ := (show ((fun _ _ => sameOneF) : FctS) S s' (s' 15) w' from (H 3 rfl).2 15 (fun _ _ => sameOneF) rfl (by rw [hFs1]; rfl))
      exact DoesT_pure (r_extract (vs := #[.bool false, .slice ad15 1 cc15, .int .i64 0]) (v := .slice ad15 1 cc15) e15 rfl) ⟨ad15, cc15, rfl⟩
    refine DagStepsS.cons (StabS.eq) (LocS.const) (fun S s' w' hi hN X U H => Or.inl ⟨Guarded_none rfl, ?_⟩) ?_
    · replace X := X.mono (M' := none1) (fun y _ h => by
          obtain ⟨j, hj, h⟩ := h
          exact h.elim)
      obtain ⟨ad15, cc15, e15⟩ := (show ((fun _ _ => sameOneF) : FctS) S s' (s' 15) w' from (H 3 rfl).2 15 (fun _ _ => sameOneF) rfl (by rw [hFs1]; rfl))
      exact DoesT_pure (r_extract (vs := #[.bool false, .slice ad15 1 cc15, .int .i64 0]) (v := .int .i64 0) e15 rfl) rfl
    refine DagStepsS.cons (StabS.eq) (LocS.const) (fun S s' w' hi hN X U H => Or.inl ⟨Guarded_none rfl, ?_⟩) ?_
    · replace X := X.mono (M' := none1) (fun y _ h => by
          obtain ⟨j, hj, h⟩ := h
          exact h.elim)
      have e19 : s' 19 = (.bool false) := (H 4 rfl).2 19 (fun _ _ v _ => v = (.bool false)) rfl (by rw [hFs1]; rfl)
      exact DoesT_pure (r_assign (v := (.bool false)) e19) rfl
    refine DagStepsS.cons (StabS.chg (U := none1) (fun _ _ _ _ h => h) (fun p y hp hw h => by
          exact h.elim)) (LocS.const) (fun S s' w' hi hN X U H => Or.inl ⟨Guarded_none rfl, ?_⟩) ?_
    · replace X := X.mono (M' := none1) (fun y _ h => by
          obtain ⟨j, hj, h⟩ := h
          exact h.elim)
      exact DoesT_pure (r_assign (v := s' 20) rfl) ((H 5 rfl).2 20 (fun _ _ => fun v _ => ∃ ad cc, v = .slice ad 1 cc) rfl (by rw [hFs1]; rfl))
    refine DagStepsS.tail ?_
    exact DagStepsS.nil
  · intro s' wd1 w1 X0 X1 U H
    replace X1 := X1.mono (M' := none1) (fun y _ h => by
        obtain ⟨j, hj, h⟩ := h
        exact h.elim)
    have e21 : s' 21 = (.int .i64 0) := H 6 rfl 21 (fun _ _ v _ => v = (.int .i64 0)) rfl (by rw [hFs1]; rfl)
    have e3 : s' 3 = (.bool false) := H 7 rfl 3 (fun _ _ v _ => v = (.bool false)) rfl (by rw [hFs1]; rfl)
    obtain ⟨ad4, cc4, e4⟩ := (show ((fun _ _ => fun v _ => ∃ ad cc, v = .slice ad 1 cc) : FctS) (allS [true, true, true, true, true, true, true, true, true, false]) s' (s' 4) w1 from H 8 rfl 4 (fun _ _ => fun v _ => ∃ ad cc, v = .slice ad 1 cc) rfl (by rw [hFs1]; rfl))
    obtain ⟨j1, rfl⟩ := Fits.out (σ := s') (l := [(1, (.pointer (some ⟨bd, 0, none⟩))), (2, (.int .i64 0)), (21, (.int .i64 0)), (3, (.bool false)), (4, (.slice ad4 1 cc4))]) ⟨U 1 rfl, U 2 rfl, e21, e3, e4, trivial⟩
    clear U H
    replace Ba := (X0.trans X1).keep Ba
    replace Bp := (X0.trans X1).keep Bp
    replace Bq := (X0.trans X1).keep Bq
    replace Bn := (X0.trans X1).keep Bn
    replace Bd := (X0.trans X1).keep Bd
    replace hD1 := hD1.ext (X0.trans X1)
    replace hc1 := (X0.trans X1).cell hc1
    replace X1 := X0.trans X1
    replace E := E.ext X1
    refine WpL_val rfl rfl (by decide) (r_assign (v := (.int .i64 0)) rfl) ?_
    refine WpL_nil ?_
    refine thn_normal ?_
    refine Wp_seq_region ?_
    refine WpL_val rfl rfl (by decide) (r_move (v := (.int .i64 0)) rfl) ?_
    refine WpL_val rfl rfl (by decide) (r_eql (k := .i64) (a := 0) (b := 0) rfl rfl) ?_
    refine WpL_val rfl rfl (by decide) (r_move (v := (.bool true)) rfl) ?_
    refine WpL_guard_yes (oj := _) rfl rfl (by decide) rfl ?_
    refine WpL_val rfl rfl (by decide) (r_move (v := (.int .i64 0)) rfl) ?_
    refine WpL_guard_yes (oj := _) rfl rfl (by decide) rfl ?_
    refine WpL_val rfl rfl (by decide) (r_eql (k := .i64) (a := 0) (b := 0) rfl rfl) ?_
    refine WpL_val rfl rfl (by decide) (r_pick (b := true) (v := (.bool true)) rfl rfl) ?_
    refine WpL_val rfl rfl (by decide) (r_move (v := (.bool true)) rfl) ?_
    refine WpL_guard_yes (oj := _) rfl rfl (by decide) rfl ?_
    refine WpL_val rfl rfl (by decide) (r_move (v := (.bool false)) rfl) ?_
    refine WpL_guard_yes (oj := _) rfl rfl (by decide) rfl ?_
    refine WpL_val rfl rfl (by decide) (r_not (b := false) rfl) ?_
    refine WpL_val rfl rfl (by decide) (r_pick (b := true) (v := (.bool true)) rfl rfl) ?_
    refine WpL_val rfl rfl (by decide) (r_move (v := (.bool true)) rfl) ?_
    refine WpL_guard_yes (oj := _) rfl rfl (by decide) rfl ?_
    refine WpL_val rfl rfl (by decide) (r_move (v := (.slice ad4 1 cc4)) rfl) ?_
    refine WpL_guard_yes (oj := _) rfl rfl (by decide) rfl ?_
    refine WpL_val rfl rfl (by decide) (r_lenSlice (ad := ad4) (n := 1) (cap := cc4) Try.underlying22 rfl) ?_
    refine WpL_guard_yes (oj := _) rfl rfl (by decide) rfl ?_
    refine WpL_val rfl rfl (by decide) (r_eql (k := .i64) (a := 1) (b := 1) rfl rfl) ?_
    refine WpL_val rfl rfl (by decide) (r_pick (b := true) (v := (.bool true)) rfl rfl) ?_
    refine WpL_val rfl rfl (by decide) (r_move (v := (.bool true)) rfl) ?_
    refine WpL_guard_yes (oj := _) rfl rfl (by decide) rfl ?_
    refine WpL_val rfl rfl (by decide) (r_fieldAddr (b := bd) (o := 0) (o' := 2) rfl Try.underlying25 rfl siz23 rfl) ?_
    refine WpL_guard_yes (oj := _) rfl rfl (by decide) rfl ?_
    refine WpL_val rfl rfl (by decide) (r_load (v := (.slice ma1 1 mc1)) rfl flat23 (Bd.cell rfl)) ?_
    refine WpL_guard_yes (oj := _) rfl rfl (by decide) rfl ?_
    refine WpL_val rfl rfl (by decide) (r_lenSlice (ad := ma1) (n := 1) (cap := mc1) Try.underlying23 rfl) ?_
    refine WpL_guard_yes (oj := _) rfl rfl (by decide) rfl ?_
    refine WpL_val rfl rfl (by decide) (r_eql (k := .i64) (a := 1) (b := 1) rfl rfl) ?_
    refine WpL_val rfl rfl (by decide) (r_pick (b := true) (v := (.bool true)) rfl rfl) ?_
    refine WpL_val rfl rfl (by decide) (r_move (v := (.bool true)) rfl) ?_
    refine WpL_guard_yes (oj := _) rfl rfl (by decide) rfl ?_
    refine WpL_val rfl rfl (by decide) (r_fieldAddr (b := bd) (o := 0) (o' := 1) rfl Try.underlying25 rfl siz22 rfl) ?_
    refine WpL_guard_yes (oj := _) rfl rfl (by decide) rfl ?_
    refine WpL_val rfl rfl (by decide) (r_load (v := (.slice (some ⟨cb, co, none⟩) 1 cc1)) rfl flat22 (Bd.cell rfl)) ?_
    refine WpL_guard_yes (oj := _) rfl rfl (by decide) rfl ?_
    refine WpL_val rfl rfl (by decide) (r_indexSlice (b := cb) (o := co) (len := 1) (cap := cc1) (i := 0) (o' := co + 0) rfl rfl rfl Try.underlying22 siz3 (by omega) (by omega)) ?_
    refine WpL_guard_yes (oj := _) rfl rfl (by decide) rfl ?_
    refine WpL_val rfl rfl (by decide) (r_load (v := (.int .i64 0)) rfl flat3 (hc1)) ?_
    refine WpL_guard_yes (oj := _) rfl rfl (by decide) rfl ?_
    refine WpL_val rfl rfl (by decide) (r_eql (k := .i64) (a := 0) (b := 0) rfl rfl) ?_
    refine WpL_val rfl rfl (by decide) (r_pick (b := true) (v := (.bool true)) rfl rfl) ?_
    refine WpL_val rfl rfl (by decide) (r_assign (v := (.bool true)) rfl) ?_
    refine WpL_nil ?_
    refine Wp_ret ?_
    refine fin_tmp Try.results12 (v := (.bool true)) rfl ?_
    exact ⟨rfl, E⟩
end Go.Proofs
namespace Go.Proofs
open Go Go.Eng Go.Sort
set_option maxRecDepth 100000
--BEGIN
def nodeC (e : Value × Value) : List Value := [e.1, e.2]
structure ShN (F : Nat → Prop) (w : World) (work : List (Int × Int)) (wd : List (List Nat)) (ns : List (Value × Value)) : Prop where
  lw : ns.length = work.length
  lv : wd.length = work.length
  pr : ∀ (j : Nat) e p, ns[j]? = some e → work[j]? = some p → SlIn F w 1 e.1 [intV p.1, intV p.2]
  wr : ∀ (j : Nat) e u, ns[j]? = some e → wd[j]? = some u → SlIn F w 1 e.2 ((toI u).map intV)
  fl : ∀ b, F b → b < w.heap.size
variable {F F' : Nat → Prop} {w w' : World} {work : List (Int × Int)} {wd : List (List Nat)} {ns : List (Value × Value)}
theorem ShN.chg {M : Nat → Prop} (h : ShN F w work wd ns) (c : Chg M w w') (hm : ∀ b, F b → ¬ M b) : ShN F w' work wd ns :=
  ⟨h.lw, h.lv, fun j e p he hp => (h.pr j e p he hp).chg c hm, fun j e u he hu => (h.wr j e u he hu).chg c hm, fun b hb => Nat.lt_of_lt_of_le (h.fl b hb) c.size⟩
theorem ShN.ext (h : ShN F w work wd ns) (c : Ext w w') : ShN F w' work wd ns := h.chg c fun _ _ f => f
theorem ShN.mono (h : ShN F w work wd ns) (hF : ∀ b, F b → F' b) (hl : ∀ b, F' b → b < w.heap.size) : ShN F' w work wd ns :=
  ⟨h.lw, h.lv, fun j e p he hp => (h.pr j e p he hp).mono hF, fun j e u he hu => (h.wr j e u he hu).mono hF, hl⟩
theorem ShN.add (h : ShN F w work wd ns) {e : Value × Value} {p : Int × Int} {u : List Nat} (h1 : SlIn F w 1 e.1 [intV p.1, intV p.2]) (h2 : SlIn F w 1 e.2 ((toI u).map intV)) : ShN F w (work ++ [p]) (wd ++ [u]) (ns ++ [e]) := by
  have a1 := h.lw
  have a2 := h.lv
  refine ⟨by simp [a1], by simp [a2], fun j e9 p9 he hp => ?_, fun j e9 u9 he hu => ?_, h.fl⟩
  · rcases Nat.lt_or_ge j ns.length with h3 | h3
    · rw [List.getElem?_append_left h3] at he
      rw [List.getElem?_append_left (by omega)] at hp
      exact h.pr j e9 p9 he hp
    · rw [List.getElem?_append_right h3] at he
      rw [List.getElem?_append_right (by omega)] at hp
      obtain ⟨_, rfl⟩ := one_get he
      obtain ⟨_, rfl⟩ := one_get hp
      exact h1
  · rcases Nat.lt_or_ge j ns.length with h3 | h3
    · rw [List.getElem?_append_left h3] at he
      rw [List.getElem?_append_left (by omega)] at hu
      exact h.wr j e9 u9 he hu
    · rw [List.getElem?_append_right h3] at he
      rw [List.getElem?_append_right (by omega)] at hu
      obtain ⟨_, rfl⟩ := one_get he
      obtain ⟨_, rfl⟩ := one_get hu
      exact h2
theorem ShN.first {s v : Value} {p : Int × Int} (h1 : SlIn F w 1 s [intV p.1, intV p.2]) (h2 : SlIn F w 1 v []) (hf : ∀ b, F b → b < w.heap.size) : ShN F w [p] [[]] [(s, v)] :=
  ⟨rfl, rfl, fun j e p9 he hp => by obtain ⟨_, rfl⟩ := one_get he; obtain ⟨_, rfl⟩ := one_get hp; exact h1, fun j e u he hu => by obtain ⟨_, rfl⟩ := one_get he; obtain ⟨_, rfl⟩ := one_get hu; exact h2, hf⟩
theorem SlIn.formv {k : Nat} {v : Value} {rows : List (List Value)} (h : SlIn F w k v rows) : ∃ a cap, v = .slice a rows.length cap := by
  obtain ⟨a, cap, h1, _⟩ := h
  exact ⟨a, cap, h1⟩
theorem pair_ints {v : Value} {p : Int × Int} (h : SlIn F w 1 v [intV p.1, intV p.2]) : IntsAt w v [p.1, p.2] := h.at
theorem word_ints {v : Value} {u : List Nat} (h : SlIn F w 1 v ((toI u).map intV)) : IntsAt w v (toI u) := h.at
theorem drop_snoc {α : Type} {l : List α} {k : Nat} (h : k ≤ l.length) (x : α) : (l ++ [x]).drop k = l.drop k ++ [x] := by rw [List.drop_append_of_le_length h]
theorem mem_step {work : List (Int × Int)} {k : Nat} {p q : Int × Int} (hq : work[k]? = some q) {old : Bool} (ho : old = decide (p ∈ work.take k)) : (old || decide ([p.1, p.2] = [q.1, q.2])) = decide (p ∈ work.take (k + 1)) := by
  rw [ho, List.take_add_one, hq, Bool.eq_iff_iff]
  simp only [Bool.or_eq_true, decide_eq_true_eq, Option.toList_some, List.mem_append, List.mem_singleton, List.cons.injEq, and_true]
  constructor
  · rintro (h | ⟨h1, h2⟩)
    · exact .inl h
    · exact .inr (Prod.ext h1 h2)
  · rintro (h | rfl)
    · exact .inl h
    · exact .inr ⟨rfl, rfl⟩
/-- The memory of the search: nodes, what was seen, the level and the next one. -/
structure ShT (F : Nat → Prop) (w : World) (n1 : Nat) (work : List (Int × Int)) (wd : List (List Nat)) (ns : List (Value × Value)) (sv : Value) (sn : Nat) (lv : Value) (lo hi : Nat) (mv : Value) (mn : Nat) : Prop where
  N : ShN F w work wd ns
  S : w.ownsRow n1 TDIs 1 sv sn (ns.map (·.1))
  L : SlIn F w 2 lv (((ns.take hi).drop lo).map nodeC)
  M : w.ownsRow n1 78 2 mv mn ((ns.drop hi).map nodeC).flatten
  eS : sn = ns.length
  eH : hi ≤ ns.length
  eM : mn = ns.length - hi
  sF : ∀ b, sv.ownBlock = some b → ¬ F b
  mF : ∀ b, mv.ownBlock = some b → ¬ F b
  sm : ∀ b, sv.ownBlock = some b → mv.ownBlock ≠ some b
theorem ShT.ext {n1 sn lo hi mn : Nat} {sv lv mv : Value} (h : ShT F w n1 work wd ns sv sn lv lo hi mv mn) (c : Ext w w') : ShT F w' n1 work wd ns sv sn lv lo hi mv mn :=
  ⟨h.N.ext c, own_ext h.S c, h.L.chg c (fun _ _ f => f), own_ext h.M c, h.eS, h.eH, h.eM, h.sF, h.mF, h.sm⟩
theorem ShT.turn {n1 sn lo hi mn mc : Nat} {ma : Option Addr} {sv lv : Value} (h : ShT F w n1 work wd ns sv sn lv lo hi (.slice ma mn mc) mn) : ShT (fun b => F b ∨ (Value.slice ma mn mc).ownBlock = some b) w n1 work wd ns sv sn (.slice ma mn mc) hi ns.length (.slice none 0 0) 0 := by
  have hfl : ∀ b, (F b ∨ (Value.slice ma mn mc).ownBlock = some b) → b < w.heap.size := fun b hb => hb.elim (h.N.fl b) fun h9 => (h.M.lt b h9).2
  refine ⟨h.N.mono (fun b hb => .inl hb) hfl, h.S, ?_, by rw [List.drop_length]; exact World.ownsRow_nil _ _ _ _, h.eS, Nat.le_refl _, by omega, fun b hb hf => hf.elim (h.sF b hb) (h.sm b hb), (fun b hb => by cases hb), fun b hb h9 => by cases h9⟩
  rw [List.take_length]
  have hmn := h.eM
  rcases Nat.eq_zero_or_pos mn with h0 | h0
  · have e : ns.drop hi = [] := List.drop_eq_nil_of_le (by omega)
    rw [e, h0]
    exact SlIn.nil _ _ _ _ _
  · obtain ⟨g, rfl, _, _⟩ := own_cells h.M h0
    exact SlIn.mk (own_slat h.M (fun r hr => by obtain ⟨q, _, rfl⟩ := List.mem_map.1 hr; rfl) (by rw [List.length_map, List.length_drop]; omega) (by decide)) (.inr rfl)
theorem slin_lt {k : Nat} {v : Value} {r : List Value} {rows : List (List Value)} (h : SlAt w k v (r :: rows)) (hr : r ≠ []) : SlIn (fun b => b < w.heap.size) w k v (r :: rows) := by
  obtain ⟨a, cap, h1, h2, h3, h4⟩ := h
  refine ⟨a, cap, h1, h2, h3, ?_⟩
  rcases h4 with h | ⟨b, o, h5, h6⟩
  · exact .inl h
  · cases r with
    | nil => exact absurd rfl hr
    | cons x r => exact .inr ⟨b, o, World.block_lt_of_cell? w _ (h6 0 (x :: r) rfl 0 x rfl), h5, h6⟩
/-- All that is new of a step that finds a new pair. -/
theorem ShT.add {w1 w2 : World} {n1 sn lo hi mn q sn' mn' : Nat} {sv lv mv sv' mv' yv : Value} {p : Int × Int} {u : List Nat} (h : ShT F w n1 work wd ns sv sn lv lo hi mv mn) (hN : ShN F w2 work wd ns) (hL : SlIn F w2 2 lv (((ns.take hi).drop lo).map nodeC))
    (hS : w2.ownsRow n1 TDIs 1 sv' sn' (ns.map (·.1) ++ [.slice (some ⟨q, 0, none⟩) 2 2])) (hM : w2.ownsRow n1 78 2 mv' mn' (((ns.drop hi).map nodeC).flatten ++ [.slice (some ⟨q, 0, none⟩) 2 2, yv]))
    (hq : SlIn (fun b => b = q) w2 1 (.slice (some ⟨q, 0, none⟩) 2 2) [intV p.1, intV p.2]) (hy : SlIn (fun b => yv.ownBlock = some b) w2 1 yv ((toI u).map intV)) (hqw : q < w2.heap.size) (hyw : ∀ b, yv.ownBlock = some b → b < w2.heap.size)
    (hsn : sn' = sn + 1) (hmn : mn' = mn + 1) (s1 : ∀ b, sv'.ownBlock = some b → sv.ownBlock = some b ∨ (w1.heap.size ≤ b)) (hw1 : w.heap.size ≤ w1.heap.size) (hzq : ∀ b, (sv.ownBlock = some b ∨ mv.ownBlock = some b) → b ≠ q) (hqw1 : q < w1.heap.size)
    (m1 : ∀ b, mv'.ownBlock = some b → mv.ownBlock = some b ∨ (∀ b', (sv'.ownBlock = some b' ∨ yv.ownBlock = some b') → b' < b) ∧ w1.heap.size ≤ b) (y1 : ∀ b, yv.ownBlock = some b → (∀ b', sv'.ownBlock = some b' → b' < b) ∧ w1.heap.size ≤ b) :
    ShT (fun b => (F b ∨ b = q) ∨ yv.ownBlock = some b) w2 n1 (work ++ [p]) (wd ++ [u]) (ns ++ [(.slice (some ⟨q, 0, none⟩) 2 2, yv)]) sv' sn' lv lo hi mv' mn' := by
  have hFw : ∀ b, F b → b < w.heap.size := h.N.fl
  have hsw : ∀ b, sv.ownBlock = some b → b < w.heap.size := fun b hb => (h.S.lt b hb).2
  have hmw : ∀ b, mv.ownBlock = some b → b < w.heap.size := fun b hb => (h.M.lt b hb).2
  have a1 := h.eS
  have a2 := h.eM
  have a3 := h.eH
  refine ⟨(hN.mono (fun b hb => .inl (.inl hb)) fun b hb => ?_).add (hq.mono fun b hb => .inl (.inr hb)) (hy.mono fun b hb => .inr hb), by rw [List.map_append]; exact hS, ?_, ?_, by rw [List.length_append, hsn, a1]; rfl, by rw [List.length_append]; omega, by rw [List.length_append, hmn, a2]; simp only [List.length_cons, List.length_nil]; omega, fun b hb hf => ?_, fun b hb hf => ?_, fun b hb hm => ?_⟩
  · rcases hb with (hb | rfl) | hb
    · exact hN.fl b hb
    · exact hqw
    · exact hyw b hb
  · rw [List.take_append_of_le_length a3]
    exact hL.mono fun b hb => .inl (.inl hb)
  · rw [drop_snoc a3, List.map_append, List.flatten_append]
    exact hM
  · rcases hf with (hf | rfl) | hf
    · rcases s1 b hb with h9 | h9
      · exact h.sF b h9 hf
      · have := hFw b hf; omega
    · rcases s1 b hb with h9 | h9
      · exact hzq b (.inl h9) rfl
      · omega
    · exact absurd ((y1 b hf).1 b hb) (Nat.lt_irrefl _)
  · rcases hf with (hf | rfl) | hf
    · rcases m1 b hb with h9 | h9
      · exact h.mF b h9 hf
      · have := hFw b hf; omega
    · rcases m1 b hb with h9 | h9
      · exact hzq b (.inr h9) rfl
      · omega
    · rcases m1 b hb with h9 | h9
      · have := hmw b h9; have := (y1 b hf).2; omega
      · exact absurd (h9.1 b (.inr hf)) (Nat.lt_irrefl _)
  · rcases m1 b hm with h9 | h9
    · rcases s1 b hb with h8 | h8
      · exact h.sm b h8 h9
      · have := hmw b h9; omega
    · exact absurd (h9.1 b (.inl hb)) (Nat.lt_irrefl _)
theorem lev_cell {lo9 hi9 j : Nat} {la : Option Addr} {lc ln : Nat} {e : Value × Value} (h : SlIn F w 2 (.slice la ln lc) (((ns.take hi9).drop lo9).map nodeC)) (he : ns[j]? = some e) (h1 : lo9 ≤ j) (h2 : j < hi9) : ∃ b o, la = some ⟨b, o, none⟩ ∧ CellsAt w b (o + (j - lo9) * 2) [e.1, e.2] := by
  have h3 : (((ns.take hi9).drop lo9).map nodeC)[j - lo9]? = some (nodeC e) := by
    rw [List.getElem?_map, List.getElem?_drop, show lo9 + (j - lo9) = j by omega, List.getElem?_take_of_lt h2, he]; rfl
  obtain ⟨a, cap, h4, _, _, h7⟩ := h
  simp only [Value.slice.injEq] at h4
  obtain ⟨rfl, _, rfl⟩ := h4
  rcases h7 with h8 | ⟨b, o, _, rfl, h9⟩
  · rw [h8] at h3; simp at h3
  · exact ⟨b, o, rfl, h9 _ _ h3⟩
/-- The run of the search, as its end tells it. -/
def RunOf (c : Nat) (a b : Dfa) (ok : Bool) (l : List Nat) : Prop := ∃ s, ReachB c (stpB a b) (tgtB a b) (a.start, b.start) s ∧ nextB c (stpB a b) (tgtB a b) s = none ∧ (ok = false → s.ws[s.i]? = some l) ∧ ok = decide (s.work.length ≤ s.i)
theorem RunOf.uniq {c : Nat} {a b : Dfa} {ok ok' : Bool} {l l' : List Nat} (h : RunOf c a b ok l) (h' : RunOf c a b ok' l') (hl : ok = true → l = []) (hl' : ok' = true → l' = []) : ok = ok' ∧ l = l' := by
  obtain ⟨s, h1, h2, h3, h4⟩ := h
  obtain ⟨t, g1, g2, g3, g4⟩ := h'
  obtain rfl := ReachB.end_uniq h1 g1 h2 g2
  have e : ok = ok' := h4.trans g4.symm
  subst e
  refine ⟨rfl, ?_⟩
  cases ok with
  | true => rw [hl rfl, hl' rfl]
  | false => exact Option.some.inj ((h3 rfl).symm.trans (g3 rfl))
--END
set_option maxHeartbeats 16000000 in
theorem short_c (w0 : World) (n m c : Nat) (a b : Dfa) (oka : OkD n c a) (okb : OkD m c b) (s0 : Option Addr) (c0 : Nat) (fn fs : Value) (hs0 : IntsAt w0 (.slice s0 2 c0) [a.start, b.start]) (hc : 1 ≤ c ∧ c ≤ 16) (hn : 1 ≤ n ∧ n ≤ 200) (hm : 1 ≤ m ∧ m ≤ 200)
    (hnx : ∀ w s (p : Int × Int) (x : Nat), Ext w0 w → IntsAt w s [p.1, p.2] → ((-1 ≤ p.1 ∧ p.1 < (n : Int)) ∧ (-1 ≤ p.2 ∧ p.2 < (m : Int))) → x < c → CallV Try.prog fn #[s, .int .i64 ((x : Nat) : Int)] w fun r w' => (∃ q, r = .slice (some ⟨q, 0, none⟩) 2 2 ∧ w.heap.size ≤ q ∧ Blk w' q #[.int .i64 (toD a p.1 x), .int .i64 (toD b p.2 x)] TDI) ∧ Ext w w')
    (hst : ∀ w s (p : Int × Int), Ext w0 w → IntsAt w s [p.1, p.2] → ((-1 ≤ p.1 ∧ p.1 < (n : Int)) ∧ (-1 ≤ p.2 ∧ p.2 < (m : Int))) → CallV Try.prog fs #[s] w fun r w' => r = .bool (tgtB a b p) ∧ Ext w w') :
    Ret Try.prog 16 #[.int .i64 ((c : Nat) : Int), .slice s0 2 c0, fn, fs] w0 fun r w => (∃ ok l ad cc, r = .tuple #[.slice ad l.length cc, .bool (!ok)] ∧ IntsAt w (.slice ad l.length cc) (toI l) ∧ RunOf c a b ok l ∧ (ok = true → l = [])) ∧ Ext w0 w := by
  have hsta := oka.st
  have hstb := okb.st
  have hkl : ∀ k, (nodeC k).length = 2 := fun _ => rfl
  obtain ⟨mx, hmx⟩ : ∃ mx, mx = (n + 1) * (m + 1) := ⟨_, rfl⟩
  have hmxb : mx ≤ 40401 := by rw [hmx]; exact Nat.le_trans (Nat.mul_le_mul (show n + 1 ≤ 201 by omega) (show m + 1 ≤ 201 by omega)) (by decide)
  refine Ret_of Try.func16 rfl Try.ntmps16 (Nat.le_of_ble_eq_true rfl) ?_
  have E : Chg none1 w0 w0 := Chg.refl _ _
  refine Wp_seq_region ?_
  refine WpL_val rfl rfl (by decide) (r_assign (v := (.slice none 0 0)) rfl) ?_
  refine WpL_val rfl rfl (by decide) (r_assign (v := (.bool false)) rfl) ?_
  refine WpL_nil ?_
  refine Wp_seq_region ?_
  refine WpL_val rfl rfl (by decide) (r_move (v := (.slice s0 2 c0)) rfl) ?_
  refine WpL_val rfl rfl (by decide) (r_build (ps := [(0, (.slice s0 2 c0)), (1, (.slice none 0 0))]) (v := (.agg #[(.slice s0 2 c0), (.slice none 0 0)])) rfl (by kernel_rfl)) ?_
  refine s_buildSlice (ps := [(0, (.agg #[(.slice s0 2 c0), (.slice none 0 0)]))]) (c := #[(.slice s0 2 c0), (.slice none 0 0)]) (by decide) rfl Try.underlying79 siz78 zer78 (by decide) (by decide) (by kernel_rfl) ?_
  intro bl wl Nl
  have Fl := Nl.ge E
  replace E := E.ext Nl.ext
  have Bl := Nl.blk
  refine WpL_val rfl rfl (by decide) (r_assign (v := (.slice (some ⟨bl, 0, none⟩) 1 1)) rfl) ?_
  refine WpL_nil ?_
  refine Wp_seq_region ?_
  refine WpL_val rfl rfl (by decide) (r_move (v := (.slice s0 2 c0)) rfl) ?_
  refine s_buildSlice (ps := [(0, (.slice s0 2 c0))]) (c := #[(.slice s0 2 c0)]) (by decide) rfl Try.underlying23 siz22 zer22 (by decide) (by decide) (by kernel_rfl) ?_
  intro bs ws Ns
  have Fs := Ns.ge E
  have Os_bl := Ns.lt Bl
  replace Bl := Ns.keep Bl
  replace E := E.ext Ns.ext
  have Bs := Ns.blk
  refine WpL_val rfl rfl (by decide) (r_assign (v := (.slice (some ⟨bs, 0, none⟩) 1 1)) rfl) ?_
  refine WpL_nil ?_
  refine Wp_seq ?_
  refine Wp_block ?_
  obtain ⟨n1, hn1e⟩ : ∃ n1, n1 = w0.heap.size := ⟨_, rfl⟩
  have hls : n1 ≤ bl ∧ bl < bs := by omega
  have hS0 := own_lit1 (base := n1) Bs (by omega)
  have hLb : CellsAt (ws) bl 0 [.slice s0 2 c0, .slice none 0 0] := Bl.cells rfl
  have hsz0 : n1 ≤ (ws).heap.size ∧ bl < (ws).heap.size ∧ bs < (ws).heap.size := ⟨by rw [hn1e]; exact E.size, Bl.lt, Bs.lt⟩
  have hT0 : ShT (fun b => b < n1 ∨ b = bl) (ws) n1 [(a.start, b.start)] [[]] [(Value.slice s0 2 c0, .slice none 0 0)] (.slice (some ⟨bs, 0, none⟩) 1 1) 1 (.slice (some ⟨bl, 0, none⟩) 1 1) 0 1 (.slice none 0 0) 0 := ⟨ShN.first (p := (a.start, b.start)) (((slin_lt hs0 (by simp [intV])).chg E (fun _ _ f => f)).mono fun b hb => .inl (by omega)) (SlIn.nil _ _ _ _ _) (fun b hb => by rcases hb with h9 | rfl <;> omega), hS0, SlIn.mk (⟨_, _, rfl, by simp, by simp, .inr ⟨bl, 0, rfl, fun i r hr => by obtain ⟨rfl, rfl⟩ := one_get hr; exact hLb⟩⟩) (.inr rfl), World.ownsRow_nil _ _ _ _, rfl, Nat.le_refl _, rfl, fun b hb hf => by have hb' : bs = b := Option.some.inj hb; omega, (fun b hb => by cases hb), fun b hb h9 => by cases h9⟩
  refine Wp_loop (fun nn_ σ W1 => ∃ (F : Nat → Prop) (work : List (Int × Int)) (wd : List (List Nat)) (ps : List (Nat × Nat)) (ns : List (Value × Value)) (sa la : Option Addr) (sc2 sn lc ln i0 : Nat), (∃ jj_, σ = upds jj_ [(0, (.int .i64 ((c : Nat) : Int))), (2, fn), (3, fs), (10, (.slice la ln lc)), (11, (.slice sa sn sc2))]) ∧ Chg none1 w0 W1 ∧ (BfsW c (stpB a b) (a.start, b.start) work wd ps i0 0) ∧ (ReachB c (stpB a b) (tgtB a b) (a.start, b.start) ⟨work, wd, i0, 0⟩) ∧ (∀ k ∈ work, (-1 ≤ k.1 ∧ k.1 < (n : Int)) ∧ (-1 ≤ k.2 ∧ k.2 < (m : Int))) ∧ (n1 ≤ W1.heap.size) ∧ (ShT F W1 n1 work wd ns (.slice sa sn sc2) sn (.slice la ln lc) i0 ns.length (.slice none 0 0) 0) ∧ (ln = ns.length - i0) ∧ (i0 ≤ ns.length) ∧ nn_ = mx - i0) (n := mx - 0) ?_ ?_
  · exact ⟨(fun b => b < n1 ∨ b = bl), [(a.start, b.start)], [[]], [(0, 0)], [(Value.slice s0 2 c0, .slice none 0 0)], some ⟨bs, 0, none⟩, some ⟨bl, 0, none⟩, 1, 1, 1, 1, 0, Fits.out ⟨rfl, rfl, rfl, rfl, rfl, trivial⟩, E, BfsW.start _ _ _ _, ⟨0, rfl⟩, (fun k hk => by rw [List.mem_singleton] at hk; subst hk; exact ⟨⟨by show -1 ≤ a.start; omega, hsta.2⟩, ⟨by show -1 ≤ b.start; omega, hstb.2⟩⟩), (by omega), hT0, rfl, Nat.zero_le _, rfl⟩
  · clear E
    rintro _ _ W1 ⟨F, work, wd, ps, ns, sa, la, sc2, sn, lc, ln, i0, ⟨j1, rfl⟩, E, hB, hR, hsl, hsz, hT, hln, hi0, rfl⟩
    refine Wp_seq ?_
    refine Wp_seq_region ?_
    refine WpL_val rfl rfl (by decide) (r_move (v := (.slice la ln lc)) rfl) ?_
    refine WpL_val rfl rfl (by decide) (r_lenSlice (ad := la) (n := ln) (cap := lc) Try.underlying79 rfl) ?_
    refine WpL_val rfl rfl (by decide) (r_gtr (k := .i64) (a := ((ln : Nat) : Int)) (b := 0) rfl rfl) ?_
    refine WpL_nil ?_
    refine Wp_cond (b := decide ((0 : Int) < ((ln : Nat) : Int))) rfl (fun hlev => ?_) (fun hlev => ?_)
    · have khlev := hlev
      replace hlev := of_decide_eq_true hlev
      obtain ⟨hi, hhi⟩ : ∃ hi, hi = ns.length := ⟨_, rfl⟩
      have hwlm : work.length ≤ mx := by rw [hmx]; exact pairs_few hB.nd hsl
      have hlw := hT.N.lw
      rw [← hhi] at hT hln hi0
      refine Wp_skip ?_
      refine thn_normal ?_
      refine Wp_block ?_
      refine Wp_seq_region ?_
      refine WpL_val rfl rfl (by decide) (r_assign (v := (.slice none 0 0)) rfl) ?_
      refine WpL_nil ?_
      refine Wp_seq ?_
      refine Wp_seq_region ?_
      refine WpL_val rfl rfl (by decide) (r_move (v := (.slice la ln lc)) rfl) ?_
      refine WpL_val rfl rfl (by decide) (r_lenSlice (ad := la) (n := ln) (cap := lc) Try.underlying79 rfl) ?_
      refine WpL_val rfl rfl (by decide) (r_move (v := (.int .i64 0)) rfl) ?_
      refine WpL_nil ?_
      refine Wp_block ?_
      refine Wp_loop (fun nn_ σ W3 => ∃ (j : Nat) (F : Nat → Prop) (work : List (Int × Int)) (wd : List (List Nat)) (ps : List (Nat × Nat)) (ns : List (Value × Value)) (sa ma : Option Addr) (sc2 sn mc mn : Nat), (∃ jj_, σ = upds jj_ [(0, (.int .i64 ((c : Nat) : Int))), (2, fn), (3, fs), (28, (.slice la ln lc)), (29, (.int .i64 ((ln : Nat) : Int))), (30, (.int .i64 ((j : Nat) : Int))), (11, (.slice sa sn sc2)), (12, (.slice ma mn mc))]) ∧ Chg none1 w0 W3 ∧ (j ≤ ln) ∧ (BfsW c (stpB a b) (a.start, b.start) work wd ps (i0 + j) 0) ∧ (ReachB c (stpB a b) (tgtB a b) (a.start, b.start) ⟨work, wd, i0 + j, 0⟩) ∧ (∀ k ∈ work, (-1 ≤ k.1 ∧ k.1 < (n : Int)) ∧ (-1 ≤ k.2 ∧ k.2 < (m : Int))) ∧ (n1 ≤ W3.heap.size) ∧ (ShT F W3 n1 work wd ns (.slice sa sn sc2) sn (.slice la ln lc) i0 hi (.slice ma mn mc) mn) ∧ nn_ = ln - j) (n := ln - 0) ?_ ?_
      · exact ⟨0, F, work, wd, ps, ns, sa, none, sc2, sn, 0, 0, Fits.out ⟨rfl, rfl, rfl, rfl, rfl, rfl, rfl, rfl, trivial⟩, E, Nat.zero_le _, (by simpa using hB), (by simpa using hR), hsl, hsz, hT, rfl⟩
      · clear E
        rintro _ _ W3 ⟨j, F, work, wd, ps, ns, sa, ma, sc2, sn, mc, mn, ⟨j3, rfl⟩, E, hj, hB, hR, hsl, hsz, hT, rfl⟩
        refine Wp_seq_region ?_
        refine WpL_val rfl rfl (by decide) (r_lss (k := .i64) (a := ((j : Nat) : Int)) (b := ((ln : Nat) : Int)) rfl rfl) ?_
        refine WpL_nil ?_
        refine Wp_seq ?_
        refine Wp_cond (b := decide ((((j : Nat) : Int) : Int) < ((ln : Nat) : Int))) rfl (fun hltj => ?_) (fun hltj => ?_)
        · have khltj := hltj
          replace hltj := of_decide_eq_true hltj
          have hwl : work.length ≤ mx := by rw [hmx]; exact pairs_few hB.nd hsl
          have hlw2 := hT.N.lw
          have heH := hT.eH
          obtain ⟨e, hei⟩ := get_of_lt (l := ns) (i := i0 + j) (by omega)
          obtain ⟨p, hpi⟩ := get_of_lt (l := work) (i := i0 + j) (by omega)
          obtain ⟨v, hvi⟩ := hB.get hpi
          obtain ⟨e1, e2⟩ := e
          have hvl := hB.wlen (i0 + j) v hvi
          have hpr := hT.N.pr (i0 + j) (e1, e2) p hei hpi
          have hwr := hT.N.wr (i0 + j) (e1, e2) v hei hvi
          obtain ⟨qa, qc, hq1⟩ := SlIn.formv hpr
          obtain ⟨va, vc, hq2⟩ := SlIn.formv hwr
          simp only [List.length_cons, List.length_nil, Nat.zero_add, Nat.reduceAdd, List.length_map, toI] at hq1 hq2
          subst hq1 hq2
          obtain ⟨lb, lo, hla, hlcell⟩ := lev_cell hT.L hei (show i0 ≤ i0 + j by omega) (by omega)
          subst hla
          rw [show i0 + j - i0 = j by omega] at hlcell
          have hpR := hsl p (List.mem_of_getElem? hpi)
          obtain ⟨zx, hzx⟩ : ∃ zx, zx = (W3).heap.size := ⟨_, rfl⟩
          have hsx : ∀ b, ((Value.slice sa sn sc2).ownBlock = some b ∨ (Value.slice ma mn mc).ownBlock = some b) → b < zx := fun b hb => by rw [hzx]; exact hb.elim (fun h => (hT.S.lt b h).2) (fun h => (hT.M.lt b h).2)
          refine Wp_skip ?_
          refine thn_normal ?_
          refine Wp_seq ?_
          refine Wp_block ?_
          refine Wp_seq_region ?_
          refine WpL_val rfl rfl (by decide) (r_indexSlice (b := lb) (o := lo) (len := ln) (cap := lc) (i := j) (o' := lo + j * 2) rfl rfl rfl Try.underlying79 siz78 (by omega) (by omega)) ?_
          refine WpL_val rfl rfl (by decide) (r_loadAgg (vs := [(.slice qa 2 qc), (.slice va v.length vc)]) rfl agg78 siz78 rfl (hlcell)) ?_
          refine s_allocStore (v := (.agg #[(.slice qa 2 qc), (.slice va v.length vc)])) (c := #[(.slice qa 2 qc), (.slice va v.length vc)]) (n := 2) (by decide) zer78 rfl siz78 rfl rfl rfl (by simp [Value.oneCell']) ?_
          intro bx wx Nx
          have Fx := Nx.ge E
          replace hT := hT.ext Nx.ext
          replace hsz := Nat.le_trans hsz Nx.ext.size
          replace E := E.ext Nx.ext
          have Bx := Nx.blk
          refine WpL_nil ?_
          refine Wp_seq ?_
          refine Wp_seq_region ?_
          refine WpL_val rfl rfl (by decide) (r_move (v := fs) rfl) ?_
          refine WpL_val rfl rfl (by decide) (r_fieldAddr (b := bx) (o := 0) (o' := 0) rfl Try.underlying78 rfl siz22 rfl) ?_
          refine WpL_val rfl rfl (by decide) (r_load (v := (.slice qa 2 qc)) rfl flat22 (Bx.cell rfl)) ?_
          have hbxz : zx ≤ bx := by have := Nx.eq; omega
          refine WpL_callV (fv := fs) (vs := [(.slice qa 2 qc)]) (by decide) rfl rfl (hst _ _ p E (pair_ints (hT.N.pr (i0 + j) _ p hei hpi)) hpR) ?_
          rintro _ w9 ⟨rfl, X9⟩
          replace Bx := X9.keep Bx
          replace hT := hT.ext X9
          replace hsz := Nat.le_trans hsz X9.size
          replace E := E.ext X9
          refine WpL_nil ?_
          refine Wp_cond (b := tgtB a b p) rfl (fun htg => ?_) (fun htg => ?_)
          · have khtg := htg
            refine Wp_seq_region ?_
            refine WpL_val rfl rfl (by decide) (r_fieldAddr (b := bx) (o := 0) (o' := 1) rfl Try.underlying78 rfl siz22 rfl) ?_
            refine WpL_val rfl rfl (by decide) (r_load (v := (.slice va v.length vc)) rfl flat22 (Bx.cell rfl)) ?_
            refine WpL_val rfl rfl (by decide) (r_assign (v := (.slice va v.length vc)) rfl) ?_
            refine WpL_val rfl rfl (by decide) (r_assign (v := (.bool true)) rfl) ?_
            refine WpL_nil ?_
            refine Wp_ret ?_
            refine thn_ret ?_
            refine inB_ret ?_
            refine thn_ret ?_
            refine thn_ret ?_
            refine inB_ret ?_
            refine thn_ret ?_
            refine inB_ret ?_
            refine thn_ret ?_
            refine inB_ret ?_
            refine thn_ret ?_
            refine fin_tmp2 Try.results16 (v := (.slice va v.length vc)) (v' := (.bool true)) rfl rfl ?_
            exact ⟨⟨false, v, va, vc, rfl, word_ints (hT.N.wr (i0 + j) _ v hei hvi), ⟨_, hR, nextB_stop hpi hvi htg, fun _ => hvi, by symm; rw [decide_eq_false_iff_not]; show ¬ work.length ≤ i0 + j; have := lt_of_get hpi; omega⟩, (fun h => by cases h)⟩, E⟩
          · have khtg := htg
            obtain ⟨nx, hnxw⟩ : ∃ nx, nx = (w9).heap.size := ⟨_, rfl⟩
            have hbxn : bx < nx := by rw [hnxw]; exact Bx.lt
            have hbxs : (∀ b, (Value.slice sa sn sc2).ownBlock = some b → b ≠ bx) ∧ (∀ b, (Value.slice ma mn mc).ownBlock = some b → b ≠ bx) := ⟨fun b hb h => by have := hsx b (.inl hb); omega, fun b hb h => by have := hsx b (.inr hb); omega⟩
            refine Wp_skip ?_
            refine thn_normal ?_
            refine Wp_seq_region ?_
            refine WpL_val rfl rfl (by decide) (r_move (v := (.int .i64 ((c : Nat) : Int))) rfl) ?_
            refine WpL_val rfl rfl (by decide) (r_move (v := (.int .i64 0)) rfl) ?_
            refine WpL_nil ?_
            refine Wp_block ?_
            refine Wp_loop (fun nn_ σ W6 => ∃ (x : Nat) (F : Nat → Prop) (work : List (Int × Int)) (wd : List (List Nat)) (ps : List (Nat × Nat)) (ns : List (Value × Value)) (sa ma : Option Addr) (sc2 sn mc mn : Nat), (∃ jj_, σ = upds jj_ [(0, (.int .i64 ((c : Nat) : Int))), (2, fn), (3, fs), (14, (.pointer (some ⟨bx, 0, none⟩))), (28, (.slice (some ⟨lb, lo, none⟩) ln lc)), (29, (.int .i64 ((ln : Nat) : Int))), (30, (.int .i64 ((j : Nat) : Int))), (40, (.int .i64 ((c : Nat) : Int))), (41, (.int .i64 ((x : Nat) : Int))), (11, (.slice sa sn sc2)), (12, (.slice ma mn mc))]) ∧ Chg none1 w0 W6 ∧ Blk W6 bx #[(.slice qa 2 qc), (.slice va v.length vc)] 78 ∧ (x ≤ c) ∧ (BfsW c (stpB a b) (a.start, b.start) work wd ps (i0 + j) x) ∧ (ReachB c (stpB a b) (tgtB a b) (a.start, b.start) ⟨work, wd, i0 + j, x⟩) ∧ (∀ k ∈ work, (-1 ≤ k.1 ∧ k.1 < (n : Int)) ∧ (-1 ≤ k.2 ∧ k.2 < (m : Int))) ∧ (n1 ≤ W6.heap.size) ∧ (ShT F W6 n1 work wd ns (.slice sa sn sc2) sn (.slice (some ⟨lb, lo, none⟩) ln lc) i0 hi (.slice ma mn mc) mn) ∧ (ns[i0 + j]? = some (Value.slice qa 2 qc, Value.slice va v.length vc)) ∧ (work[i0 + j]? = some p) ∧ (wd[i0 + j]? = some v) ∧ (nx ≤ W6.heap.size) ∧ ((∀ b, (Value.slice sa sn sc2).ownBlock = some b → b ≠ bx) ∧ (∀ b, (Value.slice ma mn mc).ownBlock = some b → b ≠ bx)) ∧ nn_ = c - x) (n := c - 0) ?_ ?_
            · exact ⟨0, F, work, wd, ps, ns, sa, ma, sc2, sn, mc, mn, Fits.out ⟨rfl, rfl, rfl, rfl, rfl, rfl, rfl, rfl, rfl, rfl, rfl, trivial⟩, E, Bx, Nat.zero_le _, hB, hR, hsl, hsz, hT, hei, hpi, hvi, (by omega), hbxs, rfl⟩
            · clear E Bx
              rintro _ _ W6 ⟨x, F, work, wd, ps, ns, sa, ma, sc2, sn, mc, mn, ⟨j6, rfl⟩, E, Bx, hx, hB, hR, hsl, hsz, hT, hei, hpi, hvi, hnx2, hbxs, rfl⟩
              refine Wp_seq_region ?_
              refine WpL_val rfl rfl (by decide) (r_lss (k := .i64) (a := ((x : Nat) : Int)) (b := ((c : Nat) : Int)) rfl rfl) ?_
              refine WpL_nil ?_
              refine Wp_seq ?_
              refine Wp_cond (b := decide ((((x : Nat) : Int) : Int) < ((c : Nat) : Int))) rfl (fun hltx => ?_) (fun hltx => ?_)
              · have khltx := hltx
                replace hltx := of_decide_eq_true hltx
                have hwl : work.length ≤ mx := by rw [hmx]; exact pairs_few hB.nd hsl
                have hlw2 := hT.N.lw
                obtain ⟨zq, hzq⟩ : ∃ zq, zq = (W6).heap.size := ⟨_, rfl⟩
                have hsq : ∀ b, ((Value.slice sa sn sc2).ownBlock = some b ∨ (Value.slice ma mn mc).ownBlock = some b) → b < zq := fun b hb => by rw [hzq]; exact hb.elim (fun h => (hT.S.lt b h).2) (fun h => (hT.M.lt b h).2)
                refine Wp_skip ?_
                refine thn_normal ?_
                refine Wp_seq ?_
                refine Wp_block ?_
                refine Wp_seq_region ?_
                refine WpL_val rfl rfl (by decide) (r_move (v := (.int .i64 ((x : Nat) : Int))) rfl) ?_
                refine WpL_val rfl rfl (by decide) (r_assign (v := (.int .i64 ((x : Nat) : Int))) rfl) ?_
                refine WpL_nil ?_
                refine Wp_seq_region ?_
                refine WpL_val rfl rfl (by decide) (r_move (v := fn) rfl) ?_
                refine WpL_val rfl rfl (by decide) (r_fieldAddr (b := bx) (o := 0) (o' := 0) rfl Try.underlying78 rfl siz22 rfl) ?_
                refine WpL_val rfl rfl (by decide) (r_load (v := (.slice qa 2 qc)) rfl flat22 (Bx.cell rfl)) ?_
                refine WpL_val rfl rfl (by decide) (r_move (v := (.int .i64 ((x : Nat) : Int))) rfl) ?_
                refine WpL_callV (fv := fn) (vs := [(.slice qa 2 qc), (.int .i64 ((x : Nat) : Int))]) (by decide) rfl rfl (hnx _ _ p x E (pair_ints (hT.N.pr (i0 + j) _ p hei hpi)) hpR (by omega)) ?_
                rintro _ w19 ⟨⟨q, rfl, hqz, hqB⟩, X19⟩
                replace Bx := X19.keep Bx
                replace E := E.ext X19
                replace hT := hT.ext X19
                replace hsz := Nat.le_trans hsz X19.size
                replace hnx2 := Nat.le_trans hnx2 X19.size
                have hQ : SlIn (fun y => y = q) (w19) 1 (.slice (some ⟨q, 0, none⟩) 2 2) [intV (toD a p.1 x), intV (toD b p.2 x)] := SlIn.mk (ints_own (l := [toD a p.1 x, toD b p.2 x]) (rest := []) hqB (by simp) (by simp)) rfl
                have hql := hqB.lt
                rw [← hzq] at hqz
                refine WpL_val rfl rfl (by decide) (r_assign (v := (.slice (some ⟨q, 0, none⟩) 2 2)) rfl) ?_
                refine WpL_nil ?_
                refine Wp_seq_region ?_
                refine WpL_val rfl rfl (by decide) (r_assign (v := (.bool false)) rfl) ?_
                refine WpL_nil ?_
                refine Wp_seq ?_
                refine Wp_seq_region ?_
                refine WpL_val rfl rfl (by decide) (r_move (v := (.slice sa sn sc2)) rfl) ?_
                refine WpL_val rfl rfl (by decide) (r_lenSlice (ad := sa) (n := sn) (cap := sc2) Try.underlying23 rfl) ?_
                refine WpL_val rfl rfl (by decide) (r_move (v := (.int .i64 0)) rfl) ?_
                refine WpL_nil ?_
                refine Wp_block ?_
                refine Wp_loop (fun nn_ σ W8 => ∃ (k : Nat) (old : Bool), (∃ jj_, σ = upds jj_ [(0, (.int .i64 ((c : Nat) : Int))), (2, fn), (3, fs), (11, (.slice sa sn sc2)), (12, (.slice ma mn mc)), (14, (.pointer (some ⟨bx, 0, none⟩))), (15, (.int .i64 ((x : Nat) : Int))), (16, (.slice (some ⟨q, 0, none⟩) 2 2)), (28, (.slice (some ⟨lb, lo, none⟩) ln lc)), (29, (.int .i64 ((ln : Nat) : Int))), (30, (.int .i64 ((j : Nat) : Int))), (40, (.int .i64 ((c : Nat) : Int))), (41, (.int .i64 ((x : Nat) : Int))), (49, (.slice sa sn sc2)), (50, (.int .i64 ((sn : Nat) : Int))), (51, (.int .i64 ((k : Nat) : Int))), (17, (.bool old))]) ∧ Chg none1 w0 W8 ∧ Blk W8 bx #[(.slice qa 2 qc), (.slice va v.length vc)] 78 ∧ (k ≤ sn) ∧ (old = decide ((toD a p.1 x, toD b p.2 x) ∈ work.take k)) ∧ (ShT F W8 n1 work wd ns (.slice sa sn sc2) sn (.slice (some ⟨lb, lo, none⟩) ln lc) i0 hi (.slice ma mn mc) mn) ∧ (SlIn (fun y => y = q) W8 1 (.slice (some ⟨q, 0, none⟩) 2 2) [intV (toD a p.1 x), intV (toD b p.2 x)]) ∧ (q < W8.heap.size ∧ n1 ≤ W8.heap.size ∧ nx ≤ W8.heap.size) ∧ nn_ = sn - k) (n := sn - 0) ?_ ?_
                · exact ⟨0, false, Fits.out ⟨rfl, rfl, rfl, rfl, rfl, rfl, rfl, rfl, rfl, rfl, rfl, rfl, rfl, rfl, rfl, rfl, rfl, trivial⟩, E, Bx, Nat.zero_le _, (by simp), hT, hQ, ⟨hql, hsz, hnx2⟩, rfl⟩
                · clear E Bx
                  rintro _ _ W8 ⟨k, old, ⟨j8, rfl⟩, E, Bx, hk, hold, hT, hQ, hsz3, rfl⟩
                  refine Wp_seq_region ?_
                  refine WpL_val rfl rfl (by decide) (r_lss (k := .i64) (a := ((k : Nat) : Int)) (b := ((sn : Nat) : Int)) rfl rfl) ?_
                  refine WpL_nil ?_
                  refine Wp_seq ?_
                  refine Wp_cond (b := decide ((((k : Nat) : Int) : Int) < ((sn : Nat) : Int))) rfl (fun hltk => ?_) (fun hltk => ?_)
                  · have khltk := hltk
                    replace hltk := of_decide_eq_true hltk
                    have heS := hT.eS
                    obtain ⟨e9, he9⟩ := get_of_lt (l := ns) (i := k) (by omega)
                    obtain ⟨p9, hp9⟩ := get_of_lt (l := work) (i := k) (by omega)
                    have hpr9 := hT.N.pr k e9 p9 he9 hp9
                    obtain ⟨e91, e92⟩ := e9
                    obtain ⟨qa9, qc9, hq9⟩ := SlIn.formv hpr9
                    simp only [List.length_cons, List.length_nil, Nat.zero_add, Nat.reduceAdd] at hq9
                    subst hq9
                    obtain ⟨sb, rfl, _, hsc⟩ := own_cells hT.S (by omega)
                    have hsc9 := hsc k _ (by rw [List.getElem?_map, he9]; rfl)
                    refine Wp_skip ?_
                    refine thn_normal ?_
                    refine Wp_seq ?_
                    refine Wp_block ?_
                    refine Wp_seq_region ?_
                    refine WpL_val rfl rfl (by decide) (r_indexSlice (b := sb) (o := 0) (len := sn) (cap := sc2) (i := k) (o' := 0 + k) rfl rfl rfl Try.underlying23 siz22 (by omega) (by omega)) ?_
                    refine WpL_val rfl rfl (by decide) (r_load (v := (.slice qa9 2 qc9)) rfl flat22 (hsc9)) ?_
                    refine WpL_val rfl rfl (by decide) (r_assign (v := (.slice qa9 2 qc9)) rfl) ?_
                    refine WpL_nil ?_
                    refine Wp_region ?_
                    refine WpL_val rfl rfl (by decide) (r_move (v := (.bool old)) rfl) ?_
                    refine WpL_val rfl rfl (by decide) (r_move (v := (.bool old)) rfl) ?_
                    rcases Bool.eq_false_or_eq_true (old) with hgo | hgo
                    · have khgo := hgo
                      refine WpL_guard_no (oj := _) rfl rfl (by decide) (v := .bool true) (congrArg Value.bool hgo) (Or.inl rfl) ?_
                      refine WpL_guard_no (oj := _) rfl rfl (by decide) (v := .bool true) (congrArg Value.bool hgo) (Or.inl rfl) ?_
                      refine WpL_guard_no (oj := _) rfl rfl (by decide) (v := .bool true) (congrArg Value.bool hgo) (Or.inl rfl) ?_
                      refine WpL_val rfl rfl (by decide) (r_pick (b := old) (v := (.bool true)) rfl (by rw [hgo]; rfl)) ?_
                      refine WpL_val rfl rfl (by decide) (r_assign (v := (.bool true)) rfl) ?_
                      refine WpL_nil ?_
                      refine inB_normal ?_
                      refine thn_normal ?_
                      refine Wp_region ?_
                      refine WpL_val rfl rfl (by decide) (r_add (k := .i64) (a := ((k : Nat) : Int)) (b := 1) (c := ((k : Nat) : Int) + 1) rfl rfl (wI64 (by omega))) ?_
                      refine WpL_val rfl rfl (by decide) (r_move (v := (.int .i64 (((k : Nat) : Int) + 1))) rfl) ?_
                      refine WpL_nil ?_
                      refine thn_normal ?_
                      exact ⟨sn - (k + 1), by omega, k + 1, true, Fits.out ⟨rfl, rfl, rfl, rfl, rfl, rfl, rfl, rfl, rfl, rfl, rfl, rfl, rfl, rfl, rfl, rfl, rfl, trivial⟩, E, Bx, (by omega), (by rw [← mem_step hp9 hold, hgo]; rfl), hT, hQ, hsz3, rfl⟩
                    · have khgo := hgo
                      refine WpL_guard_yes (oj := _) rfl rfl (by decide) (congrArg Value.bool hgo) ?_
                      refine WpL_val rfl rfl (by decide) (r_move (v := (.slice (some ⟨q, 0, none⟩) 2 2)) rfl) ?_
                      refine WpL_guard_yes (oj := _) rfl rfl (by decide) (congrArg Value.bool hgo) ?_
                      refine WpL_val rfl rfl (by decide) (r_move (v := (.slice qa9 2 qc9)) rfl) ?_
                      refine WpL_guard_yes (oj := _) rfl rfl (by decide) (congrArg Value.bool hgo) ?_
                      refine WpL_enter rfl rfl (by decide) (r_callF (vs := [(.slice (some ⟨q, 0, none⟩) 2 2), (.slice qa9 2 qc9)]) Try.func19 nm19 bd19 rfl) (reqi_c _ _ _ [toD a p.1 x, toD b p.2 x] [p9.1, p9.2] (hQ.at) (pair_ints (hT.N.pr k _ p9 he9 hp9))) ?_
                      rintro _ w29 ⟨rfl, X29⟩
                      replace Bx := X29.keep Bx
                      replace hT := hT.ext X29
                      replace hQ := hQ.chg X29 (fun _ _ f => f)
                      replace E := E.ext X29
                      refine WpL_val rfl rfl (by decide) (r_pick (b := old) (v := (.bool (decide ([toD a p.1 x, toD b p.2 x] = [p9.1, p9.2])))) rfl (by rw [hgo]; rfl)) ?_
                      refine WpL_val rfl rfl (by decide) (r_assign (v := (.bool (decide ([toD a p.1 x, toD b p.2 x] = [p9.1, p9.2])))) rfl) ?_
                      refine WpL_nil ?_
                      refine inB_normal ?_
                      refine thn_normal ?_
                      refine Wp_region ?_
                      refine WpL_val rfl rfl (by decide) (r_add (k := .i64) (a := ((k : Nat) : Int)) (b := 1) (c := ((k : Nat) : Int) + 1) rfl rfl (wI64 (by omega))) ?_
                      refine WpL_val rfl rfl (by decide) (r_move (v := (.int .i64 (((k : Nat) : Int) + 1))) rfl) ?_
                      refine WpL_nil ?_
                      refine thn_normal ?_
                      exact ⟨sn - (k + 1), by omega, k + 1, decide ([toD a p.1 x, toD b p.2 x] = [p9.1, p9.2]), Fits.out ⟨rfl, rfl, rfl, rfl, rfl, rfl, rfl, rfl, rfl, rfl, rfl, rfl, rfl, rfl, rfl, rfl, rfl, trivial⟩, E, Bx, (by omega), (by rw [← mem_step hp9 hold, hgo]; rfl), hT, hQ, ⟨Nat.lt_of_lt_of_le hsz3.1 X29.size, Nat.le_trans hsz3.2.1 X29.size, Nat.le_trans hsz3.2.2 X29.size⟩, rfl⟩
                  · have khltk := hltk
                    replace hltk := of_decide_eq_false hltk
                    have hkk : k = work.length := by have := hT.eS; omega
                    rw [hkk, List.take_length] at hold
                    obtain ⟨hsz4, hsz5, hsz6⟩ := hsz3
                    refine Wp_exit ?_
                    refine thn_exit ?_
                    refine thn_exit ?_
                    refine inB_here ?_
                    refine thn_normal ?_
                    refine Wp_seq_region ?_
                    refine WpL_val rfl rfl (by decide) (r_move (v := (.bool old)) rfl) ?_
                    refine WpL_val rfl rfl (by decide) (r_not (b := old) rfl) ?_
                    refine WpL_nil ?_
                    refine Wp_cond (b := !old) rfl (fun hnew => ?_) (fun hnew => ?_)
                    · have khnew := hnew
                      replace hnew := by simpa using hnew
                      have hnm : (toD a p.1 x, toD b p.2 x) ∉ work := fun hm => by rw [decide_eq_true hm] at hold; rw [hold] at hnew; cases hnew
                      have hBn := hB.new hpi hvi (show x < c by omega) rfl hnm
                      have hRn := hR.step (nextB_new hpi hvi (by omega) htg rfl hnm)
                      refine Wp_seq_region ?_
                      refine WpL_val rfl rfl (by decide) (r_move (v := (.slice sa sn sc2)) rfl) ?_
                      refine WpL_val rfl rfl (by decide) (r_move (v := (.slice (some ⟨q, 0, none⟩) 2 2)) rfl) ?_
                      refine s_buildSlice (ps := [(0, (.slice (some ⟨q, 0, none⟩) 2 2))]) (c := #[(.slice (some ⟨q, 0, none⟩) 2 2)]) (by decide) rfl Try.underlying23 siz22 zer22 (by decide) (by decide) (by kernel_rfl) ?_
                      intro bg wg Ng
                      have Fg := Ng.ge E
                      have Og_bx := Ng.lt Bx
                      replace Bx := Ng.keep Bx
                      replace hT := hT.ext Ng.ext
                      replace hQ := hQ.chg Ng.ext (fun _ _ f => f)
                      replace E := E.ext Ng.ext
                      have Bg := Ng.blk
                      obtain ⟨zA, hzA⟩ : ∃ zA, zA = (wg).heap.size := ⟨_, rfl⟩
                      have hzA2 : q < zA ∧ bx < zA ∧ zq ≤ zA := ⟨by have := Ng.ext.size; omega, by rw [hzA]; exact Bx.lt, by have := Ng.ext.size; omega⟩
                      refine s_append (base := n1) (n := sn) (m := 1) (xs := (ns.map (·.1))) (news := [(.slice (some ⟨q, 0, none⟩) 2 2)]) (size := 1) (bytes := 24) (v := (.slice sa sn sc2)) (by decide) Try.underlying23 siz22 byt22 zer22 rfl (by decide) rfl hT.S rfl (rfl) (Bg.cells rfl) (by simp [Value.oneCell']) (by unfold maxLen; omega) (by omega) ((by have := Ng.ext.size; omega)) ?_
                      intro v7 w59 Ov7 Cv7 Dv7
                      replace Bx := Cv7.keep (fun h => (hbxs.1 _ h rfl)) Bx
                      replace E := E.step Cv7 (fun x hx h => absurd (hT.S.lt x h).1 (by omega))
                      obtain ⟨sa3, sc3, rfl⟩ := own_form Ov7
                      have hN1 := hT.N.chg Cv7 (fun b hb h => hT.sF b h hb)
                      have hL1 := hT.L.chg Cv7 (fun b hb h => hT.sF b h hb)
                      have hM1 := own_chg hT.M Cv7 (fun b hb h => hT.sm b h hb)
                      have hQ1 := hQ.chg Cv7 (fun b hb h => by have := hsq b (.inl h); omega)
                      obtain ⟨zB, hzB⟩ : ∃ zB, zB = (w59).heap.size := ⟨_, rfl⟩
                      have hzB2 : zA ≤ zB ∧ w0.heap.size ≤ zB := ⟨by rw [hzB, hzA]; exact Cv7.size, by rw [hzB]; exact E.size⟩
                      have hFz : ∀ b, F b → b < zB := fun b hb => by rw [hzB]; exact hN1.fl b hb
                      have hMz : ∀ b, (Value.slice ma mn mc).ownBlock = some b → b < zB := fun b hb => by rw [hzB]; exact (hM1.lt b hb).2
                      have hSz : ∀ b, (Value.slice sa3 (sn + 1) sc3).ownBlock = some b → b < zB := fun b hb => by rw [hzB]; exact (Ov7.lt b hb).2
                      refine WpL_val rfl rfl (by decide) (r_assign (v := (.slice sa3 (sn + 1) sc3)) rfl) ?_
                      refine WpL_nil ?_
                      refine Wp_region ?_
                      refine WpL_val rfl rfl (by decide) (r_move (v := (.slice ma mn mc)) rfl) ?_
                      refine WpL_val rfl rfl (by decide) (r_move (v := (.slice (some ⟨q, 0, none⟩) 2 2)) rfl) ?_
                      refine s_build0 (by decide) Try.underlying22 siz3 ?_
                      intro bz wz Nz
                      have Fz := Nz.ge E
                      have Oz_bx := Nz.lt Bx
                      replace Bx := Nz.keep Bx
                      replace hN1 := hN1.ext Nz.ext
                      replace hL1 := hL1.chg Nz.ext (fun _ _ f => f)
                      replace hM1 := own_ext hM1 Nz.ext
                      replace hQ1 := hQ1.chg Nz.ext (fun _ _ f => f)
                      replace Ov7 := own_ext Ov7 Nz.ext
                      replace E := E.ext Nz.ext
                      have Bz := Nz.blk
                      refine WpL_val rfl rfl (by decide) (r_fieldAddr (b := bx) (o := 0) (o' := 1) rfl Try.underlying78 rfl siz22 rfl) ?_
                      refine WpL_val rfl rfl (by decide) (r_load (v := (.slice va v.length vc)) rfl flat22 (Bx.cell rfl)) ?_
                      have hown0 := own_empty (base := zB) (size := 1) Bz (by have := Nz.eq; omega)
                      refine s_appendAny (base := zB) (n := 0) (m := v.length) (xs := []) (news := ((toI v).map (Value.int .i64))) (size := 1) (bytes := 8) (v := (.slice (some ⟨bz, 0, none⟩) 0 0)) (by decide) Try.underlying22 siz3 byt3 zer3 rfl (by decide) rfl hown0 rfl (by simp [toI]) (ints_any (word_ints (hN1.wr (i0 + j) _ v hei hvi))) (by simp [Value.oneCell']) (by unfold maxLen; omega) (by omega) (by have := Nz.ext.size; omega) ?_
                      intro v8 w69 Ov8 Cv8 Dv8
                      replace Bx := Cv8.keep (fun h => (by have := (hown0.lt _ h).1; omega)) Bx
                      replace E := E.step Cv8 (fun x hx h => absurd (hown0.lt x h).1 (by omega))
                      obtain ⟨xa, xc, rfl⟩ := own_form Ov8
                      replace hN1 := hN1.chg Cv8 (fun b hb h => by have := (hown0.lt b h).1; have := hFz b hb; omega)
                      replace hL1 := hL1.chg Cv8 (fun b hb h => by have := (hown0.lt b h).1; have := hFz b hb; omega)
                      replace hM1 := own_chg hM1 Cv8 (fun b hb h => by have := (hown0.lt b h).1; have := hMz b hb; omega)
                      replace hQ1 := hQ1.chg Cv8 (fun b hb h => by have := (hown0.lt b h).1; omega)
                      replace Ov7 := own_chg Ov7 Cv8 (fun b hb h => by have := (hown0.lt b h).1; have := hSz b hb; omega)
                      refine WpL_val rfl rfl (by decide) (r_move (v := (.int .i64 ((x : Nat) : Int))) rfl) ?_
                      refine s_buildSlice (ps := [(0, (.int .i64 ((x : Nat) : Int)))]) (c := #[(.int .i64 ((x : Nat) : Int))]) (by decide) rfl Try.underlying22 siz3 zer3 (by decide) (by decide) (by kernel_rfl) ?_
                      intro be we Ne
                      have Fe := Ne.ge E
                      have Oe_bx := Ne.lt Bx
                      replace Bx := Ne.keep Bx
                      replace hN1 := hN1.ext Ne.ext
                      replace hL1 := hL1.chg Ne.ext (fun _ _ f => f)
                      replace hM1 := own_ext hM1 Ne.ext
                      replace hQ1 := hQ1.chg Ne.ext (fun _ _ f => f)
                      replace Ov7 := own_ext Ov7 Ne.ext
                      replace Ov8 := own_ext Ov8 Ne.ext
                      replace E := E.ext Ne.ext
                      have Be := Ne.blk
                      refine s_append (base := zB) (n := (0 + v.length)) (m := 1) (xs := ([] ++ (toI v).map (Value.int .i64))) (news := [(.int .i64 ((x : Nat) : Int))]) (size := 1) (bytes := 8) (v := (.slice xa (0 + v.length) xc)) (by decide) Try.underlying22 siz3 byt3 zer3 rfl (by decide) rfl Ov8 rfl (rfl) (Be.cells rfl) (by simp [Value.oneCell']) (by unfold maxLen; omega) (by omega) (by have := Cv8.size; have := Nz.ext.size; have := Ne.ext.size; omega) ?_
                      intro v9 w79 Ov9 Cv9 Dv9
                      replace Bx := Cv9.keep (fun h => (by have := (Ov8.lt _ h).1; omega)) Bx
                      replace E := E.step Cv9 (fun x hx h => absurd (Ov8.lt x h).1 (by omega))
                      obtain ⟨ya, yc, rfl⟩ := own_form Ov9
                      replace hN1 := hN1.chg Cv9 (fun b hb h => by have := (Ov8.lt b h).1; have := hFz b hb; omega)
                      replace hL1 := hL1.chg Cv9 (fun b hb h => by have := (Ov8.lt b h).1; have := hFz b hb; omega)
                      replace hM1 := own_chg hM1 Cv9 (fun b hb h => by have := (Ov8.lt b h).1; have := hMz b hb; omega)
                      replace hQ1 := hQ1.chg Cv9 (fun b hb h => by have := (Ov8.lt b h).1; omega)
                      replace Ov7 := own_chg Ov7 Cv9 (fun b hb h => by have := (Ov8.lt b h).1; have := hSz b hb; omega)
                      have heM := hT.eM
                      refine WpL_val rfl rfl (by decide) (r_build (ps := [(0, (.slice (some ⟨q, 0, none⟩) 2 2)), (1, (.slice ya ((0 + v.length) + 1) yc))]) (v := (.agg #[(.slice (some ⟨q, 0, none⟩) 2 2), (.slice ya ((0 + v.length) + 1) yc)])) rfl (by kernel_rfl)) ?_
                      refine s_buildSlice (ps := [(0, (.agg #[(.slice (some ⟨q, 0, none⟩) 2 2), (.slice ya ((0 + v.length) + 1) yc)]))]) (c := #[(.slice (some ⟨q, 0, none⟩) 2 2), (.slice ya ((0 + v.length) + 1) yc)]) (by decide) rfl Try.underlying79 siz78 zer78 (by decide) (by decide) (by kernel_rfl) ?_
                      intro bf wf Nf
                      have Ff := Nf.ge E
                      have Of_bx := Nf.lt Bx
                      replace Bx := Nf.keep Bx
                      replace hN1 := hN1.ext Nf.ext
                      replace hL1 := hL1.chg Nf.ext (fun _ _ f => f)
                      replace hM1 := own_ext hM1 Nf.ext
                      replace hQ1 := hQ1.chg Nf.ext (fun _ _ f => f)
                      replace Ov7 := own_ext Ov7 Nf.ext
                      replace Ov9 := own_ext Ov9 Nf.ext
                      replace E := E.ext Nf.ext
                      have Bf := Nf.blk
                      refine s_append (base := n1) (n := mn) (m := 1) (xs := ((ns.drop hi).map nodeC).flatten) (news := [(.slice (some ⟨q, 0, none⟩) 2 2), (.slice ya ((0 + v.length) + 1) yc)]) (size := 2) (bytes := 48) (v := (.slice ma mn mc)) (by decide) Try.underlying79 siz78 byt78 zer78 rfl (by decide) rfl hM1 rfl (rfl) (Bf.cells rfl) (by simp [Value.oneCell']) (by unfold maxLen; omega) (by omega) (by have := E.size; omega) ?_
                      intro v6 w89 Ov6 Cv6 Dv6
                      replace Bx := Cv6.keep (fun h => (hbxs.2 _ h rfl)) Bx
                      replace E := E.step Cv6 (fun x hx h => absurd (hM1.lt x h).1 (by omega))
                      obtain ⟨ma3, mc3, rfl⟩ := own_form Ov6
                      have hmvz : ∀ b, (Value.slice ma mn mc).ownBlock = some b → b < zB := hMz
                      have hN2 := hN1.chg Cv6 (fun b hb h => hT.mF b h hb)
                      have hL2 := hL1.chg Cv6 (fun b hb h => hT.mF b h hb)
                      have hQ2 := hQ1.chg Cv6 (fun b hb h => by have := hsq b (.inr h); omega)
                      have hS2 := own_chg Ov7 Cv6 (fun b hb h => by rcases Dv7 b hb with h9 | h9; exact hT.sm b h9 h; have := hsq b (.inr h); omega)
                      have hY2 := own_chg Ov9 Cv6 (fun b hb h => by have := (Ov9.lt b hb).1; have := hMz b h; omega)
                      have hYI : IntsAt (w89) (.slice ya ((0 + v.length) + 1) yc) (toI (v ++ [x])) := own_intsD (n := 0 + v.length + 1) (by simpa [toI] using hY2) (by simp [toI])
                      have hYS : SlIn (fun y => (Value.slice ya ((0 + v.length) + 1) yc).ownBlock = some y) (w89) 1 (.slice ya ((0 + v.length) + 1) yc) ((toI (v ++ [x])).map intV) := by obtain ⟨gy, hgy, _, _⟩ := own_cells hY2 (by omega); subst hgy; exact SlIn.mk hYI rfl
                      have hwv6 := Cv6.size
                      have hwv1 := Nz.ext.size
                      have hwv0 := Ng.ext.size
                      have hwv7 := Cv7.size
                      have hwv2 := Cv8.size
                      have hwv3 := Ne.ext.size
                      have hwv4 := Cv9.size
                      have hwv5 := Nf.ext.size
                      have hTn := ShT.add (p := (toD a p.1 x, toD b p.2 x)) (u := v ++ [x]) (w1 := wg) hT hN2 hL2 hS2 Ov6 hQ2 hYS (by omega) (fun b hb => (hY2.lt b hb).2) rfl rfl (fun b hb => Dv7 b hb) (Nat.le_refl _) (fun b hb => by have := hsq b hb; omega) (by omega) (fun b hb => by rcases Dv6 b hb with h9 | h9; exact .inl h9; exact .inr ⟨fun b' hb' => by rcases hb' with h8 | h8; have := hSz b' h8; omega; have := (Ov9.lt b' h8).2; omega, by omega⟩) (fun b hb => ⟨fun b' hb' => by have := hSz b' hb'; have := (Ov9.lt b hb).1; omega, by have := (Ov9.lt b hb).1; omega⟩)
                      refine WpL_val rfl rfl (by decide) (r_assign (v := (.slice ma3 (mn + 1) mc3)) rfl) ?_
                      refine WpL_nil ?_
                      refine inB_normal ?_
                      refine thn_normal ?_
                      refine Wp_region ?_
                      refine WpL_val rfl rfl (by decide) (r_add (k := .i64) (a := ((x : Nat) : Int)) (b := 1) (c := ((x : Nat) : Int) + 1) rfl rfl (wI64 (by omega))) ?_
                      refine WpL_val rfl rfl (by decide) (r_move (v := (.int .i64 (((x : Nat) : Int) + 1))) rfl) ?_
                      refine WpL_nil ?_
                      refine thn_normal ?_
                      exact ⟨c - (x + 1), by omega, x + 1, (fun y => (F y ∨ y = q) ∨ (Value.slice ya ((0 + v.length) + 1) yc).ownBlock = some y), work ++ [(toD a p.1 x, toD b p.2 x)], wd ++ [v ++ [x]], ps ++ [(i0 + j, x)], ns ++ [(Value.slice (some ⟨q, 0, none⟩) 2 2, Value.slice ya ((0 + v.length) + 1) yc)], sa3, ma3, sc3, (sn + 1), mc3, (mn + 1), Fits.out ⟨rfl, rfl, rfl, rfl, rfl, rfl, rfl, rfl, rfl, rfl, rfl, trivial⟩, E, Bx, (by omega), hBn, hRn, (fun t9 h9 => by rcases List.mem_append.1 h9 with h8 | h8; exact hsl t9 h8; rw [List.mem_singleton] at h8; subst h8; exact ⟨oka.to, okb.to⟩), (by omega), hTn, (by rw [List.getElem?_append_left (lt_of_get hei)]; exact hei), (by rw [List.getElem?_append_left (lt_of_get hpi)]; exact hpi), (by rw [List.getElem?_append_left (lt_of_get hvi)]; exact hvi), (by omega), ⟨fun b hb => by rcases Dv7 b hb with h9 | h9; exact hbxs.1 b h9; omega, fun b hb => by rcases Dv6 b hb with h9 | h9; exact hbxs.2 b h9; omega⟩, rfl⟩
                    · have khnew := hnew
                      replace hnew := by simpa using hnew
                      have hmm : (toD a p.1 x, toD b p.2 x) ∈ work := Classical.byContradiction fun h9 => by rw [decide_eq_false h9] at hold; rw [hold] at hnew; cases hnew
                      refine Wp_skip ?_
                      refine inB_normal ?_
                      refine thn_normal ?_
                      refine Wp_region ?_
                      refine WpL_val rfl rfl (by decide) (r_add (k := .i64) (a := ((x : Nat) : Int)) (b := 1) (c := ((x : Nat) : Int) + 1) rfl rfl (wI64 (by omega))) ?_
                      refine WpL_val rfl rfl (by decide) (r_move (v := (.int .i64 (((x : Nat) : Int) + 1))) rfl) ?_
                      refine WpL_nil ?_
                      refine thn_normal ?_
                      exact ⟨c - (x + 1), by omega, x + 1, F, work, wd, ps, ns, sa, ma, sc2, sn, mc, mn, Fits.out ⟨rfl, rfl, rfl, rfl, rfl, rfl, rfl, rfl, rfl, rfl, rfl, trivial⟩, E, Bx, (by omega), hB.old hpi rfl hmm, hR.step (nextB_old hpi hvi (by omega) htg rfl hmm), hsl, hsz5, hT, hei, hpi, hvi, hsz6, hbxs, rfl⟩
              · have khltx := hltx
                replace hltx := of_decide_eq_false hltx
                have hxc : x = c := by omega
                rw [hxc] at hB hR
                refine Wp_exit ?_
                refine thn_exit ?_
                refine thn_exit ?_
                refine inB_here ?_
                refine inB_normal ?_
                refine thn_normal ?_
                refine Wp_region ?_
                refine WpL_val rfl rfl (by decide) (r_add (k := .i64) (a := ((j : Nat) : Int)) (b := 1) (c := ((j : Nat) : Int) + 1) rfl rfl (wI64 (by omega))) ?_
                refine WpL_val rfl rfl (by decide) (r_move (v := (.int .i64 (((j : Nat) : Int) + 1))) rfl) ?_
                refine WpL_nil ?_
                refine thn_normal ?_
                exact ⟨ln - (j + 1), by omega, j + 1, F, work, wd, ps, ns, sa, ma, sc2, sn, mc, mn, Fits.out ⟨rfl, rfl, rfl, rfl, rfl, rfl, rfl, rfl, trivial⟩, E, (by omega), hB.row, hR.step (nextB_row hpi hvi htg), hsl, hsz, hT, rfl⟩
        · have khltj := hltj
          replace hltj := of_decide_eq_false hltj
          have hjl : i0 + j = hi := by omega
          rw [hjl] at hB hR
          refine Wp_exit ?_
          refine thn_exit ?_
          refine thn_exit ?_
          refine inB_here ?_
          refine thn_normal ?_
          refine Wp_region ?_
          refine WpL_val rfl rfl (by decide) (r_move (v := (.slice ma mn mc)) rfl) ?_
          refine WpL_val rfl rfl (by decide) (r_assign (v := (.slice ma mn mc)) rfl) ?_
          refine WpL_nil ?_
          refine inB_normal ?_
          refine thn_normal ?_
          exact ⟨mx - hi, by omega, (fun y => F y ∨ (Value.slice ma mn mc).ownBlock = some y), work, wd, ps, ns, sa, ma, sc2, sn, mc, mn, hi, Fits.out ⟨rfl, rfl, rfl, rfl, rfl, trivial⟩, E, hB, hR, hsl, hsz, hT.turn, hT.eM, hT.eH, rfl⟩
    · have khlev := hlev
      replace hlev := of_decide_eq_false hlev
      have hi0e : work.length ≤ i0 := by have := hT.N.lw; omega
      refine Wp_exit ?_
      refine thn_exit ?_
      refine thn_exit ?_
      refine inB_here ?_
      refine thn_normal ?_
      refine Wp_seq_region ?_
      refine WpL_val rfl rfl (by decide) (r_assign (v := (.slice none 0 0)) rfl) ?_
      refine WpL_val rfl rfl (by decide) (r_assign (v := (.bool false)) rfl) ?_
      refine WpL_nil ?_
      refine Wp_ret ?_
      refine fin_tmp2 Try.results16 (v := (.slice none 0 0)) (v' := (.bool false)) rfl rfl ?_
      exact ⟨⟨true, [], none, 0, rfl, SlAt.nil _ _ _ _, ⟨_, hR, nextB_end (List.getElem?_eq_none (by show work.length ≤ i0; omega)), (fun h => by cases h), by symm; rw [decide_eq_true_iff]; show work.length ≤ i0; omega⟩, fun _ => rfl⟩, E⟩
end Go.Proofs
namespace Go.Proofs
open Go Go.Eng Go.Sort
set_option maxRecDepth 100000
def litF2 (e : Nat) (u1 u2 : Value) : Fct := fun v w => ∃ b, v = .slice (some ⟨b, 0, none⟩) 2 2 ∧ Blk w b #[u1, u2] e
theorem litF2_ext (e : Nat) (u1 u2 : Value) : ∀ v w w', Ext w w' → litF2 e u1 u2 v w → litF2 e u1 u2 v w' := by
  rintro v w w' x ⟨b, h1, h2⟩
  exact ⟨b, h1, Ext.keep x h2⟩
theorem DoesT_lit2 {P : Program} {N : Nat} {σ : Env} {w : World} {dst : Option Tmp} {ty : TypeId} {pos : String} {af : Array Edge} {g : Option (Nat × Bool)} {M : Nat → Prop} {t e n : Nat} {x y : Operand} {u v z : Value} (hu : P.underlying t = some (.slice e)) (hsz : Siz P e n) (hz : Zer P e z) (hx : ev σ x = u) (hy : ev σ y = v)
    (hl : ¬ (2 * n > 2 ^ 24)) (h0 : 2 * n ≠ 0) (hc : Instr.fill (fun i => some (i * n, n)) ((Array.range (2 * n)).map (z.cells[· % z.cells.size]!)) [(0, u), (1, v)] = some #[u, v]) :
    DoesT M P N ⟨dst, .buildSlice t 2 #[(0, x), (1, y)], ty, pos, af, g⟩ (litF2 e u v) σ w := by
  have hn := New.mk' w #[u, v] e
  exact DoesT_val (run_buildSlice (parts := [(0, x), (1, y)]) (ps := [(0, u), (1, v)]) (by simp only [List.map, hx, hy]) hu hsz hz hl h0 hc) (Ext.chg hn.ext) ⟨_, rfl, hn.blk⟩
def shortF (ok : Bool) (l : List Nat) : Fct := fun v w => ∃ ad cc, v = .tuple #[.slice ad l.length cc, .bool (!ok)] ∧ IntsAt w (.slice ad l.length cc) (toI l)
theorem shortF_ext (ok : Bool) (l : List Nat) : ∀ v w w', Ext w w' → shortF ok l v w → shortF ok l v w' := by
  rintro v w w' x ⟨ad, cc, h1, h2⟩
  exact ⟨ad, cc, h1, h2.ext x⟩
def wordF (l : List Nat) : Fct := fun v w => ∃ ad cc, v = .slice ad l.length cc ∧ IntsAt w (.slice ad l.length cc) (toI l)
theorem wordF_ext (l : List Nat) : ∀ v w w', Ext w w' → wordF l v w → wordF l v w' := by
  rintro v w w' x ⟨ad, cc, h1, h2⟩
  exact ⟨ad, cc, h1, h2.ext x⟩
theorem rcheck0_c (w0 : World) (d : Dfa) (vs : List Value) (hd : DfaAt w0 d vs) (h0 : checkD d = 0) : Ret Try.prog 13 #[.agg vs.toArray] w0 fun r w => r = .int .i64 0 ∧ Ext w0 w :=
  (rcheckd_c w0 d vs hd).mono fun r w h => ⟨h.1.trans (by rw [h0]), h.2⟩
theorem sames_a (w0 : World) (a b : Dfa) (av bv : List Value) (ha : DfaAt w0 a av) (hb : DfaAt w0 b bv) (h1 : checkD a ≠ 0) :
    Ret Try.prog 3 #[.agg av.toArray, .agg bv.toArray] w0 fun r w => r = .bool true ∧ Ext w0 w := by
  have h3 : errD a b = checkD a := by unfold errD; rw [if_pos h1]
  have hS : ∀ w, DfaAt w a av → DfaAt w b bv → Ret Try.prog 11 #[.agg av.toArray, .agg bv.toArray] w fun r w' => r = .tuple #[.bool false, .slice none 0 0, .int .i64 (checkD a)] ∧ Ext w w' := fun w g1 g2 => by
    have := same_bad w a b av bv g1 g2 (by omega)
    rwa [h3] at this
  have hk : decide (checkD a = 0) = false := decide_eq_false h1
  obtain ⟨aa, ac, na, nc, rfl, _, _⟩ := id ha
  obtain ⟨aa2, ac2, na2, nc2, rfl, _, _⟩ := id hb
  refine Ret_of Try.func3 rfl Try.ntmps3 (Nat.le_of_ble_eq_true rfl) ?_
  have E : Chg none1 w0 w0 := Chg.refl _ _
  refine Wp_seq_region ?_
  refine s_box (v := (.agg #[(.int .i64 a.start), (.slice aa a.accept.length ac), (.slice na a.next.length nc)])) (c := #[(.int .i64 a.start), (.slice aa a.accept.length ac), (.slice na a.next.length nc)]) (by decide) rfl rfl ?_
  intro bp wp Np
  have Fp := Np.ge E
  replace E := E.ext Np.ext
  have Bp := Np.blk
  refine s_box (v := (.agg #[(.int .i64 b.start), (.slice aa2 b.accept.length ac2), (.slice na2 b.next.length nc2)])) (c := #[(.int .i64 b.start), (.slice aa2 b.accept.length ac2), (.slice na2 b.next.length nc2)]) (by decide) rfl rfl ?_
  intro bq wq Nq
  have Fq := Nq.ge E
  have Oq_bp := Nq.lt Bp
  replace Bp := Nq.keep Bp
  replace E := E.ext Nq.ext
  have Bq := Nq.blk
  refine WpL_val rfl rfl (by decide) (r_assign (v := (.bool false)) rfl) ?_
  refine WpL_nil ?_
  refine Wp_seq_region ?_
  refine WpL_val rfl rfl (by decide) (r_loadAgg (vs := [(.int .i64 a.start), (.slice aa a.accept.length ac), (.slice na a.next.length nc)]) rfl agg25 siz25 rfl (Bp.cells rfl)) ?_
  refine WpL_val rfl rfl (by decide) (r_loadAgg (vs := [(.int .i64 b.start), (.slice aa2 b.accept.length ac2), (.slice na2 b.next.length nc2)]) rfl agg25 siz25 rfl (Bq.cells rfl)) ?_
  refine WpL_enter rfl rfl (by decide) (r_callF (vs := [(.agg #[(.int .i64 a.start), (.slice aa a.accept.length ac), (.slice na a.next.length nc)]), (.agg #[(.int .i64 b.start), (.slice aa2 b.accept.length ac2), (.slice na2 b.next.length nc2)])]) Try.func11 nm11 bd11 rfl) (hS _ (ha.ext E) (hb.ext E)) ?_
  rintro _ w9 ⟨rfl, X9⟩
  replace Bp := X9.keep Bp
  replace Bq := X9.keep Bq
  replace E := E.ext X9
  refine WpL_val rfl rfl (by decide) (r_move (v := (.tuple #[(.bool false), (.slice none 0 0), (.int .i64 (checkD a))])) rfl) ?_
  refine WpL_val rfl rfl (by decide) (r_extract (vs := #[(.bool false), (.slice none 0 0), (.int .i64 (checkD a))]) (v := (.bool false)) rfl rfl) ?_
  refine WpL_val rfl rfl (by decide) (r_extract (vs := #[(.bool false), (.slice none 0 0), (.int .i64 (checkD a))]) (v := (.slice none 0 0)) rfl rfl) ?_
  refine WpL_val rfl rfl (by decide) (r_extract (vs := #[(.bool false), (.slice none 0 0), (.int .i64 (checkD a))]) (v := (.int .i64 (checkD a))) rfl rfl) ?_
  refine WpL_val rfl rfl (by decide) (r_assign (v := (.bool false)) rfl) ?_
  refine WpL_val rfl rfl (by decide) (r_assign (v := (.slice none 0 0)) rfl) ?_
  refine WpL_val rfl rfl (by decide) (r_assign (v := (.int .i64 (checkD a))) rfl) ?_
  refine WpL_nil ?_
  refine Wp_seq ?_
  refine Wp_seq_region ?_
  refine WpL_enter rfl rfl (by decide) (r_callF (vs := []) Try.func12 nm12 bd12 rfl) (mbegun1_c _) ?_
  rintro _ w19 ⟨rfl, X19⟩
  replace Bp := X19.keep Bp
  replace Bq := X19.keep Bq
  replace E := E.ext X19
  refine WpL_val rfl rfl (by decide) (r_not (b := true) rfl) ?_
  refine WpL_nil ?_
  refine Wp_cond_false rfl ?_
  refine Wp_skip ?_
  refine thn_normal ?_
  refine Wp_seq_region ?_
  refine WpL_val rfl rfl (by decide) (r_loadAgg (vs := [(.int .i64 a.start), (.slice aa a.accept.length ac), (.slice na a.next.length nc)]) rfl agg25 siz25 rfl (Bp.cells rfl)) ?_
  refine WpL_enter rfl rfl (by decide) (r_callF (vs := [(.agg #[(.int .i64 a.start), (.slice aa a.accept.length ac), (.slice na a.next.length nc)])]) Try.func13 nm13 bd13 rfl) (rcheckd_c _ a _ (ha.ext E)) ?_
  rintro _ w29 ⟨rfl, X29⟩
  replace Bp := X29.keep Bp
  replace Bq := X29.keep Bq
  replace E := E.ext X29
  refine WpL_val rfl rfl (by decide) (r_assign (v := (.int .i64 (checkD a))) rfl) ?_
  refine WpL_nil ?_
  refine Wp_seq ?_
  refine Wp_seq_region ?_
  refine WpL_val rfl rfl (by decide) (r_move (v := (.int .i64 (checkD a))) rfl) ?_
  refine WpL_val rfl rfl (by decide) (r_eql (k := .i64) (a := checkD a) (b := 0) rfl rfl) ?_
  refine WpL_nil ?_
  have hc1 : (decide ((checkD a : Int) = 0)) = false := hk
  refine Wp_cond_false (congrArg Value.bool hc1) ?_
  refine Wp_skip ?_
  refine thn_normal ?_
  refine Wp_seq ?_
  have hz_2 : w0.heap.size ≤ w29.heap.size := E.size
  have lz_2_bp : bp < w29.heap.size := Bp.lt
  have lz_2_bq : bq < w29.heap.size := Bq.lt
  refine Wp_seq ?_
  obtain ⟨Fs2, hFs2⟩ : ∃ Fs : List FctS, Fs = [(fun _ _ v _ => v = (.int .i64 (checkD a))), (fun _ _ v _ => v = (.bool false)), (fun _ _ v _ => v = (.bool false)), (fun _ _ v _ => v = undef), (fun _ _ v _ => v = undef), (fun _ _ v _ => v = undef), (fun _ _ v _ => v = undef), (fun _ _ v _ => v = undef), (fun _ _ v _ => v = undef), (fun _ _ v _ => v = undef), (fun _ _ v _ => v = undef), (fun _ _ v _ => v = undef), (fun _ _ v _ => v = undef), (fun _ _ v _ => v = undef), (fun _ _ v _ => v = (.bool false))] := ⟨_, rfl⟩
  refine Wp_dagS (MsL []) [true, true, true, true, true, true, true, true, true, true, true, true, true, true, true] [] [27, 28, 29, 30, 31, 32, 33, 34, 35, 36, 37, 38, 39, 40, 41] [[], [0], [1], [2], [2, 3], [2, 4], [2, 5], [2, 6], [2], [2, 8], [2, 9], [2, 10], [2, 11], [2, 7, 12], [2, 13]] [[], [0], [1, 0], [2, 1, 0], [2, 1, 0, 3], [2, 1, 0, 4, 3], [2, 1, 0, 5, 4, 3], [2, 1, 0, 6, 5, 4, 3], [2, 1, 0], [2, 1, 0, 8], [2, 1, 0, 9, 8], [2, 1, 0, 10, 9, 8], [2, 1, 0, 11, 10, 9, 8], [2, 1, 0, 7, 6, 5, 4, 3, 12, 11, 10, 9, 8], [2, 1, 0, 13, 7, 6, 5, 4, 3, 12, 11, 10, 9, 8]] Fs2 hFs2 (by kernel_rfl) mixed (by kernel_rfl) (by kernel_rfl) (by kernel_rfl) (by kernel_rfl) ?_ ?_
  · intro wd X0
    refine DagStepsS.cons (StabS.eq) (LocS.const) (fun S s' w' hi hN X U H => Or.inl ⟨Guarded_none rfl, ?_⟩) ?_
    · replace X := X.mono (M' := none1) (fun y _ h => by
          obtain ⟨j, hj, h⟩ := h
          exact h.elim)
      exact DoesT_pure (r_move (v := (.int .i64 (checkD a))) (U 8 rfl)) rfl
    refine DagStepsS.cons (StabS.eq) (LocS.const) (fun S s' w' hi hN X U H => Or.inl ⟨Guarded_none rfl, ?_⟩) ?_
    · replace X := X.mono (M' := none1) (fun y _ h => by
          obtain ⟨j, hj, h⟩ := h
          exact h.elim)
      have e27 : s' 27 = (.int .i64 (checkD a)) := (H 0 rfl).2 27 (fun _ _ v _ => v = (.int .i64 (checkD a))) rfl (by rw [hFs2]; rfl)
      exact DoesT_pure (Eq.trans (r_eql (k := .i64) (a := checkD a) (b := 0) e27 rfl) (by rw [hk])) rfl
    refine DagStepsS.cons (StabS.eq) (LocS.const) (fun S s' w' hi hN X U H => Or.inl ⟨Guarded_none rfl, ?_⟩) ?_
    · replace X := X.mono (M' := none1) (fun y _ h => by
          obtain ⟨j, hj, h⟩ := h
          exact h.elim)
      have e28 : s' 28 = (.bool false) := (H 1 rfl).2 28 (fun _ _ v _ => v = (.bool false)) rfl (by rw [hFs2]; rfl)
      exact DoesT_pure (r_move (v := (.bool false)) e28) rfl
    refine DagStepsS.cons (StabS.eq) (LocS.const) (fun S s' w' hi hN X U H => Or.inr ⟨Unmet_mk rfl rfl (d := 29) (Or.inl ((H 2 rfl).2 29 (fun _ _ v _ => v = (.bool false)) rfl (by rw [hFs2]; rfl))), ?_⟩) ?_
    · exact rfl
    refine DagStepsS.cons (StabS.eq) (LocS.const) (fun S s' w' hi hN X U H => Or.inr ⟨Unmet_mk rfl rfl (d := 29) (Or.inl ((H 2 rfl).2 29 (fun _ _ v _ => v = (.bool false)) rfl (by rw [hFs2]; rfl))), ?_⟩) ?_
    · exact rfl
    refine DagStepsS.cons (StabS.eq) (LocS.const) (fun S s' w' hi hN X U H => Or.inr ⟨Unmet_mk rfl rfl (d := 29) (Or.inl ((H 2 rfl).2 29 (fun _ _ v _ => v = (.bool false)) rfl (by rw [hFs2]; rfl))), ?_⟩) ?_
    · exact rfl
    refine DagStepsS.cons (StabS.eq) (LocS.const) (fun S s' w' hi hN X U H => Or.inr ⟨Unmet_mk rfl rfl (d := 29) (Or.inl ((H 2 rfl).2 29 (fun _ _ v _ => v = (.bool false)) rfl (by rw [hFs2]; rfl))), ?_⟩) ?_
    · exact rfl
    refine DagStepsS.cons (StabS.eq) (LocS.const) (fun S s' w' hi hN X U H => Or.inr ⟨Unmet_mk rfl rfl (d := 29) (Or.inl ((H 2 rfl).2 29 (fun _ _ v _ => v = (.bool false)) rfl (by rw [hFs2]; rfl))), ?_⟩) ?_
    · exact rfl
    refine DagStepsS.cons (StabS.eq) (LocS.const) (fun S s' w' hi hN X U H => Or.inr ⟨Unmet_mk rfl rfl (d := 29) (Or.inl ((H 2 rfl).2 29 (fun _ _ v _ => v = (.bool false)) rfl (by rw [hFs2]; rfl))), ?_⟩) ?_
    · exact rfl
    refine DagStepsS.cons (StabS.eq) (LocS.const) (fun S s' w' hi hN X U H => Or.inr ⟨Unmet_mk rfl rfl (d := 29) (Or.inl ((H 2 rfl).2 29 (fun _ _ v _ => v = (.bool false)) rfl (by rw [hFs2]; rfl))), ?_⟩) ?_
    · exact rfl
    refine DagStepsS.cons (StabS.eq) (LocS.const) (fun S s' w' hi hN X U H => Or.inr ⟨Unmet_mk rfl rfl (d := 29) (Or.inl ((H 2 rfl).2 29 (fun _ _ v _ => v = (.bool false)) rfl (by rw [hFs2]; rfl))), ?_⟩) ?_
    · exact rfl
    refine DagStepsS.cons (StabS.eq) (LocS.const) (fun S s' w' hi hN X U H => Or.inr ⟨Unmet_mk rfl rfl (d := 29) (Or.inl ((H 2 rfl).2 29 (fun _ _ v _ => v = (.bool false)) rfl (by rw [hFs2]; rfl))), ?_⟩) ?_
    · exact rfl
    refine DagStepsS.cons (StabS.eq) (LocS.const) (fun S s' w' hi hN X U H => Or.inr ⟨Unmet_mk rfl rfl (d := 29) (Or.inl ((H 2 rfl).2 29 (fun _ _ v _ => v = (.bool false)) rfl (by rw [hFs2]; rfl))), ?_⟩) ?_
    · exact rfl
    refine DagStepsS.cons (StabS.eq) (LocS.const) (fun S s' w' hi hN X U H => Or.inr ⟨Unmet_mk rfl rfl (d := 29) (Or.inl ((H 2 rfl).2 29 (fun _ _ v _ => v = (.bool false)) rfl (by rw [hFs2]; rfl))), ?_⟩) ?_
    · exact rfl
    refine DagStepsS.cons (StabS.eq) (LocS.const) (fun S s' w' hi hN X U H => Or.inl ⟨Guarded_none rfl, ?_⟩) ?_
    · replace X := X.mono (M' := none1) (fun y _ h => by
          obtain ⟨j, hj, h⟩ := h
          exact h.elim)
      have e29 : s' 29 = (.bool false) := (H 2 rfl).2 29 (fun _ _ v _ => v = (.bool false)) rfl (by rw [hFs2]; rfl)
      exact DoesT_pure (r_pick (b := false) (v := (.bool false)) e29 rfl) rfl
    exact DagStepsS.nil
  · intro s' wd2 w2 X0 X2 U H
    replace X2 := X2.mono (M' := none1) (fun y _ h => by
        obtain ⟨j, hj, h⟩ := h
        exact h.elim)
    have e41 : s' 41 = (.bool false) := H 14 rfl 41 (fun _ _ v _ => v = (.bool false)) rfl (by rw [hFs2]; rfl)
    obtain ⟨j2, rfl⟩ := Fits.out (σ := s') (l := [(2, (.pointer (some ⟨bp, 0, none⟩))), (3, (.pointer (some ⟨bq, 0, none⟩))), (5, (.bool false)), (6, (.slice none 0 0)), (7, (.int .i64 (checkD a))), (8, (.int .i64 (checkD a))), (41, (.bool false))]) ⟨U 2 rfl, U 3 rfl, U 5 rfl, U 6 rfl, U 7 rfl, U 8 rfl, e41, trivial⟩
    clear U H
    replace Bp := (X0.trans X2).keep Bp
    replace Bq := (X0.trans X2).keep Bq
    replace X2 := X0.trans X2
    replace E := E.ext X2
    refine WpL_nil ?_
    refine thn_normal ?_
    refine Wp_cond_false rfl ?_
    refine Wp_skip ?_
    refine thn_normal ?_
    refine Wp_seq ?_
    refine Wp_seq_region ?_
    refine WpL_val rfl rfl (by decide) (r_move (v := (.int .i64 (checkD a))) rfl) ?_
    refine WpL_val rfl rfl (by decide) (r_neq (k := .i64) (a := checkD a) (b := 0) rfl rfl) ?_
    refine WpL_nil ?_
    have hc3 : (decide ((checkD a : Int) ≠ 0)) = true := decide_eq_true (by omega)
    refine Wp_cond_true (congrArg Value.bool hc3) ?_
    refine Wp_seq_region ?_
    refine WpL_val rfl rfl (by decide) (r_move (v := (.int .i64 (checkD a))) rfl) ?_
    refine WpL_val rfl rfl (by decide) (r_move (v := (.int .i64 (checkD a))) rfl) ?_
    obtain ⟨e4, he4⟩ : ∃ e, (decide ((checkD a : Int) = checkD a)) = e := ⟨_, rfl⟩
    refine WpL_val rfl rfl (by decide) ((r_eql (k := .i64) (a := checkD a) (b := checkD a) rfl rfl).trans (by rw [he4]; try rfl)) ?_
    refine WpL_val rfl rfl (by decide) (r_move (v := (.bool e4)) rfl) ?_
    refine WpL_guard_any (oj := _) (gv := (.bool e4)) (u := (bif e4 then (.bool false) else undef)) rfl rfl (by decide) (by decide) rfl (by cases e4 <;> first | exact Or.inr ⟨Or.inl rfl, rfl⟩ | exact Or.inr ⟨Or.inr rfl, rfl⟩ | exact Or.inl ⟨rfl, r_move (v := (.bool false)) rfl⟩) ?_
    refine WpL_guard_any (oj := _) (gv := (.bool e4)) (u := (bif e4 then (.bool true) else undef)) rfl rfl (by decide) (by decide) rfl (by cases e4 <;> first | exact Or.inr ⟨Or.inl rfl, rfl⟩ | exact Or.inr ⟨Or.inr rfl, rfl⟩ | exact Or.inl ⟨rfl, r_not (b := false) rfl⟩) ?_
    obtain ⟨e5, he5⟩ : ∃ e, (e4 || false) = e := ⟨_, rfl⟩
    refine WpL_val rfl rfl (by decide) (r_pick (b := e4) (v := .bool e5) rfl (by rw [← he5]; cases e4 <;> rfl)) ?_
    refine WpL_val rfl rfl (by decide) (r_move (v := (.bool e5)) rfl) ?_
    refine WpL_guard_any (oj := _) (gv := (.bool e5)) (u := (bif e5 then (.slice none 0 0) else undef)) rfl rfl (by decide) (by decide) rfl (by cases e5 <;> first | exact Or.inr ⟨Or.inl rfl, rfl⟩ | exact Or.inr ⟨Or.inr rfl, rfl⟩ | exact Or.inl ⟨rfl, r_move (v := (.slice none 0 0)) rfl⟩) ?_
    refine WpL_guard_any (oj := _) (gv := (.bool e5)) (u := (bif e5 then (.int .i64 0) else undef)) rfl rfl (by decide) (by decide) rfl (by cases e5 <;> first | exact Or.inr ⟨Or.inl rfl, rfl⟩ | exact Or.inr ⟨Or.inr rfl, rfl⟩ | exact Or.inl ⟨rfl, r_lenSlice (ad := none) (n := 0) (cap := 0) Try.underlying22 rfl⟩) ?_
    refine WpL_guard_any (oj := _) (gv := (.bool e5)) (u := (bif e5 then (.bool true) else undef)) rfl rfl (by decide) (by decide) rfl (by cases e5 <;> first | exact Or.inr ⟨Or.inl rfl, rfl⟩ | exact Or.inr ⟨Or.inr rfl, rfl⟩ | exact Or.inl ⟨rfl, r_eql (k := .i64) (a := 0) (b := 0) rfl rfl⟩) ?_
    obtain ⟨e6, he6⟩ : ∃ e, (e5 || false) = e := ⟨_, rfl⟩
    refine WpL_val rfl rfl (by decide) (r_pick (b := e5) (v := .bool e6) rfl (by rw [← he6]; cases e5 <;> rfl)) ?_
    refine WpL_val rfl rfl (by decide) (r_assign (v := (.bool e6)) rfl) ?_
    refine WpL_nil ?_
    subst he6
    subst he5
    subst he4
    refine Wp_ret ?_
    refine thn_ret ?_
    refine fin_tmp Try.results3 (v := (.bool (((decide ((checkD a : Int) = checkD a)) || false) || false))) rfl ?_
    exact ⟨bool_eq (by simp), E⟩
theorem sames_b (w0 : World) (a b : Dfa) (av bv : List Value) (ha : DfaAt w0 a av) (hb : DfaAt w0 b bv) (h1 : checkD a = 0) (h2 : checkD b ≠ 0) :
    Ret Try.prog 3 #[.agg av.toArray, .agg bv.toArray] w0 fun r w => r = .bool true ∧ Ext w0 w := by
  have h3 : errD a b = checkD b := by unfold errD; rw [if_neg (by omega), if_pos h2]
  have hS : ∀ w, DfaAt w a av → DfaAt w b bv → Ret Try.prog 11 #[.agg av.toArray, .agg bv.toArray] w fun r w' => r = .tuple #[.bool false, .slice none 0 0, .int .i64 (checkD b)] ∧ Ext w w' := fun w g1 g2 => by
    have := same_bad w a b av bv g1 g2 (by omega)
    rwa [h3] at this
  have hk : decide (checkD b = 0) = false := decide_eq_false h2
  obtain ⟨aa, ac, na, nc, rfl, _, _⟩ := id ha
  obtain ⟨aa2, ac2, na2, nc2, rfl, _, _⟩ := id hb
  refine Ret_of Try.func3 rfl Try.ntmps3 (Nat.le_of_ble_eq_true rfl) ?_
  have E : Chg none1 w0 w0 := Chg.refl _ _
  refine Wp_seq_region ?_
  refine s_box (v := (.agg #[(.int .i64 a.start), (.slice aa a.accept.length ac), (.slice na a.next.length nc)])) (c := #[(.int .i64 a.start), (.slice aa a.accept.length ac), (.slice na a.next.length nc)]) (by decide) rfl rfl ?_
  intro bp wp Np
  have Fp := Np.ge E
  replace E := E.ext Np.ext
  have Bp := Np.blk
  refine s_box (v := (.agg #[(.int .i64 b.start), (.slice aa2 b.accept.length ac2), (.slice na2 b.next.length nc2)])) (c := #[(.int .i64 b.start), (.slice aa2 b.accept.length ac2), (.slice na2 b.next.length nc2)]) (by decide) rfl rfl ?_
  intro bq wq Nq
  have Fq := Nq.ge E
  have Oq_bp := Nq.lt Bp
  replace Bp := Nq.keep Bp
  replace E := E.ext Nq.ext
  have Bq := Nq.blk
  refine WpL_val rfl rfl (by decide) (r_assign (v := (.bool false)) rfl) ?_
  refine WpL_nil ?_
  refine Wp_seq_region ?_
  refine WpL_val rfl rfl (by decide) (r_loadAgg (vs := [(.int .i64 a.start), (.slice aa a.accept.length ac), (.slice na a.next.length nc)]) rfl agg25 siz25 rfl (Bp.cells rfl)) ?_
  refine WpL_val rfl rfl (by decide) (r_loadAgg (vs := [(.int .i64 b.start), (.slice aa2 b.accept.length ac2), (.slice na2 b.next.length nc2)]) rfl agg25 siz25 rfl (Bq.cells rfl)) ?_
  refine WpL_enter rfl rfl (by decide) (r_callF (vs := [(.agg #[(.int .i64 a.start), (.slice aa a.accept.length ac), (.slice na a.next.length nc)]), (.agg #[(.int .i64 b.start), (.slice aa2 b.accept.length ac2), (.slice na2 b.next.length nc2)])]) Try.func11 nm11 bd11 rfl) (hS _ (ha.ext E) (hb.ext E)) ?_
  rintro _ w9 ⟨rfl, X9⟩
  replace Bp := X9.keep Bp
  replace Bq := X9.keep Bq
  replace E := E.ext X9
  refine WpL_val rfl rfl (by decide) (r_move (v := (.tuple #[(.bool false), (.slice none 0 0), (.int .i64 (checkD b))])) rfl) ?_
  refine WpL_val rfl rfl (by decide) (r_extract (vs := #[(.bool false), (.slice none 0 0), (.int .i64 (checkD b))]) (v := (.bool false)) rfl rfl) ?_
  refine WpL_val rfl rfl (by decide) (r_extract (vs := #[(.bool false), (.slice none 0 0), (.int .i64 (checkD b))]) (v := (.slice none 0 0)) rfl rfl) ?_
  refine WpL_val rfl rfl (by decide) (r_extract (vs := #[(.bool false), (.slice none 0 0), (.int .i64 (checkD b))]) (v := (.int .i64 (checkD b))) rfl rfl) ?_
  refine WpL_val rfl rfl (by decide) (r_assign (v := (.bool false)) rfl) ?_
  refine WpL_val rfl rfl (by decide) (r_assign (v := (.slice none 0 0)) rfl) ?_
  refine WpL_val rfl rfl (by decide) (r_assign (v := (.int .i64 (checkD b))) rfl) ?_
  refine WpL_nil ?_
  refine Wp_seq ?_
  refine Wp_seq_region ?_
  refine WpL_enter rfl rfl (by decide) (r_callF (vs := []) Try.func12 nm12 bd12 rfl) (mbegun1_c _) ?_
  rintro _ w19 ⟨rfl, X19⟩
  replace Bp := X19.keep Bp
  replace Bq := X19.keep Bq
  replace E := E.ext X19
  refine WpL_val rfl rfl (by decide) (r_not (b := true) rfl) ?_
  refine WpL_nil ?_
  refine Wp_cond_false rfl ?_
  refine Wp_skip ?_
  refine thn_normal ?_
  refine Wp_seq_region ?_
  refine WpL_val rfl rfl (by decide) (r_loadAgg (vs := [(.int .i64 a.start), (.slice aa a.accept.length ac), (.slice na a.next.length nc)]) rfl agg25 siz25 rfl (Bp.cells rfl)) ?_
  refine WpL_enter rfl rfl (by decide) (r_callF (vs := [(.agg #[(.int .i64 a.start), (.slice aa a.accept.length ac), (.slice na a.next.length nc)])]) Try.func13 nm13 bd13 rfl) (rcheckd_c _ a _ (ha.ext E)) ?_
  rintro _ w29 ⟨rfl, X29⟩
  replace Bp := X29.keep Bp
  replace Bq := X29.keep Bq
  replace E := E.ext X29
  refine WpL_val rfl rfl (by decide) (r_assign (v := (.int .i64 (checkD a))) rfl) ?_
  refine WpL_nil ?_
  refine Wp_seq ?_
  refine Wp_seq_region ?_
  refine WpL_val rfl rfl (by decide) (r_move (v := (.int .i64 (checkD a))) rfl) ?_
  refine WpL_val rfl rfl (by decide) (r_eql (k := .i64) (a := checkD a) (b := 0) rfl rfl) ?_
  refine WpL_nil ?_
  have hc1 : (decide ((checkD a : Int) = 0)) = true := decide_eq_true h1
  refine Wp_cond_true (congrArg Value.bool hc1) ?_
  refine Wp_region ?_
  refine WpL_val rfl rfl (by decide) (r_loadAgg (vs := [(.int .i64 b.start), (.slice aa2 b.accept.length ac2), (.slice na2 b.next.length nc2)]) rfl agg25 siz25 rfl (Bq.cells rfl)) ?_
  refine WpL_enter rfl rfl (by decide) (r_callF (vs := [(.agg #[(.int .i64 b.start), (.slice aa2 b.accept.length ac2), (.slice na2 b.next.length nc2)])]) Try.func13 nm13 bd13 rfl) (rcheckd_c _ b _ (hb.ext E)) ?_
  rintro _ w39 ⟨rfl, X39⟩
  replace Bp := X39.keep Bp
  replace Bq := X39.keep Bq
  replace E := E.ext X39
  refine WpL_val rfl rfl (by decide) (r_assign (v := (.int .i64 (checkD b))) rfl) ?_
  refine WpL_nil ?_
  refine thn_normal ?_
  refine Wp_seq ?_
  have hz_2 : w0.heap.size ≤ w39.heap.size := E.size
  have lz_2_bp : bp < w39.heap.size := Bp.lt
  have lz_2_bq : bq < w39.heap.size := Bq.lt
  refine Wp_seq ?_
  obtain ⟨Fs2, hFs2⟩ : ∃ Fs : List FctS, Fs = [(fun _ _ v _ => v = (.int .i64 (checkD b))), (fun _ _ v _ => v = (.bool false)), (fun _ _ v _ => v = (.bool false)), (fun _ _ v _ => v = undef), (fun _ _ v _ => v = undef), (fun _ _ v _ => v = undef), (fun _ _ v _ => v = undef), (fun _ _ v _ => v = undef), (fun _ _ v _ => v = undef), (fun _ _ v _ => v = undef), (fun _ _ v _ => v = undef), (fun _ _ v _ => v = undef), (fun _ _ v _ => v = undef), (fun _ _ v _ => v = undef), (fun _ _ v _ => v = (.bool false))] := ⟨_, rfl⟩
  refine Wp_dagS (MsL []) [true, true, true, true, true, true, true, true, true, true, true, true, true, true, true] [] [27, 28, 29, 30, 31, 32, 33, 34, 35, 36, 37, 38, 39, 40, 41] [[], [0], [1], [2], [2, 3], [2, 4], [2, 5], [2, 6], [2], [2, 8], [2, 9], [2, 10], [2, 11], [2, 7, 12], [2, 13]] [[], [0], [1, 0], [2, 1, 0], [2, 1, 0, 3], [2, 1, 0, 4, 3], [2, 1, 0, 5, 4, 3], [2, 1, 0, 6, 5, 4, 3], [2, 1, 0], [2, 1, 0, 8], [2, 1, 0, 9, 8], [2, 1, 0, 10, 9, 8], [2, 1, 0, 11, 10, 9, 8], [2, 1, 0, 7, 6, 5, 4, 3, 12, 11, 10, 9, 8], [2, 1, 0, 13, 7, 6, 5, 4, 3, 12, 11, 10, 9, 8]] Fs2 hFs2 (by kernel_rfl) mixed (by kernel_rfl) (by kernel_rfl) (by kernel_rfl) (by kernel_rfl) ?_ ?_
  · intro wd X0
    refine DagStepsS.cons (StabS.eq) (LocS.const) (fun S s' w' hi hN X U H => Or.inl ⟨Guarded_none rfl, ?_⟩) ?_
    · replace X := X.mono (M' := none1) (fun y _ h => by
          obtain ⟨j, hj, h⟩ := h
          exact h.elim)
      exact DoesT_pure (r_move (v := (.int .i64 (checkD b))) (U 8 rfl)) rfl
    refine DagStepsS.cons (StabS.eq) (LocS.const) (fun S s' w' hi hN X U H => Or.inl ⟨Guarded_none rfl, ?_⟩) ?_
    · replace X := X.mono (M' := none1) (fun y _ h => by
          obtain ⟨j, hj, h⟩ := h
          exact h.elim)
      have e27 : s' 27 = (.int .i64 (checkD b)) := (H 0 rfl).2 27 (fun _ _ v _ => v = (.int .i64 (checkD b))) rfl (by rw [hFs2]; rfl)
      exact DoesT_pure (Eq.trans (r_eql (k := .i64) (a := checkD b) (b := 0) e27 rfl) (by rw [hk])) rfl
    refine DagStepsS.cons (StabS.eq) (LocS.const) (fun S s' w' hi hN X U H => Or.inl ⟨Guarded_none rfl, ?_⟩) ?_
    · replace X := X.mono (M' := none1) (fun y _ h => by
          obtain ⟨j, hj, h⟩ := h
          exact h.elim)
      have e28 : s' 28 = (.bool false) := (H 1 rfl).2 28 (fun _ _ v _ => v = (.bool false)) rfl (by rw [hFs2]; rfl)
      exact DoesT_pure (r_move (v := (.bool false)) e28) rfl
    refine DagStepsS.cons (StabS.eq) (LocS.const) (fun S s' w' hi hN X U H => Or.inr ⟨Unmet_mk rfl rfl (d := 29) (Or.inl ((H 2 rfl).2 29 (fun _ _ v _ => v = (.bool false)) rfl (by rw [hFs2]; rfl))), ?_⟩) ?_
    · exact rfl
    refine DagStepsS.cons (StabS.eq) (LocS.const) (fun S s' w' hi hN X U H => Or.inr ⟨Unmet_mk rfl rfl (d := 29) (Or.inl ((H 2 rfl).2 29 (fun _ _ v _ => v = (.bool false)) rfl (by rw [hFs2]; rfl))), ?_⟩) ?_
    · exact rfl
    refine DagStepsS.cons (StabS.eq) (LocS.const) (fun S s' w' hi hN X U H => Or.inr ⟨Unmet_mk rfl rfl (d := 29) (Or.inl ((H 2 rfl).2 29 (fun _ _ v _ => v = (.bool false)) rfl (by rw [hFs2]; rfl))), ?_⟩) ?_
    · exact rfl
    refine DagStepsS.cons (StabS.eq) (LocS.const) (fun S s' w' hi hN X U H => Or.inr ⟨Unmet_mk rfl rfl (d := 29) (Or.inl ((H 2 rfl).2 29 (fun _ _ v _ => v = (.bool false)) rfl (by rw [hFs2]; rfl))), ?_⟩) ?_
    · exact rfl
    refine DagStepsS.cons (StabS.eq) (LocS.const) (fun S s' w' hi hN X U H => Or.inr ⟨Unmet_mk rfl rfl (d := 29) (Or.inl ((H 2 rfl).2 29 (fun _ _ v _ => v = (.bool false)) rfl (by rw [hFs2]; rfl))), ?_⟩) ?_
    · exact rfl
    refine DagStepsS.cons (StabS.eq) (LocS.const) (fun S s' w' hi hN X U H => Or.inr ⟨Unmet_mk rfl rfl (d := 29) (Or.inl ((H 2 rfl).2 29 (fun _ _ v _ => v = (.bool false)) rfl (by rw [hFs2]; rfl))), ?_⟩) ?_
    · exact rfl
    refine DagStepsS.cons (StabS.eq) (LocS.const) (fun S s' w' hi hN X U H => Or.inr ⟨Unmet_mk rfl rfl (d := 29) (Or.inl ((H 2 rfl).2 29 (fun _ _ v _ => v = (.bool false)) rfl (by rw [hFs2]; rfl))), ?_⟩) ?_
    · exact rfl
    refine DagStepsS.cons (StabS.eq) (LocS.const) (fun S s' w' hi hN X U H => Or.inr ⟨Unmet_mk rfl rfl (d := 29) (Or.inl ((H 2 rfl).2 29 (fun _ _ v _ => v = (.bool false)) rfl (by rw [hFs2]; rfl))), ?_⟩) ?_
    · exact rfl
    refine DagStepsS.cons (StabS.eq) (LocS.const) (fun S s' w' hi hN X U H => Or.inr ⟨Unmet_mk rfl rfl (d := 29) (Or.inl ((H 2 rfl).2 29 (fun _ _ v _ => v = (.bool false)) rfl (by rw [hFs2]; rfl))), ?_⟩) ?_
    · exact rfl
    refine DagStepsS.cons (StabS.eq) (LocS.const) (fun S s' w' hi hN X U H => Or.inr ⟨Unmet_mk rfl rfl (d := 29) (Or.inl ((H 2 rfl).2 29 (fun _ _ v _ => v = (.bool false)) rfl (by rw [hFs2]; rfl))), ?_⟩) ?_
    · exact rfl
    refine DagStepsS.cons (StabS.eq) (LocS.const) (fun S s' w' hi hN X U H => Or.inr ⟨Unmet_mk rfl rfl (d := 29) (Or.inl ((H 2 rfl).2 29 (fun _ _ v _ => v = (.bool false)) rfl (by rw [hFs2]; rfl))), ?_⟩) ?_
    · exact rfl
    refine DagStepsS.cons (StabS.eq) (LocS.const) (fun S s' w' hi hN X U H => Or.inl ⟨Guarded_none rfl, ?_⟩) ?_
    · replace X := X.mono (M' := none1) (fun y _ h => by
          obtain ⟨j, hj, h⟩ := h
          exact h.elim)
      have e29 : s' 29 = (.bool false) := (H 2 rfl).2 29 (fun _ _ v _ => v = (.bool false)) rfl (by rw [hFs2]; rfl)
      exact DoesT_pure (r_pick (b := false) (v := (.bool false)) e29 rfl) rfl
    exact DagStepsS.nil
  · intro s' wd2 w2 X0 X2 U H
    replace X2 := X2.mono (M' := none1) (fun y _ h => by
        obtain ⟨j, hj, h⟩ := h
        exact h.elim)
    have e41 : s' 41 = (.bool false) := H 14 rfl 41 (fun _ _ v _ => v = (.bool false)) rfl (by rw [hFs2]; rfl)
    obtain ⟨j2, rfl⟩ := Fits.out (σ := s') (l := [(2, (.pointer (some ⟨bp, 0, none⟩))), (3, (.pointer (some ⟨bq, 0, none⟩))), (5, (.bool false)), (6, (.slice none 0 0)), (7, (.int .i64 (checkD b))), (8, (.int .i64 (checkD b))), (41, (.bool false))]) ⟨U 2 rfl, U 3 rfl, U 5 rfl, U 6 rfl, U 7 rfl, U 8 rfl, e41, trivial⟩
    clear U H
    replace Bp := (X0.trans X2).keep Bp
    replace Bq := (X0.trans X2).keep Bq
    replace X2 := X0.trans X2
    replace E := E.ext X2
    refine WpL_nil ?_
    refine thn_normal ?_
    refine Wp_cond_false rfl ?_
    refine Wp_skip ?_
    refine thn_normal ?_
    refine Wp_seq ?_
    refine Wp_seq_region ?_
    refine WpL_val rfl rfl (by decide) (r_move (v := (.int .i64 (checkD b))) rfl) ?_
    refine WpL_val rfl rfl (by decide) (r_neq (k := .i64) (a := checkD b) (b := 0) rfl rfl) ?_
    refine WpL_nil ?_
    have hc3 : (decide ((checkD b : Int) ≠ 0)) = true := decide_eq_true (by omega)
    refine Wp_cond_true (congrArg Value.bool hc3) ?_
    refine Wp_seq_region ?_
    refine WpL_val rfl rfl (by decide) (r_move (v := (.int .i64 (checkD b))) rfl) ?_
    refine WpL_val rfl rfl (by decide) (r_move (v := (.int .i64 (checkD b))) rfl) ?_
    obtain ⟨e4, he4⟩ : ∃ e, (decide ((checkD b : Int) = checkD b)) = e := ⟨_, rfl⟩
    refine WpL_val rfl rfl (by decide) ((r_eql (k := .i64) (a := checkD b) (b := checkD b) rfl rfl).trans (by rw [he4]; try rfl)) ?_
    refine WpL_val rfl rfl (by decide) (r_move (v := (.bool e4)) rfl) ?_
    refine WpL_guard_any (oj := _) (gv := (.bool e4)) (u := (bif e4 then (.bool false) else undef)) rfl rfl (by decide) (by decide) rfl (by cases e4 <;> first | exact Or.inr ⟨Or.inl rfl, rfl⟩ | exact Or.inr ⟨Or.inr rfl, rfl⟩ | exact Or.inl ⟨rfl, r_move (v := (.bool false)) rfl⟩) ?_
    refine WpL_guard_any (oj := _) (gv := (.bool e4)) (u := (bif e4 then (.bool true) else undef)) rfl rfl (by decide) (by decide) rfl (by cases e4 <;> first | exact Or.inr ⟨Or.inl rfl, rfl⟩ | exact Or.inr ⟨Or.inr rfl, rfl⟩ | exact Or.inl ⟨rfl, r_not (b := false) rfl⟩) ?_
    obtain ⟨e5, he5⟩ : ∃ e, (e4 || false) = e := ⟨_, rfl⟩
    refine WpL_val rfl rfl (by decide) (r_pick (b := e4) (v := .bool e5) rfl (by rw [← he5]; cases e4 <;> rfl)) ?_
    refine WpL_val rfl rfl (by decide) (r_move (v := (.bool e5)) rfl) ?_
    refine WpL_guard_any (oj := _) (gv := (.bool e5)) (u := (bif e5 then (.slice none 0 0) else undef)) rfl rfl (by decide) (by decide) rfl (by cases e5 <;> first | exact Or.inr ⟨Or.inl rfl, rfl⟩ | exact Or.inr ⟨Or.inr rfl, rfl⟩ | exact Or.inl ⟨rfl, r_move (v := (.slice none 0 0)) rfl⟩) ?_
    refine WpL_guard_any (oj := _) (gv := (.bool e5)) (u := (bif e5 then (.int .i64 0) else undef)) rfl rfl (by decide) (by decide) rfl (by cases e5 <;> first | exact Or.inr ⟨Or.inl rfl, rfl⟩ | exact Or.inr ⟨Or.inr rfl, rfl⟩ | exact Or.inl ⟨rfl, r_lenSlice (ad := none) (n := 0) (cap := 0) Try.underlying22 rfl⟩) ?_
    refine WpL_guard_any (oj := _) (gv := (.bool e5)) (u := (bif e5 then (.bool true) else undef)) rfl rfl (by decide) (by decide) rfl (by cases e5 <;> first | exact Or.inr ⟨Or.inl rfl, rfl⟩ | exact Or.inr ⟨Or.inr rfl, rfl⟩ | exact Or.inl ⟨rfl, r_eql (k := .i64) (a := 0) (b := 0) rfl rfl⟩) ?_
    obtain ⟨e6, he6⟩ : ∃ e, (e5 || false) = e := ⟨_, rfl⟩
    refine WpL_val rfl rfl (by decide) (r_pick (b := e5) (v := .bool e6) rfl (by rw [← he6]; cases e5 <;> rfl)) ?_
    refine WpL_val rfl rfl (by decide) (r_assign (v := (.bool e6)) rfl) ?_
    refine WpL_nil ?_
    subst he6
    subst he5
    subst he4
    refine Wp_ret ?_
    refine thn_ret ?_
    refine fin_tmp Try.results3 (v := (.bool (((decide ((checkD b : Int) = checkD b)) || false) || false))) rfl ?_
    exact ⟨bool_eq (by simp), E⟩
theorem sames_c (w0 : World) (a b : Dfa) (av bv : List Value) (ha : DfaAt w0 a av) (hb : DfaAt w0 b bv) (h1 : checkD a = 0) (h2 : checkD b = 0) (h4 : colsD a ≠ colsD b) :
    Ret Try.prog 3 #[.agg av.toArray, .agg bv.toArray] w0 fun r w => r = .bool true ∧ Ext w0 w := by
  have h3 : errD a b = 3 := by unfold errD; rw [if_neg (by omega), if_neg (by omega), if_pos h4]
  have hS : ∀ w, DfaAt w a av → DfaAt w b bv → Ret Try.prog 11 #[.agg av.toArray, .agg bv.toArray] w fun r w' => r = .tuple #[.bool false, .slice none 0 0, .int .i64 3] ∧ Ext w w' := fun w g1 g2 => by
    have := same_bad w a b av bv g1 g2 (by omega)
    rwa [h3] at this
  obtain ⟨oka, hn, hc⟩ := okD_of_check h1
  obtain ⟨okb, hm, hcb⟩ := okD_of_check h2
  have hk : decide ((((colsD a : Nat) : Int) : Int) ≠ ((colsD b : Nat) : Int)) = true := decide_eq_true (by omega)
  obtain ⟨nb, no, nc, aa, ac, ra, rc, rfl, hcell⟩ := okD_row0 oka ha hn.1
  obtain ⟨nb2, no2, nc2, aa2, ac2, ra2, rc2, rfl, hcell2⟩ := okD_row0 okb hb hm.1
  refine Ret_of Try.func3 rfl Try.ntmps3 (Nat.le_of_ble_eq_true rfl) ?_
  have E : Chg none1 w0 w0 := Chg.refl _ _
  refine Wp_seq_region ?_
  refine s_box (v := (.agg #[(.int .i64 a.start), (.slice aa a.accept.length ac), (.slice (some ⟨nb, no, none⟩) a.next.length nc)])) (c := #[(.int .i64 a.start), (.slice aa a.accept.length ac), (.slice (some ⟨nb, no, none⟩) a.next.length nc)]) (by decide) rfl rfl ?_
  intro bp wp Np
  have Fp := Np.ge E
  replace E := E.ext Np.ext
  have Bp := Np.blk
  refine s_box (v := (.agg #[(.int .i64 b.start), (.slice aa2 b.accept.length ac2), (.slice (some ⟨nb2, no2, none⟩) b.next.length nc2)])) (c := #[(.int .i64 b.start), (.slice aa2 b.accept.length ac2), (.slice (some ⟨nb2, no2, none⟩) b.next.length nc2)]) (by decide) rfl rfl ?_
  intro bq wq Nq
  have Fq := Nq.ge E
  have Oq_bp := Nq.lt Bp
  replace Bp := Nq.keep Bp
  replace E := E.ext Nq.ext
  have Bq := Nq.blk
  refine WpL_val rfl rfl (by decide) (r_assign (v := (.bool false)) rfl) ?_
  refine WpL_nil ?_
  refine Wp_seq_region ?_
  refine WpL_val rfl rfl (by decide) (r_loadAgg (vs := [(.int .i64 a.start), (.slice aa a.accept.length ac), (.slice (some ⟨nb, no, none⟩) a.next.length nc)]) rfl agg25 siz25 rfl (Bp.cells rfl)) ?_
  refine WpL_val rfl rfl (by decide) (r_loadAgg (vs := [(.int .i64 b.start), (.slice aa2 b.accept.length ac2), (.slice (some ⟨nb2, no2, none⟩) b.next.length nc2)]) rfl agg25 siz25 rfl (Bq.cells rfl)) ?_
  refine WpL_enter rfl rfl (by decide) (r_callF (vs := [(.agg #[(.int .i64 a.start), (.slice aa a.accept.length ac), (.slice (some ⟨nb, no, none⟩) a.next.length nc)]), (.agg #[(.int .i64 b.start), (.slice aa2 b.accept.length ac2), (.slice (some ⟨nb2, no2, none⟩) b.next.length nc2)])]) Try.func11 nm11 bd11 rfl) (hS _ (ha.ext E) (hb.ext E)) ?_
  rintro _ w9 ⟨rfl, X9⟩
  replace Bp := X9.keep Bp
  replace Bq := X9.keep Bq
  replace E := E.ext X9
  refine WpL_val rfl rfl (by decide) (r_move (v := (.tuple #[(.bool false), (.slice none 0 0), (.int .i64 3)])) rfl) ?_
  refine WpL_val rfl rfl (by decide) (r_extract (vs := #[(.bool false), (.slice none 0 0), (.int .i64 3)]) (v := (.bool false)) rfl rfl) ?_
  refine WpL_val rfl rfl (by decide) (r_extract (vs := #[(.bool false), (.slice none 0 0), (.int .i64 3)]) (v := (.slice none 0 0)) rfl rfl) ?_
  refine WpL_val rfl rfl (by decide) (r_extract (vs := #[(.bool false), (.slice none 0 0), (.int .i64 3)]) (v := (.int .i64 3)) rfl rfl) ?_
  refine WpL_val rfl rfl (by decide) (r_assign (v := (.bool false)) rfl) ?_
  refine WpL_val rfl rfl (by decide) (r_assign (v := (.slice none 0 0)) rfl) ?_
  refine WpL_val rfl rfl (by decide) (r_assign (v := (.int .i64 3)) rfl) ?_
  refine WpL_nil ?_
  refine Wp_seq ?_
  refine Wp_seq_region ?_
  refine WpL_enter rfl rfl (by decide) (r_callF (vs := []) Try.func12 nm12 bd12 rfl) (mbegun1_c _) ?_
  rintro _ w19 ⟨rfl, X19⟩
  replace Bp := X19.keep Bp
  replace Bq := X19.keep Bq
  replace E := E.ext X19
  refine WpL_val rfl rfl (by decide) (r_not (b := true) rfl) ?_
  refine WpL_nil ?_
  refine Wp_cond_false rfl ?_
  refine Wp_skip ?_
  refine thn_normal ?_
  refine Wp_seq_region ?_
  refine WpL_val rfl rfl (by decide) (r_loadAgg (vs := [(.int .i64 a.start), (.slice aa a.accept.length ac), (.slice (some ⟨nb, no, none⟩) a.next.length nc)]) rfl agg25 siz25 rfl (Bp.cells rfl)) ?_
  refine WpL_enter rfl rfl (by decide) (r_callF (vs := [(.agg #[(.int .i64 a.start), (.slice aa a.accept.length ac), (.slice (some ⟨nb, no, none⟩) a.next.length nc)])]) Try.func13 nm13 bd13 rfl) (rcheck0_c _ a _ (ha.ext E) h1) ?_
  rintro _ w29 ⟨rfl, X29⟩
  replace Bp := X29.keep Bp
  replace Bq := X29.keep Bq
  replace E := E.ext X29
  refine WpL_val rfl rfl (by decide) (r_assign (v := (.int .i64 0)) rfl) ?_
  refine WpL_nil ?_
  refine Wp_seq ?_
  refine Wp_seq_region ?_
  refine WpL_val rfl rfl (by decide) (r_move (v := (.int .i64 0)) rfl) ?_
  refine WpL_val rfl rfl (by decide) (r_eql (k := .i64) (a := 0) (b := 0) rfl rfl) ?_
  refine WpL_nil ?_
  refine Wp_cond_true rfl ?_
  refine Wp_region ?_
  refine WpL_val rfl rfl (by decide) (r_loadAgg (vs := [(.int .i64 b.start), (.slice aa2 b.accept.length ac2), (.slice (some ⟨nb2, no2, none⟩) b.next.length nc2)]) rfl agg25 siz25 rfl (Bq.cells rfl)) ?_
  refine WpL_enter rfl rfl (by decide) (r_callF (vs := [(.agg #[(.int .i64 b.start), (.slice aa2 b.accept.length ac2), (.slice (some ⟨nb2, no2, none⟩) b.next.length nc2)])]) Try.func13 nm13 bd13 rfl) (rcheck0_c _ b _ (hb.ext E) h2) ?_
  rintro _ w39 ⟨rfl, X39⟩
  replace Bp := X39.keep Bp
  replace Bq := X39.keep Bq
  replace E := E.ext X39
  refine WpL_val rfl rfl (by decide) (r_assign (v := (.int .i64 0)) rfl) ?_
  refine WpL_nil ?_
  refine thn_normal ?_
  refine Wp_seq ?_
  have hz_1 : w0.heap.size ≤ w39.heap.size := E.size
  have lz_1_bp : bp < w39.heap.size := Bp.lt
  have lz_1_bq : bq < w39.heap.size := Bq.lt
  refine Wp_seq ?_
  obtain ⟨Fs1, hFs1⟩ : ∃ Fs : List FctS, Fs = [(fun _ _ v _ => v = (.int .i64 0)), (fun _ _ v _ => v = (.bool true)), (fun _ _ v _ => v = (.bool true)), (fun _ _ v _ => v = (.pointer (some ⟨bp, 2, none⟩))), (fun _ _ v _ => v = (.slice (some ⟨nb, no, none⟩) a.next.length nc)), (fun _ _ v _ => v = (.pointer (some ⟨nb, no + 0, none⟩))), (fun _ _ v _ => v = (.slice ra (colsD a) rc)), (fun _ _ v _ => v = (.int .i64 ((colsD a : Nat) : Int))), (fun _ _ v _ => v = (.pointer (some ⟨bq, 2, none⟩))), (fun _ _ v _ => v = (.slice (some ⟨nb2, no2, none⟩) b.next.length nc2)), (fun _ _ v _ => v = (.pointer (some ⟨nb2, no2 + 0, none⟩))), (fun _ _ v _ => v = (.slice ra2 (colsD b) rc2)), (fun _ _ v _ => v = (.int .i64 ((colsD b : Nat) : Int))), (fun _ _ v _ => v = (.bool true)), (fun _ _ v _ => v = (.bool true))] := ⟨_, rfl⟩
  refine Wp_dagS (MsL []) [true, true, true, true, true, true, true, true, true, true, true, true, true, true, true] [] [27, 28, 29, 30, 31, 32, 33, 34, 35, 36, 37, 38, 39, 40, 41] [[], [0], [1], [2], [2, 3], [2, 4], [2, 5], [2, 6], [2], [2, 8], [2, 9], [2, 10], [2, 11], [2, 7, 12], [2, 13]] [[], [0], [1, 0], [2, 1, 0], [2, 1, 0, 3], [2, 1, 0, 4, 3], [2, 1, 0, 5, 4, 3], [2, 1, 0, 6, 5, 4, 3], [2, 1, 0], [2, 1, 0, 8], [2, 1, 0, 9, 8], [2, 1, 0, 10, 9, 8], [2, 1, 0, 11, 10, 9, 8], [2, 1, 0, 7, 6, 5, 4, 3, 12, 11, 10, 9, 8], [2, 1, 0, 13, 7, 6, 5, 4, 3, 12, 11, 10, 9, 8]] Fs1 hFs1 (by kernel_rfl) mixed (by kernel_rfl) (by kernel_rfl) (by kernel_rfl) (by kernel_rfl) ?_ ?_
  · intro wd X0
    refine DagStepsS.cons (StabS.eq) (LocS.const) (fun S s' w' hi hN X U H => Or.inl ⟨Guarded_none rfl, ?_⟩) ?_
    · replace X := X.mono (M' := none1) (fun y _ h => by
          obtain ⟨j, hj, h⟩ := h
          exact h.elim)
      exact DoesT_pure (r_move (v := (.int .i64 0)) (U 8 rfl)) rfl
    refine DagStepsS.cons (StabS.eq) (LocS.const) (fun S s' w' hi hN X U H => Or.inl ⟨Guarded_none rfl, ?_⟩) ?_
    · replace X := X.mono (M' := none1) (fun y _ h => by
          obtain ⟨j, hj, h⟩ := h
          exact h.elim)
      have e27 : s' 27 = (.int .i64 0) := (H 0 rfl).2 27 (fun _ _ v _ => v = (.int .i64 0)) rfl (by rw [hFs1]; rfl)
      exact DoesT_pure (r_eql (k := .i64) (a := 0) (b := 0) e27 rfl) rfl
    refine DagStepsS.cons (StabS.eq) (LocS.const) (fun S s' w' hi hN X U H => Or.inl ⟨Guarded_none rfl, ?_⟩) ?_
    · replace X := X.mono (M' := none1) (fun y _ h => by
          obtain ⟨j, hj, h⟩ := h
          exact h.elim)
      have e28 : s' 28 = (.bool true) := (H 1 rfl).2 28 (fun _ _ v _ => v = (.bool true)) rfl (by rw [hFs1]; rfl)
      exact DoesT_pure (r_move (v := (.bool true)) e28) rfl
    refine DagStepsS.cons (StabS.eq) (LocS.const) (fun S s' w' hi hN X U H => Or.inl ⟨Guarded_some rfl rfl (d := 29) ((H 2 rfl).2 29 (fun _ _ v _ => v = (.bool true)) rfl (by rw [hFs1]; rfl)), ?_⟩) ?_
    · replace X := X.mono (M' := none1) (fun y _ h => by
          obtain ⟨j, hj, h⟩ := h
          exact h.elim)
      exact DoesT_pure (r_fieldAddr (b := bp) (o := 0) (o' := 2) (U 2 rfl) Try.underlying25 rfl siz23 rfl) rfl
    refine DagStepsS.cons (StabS.eq) (LocS.const) (fun S s' w' hi hN X U H => Or.inl ⟨Guarded_some rfl rfl (d := 29) ((H 2 rfl).2 29 (fun _ _ v _ => v = (.bool true)) rfl (by rw [hFs1]; rfl)), ?_⟩) ?_
    · replace X := X.mono (M' := none1) (fun y _ h => by
          obtain ⟨j, hj, h⟩ := h
          exact h.elim)
      have e30 : s' 30 = (.pointer (some ⟨bp, 2, none⟩)) := (H 3 rfl).2 30 (fun _ _ v _ => v = (.pointer (some ⟨bp, 2, none⟩))) rfl (by rw [hFs1]; rfl)
      exact DoesT_pure (r_load (v := (.slice (some ⟨nb, no, none⟩) a.next.length nc)) e30 flat23 (((X0.trans X).keep Bp).cell rfl)) rfl
    refine DagStepsS.cons (StabS.eq) (LocS.const) (fun S s' w' hi hN X U H => Or.inl ⟨Guarded_some rfl rfl (d := 29) ((H 2 rfl).2 29 (fun _ _ v _ => v = (.bool true)) rfl (by rw [hFs1]; rfl)), ?_⟩) ?_
    · replace X := X.mono (M' := none1) (fun y _ h => by
          obtain ⟨j, hj, h⟩ := h
          exact h.elim)
      have e31 : s' 31 = (.slice (some ⟨nb, no, none⟩) a.next.length nc) := (H 4 rfl).2 31 (fun _ _ v _ => v = (.slice (some ⟨nb, no, none⟩) a.next.length nc)) rfl (by rw [hFs1]; rfl)
      exact DoesT_pure (r_indexSlice (b := nb) (o := no) (len := a.next.length) (cap := nc) (i := 0) (o' := no + 0) e31 rfl rfl Try.underlying23 siz22 (by omega) (by omega)) rfl
    refine DagStepsS.cons (StabS.eq) (LocS.const) (fun S s' w' hi hN X U H => Or.inl ⟨Guarded_some rfl rfl (d := 29) ((H 2 rfl).2 29 (fun _ _ v _ => v = (.bool true)) rfl (by rw [hFs1]; rfl)), ?_⟩) ?_
    · replace X := X.mono (M' := none1) (fun y _ h => by
          obtain ⟨j, hj, h⟩ := h
          exact h.elim)
      have e32 : s' 32 = (.pointer (some ⟨nb, no + 0, none⟩)) := (H 5 rfl).2 32 (fun _ _ v _ => v = (.pointer (some ⟨nb, no + 0, none⟩))) rfl (by rw [hFs1]; rfl)
      exact DoesT_pure (r_load (v := (.slice ra (colsD a) rc)) e32 flat22 ((Ext.trans E (X0.trans X)).cell hcell)) rfl
    refine DagStepsS.cons (StabS.eq) (LocS.const) (fun S s' w' hi hN X U H => Or.inl ⟨Guarded_some rfl rfl (d := 29) ((H 2 rfl).2 29 (fun _ _ v _ => v = (.bool true)) rfl (by rw [hFs1]; rfl)), ?_⟩) ?_
    · replace X := X.mono (M' := none1) (fun y _ h => by
          obtain ⟨j, hj, h⟩ := h
          exact h.elim)
      have e33 : s' 33 = (.slice ra (colsD a) rc) := (H 6 rfl).2 33 (fun _ _ v _ => v = (.slice ra (colsD a) rc)) rfl (by rw [hFs1]; rfl)
      exact DoesT_pure (r_lenSlice (ad := ra) (n := colsD a) (cap := rc) Try.underlying22 e33) rfl
    refine DagStepsS.cons (StabS.eq) (LocS.const) (fun S s' w' hi hN X U H => Or.inl ⟨Guarded_some rfl rfl (d := 29) ((H 2 rfl).2 29 (fun _ _ v _ => v = (.bool true)) rfl (by rw [hFs1]; rfl)), ?_⟩) ?_
    · replace X := X.mono (M' := none1) (fun y _ h => by
          obtain ⟨j, hj, h⟩ := h
          exact h.elim)
      exact DoesT_pure (r_fieldAddr (b := bq) (o := 0) (o' := 2) (U 3 rfl) Try.underlying25 rfl siz23 rfl) rfl
    refine DagStepsS.cons (StabS.eq) (LocS.const) (fun S s' w' hi hN X U H => Or.inl ⟨Guarded_some rfl rfl (d := 29) ((H 2 rfl).2 29 (fun _ _ v _ => v = (.bool true)) rfl (by rw [hFs1]; rfl)), ?_⟩) ?_
    · replace X := X.mono (M' := none1) (fun y _ h => by
          obtain ⟨j, hj, h⟩ := h
          exact h.elim)
      have e35 : s' 35 = (.pointer (some ⟨bq, 2, none⟩)) := (H 8 rfl).2 35 (fun _ _ v _ => v = (.pointer (some ⟨bq, 2, none⟩))) rfl (by rw [hFs1]; rfl)
      exact DoesT_pure (r_load (v := (.slice (some ⟨nb2, no2, none⟩) b.next.length nc2)) e35 flat23 (((X0.trans X).keep Bq).cell rfl)) rfl
    refine DagStepsS.cons (StabS.eq) (LocS.const) (fun S s' w' hi hN X U H => Or.inl ⟨Guarded_some rfl rfl (d := 29) ((H 2 rfl).2 29 (fun _ _ v _ => v = (.bool true)) rfl (by rw [hFs1]; rfl)), ?_⟩) ?_
    · replace X := X.mono (M' := none1) (fun y _ h => by
          obtain ⟨j, hj, h⟩ := h
          exact h.elim)
      have e36 : s' 36 = (.slice (some ⟨nb2, no2, none⟩) b.next.length nc2) := (H 9 rfl).2 36 (fun _ _ v _ => v = (.slice (some ⟨nb2, no2, none⟩) b.next.length nc2)) rfl (by rw [hFs1]; rfl)
      exact DoesT_pure (r_indexSlice (b := nb2) (o := no2) (len := b.next.length) (cap := nc2) (i := 0) (o' := no2 + 0) e36 rfl rfl Try.underlying23 siz22 (by omega) (by omega)) rfl
    refine DagStepsS.cons (StabS.eq) (LocS.const) (fun S s' w' hi hN X U H => Or.inl ⟨Guarded_some rfl rfl (d := 29) ((H 2 rfl).2 29 (fun _ _ v _ => v = (.bool true)) rfl (by rw [hFs1]; rfl)), ?_⟩) ?_
    · replace X := X.mono (M' := none1) (fun y _ h => by
          obtain ⟨j, hj, h⟩ := h
          exact h.elim)
      have e37 : s' 37 = (.pointer (some ⟨nb2, no2 + 0, none⟩)) := (H 10 rfl).2 37 (fun _ _ v _ => v = (.pointer (some ⟨nb2, no2 + 0, none⟩))) rfl (by rw [hFs1]; rfl)
      exact DoesT_pure (r_load (v := (.slice ra2 (colsD b) rc2)) e37 flat22 ((Ext.trans E (X0.trans X)).cell hcell2)) rfl
    refine DagStepsS.cons (StabS.eq) (LocS.const) (fun S s' w' hi hN X U H => Or.inl ⟨Guarded_some rfl rfl (d := 29) ((H 2 rfl).2 29 (fun _ _ v _ => v = (.bool true)) rfl (by rw [hFs1]; rfl)), ?_⟩) ?_
    · replace X := X.mono (M' := none1) (fun y _ h => by
          obtain ⟨j, hj, h⟩ := h
          exact h.elim)
      have e38 : s' 38 = (.slice ra2 (colsD b) rc2) := (H 11 rfl).2 38 (fun _ _ v _ => v = (.slice ra2 (colsD b) rc2)) rfl (by rw [hFs1]; rfl)
      exact DoesT_pure (r_lenSlice (ad := ra2) (n := colsD b) (cap := rc2) Try.underlying22 e38) rfl
    refine DagStepsS.cons (StabS.eq) (LocS.const) (fun S s' w' hi hN X U H => Or.inl ⟨Guarded_some rfl rfl (d := 29) ((H 2 rfl).2 29 (fun _ _ v _ => v = (.bool true)) rfl (by rw [hFs1]; rfl)), ?_⟩) ?_
    · replace X := X.mono (M' := none1) (fun y _ h => by
          obtain ⟨j, hj, h⟩ := h
          exact h.elim)
      have e34 : s' 34 = (.int .i64 ((colsD a : Nat) : Int)) := (H 7 rfl).2 34 (fun _ _ v _ => v = (.int .i64 ((colsD a : Nat) : Int))) rfl (by rw [hFs1]; rfl)
      have e39 : s' 39 = (.int .i64 ((colsD b : Nat) : Int)) := (H 12 rfl).2 39 (fun _ _ v _ => v = (.int .i64 ((colsD b : Nat) : Int))) rfl (by rw [hFs1]; rfl)
      exact DoesT_pure (Eq.trans (r_neq (k := .i64) (a := ((colsD a : Nat) : Int)) (b := ((colsD b : Nat) : Int)) e34 e39) (by rw [hk])) rfl
    refine DagStepsS.cons (StabS.eq) (LocS.const) (fun S s' w' hi hN X U H => Or.inl ⟨Guarded_none rfl, ?_⟩) ?_
    · replace X := X.mono (M' := none1) (fun y _ h => by
          obtain ⟨j, hj, h⟩ := h
          exact h.elim)
      have e29 : s' 29 = (.bool true) := (H 2 rfl).2 29 (fun _ _ v _ => v = (.bool true)) rfl (by rw [hFs1]; rfl)
      have e40 : s' 40 = (.bool true) := (H 13 rfl).2 40 (fun _ _ v _ => v = (.bool true)) rfl (by rw [hFs1]; rfl)
      exact DoesT_pure (r_pick (b := true) (v := (.bool true)) e29 e40) rfl
    exact DagStepsS.nil
  · intro s' wd1 w1 X0 X1 U H
    replace X1 := X1.mono (M' := none1) (fun y _ h => by
        obtain ⟨j, hj, h⟩ := h
        exact h.elim)
    have e41 : s' 41 = (.bool true) := H 14 rfl 41 (fun _ _ v _ => v = (.bool true)) rfl (by rw [hFs1]; rfl)
    obtain ⟨j1, rfl⟩ := Fits.out (σ := s') (l := [(2, (.pointer (some ⟨bp, 0, none⟩))), (3, (.pointer (some ⟨bq, 0, none⟩))), (5, (.bool false)), (6, (.slice none 0 0)), (7, (.int .i64 3)), (8, (.int .i64 0)), (41, (.bool true))]) ⟨U 2 rfl, U 3 rfl, U 5 rfl, U 6 rfl, U 7 rfl, U 8 rfl, e41, trivial⟩
    clear U H
    replace Bp := (X0.trans X1).keep Bp
    replace Bq := (X0.trans X1).keep Bq
    replace X1 := X0.trans X1
    replace E := E.ext X1
    refine WpL_nil ?_
    refine thn_normal ?_
    refine Wp_cond_true rfl ?_
    refine Wp_region ?_
    refine WpL_val rfl rfl (by decide) (r_assign (v := (.int .i64 3)) rfl) ?_
    refine WpL_nil ?_
    refine thn_normal ?_
    refine Wp_seq ?_
    refine Wp_seq_region ?_
    refine WpL_val rfl rfl (by decide) (r_move (v := (.int .i64 3)) rfl) ?_
    refine WpL_val rfl rfl (by decide) (r_neq (k := .i64) (a := 3) (b := 0) rfl rfl) ?_
    refine WpL_nil ?_
    refine Wp_cond_true rfl ?_
    refine Wp_seq_region ?_
    refine WpL_val rfl rfl (by decide) (r_move (v := (.int .i64 3)) rfl) ?_
    refine WpL_val rfl rfl (by decide) (r_move (v := (.int .i64 3)) rfl) ?_
    refine WpL_val rfl rfl (by decide) (r_eql (k := .i64) (a := 3) (b := 3) rfl rfl) ?_
    refine WpL_val rfl rfl (by decide) (r_move (v := (.bool true)) rfl) ?_
    refine WpL_guard_yes (oj := _) rfl rfl (by decide) rfl ?_
    refine WpL_val rfl rfl (by decide) (r_move (v := (.bool false)) rfl) ?_
    refine WpL_guard_yes (oj := _) rfl rfl (by decide) rfl ?_
    refine WpL_val rfl rfl (by decide) (r_not (b := false) rfl) ?_
    refine WpL_val rfl rfl (by decide) (r_pick (b := true) (v := (.bool true)) rfl rfl) ?_
    refine WpL_val rfl rfl (by decide) (r_move (v := (.bool true)) rfl) ?_
    refine WpL_guard_yes (oj := _) rfl rfl (by decide) rfl ?_
    refine WpL_val rfl rfl (by decide) (r_move (v := (.slice none 0 0)) rfl) ?_
    refine WpL_guard_yes (oj := _) rfl rfl (by decide) rfl ?_
    refine WpL_val rfl rfl (by decide) (r_lenSlice (ad := none) (n := 0) (cap := 0) Try.underlying22 rfl) ?_
    refine WpL_guard_yes (oj := _) rfl rfl (by decide) rfl ?_
    refine WpL_val rfl rfl (by decide) (r_eql (k := .i64) (a := 0) (b := 0) rfl rfl) ?_
    refine WpL_val rfl rfl (by decide) (r_pick (b := true) (v := (.bool true)) rfl rfl) ?_
    refine WpL_val rfl rfl (by decide) (r_assign (v := (.bool true)) rfl) ?_
    refine WpL_nil ?_
    refine Wp_ret ?_
    refine thn_ret ?_
    refine fin_tmp Try.results3 (v := (.bool true)) rfl ?_
    exact ⟨bool_eq (by simp), E⟩
set_option maxHeartbeats 8000000 in
theorem sames_d (w0 : World) (a b : Dfa) (av bv : List Value) (ha : DfaAt w0 a av) (hb : DfaAt w0 b bv) (h1 : checkD a = 0) (h2 : checkD b = 0) (h4 : colsD a = colsD b) :
    Ret Try.prog 3 #[.agg av.toArray, .agg bv.toArray] w0 fun r w => r = .bool true ∧ Ext w0 w := by
  obtain ⟨oka, hn, hc⟩ := okD_of_check h1
  obtain ⟨okb, hm, hcb⟩ := okD_of_check h2
  obtain ⟨c, hce⟩ : ∃ c, c = colsD a := ⟨_, rfl⟩
  rw [← h4, ← hce] at okb
  rw [← hce] at oka hc
  have hk : decide ((((c : Nat) : Int) : Int) ≠ ((c : Nat) : Int)) = false := decide_eq_false (by omega)
  obtain ⟨nb, no, nc, aa, ac, ra, rc, rfl, hcell⟩ := okD_row0 oka ha hn.1
  obtain ⟨nb2, no2, nc2, aa2, ac2, ra2, rc2, rfl, hcell2⟩ := okD_row0 okb hb hm.1
  refine Ret_of Try.func3 rfl Try.ntmps3 (Nat.le_of_ble_eq_true rfl) ?_
  have E : Chg none1 w0 w0 := Chg.refl _ _
  refine Wp_seq_region ?_
  refine s_box (v := (.agg #[(.int .i64 a.start), (.slice aa a.accept.length ac), (.slice (some ⟨nb, no, none⟩) a.next.length nc)])) (c := #[(.int .i64 a.start), (.slice aa a.accept.length ac), (.slice (some ⟨nb, no, none⟩) a.next.length nc)]) (by decide) rfl rfl ?_
  intro bp wp Np
  have Fp := Np.ge E
  replace E := E.ext Np.ext
  have Bp := Np.blk
  refine s_box (v := (.agg #[(.int .i64 b.start), (.slice aa2 b.accept.length ac2), (.slice (some ⟨nb2, no2, none⟩) b.next.length nc2)])) (c := #[(.int .i64 b.start), (.slice aa2 b.accept.length ac2), (.slice (some ⟨nb2, no2, none⟩) b.next.length nc2)]) (by decide) rfl rfl ?_
  intro bq wq Nq
  have Fq := Nq.ge E
  have Oq_bp := Nq.lt Bp
  replace Bp := Nq.keep Bp
  replace E := E.ext Nq.ext
  have Bq := Nq.blk
  refine WpL_val rfl rfl (by decide) (r_assign (v := (.bool false)) rfl) ?_
  refine WpL_nil ?_
  refine Wp_seq_region ?_
  refine WpL_val rfl rfl (by decide) (r_loadAgg (vs := [(.int .i64 a.start), (.slice aa a.accept.length ac), (.slice (some ⟨nb, no, none⟩) a.next.length nc)]) rfl agg25 siz25 rfl (Bp.cells rfl)) ?_
  refine WpL_val rfl rfl (by decide) (r_loadAgg (vs := [(.int .i64 b.start), (.slice aa2 b.accept.length ac2), (.slice (some ⟨nb2, no2, none⟩) b.next.length nc2)]) rfl agg25 siz25 rfl (Bq.cells rfl)) ?_
  refine WpL_enter rfl rfl (by decide) (r_callF (vs := [(.agg #[(.int .i64 a.start), (.slice aa a.accept.length ac), (.slice (some ⟨nb, no, none⟩) a.next.length nc)]), (.agg #[(.int .i64 b.start), (.slice aa2 b.accept.length ac2), (.slice (some ⟨nb2, no2, none⟩) b.next.length nc2)])]) Try.func11 nm11 bd11 rfl) (same_d _ a.next.length b.next.length c a b _ _ oka okb (ha.ext E) (hb.ext E) hc hn hm) ?_
  rintro _ w9 ⟨⟨ok, wl, wa, wc, rfl, hW, hS, hwl⟩, X9⟩
  replace Bp := X9.keep Bp
  replace Bq := X9.keep Bq
  replace E := E.ext X9
  refine WpL_val rfl rfl (by decide) (r_move (v := (.tuple #[(.bool ok), (.slice wa wl.length wc), (.int .i64 0)])) rfl) ?_
  refine WpL_val rfl rfl (by decide) (r_extract (vs := #[(.bool ok), (.slice wa wl.length wc), (.int .i64 0)]) (v := (.bool ok)) rfl rfl) ?_
  refine WpL_val rfl rfl (by decide) (r_extract (vs := #[(.bool ok), (.slice wa wl.length wc), (.int .i64 0)]) (v := (.slice wa wl.length wc)) rfl rfl) ?_
  refine WpL_val rfl rfl (by decide) (r_extract (vs := #[(.bool ok), (.slice wa wl.length wc), (.int .i64 0)]) (v := (.int .i64 0)) rfl rfl) ?_
  refine WpL_val rfl rfl (by decide) (r_assign (v := (.bool ok)) rfl) ?_
  refine WpL_val rfl rfl (by decide) (r_assign (v := (.slice wa wl.length wc)) rfl) ?_
  refine WpL_val rfl rfl (by decide) (r_assign (v := (.int .i64 0)) rfl) ?_
  refine WpL_nil ?_
  refine Wp_seq ?_
  refine Wp_seq_region ?_
  refine WpL_enter rfl rfl (by decide) (r_callF (vs := []) Try.func12 nm12 bd12 rfl) (mbegun1_c _) ?_
  rintro _ w19 ⟨rfl, X19⟩
  replace Bp := X19.keep Bp
  replace Bq := X19.keep Bq
  replace hW := hW.ext X19
  replace E := E.ext X19
  refine WpL_val rfl rfl (by decide) (r_not (b := true) rfl) ?_
  refine WpL_nil ?_
  refine Wp_cond_false rfl ?_
  refine Wp_skip ?_
  refine thn_normal ?_
  refine Wp_seq_region ?_
  refine WpL_val rfl rfl (by decide) (r_loadAgg (vs := [(.int .i64 a.start), (.slice aa a.accept.length ac), (.slice (some ⟨nb, no, none⟩) a.next.length nc)]) rfl agg25 siz25 rfl (Bp.cells rfl)) ?_
  refine WpL_enter rfl rfl (by decide) (r_callF (vs := [(.agg #[(.int .i64 a.start), (.slice aa a.accept.length ac), (.slice (some ⟨nb, no, none⟩) a.next.length nc)])]) Try.func13 nm13 bd13 rfl) (rcheck0_c _ a _ (ha.ext E) h1) ?_
  rintro _ w29 ⟨rfl, X29⟩
  replace Bp := X29.keep Bp
  replace Bq := X29.keep Bq
  replace hW := hW.ext X29
  replace E := E.ext X29
  refine WpL_val rfl rfl (by decide) (r_assign (v := (.int .i64 0)) rfl) ?_
  refine WpL_nil ?_
  refine Wp_seq ?_
  refine Wp_seq_region ?_
  refine WpL_val rfl rfl (by decide) (r_move (v := (.int .i64 0)) rfl) ?_
  refine WpL_val rfl rfl (by decide) (r_eql (k := .i64) (a := 0) (b := 0) rfl rfl) ?_
  refine WpL_nil ?_
  refine Wp_cond_true rfl ?_
  refine Wp_region ?_
  refine WpL_val rfl rfl (by decide) (r_loadAgg (vs := [(.int .i64 b.start), (.slice aa2 b.accept.length ac2), (.slice (some ⟨nb2, no2, none⟩) b.next.length nc2)]) rfl agg25 siz25 rfl (Bq.cells rfl)) ?_
  refine WpL_enter rfl rfl (by decide) (r_callF (vs := [(.agg #[(.int .i64 b.start), (.slice aa2 b.accept.length ac2), (.slice (some ⟨nb2, no2, none⟩) b.next.length nc2)])]) Try.func13 nm13 bd13 rfl) (rcheck0_c _ b _ (hb.ext E) h2) ?_
  rintro _ w39 ⟨rfl, X39⟩
  replace Bp := X39.keep Bp
  replace Bq := X39.keep Bq
  replace hW := hW.ext X39
  replace E := E.ext X39
  refine WpL_val rfl rfl (by decide) (r_assign (v := (.int .i64 0)) rfl) ?_
  refine WpL_nil ?_
  refine thn_normal ?_
  refine Wp_seq ?_
  have hz_1 : w0.heap.size ≤ w39.heap.size := E.size
  have lz_1_bp : bp < w39.heap.size := Bp.lt
  have lz_1_bq : bq < w39.heap.size := Bq.lt
  refine Wp_seq ?_
  obtain ⟨Fs1, hFs1⟩ : ∃ Fs : List FctS, Fs = [(fun _ _ v _ => v = (.int .i64 0)), (fun _ _ v _ => v = (.bool true)), (fun _ _ v _ => v = (.bool true)), (fun _ _ v _ => v = (.pointer (some ⟨bp, 2, none⟩))), (fun _ _ v _ => v = (.slice (some ⟨nb, no, none⟩) a.next.length nc)), (fun _ _ v _ => v = (.pointer (some ⟨nb, no + 0, none⟩))), (fun _ _ v _ => v = (.slice ra c rc)), (fun _ _ v _ => v = (.int .i64 ((c : Nat) : Int))), (fun _ _ v _ => v = (.pointer (some ⟨bq, 2, none⟩))), (fun _ _ v _ => v = (.slice (some ⟨nb2, no2, none⟩) b.next.length nc2)), (fun _ _ v _ => v = (.pointer (some ⟨nb2, no2 + 0, none⟩))), (fun _ _ v _ => v = (.slice ra2 c rc2)), (fun _ _ v _ => v = (.int .i64 ((c : Nat) : Int))), (fun _ _ v _ => v = (.bool false)), (fun _ _ v _ => v = (.bool false))] := ⟨_, rfl⟩
  refine Wp_dagS (MsL []) [true, true, true, true, true, true, true, true, true, true, true, true, true, true, true] [] [27, 28, 29, 30, 31, 32, 33, 34, 35, 36, 37, 38, 39, 40, 41] [[], [0], [1], [2], [2, 3], [2, 4], [2, 5], [2, 6], [2], [2, 8], [2, 9], [2, 10], [2, 11], [2, 7, 12], [2, 13]] [[], [0], [1, 0], [2, 1, 0], [2, 1, 0, 3], [2, 1, 0, 4, 3], [2, 1, 0, 5, 4, 3], [2, 1, 0, 6, 5, 4, 3], [2, 1, 0], [2, 1, 0, 8], [2, 1, 0, 9, 8], [2, 1, 0, 10, 9, 8], [2, 1, 0, 11, 10, 9, 8], [2, 1, 0, 7, 6, 5, 4, 3, 12, 11, 10, 9, 8], [2, 1, 0, 13, 7, 6, 5, 4, 3, 12, 11, 10, 9, 8]] Fs1 hFs1 (by kernel_rfl) mixed (by kernel_rfl) (by kernel_rfl) (by kernel_rfl) (by kernel_rfl) ?_ ?_
  · intro wd X0
    refine DagStepsS.cons (StabS.eq) (LocS.const) (fun S s' w' hi hN X U H => Or.inl ⟨Guarded_none rfl, ?_⟩) ?_
    · replace X := X.mono (M' := none1) (fun y _ h => by
          obtain ⟨j, hj, h⟩ := h
          exact h.elim)
      exact DoesT_pure (r_move (v := (.int .i64 0)) (U 8 rfl)) rfl
    refine DagStepsS.cons (StabS.eq) (LocS.const) (fun S s' w' hi hN X U H => Or.inl ⟨Guarded_none rfl, ?_⟩) ?_
    · replace X := X.mono (M' := none1) (fun y _ h => by
          obtain ⟨j, hj, h⟩ := h
          exact h.elim)
      have e27 : s' 27 = (.int .i64 0) := (H 0 rfl).2 27 (fun _ _ v _ => v = (.int .i64 0)) rfl (by rw [hFs1]; rfl)
      exact DoesT_pure (r_eql (k := .i64) (a := 0) (b := 0) e27 rfl) rfl
    refine DagStepsS.cons (StabS.eq) (LocS.const) (fun S s' w' hi hN X U H => Or.inl ⟨Guarded_none rfl, ?_⟩) ?_
    · replace X := X.mono (M' := none1) (fun y _ h => by
          obtain ⟨j, hj, h⟩ := h
          exact h.elim)
      have e28 : s' 28 = (.bool true) := (H 1 rfl).2 28 (fun _ _ v _ => v = (.bool true)) rfl (by rw [hFs1]; rfl)
      exact DoesT_pure (r_move (v := (.bool true)) e28) rfl
    refine DagStepsS.cons (StabS.eq) (LocS.const) (fun S s' w' hi hN X U H => Or.inl ⟨Guarded_some rfl rfl (d := 29) ((H 2 rfl).2 29 (fun _ _ v _ => v = (.bool true)) rfl (by rw [hFs1]; rfl)), ?_⟩) ?_
    · replace X := X.mono (M' := none1) (fun y _ h => by
          obtain ⟨j, hj, h⟩ := h
          exact h.elim)
      exact DoesT_pure (r_fieldAddr (b := bp) (o := 0) (o' := 2) (U 2 rfl) Try.underlying25 rfl siz23 rfl) rfl
    refine DagStepsS.cons (StabS.eq) (LocS.const) (fun S s' w' hi hN X U H => Or.inl ⟨Guarded_some rfl rfl (d := 29) ((H 2 rfl).2 29 (fun _ _ v _ => v = (.bool true)) rfl (by rw [hFs1]; rfl)), ?_⟩) ?_
    · replace X := X.mono (M' := none1) (fun y _ h => by
          obtain ⟨j, hj, h⟩ := h
          exact h.elim)
      have e30 : s' 30 = (.pointer (some ⟨bp, 2, none⟩)) := (H 3 rfl).2 30 (fun _ _ v _ => v = (.pointer (some ⟨bp, 2, none⟩))) rfl (by rw [hFs1]; rfl)
      exact DoesT_pure (r_load (v := (.slice (some ⟨nb, no, none⟩) a.next.length nc)) e30 flat23 (((X0.trans X).keep Bp).cell rfl)) rfl
    refine DagStepsS.cons (StabS.eq) (LocS.const) (fun S s' w' hi hN X U H => Or.inl ⟨Guarded_some rfl rfl (d := 29) ((H 2 rfl).2 29 (fun _ _ v _ => v = (.bool true)) rfl (by rw [hFs1]; rfl)), ?_⟩) ?_
    · replace X := X.mono (M' := none1) (fun y _ h => by
          obtain ⟨j, hj, h⟩ := h
          exact h.elim)
      have e31 : s' 31 = (.slice (some ⟨nb, no, none⟩) a.next.length nc) := (H 4 rfl).2 31 (fun _ _ v _ => v = (.slice (some ⟨nb, no, none⟩) a.next.length nc)) rfl (by rw [hFs1]; rfl)
      exact DoesT_pure (r_indexSlice (b := nb) (o := no) (len := a.next.length) (cap := nc) (i := 0) (o' := no + 0) e31 rfl rfl Try.underlying23 siz22 (by omega) (by omega)) rfl
    refine DagStepsS.cons (StabS.eq) (LocS.const) (fun S s' w' hi hN X U H => Or.inl ⟨Guarded_some rfl rfl (d := 29) ((H 2 rfl).2 29 (fun _ _ v _ => v = (.bool true)) rfl (by rw [hFs1]; rfl)), ?_⟩) ?_
    · replace X := X.mono (M' := none1) (fun y _ h => by
          obtain ⟨j, hj, h⟩ := h
          exact h.elim)
      have e32 : s' 32 = (.pointer (some ⟨nb, no + 0, none⟩)) := (H 5 rfl).2 32 (fun _ _ v _ => v = (.pointer (some ⟨nb, no + 0, none⟩))) rfl (by rw [hFs1]; rfl)
      exact DoesT_pure (r_load (v := (.slice ra c rc)) e32 flat22 ((Ext.trans E (X0.trans X)).cell hcell)) rfl
    refine DagStepsS.cons (StabS.eq) (LocS.const) (fun S s' w' hi hN X U H => Or.inl ⟨Guarded_some rfl rfl (d := 29) ((H 2 rfl).2 29 (fun _ _ v _ => v = (.bool true)) rfl (by rw [hFs1]; rfl)), ?_⟩) ?_
    · replace X := X.mono (M' := none1) (fun y _ h => by
          obtain ⟨j, hj, h⟩ := h
          exact h.elim)
      have e33 : s' 33 = (.slice ra c rc) := (H 6 rfl).2 33 (fun _ _ v _ => v = (.slice ra c rc)) rfl (by rw [hFs1]; rfl)
      exact DoesT_pure (r_lenSlice (ad := ra) (n := c) (cap := rc) Try.underlying22 e33) rfl
    refine DagStepsS.cons (StabS.eq) (LocS.const) (fun S s' w' hi hN X U H => Or.inl ⟨Guarded_some rfl rfl (d := 29) ((H 2 rfl).2 29 (fun _ _ v _ => v = (.bool true)) rfl (by rw [hFs1]; rfl)), ?_⟩) ?_
    · replace X := X.mono (M' := none1) (fun y _ h => by
          obtain ⟨j, hj, h⟩ := h
          exact h.elim)
      exact DoesT_pure (r_fieldAddr (b := bq) (o := 0) (o' := 2) (U 3 rfl) Try.underlying25 rfl siz23 rfl) rfl
    refine DagStepsS.cons (StabS.eq) (LocS.const) (fun S s' w' hi hN X U H => Or.inl ⟨Guarded_some rfl rfl (d := 29) ((H 2 rfl).2 29 (fun _ _ v _ => v = (.bool true)) rfl (by rw [hFs1]; rfl)), ?_⟩) ?_
    · replace X := X.mono (M' := none1) (fun y _ h => by
          obtain ⟨j, hj, h⟩ := h
          exact h.elim)
      have e35 : s' 35 = (.pointer (some ⟨bq, 2, none⟩)) := (H 8 rfl).2 35 (fun _ _ v _ => v = (.pointer (some ⟨bq, 2, none⟩))) rfl (by rw [hFs1]; rfl)
      exact DoesT_pure (r_load (v := (.slice (some ⟨nb2, no2, none⟩) b.next.length nc2)) e35 flat23 (((X0.trans X).keep Bq).cell rfl)) rfl
    refine DagStepsS.cons (StabS.eq) (LocS.const) (fun S s' w' hi hN X U H => Or.inl ⟨Guarded_some rfl rfl (d := 29) ((H 2 rfl).2 29 (fun _ _ v _ => v = (.bool true)) rfl (by rw [hFs1]; rfl)), ?_⟩) ?_
    · replace X := X.mono (M' := none1) (fun y _ h => by
          obtain ⟨j, hj, h⟩ := h
          exact h.elim)
      have e36 : s' 36 = (.slice (some ⟨nb2, no2, none⟩) b.next.length nc2) := (H 9 rfl).2 36 (fun _ _ v _ => v = (.slice (some ⟨nb2, no2, none⟩) b.next.length nc2)) rfl (by rw [hFs1]; rfl)
      exact DoesT_pure (r_indexSlice (b := nb2) (o := no2) (len := b.next.length) (cap := nc2) (i := 0) (o' := no2 + 0) e36 rfl rfl Try.underlying23 siz22 (by omega) (by omega)) rfl
    refine DagStepsS.cons (StabS.eq) (LocS.const) (fun S s' w' hi hN X U H => Or.inl ⟨Guarded_some rfl rfl (d := 29) ((H 2 rfl).2 29 (fun _ _ v _ => v = (.bool true)) rfl (by rw [hFs1]; rfl)), ?_⟩) ?_
    · replace X := X.mono (M' := none1) (fun y _ h => by
          obtain ⟨j, hj, h⟩ := h
          exact h.elim)
      have e37 : s' 37 = (.pointer (some ⟨nb2, no2 + 0, none⟩)) := (H 10 rfl).2 37 (fun _ _ v _ => v = (.pointer (some ⟨nb2, no2 + 0, none⟩))) rfl (by rw [hFs1]; rfl)
      exact DoesT_pure (r_load (v := (.slice ra2 c rc2)) e37 flat22 ((Ext.trans E (X0.trans X)).cell hcell2)) rfl
    refine DagStepsS.cons (StabS.eq) (LocS.const) (fun S s' w' hi hN X U H => Or.inl ⟨Guarded_some rfl rfl (d := 29) ((H 2 rfl).2 29 (fun _ _ v _ => v = (.bool true)) rfl (by rw [hFs1]; rfl)), ?_⟩) ?_
    · replace X := X.mono (M' := none1) (fun y _ h => by
          obtain ⟨j, hj, h⟩ := h
          exact h.elim)
      have e38 : s' 38 = (.slice ra2 c rc2) := (H 11 rfl).2 38 (fun _ _ v _ => v = (.slice ra2 c rc2)) rfl (by rw [hFs1]; rfl)
      exact DoesT_pure (r_lenSlice (ad := ra2) (n := c) (cap := rc2) Try.underlying22 e38) rfl
    refine DagStepsS.cons (StabS.eq) (LocS.const) (fun S s' w' hi hN X U H => Or.inl ⟨Guarded_some rfl rfl (d := 29) ((H 2 rfl).2 29 (fun _ _ v _ => v = (.bool true)) rfl (by rw [hFs1]; rfl)), ?_⟩) ?_
    · replace X := X.mono (M' := none1) (fun y _ h => by
          obtain ⟨j, hj, h⟩ := h
          exact h.elim)
      have e34 : s' 34 = (.int .i64 ((c : Nat) : Int)) := (H 7 rfl).2 34 (fun _ _ v _ => v = (.int .i64 ((c : Nat) : Int))) rfl (by rw [hFs1]; rfl)
      have e39 : s' 39 = (.int .i64 ((c : Nat) : Int)) := (H 12 rfl).2 39 (fun _ _ v _ => v = (.int .i64 ((c : Nat) : Int))) rfl (by rw [hFs1]; rfl)
      exact DoesT_pure (Eq.trans (r_neq (k := .i64) (a := ((c : Nat) : Int)) (b := ((c : Nat) : Int)) e34 e39) (by rw [hk])) rfl
    refine DagStepsS.cons (StabS.eq) (LocS.const) (fun S s' w' hi hN X U H => Or.inl ⟨Guarded_none rfl, ?_⟩) ?_
    · replace X := X.mono (M' := none1) (fun y _ h => by
          obtain ⟨j, hj, h⟩ := h
          exact h.elim)
      have e29 : s' 29 = (.bool true) := (H 2 rfl).2 29 (fun _ _ v _ => v = (.bool true)) rfl (by rw [hFs1]; rfl)
      have e40 : s' 40 = (.bool false) := (H 13 rfl).2 40 (fun _ _ v _ => v = (.bool false)) rfl (by rw [hFs1]; rfl)
      exact DoesT_pure (r_pick (b := true) (v := (.bool false)) e29 e40) rfl
    exact DagStepsS.nil
  · intro s' wd1 w1 X0 X1 U H
    replace X1 := X1.mono (M' := none1) (fun y _ h => by
        obtain ⟨j, hj, h⟩ := h
        exact h.elim)
    have e41 : s' 41 = (.bool false) := H 14 rfl 41 (fun _ _ v _ => v = (.bool false)) rfl (by rw [hFs1]; rfl)
    obtain ⟨j1, rfl⟩ := Fits.out (σ := s') (l := [(2, (.pointer (some ⟨bp, 0, none⟩))), (3, (.pointer (some ⟨bq, 0, none⟩))), (5, (.bool ok)), (6, (.slice wa wl.length wc)), (7, (.int .i64 0)), (8, (.int .i64 0)), (41, (.bool false))]) ⟨U 2 rfl, U 3 rfl, U 5 rfl, U 6 rfl, U 7 rfl, U 8 rfl, e41, trivial⟩
    clear U H
    replace Bp := (X0.trans X1).keep Bp
    replace Bq := (X0.trans X1).keep Bq
    replace hW := hW.ext (X0.trans X1)
    replace X1 := X0.trans X1
    replace E := E.ext X1
    refine WpL_nil ?_
    refine thn_normal ?_
    refine Wp_cond_false rfl ?_
    refine Wp_skip ?_
    refine thn_normal ?_
    refine Wp_seq ?_
    refine Wp_seq_region ?_
    refine WpL_val rfl rfl (by decide) (r_move (v := (.int .i64 0)) rfl) ?_
    refine WpL_val rfl rfl (by decide) (r_neq (k := .i64) (a := 0) (b := 0) rfl rfl) ?_
    refine WpL_nil ?_
    refine Wp_cond_false rfl ?_
    refine Wp_skip ?_
    refine thn_normal ?_
    refine Wp_seq ?_
    refine Wp_seq_region ?_
    refine WpL_val rfl rfl (by decide) (r_loadAgg (vs := [(.int .i64 a.start), (.slice aa a.accept.length ac), (.slice (some ⟨nb, no, none⟩) a.next.length nc)]) rfl agg25 siz25 rfl (Bp.cells rfl)) ?_
    refine WpL_enter rfl rfl (by decide) (r_callF (vs := [(.agg #[(.int .i64 a.start), (.slice aa a.accept.length ac), (.slice (some ⟨nb, no, none⟩) a.next.length nc)])]) Try.func14 nm14 bd14 rfl) (rsmall_c _ a _ (ha.ext E)) ?_
    rintro _ w49 ⟨rfl, X49⟩
    replace Bp := X49.keep Bp
    replace Bq := X49.keep Bq
    replace hW := hW.ext X49
    replace E := E.ext X49
    refine WpL_val rfl rfl (by decide) (r_not (b := decide (((a.next.length : Nat) : Int) ≤ 12)) rfl) ?_
    refine WpL_val rfl rfl (by decide) (r_move (v := (.bool (!(decide (((a.next.length : Nat) : Int) ≤ 12))))) rfl) ?_
    rcases Bool.eq_false_or_eq_true (!(decide (((a.next.length : Nat) : Int) ≤ 12))) with hsa | hsa
    · have khsa := hsa
      refine WpL_guard_no (oj := _) rfl rfl (by decide) (v := .bool true) (congrArg Value.bool hsa) (Or.inl rfl) ?_
      refine WpL_guard_no (oj := _) rfl rfl (by decide) (v := .bool true) (congrArg Value.bool hsa) (Or.inl rfl) ?_
      refine WpL_guard_no (oj := _) rfl rfl (by decide) (v := .bool true) (congrArg Value.bool hsa) (Or.inl rfl) ?_
      refine WpL_val rfl rfl (by decide) (r_pick (b := !(decide (((a.next.length : Nat) : Int) ≤ 12))) (v := (.bool true)) rfl (by rw [hsa]; rfl)) ?_
      refine WpL_nil ?_
      refine Wp_cond_true rfl ?_
      refine Wp_seq_region ?_
      refine WpL_val rfl rfl (by decide) (r_assign (v := (.bool true)) rfl) ?_
      refine WpL_nil ?_
      refine Wp_ret ?_
      refine thn_ret ?_
      refine fin_tmp Try.results3 (v := (.bool true)) rfl ?_
      exact ⟨rfl, E⟩
    · have khsa := hsa
      refine WpL_guard_yes (oj := _) rfl rfl (by decide) (congrArg Value.bool hsa) ?_
      refine WpL_val rfl rfl (by decide) (r_loadAgg (vs := [(.int .i64 b.start), (.slice aa2 b.accept.length ac2), (.slice (some ⟨nb2, no2, none⟩) b.next.length nc2)]) rfl agg25 siz25 rfl (Bq.cells rfl)) ?_
      refine WpL_guard_yes (oj := _) rfl rfl (by decide) (congrArg Value.bool hsa) ?_
      refine WpL_enter rfl rfl (by decide) (r_callF (vs := [(.agg #[(.int .i64 b.start), (.slice aa2 b.accept.length ac2), (.slice (some ⟨nb2, no2, none⟩) b.next.length nc2)])]) Try.func14 nm14 bd14 rfl) (rsmall_c _ b _ (hb.ext E)) ?_
      rintro _ w59 ⟨rfl, X59⟩
      replace Bp := X59.keep Bp
      replace Bq := X59.keep Bq
      replace hW := hW.ext X59
      replace E := E.ext X59
      refine WpL_guard_yes (oj := _) rfl rfl (by decide) (congrArg Value.bool hsa) ?_
      refine WpL_val rfl rfl (by decide) (r_not (b := decide (((b.next.length : Nat) : Int) ≤ 12)) rfl) ?_
      refine WpL_val rfl rfl (by decide) (r_pick (b := !(decide (((a.next.length : Nat) : Int) ≤ 12))) (v := (.bool (!(decide (((b.next.length : Nat) : Int) ≤ 12))))) rfl (by rw [hsa]; rfl)) ?_
      refine WpL_nil ?_
      refine Wp_cond (b := !(decide (((b.next.length : Nat) : Int) ≤ 12))) rfl (fun hsb => ?_) (fun hsb => ?_)
      · have khsb := hsb
        replace hsb := by simpa using hsb
        refine Wp_seq_region ?_
        refine WpL_val rfl rfl (by decide) (r_assign (v := (.bool true)) rfl) ?_
        refine WpL_nil ?_
        refine Wp_ret ?_
        refine thn_ret ?_
        refine fin_tmp Try.results3 (v := (.bool true)) rfl ?_
        exact ⟨rfl, E⟩
      · have khsb := hsb
        replace hsb := by simpa using hsb
        have hrun : RunOf c a b ok wl := hS.run
        have hrl : ok = true → wl = [] := fun h => (hS.yes h).1
        refine Wp_skip ?_
        refine thn_normal ?_
        refine Wp_seq_region ?_
        refine WpL_val rfl rfl (by decide) (r_makeFunc (vs := []) (us := [(.pointer (some ⟨bp, 0, none⟩)), (.pointer (some ⟨bq, 0, none⟩))]) rfl rfl) ?_
        refine WpL_val rfl rfl (by decide) (r_assign (v := (.func (.func 15) #[] #[(.pointer (some ⟨bp, 0, none⟩)), (.pointer (some ⟨bq, 0, none⟩))])) rfl) ?_
        refine WpL_nil ?_
        have hz_4 : w0.heap.size ≤ w59.heap.size := E.size
        have lz_4_bp : bp < w59.heap.size := Bp.lt
        have lz_4_bq : bq < w59.heap.size := Bq.lt
        refine Wp_seq ?_
        obtain ⟨Fs4, hFs4⟩ : ∃ Fs : List FctS, Fs = [(fun _ _ v _ => v = (.pointer (some ⟨bp, 2, none⟩))), (fun _ _ v _ => v = (.slice (some ⟨nb, no, none⟩) a.next.length nc)), (fun _ _ v _ => v = (.pointer (some ⟨nb, no + 0, none⟩))), (fun _ _ v _ => v = (.slice ra c rc)), (fun _ _ v _ => v = (.int .i64 ((c : Nat) : Int))), (fun _ _ v _ => v = (.pointer (some ⟨bp, 0, none⟩))), (fun _ _ v _ => v = (.int .i64 a.start)), (fun _ _ v _ => v = (.pointer (some ⟨bq, 0, none⟩))), (fun _ _ v _ => v = (.int .i64 b.start)), (fun _ _ => litF2 TDI (.int .i64 a.start) (.int .i64 b.start)), (fun _ _ v _ => v = (.func (.func 15) #[] #[(.pointer (some ⟨bp, 0, none⟩)), (.pointer (some ⟨bq, 0, none⟩))])), (fun _ _ v _ => v = (.func (.func 17) #[] #[(.pointer (some ⟨bp, 0, none⟩)), (.pointer (some ⟨bq, 0, none⟩))])), (fun _ _ => shortF ok wl), (fun _ _ => shortF ok wl), (fun _ _ => wordF wl), (fun _ _ v _ => v = (.bool (!ok))), (fun _ _ => wordF wl), (fun _ _ v _ => v = undef)] := ⟨_, rfl⟩
        refine Wp_dagS (MsL []) [true, true, true, true, true, true, true, true, true, true, true, true, true, true, true, true, true, false] [17] [66, 67, 68, 69, 70, 71, 72, 73, 74, 75, 76, 77, 78, 65, 79, 80, 10, 111] [[], [0], [1], [2], [3], [], [5], [], [7], [6, 8], [], [], [4, 9, 10, 11], [12], [13], [13], [0, 1, 2, 3, 4, 5, 6, 7, 8, 9, 10, 11, 12, 13, 14], []] [[], [0], [1, 0], [2, 1, 0], [3, 2, 1, 0], [], [5], [], [7], [6, 5, 8, 7], [], [], [4, 3, 2, 1, 0, 9, 6, 5, 8, 7, 10, 11], [12, 4, 3, 2, 1, 0, 9, 6, 5, 8, 7, 10, 11], [13, 12, 4, 3, 2, 1, 0, 9, 6, 5, 8, 7, 10, 11], [13, 12, 4, 3, 2, 1, 0, 9, 6, 5, 8, 7, 10, 11], [0, 1, 2, 3, 4, 5, 6, 7, 8, 9, 10, 11, 12, 13, 14], []] Fs4 hFs4 (by kernel_rfl) mixed (by kernel_rfl) (by kernel_rfl) (by kernel_rfl) (by kernel_rfl) ?_ ?_
        · intro wd X0
          refine DagStepsS.cons (StabS.eq) (LocS.const) (fun S s' w' hi hN X U H => Or.inl ⟨Guarded_none rfl, ?_⟩) ?_
          · replace X := X.mono (M' := none1) (fun y _ h => by
                obtain ⟨j, hj, h⟩ := h
                exact h.elim)
            exact DoesT_pure (r_fieldAddr (b := bp) (o := 0) (o' := 2) (U 2 rfl) Try.underlying25 rfl siz23 rfl) rfl
          refine DagStepsS.cons (StabS.eq) (LocS.const) (fun S s' w' hi hN X U H => Or.inl ⟨Guarded_none rfl, ?_⟩) ?_
          · replace X := X.mono (M' := none1) (fun y _ h => by
                obtain ⟨j, hj, h⟩ := h
                exact h.elim)
            have e66 : s' 66 = (.pointer (some ⟨bp, 2, none⟩)) := (H 0 rfl).2 66 (fun _ _ v _ => v = (.pointer (some ⟨bp, 2, none⟩))) rfl (by rw [hFs4]; rfl)
            exact DoesT_pure (r_load (v := (.slice (some ⟨nb, no, none⟩) a.next.length nc)) e66 flat23 (((X0.trans X).keep Bp).cell rfl)) rfl
          refine DagStepsS.cons (StabS.eq) (LocS.const) (fun S s' w' hi hN X U H => Or.inl ⟨Guarded_none rfl, ?_⟩) ?_
          · replace X := X.mono (M' := none1) (fun y _ h => by
                obtain ⟨j, hj, h⟩ := h
                exact h.elim)
            have e67 : s' 67 = (.slice (some ⟨nb, no, none⟩) a.next.length nc) := (H 1 rfl).2 67 (fun _ _ v _ => v = (.slice (some ⟨nb, no, none⟩) a.next.length nc)) rfl (by rw [hFs4]; rfl)
            exact DoesT_pure (r_indexSlice (b := nb) (o := no) (len := a.next.length) (cap := nc) (i := 0) (o' := no + 0) e67 rfl rfl Try.underlying23 siz22 (by omega) (by omega)) rfl
          refine DagStepsS.cons (StabS.eq) (LocS.const) (fun S s' w' hi hN X U H => Or.inl ⟨Guarded_none rfl, ?_⟩) ?_
          · replace X := X.mono (M' := none1) (fun y _ h => by
                obtain ⟨j, hj, h⟩ := h
                exact h.elim)
            have e68 : s' 68 = (.pointer (some ⟨nb, no + 0, none⟩)) := (H 2 rfl).2 68 (fun _ _ v _ => v = (.pointer (some ⟨nb, no + 0, none⟩))) rfl (by rw [hFs4]; rfl)
            exact DoesT_pure (r_load (v := (.slice ra c rc)) e68 flat22 ((Ext.trans E (X0.trans X)).cell hcell)) rfl
          refine DagStepsS.cons (StabS.eq) (LocS.const) (fun S s' w' hi hN X U H => Or.inl ⟨Guarded_none rfl, ?_⟩) ?_
          · replace X := X.mono (M' := none1) (fun y _ h => by
                obtain ⟨j, hj, h⟩ := h
                exact h.elim)
            have e69 : s' 69 = (.slice ra c rc) := (H 3 rfl).2 69 (fun _ _ v _ => v = (.slice ra c rc)) rfl (by rw [hFs4]; rfl)
            exact DoesT_pure (r_lenSlice (ad := ra) (n := c) (cap := rc) Try.underlying22 e69) rfl
          refine DagStepsS.cons (StabS.eq) (LocS.const) (fun S s' w' hi hN X U H => Or.inl ⟨Guarded_none rfl, ?_⟩) ?_
          · replace X := X.mono (M' := none1) (fun y _ h => by
                obtain ⟨j, hj, h⟩ := h
                exact h.elim)
            exact DoesT_pure (r_fieldAddr (b := bp) (o := 0) (o' := 0) (U 2 rfl) Try.underlying25 rfl siz3 rfl) rfl
          refine DagStepsS.cons (StabS.eq) (LocS.const) (fun S s' w' hi hN X U H => Or.inl ⟨Guarded_none rfl, ?_⟩) ?_
          · replace X := X.mono (M' := none1) (fun y _ h => by
                obtain ⟨j, hj, h⟩ := h
                exact h.elim)
            have e71 : s' 71 = (.pointer (some ⟨bp, 0, none⟩)) := (H 5 rfl).2 71 (fun _ _ v _ => v = (.pointer (some ⟨bp, 0, none⟩))) rfl (by rw [hFs4]; rfl)
            exact DoesT_pure (r_load (v := (.int .i64 a.start)) e71 flat3 (((X0.trans X).keep Bp).cell rfl)) rfl
          refine DagStepsS.cons (StabS.eq) (LocS.const) (fun S s' w' hi hN X U H => Or.inl ⟨Guarded_none rfl, ?_⟩) ?_
          · replace X := X.mono (M' := none1) (fun y _ h => by
                obtain ⟨j, hj, h⟩ := h
                exact h.elim)
            exact DoesT_pure (r_fieldAddr (b := bq) (o := 0) (o' := 0) (U 3 rfl) Try.underlying25 rfl siz3 rfl) rfl
          refine DagStepsS.cons (StabS.eq) (LocS.const) (fun S s' w' hi hN X U H => Or.inl ⟨Guarded_none rfl, ?_⟩) ?_
          · replace X := X.mono (M' := none1) (fun y _ h => by
                obtain ⟨j, hj, h⟩ := h
                exact h.elim)
            have e73 : s' 73 = (.pointer (some ⟨bq, 0, none⟩)) := (H 7 rfl).2 73 (fun _ _ v _ => v = (.pointer (some ⟨bq, 0, none⟩))) rfl (by rw [hFs4]; rfl)
            exact DoesT_pure (r_load (v := (.int .i64 b.start)) e73 flat3 (((X0.trans X).keep Bq).cell rfl)) rfl
          refine DagStepsS.cons (StabS.chg (U := none1) (litF2_ext _ _ _) (fun p y hp hw h => by
                exact h.elim)) (LocS.const) (fun S s' w' hi hN X U H => Or.inl ⟨Guarded_none rfl, ?_⟩) ?_
          · replace X := X.mono (M' := none1) (fun y _ h => by
                obtain ⟨j, hj, h⟩ := h
                exact h.elim)
            have e72 : s' 72 = (.int .i64 a.start) := (H 6 rfl).2 72 (fun _ _ v _ => v = (.int .i64 a.start)) rfl (by rw [hFs4]; rfl)
            have e74 : s' 74 = (.int .i64 b.start) := (H 8 rfl).2 74 (fun _ _ v _ => v = (.int .i64 b.start)) rfl (by rw [hFs4]; rfl)
            exact DoesT_lit2 Try.underlying22 siz3 zer3 e72 e74 (by decide) (by decide) (by kernel_rfl)
          refine DagStepsS.cons (StabS.eq) (LocS.const) (fun S s' w' hi hN X U H => Or.inl ⟨Guarded_none rfl, ?_⟩) ?_
          · replace X := X.mono (M' := none1) (fun y _ h => by
                obtain ⟨j, hj, h⟩ := h
                exact h.elim)
            exact DoesT_pure (r_move (v := (.func (.func 15) #[] #[(.pointer (some ⟨bp, 0, none⟩)), (.pointer (some ⟨bq, 0, none⟩))])) (U 9 rfl)) rfl
          refine DagStepsS.cons (StabS.eq) (LocS.const) (fun S s' w' hi hN X U H => Or.inl ⟨Guarded_none rfl, ?_⟩) ?_
          · replace X := X.mono (M' := none1) (fun y _ h => by
                obtain ⟨j, hj, h⟩ := h
                exact h.elim)
            exact DoesT_pure (r_makeFunc (vs := []) (us := [(.pointer (some ⟨bp, 0, none⟩)), (.pointer (some ⟨bq, 0, none⟩))]) rfl (lst2 (U 2 rfl) (U 3 rfl))) rfl
          refine DagStepsS.cons (StabS.chg (U := none1) (shortF_ext _ _) (fun p y hp hw h => by
                exact h.elim)) (LocS.const) (fun S s' w' hi hN X U H => Or.inl ⟨Guarded_none rfl, ?_⟩) ?_
          · replace X := X.mono (M' := none1) (fun y _ h => by
                obtain ⟨j, hj, h⟩ := h
                exact h.elim)
            have e70 : s' 70 = (.int .i64 ((c : Nat) : Int)) := (H 4 rfl).2 70 (fun _ _ v _ => v = (.int .i64 ((c : Nat) : Int))) rfl (by rw [hFs4]; rfl)
            obtain ⟨g75, e75, B75⟩ := (show ((fun _ _ => litF2 TDI (.int .i64 a.start) (.int .i64 b.start)) : FctS) S s' (s' 75) w' from (H 9 rfl).2 75 (fun _ _ => litF2 TDI (.int .i64 a.start) (.int .i64 b.start)) rfl (by rw [hFs4]; rfl))
            have e76 : s' 76 = (.func (.func 15) #[] #[(.pointer (some ⟨bp, 0, none⟩)), (.pointer (some ⟨bq, 0, none⟩))]) := (H 10 rfl).2 76 (fun _ _ v _ => v = (.func (.func 15) #[] #[(.pointer (some ⟨bp, 0, none⟩)), (.pointer (some ⟨bq, 0, none⟩))])) rfl (by rw [hFs4]; rfl)
            have e77 : s' 77 = (.func (.func 17) #[] #[(.pointer (some ⟨bp, 0, none⟩)), (.pointer (some ⟨bq, 0, none⟩))]) := (H 11 rfl).2 77 (fun _ _ v _ => v = (.func (.func 17) #[] #[(.pointer (some ⟨bp, 0, none⟩)), (.pointer (some ⟨bq, 0, none⟩))])) rfl (by rw [hFs4]; rfl)
            exact DoesT_callE (r_callF (vs := [(.int .i64 ((c : Nat) : Int)), (.slice (some ⟨g75, 0, none⟩) 2 2), (.func (.func 15) #[] #[(.pointer (some ⟨bp, 0, none⟩)), (.pointer (some ⟨bq, 0, none⟩))]), (.func (.func 17) #[] #[(.pointer (some ⟨bp, 0, none⟩)), (.pointer (some ⟨bq, 0, none⟩))])]) Try.func16 nm16 bd16 (lst4 e70 e75 e76 e77)) ((short_c _ a.next.length b.next.length c a b oka okb (some ⟨g75, 0, none⟩) 2 _ _ (ints_own (l := [a.start, b.start]) (rest := []) B75 (by simp) (by simp)) hc hn hm (fun w s p x hE hs hp hx => CallV.mk (first := #[]) (cap := #[.pointer (some ⟨bp, 0, none⟩), .pointer (some ⟨bq, 0, none⟩)]) Try.func15 nm15 bd15 rfl (next9_c w a.next.length b.next.length c a b _ _ bp bq oka okb (ha.ext (Ext.trans E ((X0.trans X).trans hE))) (hb.ext (Ext.trans E ((X0.trans X).trans hE))) (((X0.trans X).trans hE).keep Bp) (((X0.trans X).trans hE).keep Bq) s p x hs hp ⟨hn.1, hm.1⟩ hx)) (fun w s p hE hs hp => CallV.mk (first := #[]) (cap := #[.pointer (some ⟨bp, 0, none⟩), .pointer (some ⟨bq, 0, none⟩)]) Try.func17 nm17 bd17 rfl (stop9_c w a.next.length b.next.length c a b _ _ bp bq oka okb (ha.ext (Ext.trans E ((X0.trans X).trans hE))) (hb.ext (Ext.trans E ((X0.trans X).trans hE))) (((X0.trans X).trans hE).keep Bp) (((X0.trans X).trans hE).keep Bq) s p hs hp))).mono (fun v w h => by obtain ⟨⟨ok9, l9, ad, cc, h5, h6, h7, h8⟩, h9⟩ := h; obtain ⟨e5, e6⟩ := RunOf.uniq hrun h7 hrl h8; subst e5 e6; exact ⟨⟨ad, cc, h5, h6⟩, h9⟩))
          refine DagStepsS.cons (StabS.chg (U := none1) (shortF_ext _ _) (fun p y hp hw h => by
                exact h.elim)) (LocS.const) (fun S s' w' hi hN X U H => Or.inl ⟨Guarded_none rfl, ?_⟩) ?_
          · replace X := X.mono (M' := none1) (fun y _ h => by
                obtain ⟨j, hj, h⟩ := h
                exact h.elim)
            exact DoesT_pure (r_move (v := s' 78) rfl) ((H 12 rfl).2 78 (fun _ _ => shortF ok wl) rfl (by rw [hFs4]; rfl))
          refine DagStepsS.cons (StabS.chg (U := none1) (wordF_ext _) (fun p y hp hw h => by
                exact h.elim)) (LocS.const) (fun S s' w' hi hN X U H => Or.inl ⟨Guarded_none rfl, ?_⟩) ?_
          · replace X := X.mono (M' := none1) (fun y _ h => by
                obtain ⟨j, hj, h⟩ := h
                exact h.elim)
            obtain ⟨ad65, cc65, e65, i65⟩ := (show ((fun _ _ => shortF ok wl) : FctS) S s' (s' 65) w' from (H 13 rfl).2 65 (fun _ _ => shortF ok wl) rfl (by rw [hFs4]; rfl))
            exact DoesT_pure (r_extract (vs := #[.slice ad65 wl.length cc65, .bool (!ok)]) (v := .slice ad65 wl.length cc65) e65 rfl) ⟨ad65, cc65, rfl, i65⟩
          refine DagStepsS.cons (StabS.eq) (LocS.const) (fun S s' w' hi hN X U H => Or.inl ⟨Guarded_none rfl, ?_⟩) ?_
          · replace X := X.mono (M' := none1) (fun y _ h => by
                obtain ⟨j, hj, h⟩ := h
                exact h.elim)
            obtain ⟨ad65, cc65, e65, i65⟩ := (show ((fun _ _ => shortF ok wl) : FctS) S s' (s' 65) w' from (H 13 rfl).2 65 (fun _ _ => shortF ok wl) rfl (by rw [hFs4]; rfl))
            exact DoesT_pure (r_extract (vs := #[.slice ad65 wl.length cc65, .bool (!ok)]) (v := .bool (!ok)) e65 rfl) rfl
          refine DagStepsS.cons (StabS.chg (U := none1) (wordF_ext _) (fun p y hp hw h => by
                exact h.elim)) (LocS.const) (fun S s' w' hi hN X U H => Or.inl ⟨Guarded_none rfl, ?_⟩) ?_
          · replace X := X.mono (M' := none1) (fun y _ h => by
                obtain ⟨j, hj, h⟩ := h
                exact h.elim)
            exact DoesT_pure (r_assign (v := s' 79) rfl) ((H 14 rfl).2 79 (fun _ _ => wordF wl) rfl (by rw [hFs4]; rfl))
          refine DagStepsS.tail ?_
          exact DagStepsS.nil
        · intro s' wd4 w4 X0 X4 U H
          replace X4 := X4.mono (M' := none1) (fun y _ h => by
              obtain ⟨j, hj, h⟩ := h
              exact h.elim)
          have e80 : s' 80 = (.bool (!ok)) := H 15 rfl 80 (fun _ _ v _ => v = (.bool (!ok))) rfl (by rw [hFs4]; rfl)
          obtain ⟨ad10, cc10, e10, i10⟩ := (show ((fun _ _ => wordF wl) : FctS) (allS [true, true, true, true, true, true, true, true, true, true, true, true, true, true, true, true, true, false]) s' (s' 10) w4 from H 16 rfl 10 (fun _ _ => wordF wl) rfl (by rw [hFs4]; rfl))
          obtain ⟨j4, rfl⟩ := Fits.out (σ := s') (l := [(5, (.bool ok)), (6, (.slice wa wl.length wc)), (7, (.int .i64 0)), (80, (.bool (!ok))), (10, (.slice ad10 wl.length cc10))]) ⟨U 5 rfl, U 6 rfl, U 7 rfl, e80, e10, trivial⟩
          clear U H
          replace Bp := (X0.trans X4).keep Bp
          replace Bq := (X0.trans X4).keep Bq
          replace hW := hW.ext (X0.trans X4)
          replace X4 := X0.trans X4
          replace E := E.ext X4
          refine WpL_val rfl rfl (by decide) (r_assign (v := (.bool (!ok))) rfl) ?_
          refine WpL_nil ?_
          refine thn_normal ?_
          refine Wp_seq_region ?_
          refine WpL_val rfl rfl (by decide) (r_move (v := (.int .i64 0)) rfl) ?_
          refine WpL_val rfl rfl (by decide) (r_eql (k := .i64) (a := 0) (b := 0) rfl rfl) ?_
          refine WpL_val rfl rfl (by decide) (r_move (v := (.bool true)) rfl) ?_
          refine WpL_guard_yes (oj := _) rfl rfl (by decide) rfl ?_
          refine WpL_val rfl rfl (by decide) (r_move (v := (.bool ok)) rfl) ?_
          refine WpL_guard_yes (oj := _) rfl rfl (by decide) rfl ?_
          refine WpL_val rfl rfl (by decide) (r_move (v := (.bool (!ok))) rfl) ?_
          refine WpL_guard_yes (oj := _) rfl rfl (by decide) rfl ?_
          refine WpL_val rfl rfl (by decide) (r_not (b := !ok) rfl) ?_
          refine WpL_guard_yes (oj := _) rfl rfl (by decide) rfl ?_
          refine WpL_val rfl rfl (by decide) (r_eqlB (p := ok) (q := !(!ok)) Try.underlying4 rfl rfl) ?_
          refine WpL_val rfl rfl (by decide) (r_pick (b := true) (v := (.bool (ok == (!(!ok))))) rfl rfl) ?_
          refine WpL_val rfl rfl (by decide) (r_move (v := (.bool (ok == (!(!ok))))) rfl) ?_
          have hg5 : (ok == (!(!ok))) = true := by cases ok <;> rfl
          refine WpL_guard_yes (oj := _) rfl rfl (by decide) (congrArg Value.bool hg5) ?_
          refine WpL_val rfl rfl (by decide) (r_move (v := (.slice wa wl.length wc)) rfl) ?_
          refine WpL_guard_yes (oj := _) rfl rfl (by decide) (congrArg Value.bool hg5) ?_
          refine WpL_val rfl rfl (by decide) (r_move (v := (.slice ad10 wl.length cc10)) rfl) ?_
          refine WpL_guard_yes (oj := _) rfl rfl (by decide) (congrArg Value.bool hg5) ?_
          refine WpL_enter rfl rfl (by decide) (r_callF (vs := [(.slice wa wl.length wc), (.slice ad10 wl.length cc10)]) Try.func19 nm19 bd19 rfl) (reqi_c _ _ _ (toI wl) (toI wl) hW i10) ?_
          rintro _ w69 ⟨rfl, X69⟩
          replace Bp := X69.keep Bp
          replace Bq := X69.keep Bq
          replace hW := hW.ext X69
          replace E := E.ext X69
          refine WpL_val rfl rfl (by decide) (r_pick (b := ok == (!(!ok))) (v := (.bool (decide (toI wl = toI wl)))) rfl (by rw [hg5]; rfl)) ?_
          refine WpL_val rfl rfl (by decide) (r_assign (v := (.bool (decide (toI wl = toI wl)))) rfl) ?_
          refine WpL_nil ?_
          refine Wp_ret ?_
          refine fin_tmp Try.results3 (v := (.bool (decide (toI wl = toI wl)))) rfl ?_
          exact ⟨bool_eq (by simp), E⟩
theorem sames_e (w0 : World) (a b : Dfa) (av bv : List Value) (ha : DfaAt w0 a av) (hb : DfaAt w0 b bv) :
    Ret Try.prog 3 #[.agg av.toArray, .agg bv.toArray] w0 fun r w => r = .bool true ∧ Ext w0 w := by
  by_cases h1 : checkD a = 0
  · by_cases h2 : checkD b = 0
    · by_cases h4 : colsD a = colsD b
      · exact sames_d w0 a b av bv ha hb h1 h2 h4
      · exact sames_c w0 a b av bv ha hb h1 h2 h4
    · exact sames_b w0 a b av bv ha hb h1 h2
  · exact sames_a w0 a b av bv ha hb h1
end Go.Proofs
namespace Go.Proofs
open Go Go.Eng
set_option maxRecDepth 100000
section
variable {H : Type} {enc : TypeId × Value → H} {P : Program} {w : World} {base : Nat} {spare : Nat → Bool} {held : Bool}
theorem cells_at {a : Addr} {k : Nat} {cs : List Value} (hk : 0 < k) (h : w.cells? base a k = some cs) : ∃ b o, a = ⟨b, o, none⟩ ∧ cs.length = k ∧ CellsAt w b o cs := by
  obtain ⟨h1, h2, h3⟩ := World.cells?_some h
  obtain ⟨b, o, s⟩ := a
  have hlen : cs.length = k := by first | exact h2 | exact h1 | omega
  have h0 := h3 0 (by omega)
  have hs : s = none := by
    cases s with
    | none => rfl
    | some s =>
      exfalso
      have hc : ∃ v, w.cell? ⟨b, o, some s⟩ = some v := ⟨_, by simpa [Addr.add, List.getElem?_eq_getElem (show 0 < cs.length by omega)] using h0⟩
      obtain ⟨v, hv⟩ := hc
      simp [World.cell?] at hv
      cases hh : w.heap[b]? <;> simp [hh] at hv
      split at hv <;> simp at hv
  subst hs
  refine ⟨b, o, rfl, hlen, fun i v hv => ?_⟩
  have := h3 i (by have := lt_of_get hv; omega)
  rw [Addr.add_lit] at this
  rw [this, hv]
theorem rows_map {α : Type} {f : α → List Value} : ∀ {rows : List (List Value)}, (∀ r ∈ rows, ∃ y, r = f y) → ∃ l : List α, rows = l.map f
  | [], _ => ⟨[], rfl⟩
  | r :: rows, h => by
    obtain ⟨y, hy⟩ := h r (by simp)
    obtain ⟨l, hl⟩ := rows_map (rows := rows) (f := f) fun r' hr' => h r' (List.mem_cons_of_mem _ hr')
    exact ⟨y :: l, by rw [hy, hl]; rfl⟩
/-- A slice, if each of its elements is read. -/
theorem open_rows {t e k fuel : Nat} {cs : List Value} {x : DataW H × List MemPlace} {R : List Value → Prop} (ht : P.underlying t = some (.slice e)) (hc : P.cellsOf e = k) (hk : 0 < k)
    (h : DataW.trod enc P w base spare held fuel t cs = some x) (hR : ∀ n cs' y, n < fuel → DataW.trod enc P w base spare held n e cs' = some y → R cs') :
    ∃ a rows cap, cs = [.slice a rows.length cap] ∧ SlAt w k (.slice a rows.length cap) rows ∧ (∀ r ∈ rows, R r ∧ r.length = k) ∧ rows.length ≤ cap ∧ cap ≤ maxLen := by
  rcases DataW.trod_slice ht h with ⟨rfl, _⟩ | ⟨a, len, cap, elems, rest, n, rfl, rfl, _, hb, hl, hm, hlen, hel, _, _⟩
  · exact ⟨none, [], 0, rfl, SlAt.nil _ _ _ _, by simp, by simp, by simp [maxLen]⟩
  · have each : ∀ i, i < len → ∃ cs', w.cells? base (a.add (i * k)) k = some cs' ∧ R cs' := by
      intro i hi
      have := hel i hi
      rw [List.getElem?_eq_getElem (by omega), hc, Option.bind_eq_some_iff] at this
      obtain ⟨cs', h1, h2⟩ := this
      exact ⟨cs', h1, hR n cs' _ (by omega) h2⟩
    have fam : ∀ m, m ≤ len → ∃ rows : List (List Value), rows.length = m ∧ ∀ i r, rows[i]? = some r → w.cells? base (a.add (i * k)) k = some r ∧ R r := by
      intro m
      induction m with
      | zero => intro _; exact ⟨[], rfl, by simp⟩
      | succ m ih =>
        intro hm
        obtain ⟨rows, h1, h2⟩ := ih (by omega)
        obtain ⟨cs', h3, h4⟩ := each m (by omega)
        refine ⟨rows ++ [cs'], by simp [h1], fun i r hr => ?_⟩
        rcases Nat.lt_or_ge i rows.length with hi | hi
        · rw [List.getElem?_append_left hi] at hr; exact h2 i r hr
        · rw [List.getElem?_append_right hi] at hr
          have hi' := lt_of_get hr
          simp at hi'
          obtain rfl : i = m := by omega
          simp [h1] at hr
          subst hr
          exact ⟨h3, h4⟩
    obtain ⟨rows, hrl, hrows⟩ := fam len (Nat.le_refl _)
    have hmax : rows.length ≤ 9223372036854775807 := by simp only [maxLen] at hm; omega
    refine ⟨some a, rows, cap, by rw [hrl], ⟨some a, cap, rfl, hmax, by omega, ?_⟩, ?_, by omega, hm⟩
    · rcases Nat.eq_zero_or_pos len with h0 | h0
      · left; exact List.eq_nil_of_length_eq_zero (by omega)
      · right
        obtain ⟨r0, hr0⟩ := get_of_lt (l := rows) (i := 0) (by omega)
        have h1 := (hrows 0 r0 hr0).1
        have hz : a.add (0 * k) = a := by simp [Addr.add]
        rw [hz] at h1
        obtain ⟨b, o, rfl, _, _⟩ := cells_at hk h1
        refine ⟨b, o, rfl, fun i r hr => ?_⟩
        have h2 := (hrows i r hr).1
        rw [Addr.add_lit] at h2
        obtain ⟨b', o', he, _, h3⟩ := cells_at hk h2
        cases he
        exact h3
    · intro r hr
      obtain ⟨i, hi⟩ := List.mem_iff_getElem?.1 hr
      have h2 := hrows i r hi
      obtain ⟨_, _, _, h3, _⟩ := cells_at hk h2.1
      exact ⟨h2.2, h3⟩
theorem open_intsL {t e fuel : Nat} {cs : List Value} {x : DataW H × List MemPlace} (ht : P.underlying t = some (.slice e)) (he : P.underlying e = some (.int .i64)) (hc : P.cellsOf e = 1)
    (h : DataW.trod enc P w base spare held fuel t cs = some x) : ∃ a l cap, cs = [.slice a l.length cap] ∧ IntsAt w (.slice a l.length cap) l := by
  obtain ⟨a, rows, cap, rfl, h1, h2, _⟩ := open_rows (R := fun cs => ∃ n : Int, cs = intV n) ht hc (by decide) h (fun n cs' y _ hy => by
    obtain ⟨m, rfl, _⟩ := DataW.trod_int he hy; exact ⟨m, rfl⟩)
  obtain ⟨l, rfl⟩ := rows_map fun r hr => (h2 r hr).1
  exact ⟨a, l, cap, by simp, by simpa [IntsAt] using h1⟩
end
end Go.Proofs
namespace Go.Proofs
open Go Go.Eng
set_option maxRecDepth 100000
section
variable {H : Type} {enc : TypeId × Value → H} {w : World} {base : Nat} {spare : Nat → Bool} {held : Bool}
theorem cellsOne9 : Try.prog.cellsOf 3 = 1 := by kernel_rfl
theorem cellsRow9 : Try.prog.cellsOf 22 = 1 := by kernel_rfl
theorem cellsRows9 : Try.prog.cellsOf 23 = 1 := by kernel_rfl
theorem cellsDfa9 : Try.prog.cellsOf 25 = 3 := by kernel_rfl
theorem intss_rows : ∀ (rows : List (List Value)), (∀ r ∈ rows, ∃ a l cap, r = [.slice a (List.length (α := Int) l) cap] ∧ IntsAt w (.slice a l.length cap) l) →
    ∃ (vs : List Value) (ll : List (List Int)), rows = vs.map (fun x => [x]) ∧ vs.length = ll.length ∧ ∀ (i : Nat) u l, vs[i]? = some u → ll[i]? = some l → IntsAt w u l
  | [], _ => ⟨[], [], rfl, rfl, fun i u l h => by simp at h⟩
  | r :: rows, h => by
    obtain ⟨a, l, cap, rfl, h1⟩ := h r (by simp)
    obtain ⟨vs, ll, h3, h4, h5⟩ := intss_rows rows fun r hr => h r (by simp [hr])
    refine ⟨.slice a l.length cap :: vs, l :: ll, by rw [h3]; rfl, by simp [h4], fun i u q hu hq => ?_⟩
    cases i with
    | zero => simp at hu hq; subst hu; subst hq; exact h1
    | succ i => exact h5 i u q (by simpa using hu) (by simpa using hq)
theorem open_intss {fuel : Nat} {cs : List Value} {x : DataW H × List MemPlace} (h : DataW.trod enc Try.prog w base spare held fuel 23 cs = some x) : ∃ a ll cap, cs = [.slice a (List.length (α := List Int) ll) cap] ∧ IntssAt w (.slice a ll.length cap) ll := by
  obtain ⟨a, rows, cap, rfl, h1, h2, _⟩ := open_rows (R := fun cs => ∃ a l cap, cs = [.slice a (List.length (α := Int) l) cap] ∧ IntsAt w (.slice a l.length cap) l) Try.underlying23 cellsRow9 (by decide) h (fun n cs' y _ hy => open_intsL Try.underlying22 Try.underlying3 cellsOne9 hy)
  obtain ⟨vs, ll, rfl, h7, h8⟩ := intss_rows rows fun r hr => (h2 r hr).1
  exact ⟨a, ll, cap, by simp [h7], vs, by simpa [h7] using h1, h7, h8⟩
theorem open_dfa {fuel : Nat} {cs : List Value} {x : DataW H × List MemPlace} (h : DataW.trod enc Try.prog w base spare held fuel 25 cs = some x) : ∃ d : Dfa, DfaAt w d cs := by
  obtain ⟨xs, n, rfl, _, hl, hx, hf⟩ := DataW.trod_struct Try.underlying25 h
  rw [cellsDfa9] at hl
  match cs, hl with
  | [c0, c1, c2], _ =>
    have h0 : DataW.trod enc Try.prog w base spare held n 3 (([c0, c1, c2].drop 0).take (Try.prog.cellsOf 3)) = xs[0]? := hf 0 _ rfl
    have h1 : DataW.trod enc Try.prog w base spare held n 22 (([c0, c1, c2].drop 1).take (Try.prog.cellsOf 22)) = xs[1]? := hf 1 _ rfl
    have h2 : DataW.trod enc Try.prog w base spare held n 23 (([c0, c1, c2].drop 2).take (Try.prog.cellsOf 23)) = xs[2]? := hf 2 _ rfl
    simp only [cellsOne9, cellsRow9, cellsRows9, List.drop, List.take] at h0 h1 h2
    rw [List.getElem?_eq_getElem (by rw [hx]; decide)] at h0 h1 h2
    obtain ⟨st, e0, _⟩ := DataW.trod_int Try.underlying3 h0
    obtain ⟨aa, la, ac, e1, ha⟩ := open_intsL Try.underlying22 Try.underlying3 cellsOne9 h1
    obtain ⟨na, ln, nc, e2, hn⟩ := open_intss h2
    simp at e0 e1 e2
    subst e0; subst e1; subst e2
    exact ⟨⟨st, la, ln⟩, aa, ac, na, nc, rfl, ha, hn⟩
end
end Go.Proofs
