/- Contracts and plain lemmas, part 6. -/
import Derived.Tactics
import Derived.Deep.Quiet
import Derived.Laws.AppendOwn
import Derived.KernelRfl
import Derived.Laws.Entries
import Derived.Laws.Build
import Derived.Below
import Derived.RowKit3
import Derived.StillTail
import Derived.Sort.Grow
import Derived.Deep.Draws
import Derived.Test.YtllhcafmcbibbaaChecked
import Derived.Laws.StructEq
import Derived.Laws.MakeOwn
import Derived.MapKept
import Derived.Laws.BytesArg
import Derived.Laws.CopyRow
import Derived.DeepKeys3
import Derived.OpenShut
import Derived.ChangeSlices
import Derived.Test.YtllhcafmcbibbaaZr5
namespace Go.Proofs
open Go Go.Eng Go.Sort
set_option maxRecDepth 100000
def rowT (t : Tab) (s : Nat) : List Int := (List.range t.cols).map fun c => atT t.ow t.nx t.bs s c
theorem rowT_len (t : Tab) (s : Nat) : (rowT t s).length = t.cols := by simp [rowT]
def unT (t : Tab) : Dfa := ⟨t.start, t.acc, (List.range t.bs.length).map (rowT t)⟩
def LsB (vo : Value) (vs : List Value) (b : Nat) : Prop := vo.ownBlock = some b ∨ ∃ (i : Nat) (v : Value), vs[i]? = some v ∧ v.ownBlock = some b
theorem LSt.ltB {To e sz base : Nat} {w : World} {vo : Value} {vs : List Value} {ns : List (Nat × List Value)} (h : LSt To e sz w base vo vs ns) {b : Nat} (hb : LsB vo vs b) : base ≤ b ∧ b < w.heap.size := by
  rcases hb with h1 | ⟨i, v, h1, h2⟩
  · exact h.o.lt b h1
  · obtain ⟨p, hp⟩ := get_of_lt (l := ns) (i := i) (by have := lt_of_get h1; have := h.len; omega)
    exact (h.inn i v p h1 hp).lt b h2
theorem LSt.chgB {M : Nat → Prop} {To e sz base : Nat} {w w' : World} {vo : Value} {vs : List Value} {ns : List (Nat × List Value)} (h : LSt To e sz w base vo vs ns) (c : Chg M w w') (hM : ∀ b, LsB vo vs b → ¬ M b) : LSt To e sz w' base vo vs ns :=
  ⟨own_chg h.o c fun b hb => hM b (.inl hb), h.len, fun i v p hv hp => own_chg (h.inn i v p hv hp) c fun b hb => hM b (.inr ⟨i, v, hv, hb⟩), h.apo⟩
/-- A slice of one's own that was made behind a size of the heap. -/
def cloR (l : List Int) (hs : Nat) : Fct := fun v w => ∃ b rest k, v = .slice (some ⟨b, 0, none⟩) l.length k ∧ Blk w b (l.map (Value.int .i64) ++ rest).toArray TDI ∧ l.length + rest.length = k ∧ k ≤ 9223372036854775807 ∧ hs ≤ b
theorem cloR_ext (l : List Int) (hs : Nat) : ∀ v w w', Ext w w' → cloR l hs v w → cloR l hs v w' := by
  rintro v w w' x ⟨b, rest, k, h1, h2, h3⟩
  exact ⟨b, rest, k, h1, x.keep h2, h3⟩
def cloA (s : Int) (l : List Int) (hs : Nat) : Fct := fun v w => ∃ b rest k, v = .agg #[.int .i64 s, .slice (some ⟨b, 0, none⟩) l.length k, .slice none 0 0] ∧ Blk w b (l.map (Value.int .i64) ++ rest).toArray TDI ∧ l.length + rest.length = k ∧ k ≤ 9223372036854775807 ∧ hs ≤ b
theorem cloA_ext (s : Int) (l : List Int) (hs : Nat) : ∀ v w w', Ext w w' → cloA s l hs v w → cloA s l hs v w' := by
  rintro v w w' x ⟨b, rest, k, h1, h2, h3⟩
  exact ⟨b, rest, k, h1, x.keep h2, h3⟩
theorem clone_ext (w0 : World) (v : Value) (l : List Int) (hs : Nat) (h : IntsAt w0 v l) (hl : l.length ≤ 2000000) (h1 : 0 < l.length) (hh : hs ≤ w0.heap.size) : Ret Try.prog 28 #[v] w0 fun r w => cloR l hs r w ∧ Ext w0 w := by
  refine (cloneo_c w0 v l h hl h1).mono ?_
  rintro r w ⟨⟨b, rest, k, rfl, hb, hB, hk, hkm⟩, e⟩
  exact ⟨⟨b, rest, k, rfl, hB, hk, hkm, by omega⟩, e⟩
set_option maxHeartbeats 4000000 in
theorem unpack_c (w0 : World) (t : Tab) (vs : List Value) (h : TabAt w0 t vs) (hg : GoodT t) : Ret Try.prog 21 #[.agg vs.toArray] w0 fun r w => (∃ dv, r = .tuple #[.agg (List.toArray dv), .int .i64 0] ∧ DfaAt w (unT t) dv) ∧ Ext w0 w := by
  have h' := h
  obtain ⟨aa, ac, ba, bc, oa, oc, na, nc, rfl, ha, hb, ho, hn⟩ := h'
  have g1 := hg.n1; have g2 := hg.n2; have g3 := hg.c1; have g4 := hg.c2; have g7 := hg.al
  refine Ret_of Try.func21 rfl Try.ntmps21 (Nat.le_of_ble_eq_true rfl) ?_
  have E : Chg none1 w0 w0 := Chg.refl _ _
  refine Wp_seq_region ?_
  refine s_box (v := (.agg #[(.int .i64 t.start), (.int .i64 ((t.cols : Nat) : Int)), (.slice aa t.acc.length ac), (.slice ba t.bs.length bc), (.slice oa t.ow.length oc), (.slice na t.nx.length nc)])) (c := #[(.int .i64 t.start), (.int .i64 ((t.cols : Nat) : Int)), (.slice aa t.acc.length ac), (.slice ba t.bs.length bc), (.slice oa t.ow.length oc), (.slice na t.nx.length nc)]) (by decide) rfl rfl ?_
  intro bt wt Nt
  have Ft := Nt.ge E
  replace E := E.ext Nt.ext
  have Bt := Nt.blk
  refine s_alloc (c := #[(.int .i64 0), (.slice none 0 0), (.slice none 0 0)]) (by decide) zer44 rfl ?_
  intro br wr Nr
  have Fr := Nr.ge E
  have Or_bt := Nr.lt Bt
  replace Bt := Nr.keep Bt
  replace E := E.ext Nr.ext
  have Br := Nr.blk
  refine WpL_val rfl rfl (by decide) (r_assign (v := (.int .i64 0)) rfl) ?_
  refine WpL_nil ?_
  refine Wp_seq ?_
  refine Wp_seq_region ?_
  refine WpL_val rfl rfl (by decide) (r_loadAgg (vs := [(.int .i64 t.start), (.int .i64 ((t.cols : Nat) : Int)), (.slice aa t.acc.length ac), (.slice ba t.bs.length bc), (.slice oa t.ow.length oc), (.slice na t.nx.length nc)]) rfl agg46 siz46 rfl (Bt.cells rfl)) ?_
  refine WpL_enter rfl rfl (by decide) (r_callF (vs := [(.agg #[(.int .i64 t.start), (.int .i64 ((t.cols : Nat) : Int)), (.slice aa t.acc.length ac), (.slice ba t.bs.length bc), (.slice oa t.ow.length oc), (.slice na t.nx.length nc)])]) Try.func60 nm60 bd60 rfl) (tcheck_c _ t _ (h.ext E) hg) ?_
  rintro _ w9 ⟨rfl, X9⟩
  replace Bt := X9.keep Bt
  replace Br := X9.keep Br
  replace E := E.ext X9
  obtain ⟨z0, hz0⟩ : ∃ z0, z0 = (w9).heap.size := ⟨_, rfl⟩
  have hz0r : br < z0 ∧ bt < z0 := ⟨by rw [hz0]; exact Br.lt, by rw [hz0]; exact Bt.lt⟩
  refine WpL_val rfl rfl (by decide) (r_assign (v := (.int .i64 0)) rfl) ?_
  refine WpL_nil ?_
  refine Wp_seq_region ?_
  refine WpL_val rfl rfl (by decide) (r_move (v := (.int .i64 0)) rfl) ?_
  refine WpL_val rfl rfl (by decide) (r_neq (k := .i64) (a := 0) (b := 0) rfl rfl) ?_
  refine WpL_nil ?_
  refine Wp_cond_false rfl ?_
  refine Wp_skip ?_
  refine thn_normal ?_
  have hz_1 : w0.heap.size ≤ w9.heap.size := E.size
  have lz_1_bt : bt < w9.heap.size := Bt.lt
  have lz_1_br : br < w9.heap.size := Br.lt
  refine Wp_seq ?_
  obtain ⟨Fs1, hFs1⟩ : ∃ Fs : List FctS, Fs = [(fun _ _ v _ => v = (.pointer (some ⟨bt, 0, none⟩))), (fun _ _ v _ => v = (.int .i64 t.start)), (fun _ _ v _ => v = (.pointer (some ⟨bt, 2, none⟩))), (fun _ _ v _ => v = (.slice aa t.acc.length ac)), (fun _ _ => cloR t.acc z0), (fun _ _ => cloA t.start t.acc z0), (fun _ _ => alF 44 #[(.int .i64 0), (.slice none 0 0), (.slice none 0 0)] w9.heap.size), (fun _ _ v _ => v = undef)] := ⟨_, rfl⟩
  refine Wp_dagS (MsL []) [true, true, true, true, true, true, true, false] [7] [15, 16, 17, 18, 19, 20, 5, 58] [[], [0], [], [2], [3], [1, 4], [], []] [[], [0], [], [2], [3, 2], [1, 0, 4, 3, 2], [], []] Fs1 hFs1 (by kernel_rfl) mixed (by kernel_rfl) (by kernel_rfl) (by kernel_rfl) (by kernel_rfl) ?_ ?_
  · intro wd X0
    refine DagStepsS.cons (StabS.eq) (LocS.const) (fun S s' w' hi hN X U V H => Or.inl ⟨Guarded_none rfl, ?_⟩) ?_
    · replace X := X.mono (M' := none1) (fun y _ h => by
          obtain ⟨j, hj, h⟩ := h
          exact h.elim)
      exact DoesT_pure (r_fieldAddr (b := bt) (o := 0) (o' := 0) (U 1 rfl) Try.underlying46 rfl siz3 rfl) rfl
    refine DagStepsS.cons (StabS.eq) (LocS.const) (fun S s' w' hi hN X U V H => Or.inl ⟨Guarded_none rfl, ?_⟩) ?_
    · replace X := X.mono (M' := none1) (fun y _ h => by
          obtain ⟨j, hj, h⟩ := h
          exact h.elim)
      have e15 : s' 15 = (.pointer (some ⟨bt, 0, none⟩)) := (H 0 rfl).2 15 (fun _ _ v _ => v = (.pointer (some ⟨bt, 0, none⟩))) rfl (by rw [hFs1]; rfl)
      exact DoesT_pure (r_load (v := (.int .i64 t.start)) e15 flat3 (((X0.trans X).keep Bt).cell rfl)) rfl
    refine DagStepsS.cons (StabS.eq) (LocS.const) (fun S s' w' hi hN X U V H => Or.inl ⟨Guarded_none rfl, ?_⟩) ?_
    · replace X := X.mono (M' := none1) (fun y _ h => by
          obtain ⟨j, hj, h⟩ := h
          exact h.elim)
      exact DoesT_pure (r_fieldAddr (b := bt) (o := 0) (o' := 2) (U 1 rfl) Try.underlying46 rfl siz26 rfl) rfl
    refine DagStepsS.cons (StabS.eq) (LocS.const) (fun S s' w' hi hN X U V H => Or.inl ⟨Guarded_none rfl, ?_⟩) ?_
    · replace X := X.mono (M' := none1) (fun y _ h => by
          obtain ⟨j, hj, h⟩ := h
          exact h.elim)
      have e17 : s' 17 = (.pointer (some ⟨bt, 2, none⟩)) := (H 2 rfl).2 17 (fun _ _ v _ => v = (.pointer (some ⟨bt, 2, none⟩))) rfl (by rw [hFs1]; rfl)
      exact DoesT_pure (r_load (v := (.slice aa t.acc.length ac)) e17 flat26 (((X0.trans X).keep Bt).cell rfl)) rfl
    refine DagStepsS.cons (StabS.chg (U := none1) (cloR_ext _ _) (fun p y hp hw h => by
          exact h.elim)) (LocS.const) (fun S s' w' hi hN X U V H => Or.inl ⟨Guarded_none rfl, ?_⟩) ?_
    · replace X := X.mono (M' := none1) (fun y _ h => by
          obtain ⟨j, hj, h⟩ := h
          exact h.elim)
      have e18 : s' 18 = (.slice aa t.acc.length ac) := (H 3 rfl).2 18 (fun _ _ v _ => v = (.slice aa t.acc.length ac)) rfl (by rw [hFs1]; rfl)
      exact DoesT_callE (r_callF (vs := [(.slice aa t.acc.length ac)]) Try.func28 nm28 bd28 (lst1 e18)) (clone_ext _ _ t.acc z0 (ha.ext (Ext.trans E (X0.trans X))) (by omega) (by omega) (by have := X0.size; have := X.size; omega))
    refine DagStepsS.cons (StabS.chg (U := none1) (cloA_ext _ _ _) (fun p y hp hw h => by
          exact h.elim)) (LocS.const) (fun S s' w' hi hN X U V H => Or.inl ⟨Guarded_none rfl, ?_⟩) ?_
    · replace X := X.mono (M' := none1) (fun y _ h => by
          obtain ⟨j, hj, h⟩ := h
          exact h.elim)
      have e16 : s' 16 = (.int .i64 t.start) := (H 1 rfl).2 16 (fun _ _ v _ => v = (.int .i64 t.start)) rfl (by rw [hFs1]; rfl)
      obtain ⟨b19, r19, k19, e19, B19, m19, n19, g19⟩ := (show ((fun _ _ => cloR t.acc z0) : FctS) S s' (s' 19) w' from (H 4 rfl).2 19 (fun _ _ => cloR t.acc z0) rfl (by rw [hFs1]; rfl))
      exact DoesT_pure (r_build (ps := [(0, .int .i64 t.start), (1, .slice (some ⟨b19, 0, none⟩) t.acc.length k19)]) (v := .agg #[.int .i64 t.start, .slice (some ⟨b19, 0, none⟩) t.acc.length k19, .slice none 0 0]) (bld2 e16 e19) (by kernel_rfl)) ⟨b19, r19, k19, rfl, B19, m19, n19, g19⟩
    refine DagStepsS.cons (StabS.chg (U := none1) (fun v w w' x h => alF_ext _ _ _ v w w' x h) (fun p y hp hw h => by
          exact h.elim)) (LocS.const) (fun S s' w' hi hN X U V H => Or.inl ⟨Guarded_none rfl, ?_⟩) ?_
    · replace X := X.mono (M' := none1) (fun y _ h => by
          obtain ⟨j, hj, h⟩ := h
          exact h.elim)
      exact DoesT_alloc (c := #[(.int .i64 0), (.slice none 0 0), (.slice none 0 0)]) zer44 rfl (by have := X0.size; have := X.size; omega)
    refine DagStepsS.tail ?_
    exact DagStepsS.nil
  · intro s' wd1 w1 X0 X1 U H
    replace X1 := X1.mono (M' := none1) (fun y _ h => by
        obtain ⟨j, hj, h⟩ := h
        exact h.elim)
    obtain ⟨b20, r20, k20, e20, B20, m20, n20, g20⟩ := (show ((fun _ _ => cloA t.start t.acc z0) : FctS) (allS [true, true, true, true, true, true, true, false]) s' (s' 20) w1 from H 5 rfl 20 (fun _ _ => cloA t.start t.acc z0) rfl (by rw [hFs1]; rfl))
    obtain ⟨b5, e5, B5, g5⟩ := (show ((fun _ _ => alF 44 #[(.int .i64 0), (.slice none 0 0), (.slice none 0 0)] w9.heap.size) : FctS) (allS [true, true, true, true, true, true, true, false]) s' (s' 5) w1 from H 6 rfl 5 (fun _ _ => alF 44 #[(.int .i64 0), (.slice none 0 0), (.slice none 0 0)] w9.heap.size) rfl (by rw [hFs1]; rfl))
    obtain ⟨j1, rfl⟩ := Fits.out (σ := s') (l := [(1, (.pointer (some ⟨bt, 0, none⟩))), (2, (.pointer (some ⟨br, 0, none⟩))), (20, (.agg #[(.int .i64 t.start), (.slice (some ⟨b20, 0, none⟩) t.acc.length k20), (.slice none 0 0)])), (5, (.pointer (some ⟨b5, 0, none⟩)))]) ⟨U 1 rfl, U 2 rfl, e20, e5, trivial⟩
    clear U H
    replace Bt := (X0.trans X1).keep Bt
    replace Br := (X0.trans X1).keep Br
    replace X1 := X0.trans X1
    replace E := E.ext X1
    have hne5 : b20 ≠ b5 := fun e => by have h8 := B20; rw [e] at h8; unfold Blk at h8 B5; rw [h8] at B5; simp at B5; exact absurd B5.2 (by decide)
    refine s_storeAgg (b := b5) (o := 0) (c' := #[(.int .i64 t.start), (.slice (some ⟨b20, 0, none⟩) t.acc.length k20), (.slice none 0 0)]) rfl rfl (by simp [Value.oneCell']) siz44 rfl B5 (by first | (simp; done) | exact Nat.le_of_ble_eq_true rfl) rfl ?_
    intro w2 S2
    replace Bt := S2.keep (by omega) Bt
    replace Br := S2.keep (by omega) Br
    replace B20 := S2.keep (by omega) B20
    replace E := S2.step E (by first | exact Or.inl (by omega) | exact Or.inr rfl | exact Or.inr (by assumption) | exact Or.inr (by simp) | exact Or.inr (by omega) | exact Or.inr (by dsimp only; omega))
    replace B5 := S2.blk
    refine WpL_nil ?_
    refine thn_normal ?_
    refine Wp_seq ?_
    refine Wp_seq_region ?_
    refine WpL_val rfl rfl (by decide) (r_fieldAddr (b := bt) (o := 0) (o' := 3) rfl Try.underlying46 rfl siz26 rfl) ?_
    refine WpL_val rfl rfl (by decide) (r_load (v := (.slice ba t.bs.length bc)) rfl flat26 (Bt.cell rfl)) ?_
    refine WpL_val rfl rfl (by decide) (r_lenSlice (ad := ba) (n := t.bs.length) (cap := bc) Try.underlying26 rfl) ?_
    refine WpL_val rfl rfl (by decide) (r_move (v := (.int .i64 0)) rfl) ?_
    refine WpL_nil ?_
    refine Wp_block ?_
    obtain ⟨n1, hn1e⟩ : ∃ n1, n1 = (w2).heap.size := ⟨_, rfl⟩
    have hb5n : b5 < n1 ∧ br < n1 ∧ b20 < n1 := ⟨by rw [hn1e]; exact B5.lt, by rw [hn1e]; exact Br.lt, by rw [hn1e]; exact B20.lt⟩
    have hbs0 : w0.heap.size ≤ n1 := by rw [hn1e]; exact E.size
    refine Wp_loop (fun nn_ σ W3 => ∃ (i : Nat) (vs : List Value) (na2 : Option Addr) (nc2 : Nat), (∃ jj_, σ = upds jj_ [(1, (.pointer (some ⟨bt, 0, none⟩))), (2, (.pointer (some ⟨br, 0, none⟩))), (5, (.pointer (some ⟨b5, 0, none⟩))), (23, (.int .i64 ((t.bs.length : Nat) : Int))), (24, (.int .i64 ((i : Nat) : Int)))]) ∧ Chg none1 w0 W3 ∧ Blk W3 bt #[(.int .i64 t.start), (.int .i64 ((t.cols : Nat) : Int)), (.slice aa t.acc.length ac), (.slice ba t.bs.length bc), (.slice oa t.ow.length oc), (.slice na t.nx.length nc)] 46 ∧ Blk W3 br #[(.int .i64 0), (.slice none 0 0), (.slice none 0 0)] 44 ∧ Blk W3 b5 (#[Value.int .i64 t.start, .slice (some ⟨b20, 0, none⟩) t.acc.length k20, .slice na2 i nc2]) 44 ∧ Blk W3 b20 ((t.acc.map (Value.int .i64) ++ r20).toArray) 3 ∧ (i ≤ t.bs.length) ∧ (LSt TDIs TDI 1 W3 n1 (.slice na2 i nc2) vs (((List.range i).map (rowT t)).map iRow)) ∧ (n1 ≤ W3.heap.size) ∧ nn_ = t.bs.length - i) (n := t.bs.length - 0) ?_ ?_
    · exact ⟨0, [], none, 0, Fits.out ⟨rfl, rfl, rfl, rfl, rfl, trivial⟩, E, Bt, Br, B5, B20, Nat.zero_le _, LSt.start _ _ _ _ _, (by omega), rfl⟩
    · clear E Bt Br B5 B20
      rintro _ _ W3 ⟨i, vs, na2, nc2, ⟨j3, rfl⟩, E, Bt, Br, B5, B20, hi, hL, hsz, rfl⟩
      refine Wp_seq_region ?_
      refine WpL_val rfl rfl (by decide) (r_lss (k := .i64) (a := ((i : Nat) : Int)) (b := ((t.bs.length : Nat) : Int)) rfl rfl) ?_
      refine WpL_nil ?_
      refine Wp_seq ?_
      refine Wp_cond (b := decide ((((i : Nat) : Int) : Int) < ((t.bs.length : Nat) : Int))) rfl (fun hlt => ?_) (fun hlt => ?_)
      · have khlt := hlt
        replace hlt := of_decide_eq_true hlt
        obtain ⟨bb, hbb⟩ := get_of_lt (l := t.bs) (i := i) (by omega)
        have hbm := hg.bm bb (List.mem_of_getElem? hbb)
        obtain ⟨z1, hz1⟩ : ∃ z1, z1 = (W3).heap.size := ⟨_, rfl⟩
        have hnz1 : n1 ≤ z1 := by omega
        have hLz : ∀ b, LsB (.slice na2 i nc2) vs b → b < z1 := fun b hb => by have := (hL.ltB hb).2; omega
        refine Wp_skip ?_
        refine thn_normal ?_
        refine Wp_seq ?_
        refine Wp_block ?_
        refine Wp_seq_region ?_
        refine WpL_val rfl rfl (by decide) (r_move (v := (.int .i64 ((i : Nat) : Int))) rfl) ?_
        refine WpL_val rfl rfl (by decide) (r_assign (v := (.int .i64 ((i : Nat) : Int))) rfl) ?_
        refine WpL_nil ?_
        refine Wp_seq_region ?_
        refine WpL_val rfl rfl (by decide) (r_fieldAddr (b := bt) (o := 0) (o' := 1) rfl Try.underlying46 rfl siz3 rfl) ?_
        refine WpL_val rfl rfl (by decide) (r_load (v := (.int .i64 ((t.cols : Nat) : Int))) rfl flat3 (Bt.cell rfl)) ?_
        refine s_make (n := t.cols) (z := (.int .i64 0)) (bytes := 8) (by decide) Try.underlying26 siz3 byt3 zer3 rfl rfl rfl (by omega) (by omega) ?_
        intro bq wq Nq
        have Fq := Nq.ge E
        have Oq_bt := Nq.lt Bt
        have Oq_br := Nq.lt Br
        have Oq_b5 := Nq.lt B5
        have Oq_b20 := Nq.lt B20
        replace Bt := Nq.keep Bt
        replace Br := Nq.keep Br
        replace B5 := Nq.keep B5
        replace B20 := Nq.keep B20
        replace hL := hL.ext Nq.ext
        replace hsz := Nat.le_trans hsz Nq.ext.size
        replace E := E.ext Nq.ext
        have Bq := Nq.blk
        refine WpL_val rfl rfl (by decide) (r_assign (v := (.slice (some ⟨bq, 0, none⟩) t.cols t.cols)) rfl) ?_
        refine WpL_nil ?_
        refine Wp_seq ?_
        refine Wp_seq_region ?_
        refine WpL_val rfl rfl (by decide) (r_move (v := (.slice (some ⟨bq, 0, none⟩) t.cols t.cols)) rfl) ?_
        refine WpL_val rfl rfl (by decide) (r_lenSlice (ad := some ⟨bq, 0, none⟩) (n := t.cols) (cap := t.cols) Try.underlying26 rfl) ?_
        refine WpL_val rfl rfl (by decide) (r_move (v := (.int .i64 0)) rfl) ?_
        refine WpL_nil ?_
        refine Wp_block ?_
        rw [show List.replicate t.cols (Value.int .i64 0) = (List.replicate t.cols (0 : Int)).map (Value.int .i64) by simp] at Bq
        have hqz : z1 ≤ bq := by have := Nq.eq; omega
        refine Wp_loop (fun nn_ σ W5 => ∃ (x : Nat) (R : List Int), (∃ jj_, σ = upds jj_ [(1, (.pointer (some ⟨bt, 0, none⟩))), (2, (.pointer (some ⟨br, 0, none⟩))), (5, (.pointer (some ⟨b5, 0, none⟩))), (6, (.int .i64 ((i : Nat) : Int))), (7, (.slice (some ⟨bq, 0, none⟩) t.cols t.cols)), (23, (.int .i64 ((t.bs.length : Nat) : Int))), (24, (.int .i64 ((i : Nat) : Int))), (31, (.int .i64 ((t.cols : Nat) : Int))), (32, (.int .i64 ((x : Nat) : Int)))]) ∧ Chg none1 w0 W5 ∧ Blk W5 bt #[(.int .i64 t.start), (.int .i64 ((t.cols : Nat) : Int)), (.slice aa t.acc.length ac), (.slice ba t.bs.length bc), (.slice oa t.ow.length oc), (.slice na t.nx.length nc)] 46 ∧ Blk W5 br #[(.int .i64 0), (.slice none 0 0), (.slice none 0 0)] 44 ∧ Blk W5 b5 (#[Value.int .i64 t.start, .slice (some ⟨b20, 0, none⟩) t.acc.length k20, .slice na2 i nc2]) 44 ∧ Blk W5 b20 ((t.acc.map (Value.int .i64) ++ r20).toArray) 3 ∧ Blk W5 bq ((R.map (Value.int .i64)).toArray) 3 ∧ (x ≤ t.cols) ∧ (R.length = t.cols) ∧ (R.take x = (rowT t i).take x) ∧ (LSt TDIs TDI 1 W5 n1 (.slice na2 i nc2) vs (((List.range i).map (rowT t)).map iRow)) ∧ (n1 ≤ W5.heap.size) ∧ nn_ = t.cols - x) (n := t.cols - 0) ?_ ?_
        · exact ⟨0, List.replicate t.cols 0, Fits.out ⟨rfl, rfl, rfl, rfl, rfl, rfl, rfl, rfl, rfl, trivial⟩, E, Bt, Br, B5, B20, Bq, Nat.zero_le _, (by simp), (by simp), hL, hsz, rfl⟩
        · clear E Bt Br B5 B20 Bq
          rintro _ _ W5 ⟨x, R, ⟨j5, rfl⟩, E, Bt, Br, B5, B20, Bq, hx, hRl, hRt, hL, hsz, rfl⟩
          refine Wp_seq_region ?_
          refine WpL_val rfl rfl (by decide) (r_lss (k := .i64) (a := ((x : Nat) : Int)) (b := ((t.cols : Nat) : Int)) rfl rfl) ?_
          refine WpL_nil ?_
          refine Wp_seq ?_
          refine Wp_cond (b := decide ((((x : Nat) : Int) : Int) < ((t.cols : Nat) : Int))) rfl (fun hlt2 => ?_) (fun hlt2 => ?_)
          · have khlt2 := hlt2
            replace hlt2 := of_decide_eq_true hlt2
            refine Wp_skip ?_
            refine thn_normal ?_
            refine Wp_seq ?_
            refine Wp_block ?_
            refine Wp_seq_region ?_
            refine WpL_val rfl rfl (by decide) (r_move (v := (.int .i64 ((x : Nat) : Int))) rfl) ?_
            refine WpL_val rfl rfl (by decide) (r_assign (v := (.int .i64 ((x : Nat) : Int))) rfl) ?_
            refine WpL_nil ?_
            refine Wp_region ?_
            refine WpL_val rfl rfl (by decide) (r_move (v := (.slice (some ⟨bq, 0, none⟩) t.cols t.cols)) rfl) ?_
            refine WpL_val rfl rfl (by decide) (r_move (v := (.int .i64 ((x : Nat) : Int))) rfl) ?_
            refine WpL_val rfl rfl (by decide) (r_loadAgg (vs := [(.int .i64 t.start), (.int .i64 ((t.cols : Nat) : Int)), (.slice aa t.acc.length ac), (.slice ba t.bs.length bc), (.slice oa t.ow.length oc), (.slice na t.nx.length nc)]) rfl agg46 siz46 rfl (Bt.cells rfl)) ?_
            refine WpL_val rfl rfl (by decide) (r_move (v := (.int .i64 ((i : Nat) : Int))) rfl) ?_
            refine WpL_val rfl rfl (by decide) (r_move (v := (.int .i64 ((x : Nat) : Int))) rfl) ?_
            refine WpL_enter rfl rfl (by decide) (r_callF (vs := [(.agg #[(.int .i64 t.start), (.int .i64 ((t.cols : Nat) : Int)), (.slice aa t.acc.length ac), (.slice ba t.bs.length bc), (.slice oa t.ow.length oc), (.slice na t.nx.length nc)]), (.int .i64 ((i : Nat) : Int)), (.int .i64 ((x : Nat) : Int))]) Try.func62 nm62 bd62 rfl) (tat_c _ t _ i x bb (h.ext E) hbb hg.nl (by omega)) ?_
            rintro _ w39 ⟨rfl, X39⟩
            replace Bt := X39.keep Bt
            replace Br := X39.keep Br
            replace B5 := X39.keep B5
            replace B20 := X39.keep B20
            replace Bq := X39.keep Bq
            replace hL := hL.ext X39
            replace hsz := Nat.le_trans hsz X39.size
            replace E := E.ext X39
            refine WpL_val rfl rfl (by decide) (r_indexSlice (b := bq) (o := 0) (len := t.cols) (cap := t.cols) (i := x) (o' := 0 + x) rfl rfl rfl Try.underlying26 siz3 (by omega) (by omega)) ?_
            refine s_store (b := bq) (o := 0 + x) (c' := ((R.set x (atT t.ow t.nx t.bs i x)).map (Value.int .i64)).toArray) (v := (.int .i64 (atT t.ow t.nx t.bs i x))) rfl rfl rfl siz3 Bq (by simp; omega) (ints_setD _) ?_
            intro w7 S7
            replace hL := hL.chgB S7.chg fun b hb h => by have := hLz b hb; have h' : b = bq := h; omega
            replace hsz := Nat.le_trans hsz S7.chg.size
            replace Bt := S7.keep (by omega) Bt
            replace Br := S7.keep (by omega) Br
            replace B5 := S7.keep (by omega) B5
            replace B20 := S7.keep (by omega) B20
            replace E := S7.step E (by first | exact Or.inl (by omega) | exact Or.inr rfl | exact Or.inr (by assumption) | exact Or.inr (by simp) | exact Or.inr (by omega) | exact Or.inr (by dsimp only; omega))
            replace Bq := S7.blk
            have hts := take_set_succ (L := R) (s := x) (x := atT t.ow t.nx t.bs i x) (by omega)
            have hrx : (rowT t i)[x]? = some (atT t.ow t.nx t.bs i x) := by unfold rowT; rw [List.getElem?_map, List.getElem?_range (by omega)]; rfl
            refine WpL_nil ?_
            refine inB_normal ?_
            refine thn_normal ?_
            refine Wp_region ?_
            refine WpL_val rfl rfl (by decide) (r_add (k := .i64) (a := ((x : Nat) : Int)) (b := 1) (c := ((x : Nat) : Int) + 1) rfl rfl (wI64 (by omega))) ?_
            refine WpL_val rfl rfl (by decide) (r_move (v := (.int .i64 (((x : Nat) : Int) + 1))) rfl) ?_
            refine WpL_nil ?_
            refine thn_normal ?_
            exact ⟨t.cols - (x + 1), by omega, x + 1, R.set x (atT t.ow t.nx t.bs i x), Fits.out ⟨rfl, rfl, rfl, rfl, rfl, rfl, rfl, rfl, rfl, trivial⟩, E, Bt, Br, B5, B20, Bq, (by omega), (by simp [hRl]), (by rw [hts, hRt, take_snoc' hrx]), hL, hsz, rfl⟩
          · have khlt2 := hlt2
            replace hlt2 := of_decide_eq_false hlt2
            have hxc : x = t.cols := by omega
            rw [hxc, List.take_of_length_le (by omega), List.take_of_length_le (by rw [rowT_len]; omega)] at hRt
            rw [hRt] at Bq
            have hUq := own_exact (base := bq) Bq (Nat.le_refl _) (rowT_len t i)
            refine Wp_exit ?_
            refine thn_exit ?_
            refine thn_exit ?_
            refine inB_here ?_
            refine thn_normal ?_
            refine Wp_region ?_
            refine WpL_val rfl rfl (by decide) (r_fieldAddr (b := b5) (o := 0) (o' := 2) rfl Try.underlying44 rfl siz42 rfl) ?_
            refine WpL_val rfl rfl (by decide) (r_load (v := (.slice na2 i nc2)) rfl flat42 (B5.cell rfl)) ?_
            refine WpL_val rfl rfl (by decide) (r_move (v := (.slice (some ⟨bq, 0, none⟩) t.cols t.cols)) rfl) ?_
            refine s_buildSlice (ps := [(0, (.slice (some ⟨bq, 0, none⟩) t.cols t.cols))]) (c := #[(.slice (some ⟨bq, 0, none⟩) t.cols t.cols)]) (by decide) rfl Try.underlying42 siz26 zer26 (by decide) (by decide) (by kernel_rfl) ?_
            intro bu wu Nu
            have Fu := Nu.ge E
            have Ou_bt := Nu.lt Bt
            have Ou_br := Nu.lt Br
            have Ou_b5 := Nu.lt B5
            have Ou_b20 := Nu.lt B20
            have Ou_bq := Nu.lt Bq
            replace Bt := Nu.keep Bt
            replace Br := Nu.keep Br
            replace B5 := Nu.keep B5
            replace B20 := Nu.keep B20
            replace Bq := Nu.keep Bq
            replace hL := hL.ext Nu.ext
            replace hsz := Nat.le_trans hsz Nu.ext.size
            replace E := E.ext Nu.ext
            have Bu := Nu.blk
            have hbqu : bq < (wu).heap.size := Bq.lt
            have hO8 : (wu).ownsRow n1 TDIs 1 (.slice na2 i nc2) i vs := hL.on (by simp)
            refine s_append (base := n1) (n := i) (m := 1) (xs := vs) (news := [(.slice (some ⟨bq, 0, none⟩) t.cols t.cols)]) (size := 1) (bytes := 24) (v := (.slice na2 i nc2)) (by decide) Try.underlying42 siz26 byt26 zer26 rfl (by decide) rfl hO8 rfl (rfl) (Bu.cells rfl) (by simp [Value.oneCell']) (by unfold maxLen; omega) (by omega) ((by omega)) ?_
            intro v7 w59 Ov7 Cv7 Dv7
            replace Bt := Cv7.keep (fun h => by have := (hO8.lt _ h).1; omega) Bt
            replace Br := Cv7.keep (fun h => by have := (hO8.lt _ h).1; omega) Br
            replace B5 := Cv7.keep (fun h => by have := (hO8.lt _ h).1; omega) B5
            replace B20 := Cv7.keep (fun h => by have := (hO8.lt _ h).1; omega) B20
            replace E := E.step Cv7 (fun x hx h => absurd (hO8.lt x h).1 (by omega))
            obtain ⟨sa3, sc3, rfl⟩ := own_form Ov7
            have hL2 := hL.push (n := i) (by simp) (own_ext hUq Nu.ext) (by omega) (fun k hk => by have := hLz k (.inl hk); omega) Ov7 Cv7 (fun k hk => (Dv7 k hk).imp id (fun h9 => h9))
            have hsz2 := Nat.le_trans hsz Cv7.size
            refine WpL_val rfl rfl (by decide) (r_fieldAddr (b := b5) (o := 0) (o' := 2) rfl Try.underlying44 rfl siz42 rfl) ?_
            refine s_store (b := b5) (o := 2) (c' := #[(.int .i64 t.start), (.slice (some ⟨b20, 0, none⟩) t.acc.length k20), (.slice sa3 (i + 1) sc3)]) (v := (.slice sa3 (i + 1) sc3)) rfl rfl rfl siz42 B5 (by simp) rfl ?_
            intro w8 S8
            replace hL2 := hL2.chgB S8.chg fun b hb h => by have := (hL2.ltB hb).1; have h' : b = b5 := h; omega
            replace hsz2 := Nat.le_trans hsz2 S8.chg.size
            replace Bt := S8.keep (by omega) Bt
            replace Br := S8.keep (by omega) Br
            replace B20 := S8.keep (by omega) B20
            replace E := S8.step E (by first | exact Or.inl (by omega) | exact Or.inr rfl | exact Or.inr (by assumption) | exact Or.inr (by simp) | exact Or.inr (by omega) | exact Or.inr (by dsimp only; omega))
            replace B5 := S8.blk
            refine WpL_nil ?_
            refine inB_normal ?_
            refine thn_normal ?_
            refine Wp_region ?_
            refine WpL_val rfl rfl (by decide) (r_add (k := .i64) (a := ((i : Nat) : Int)) (b := 1) (c := ((i : Nat) : Int) + 1) rfl rfl (wI64 (by omega))) ?_
            refine WpL_val rfl rfl (by decide) (r_move (v := (.int .i64 (((i : Nat) : Int) + 1))) rfl) ?_
            refine WpL_nil ?_
            refine thn_normal ?_
            exact ⟨t.bs.length - (i + 1), by omega, i + 1, vs ++ [Value.slice (some ⟨bq, 0, none⟩) t.cols t.cols], sa3, sc3, Fits.out ⟨rfl, rfl, rfl, rfl, rfl, trivial⟩, E, Bt, Br, B5, B20, (by omega), (by rw [List.range_succ, List.map_append, List.map_append]; show LSt TDIs TDI 1 _ n1 _ _ (_ ++ [((rowT t i).length, (rowT t i).map (Value.int .i64))]); rw [rowT_len]; exact hL2), hsz2, rfl⟩
      · have khlt := hlt
        replace hlt := of_decide_eq_false hlt
        have hib : i = t.bs.length := by omega
        subst hib
        refine Wp_exit ?_
        refine thn_exit ?_
        refine thn_exit ?_
        refine inB_here ?_
        refine thn_normal ?_
        refine Wp_seq_region ?_
        refine WpL_val rfl rfl (by decide) (r_loadAgg (vs := [(.int .i64 t.start), (.slice (some ⟨b20, 0, none⟩) t.acc.length k20), (.slice na2 t.bs.length nc2)]) rfl agg44 siz44 rfl (B5.cells rfl)) ?_
        refine s_storeAgg (b := br) (o := 0) (c' := #[(.int .i64 t.start), (.slice (some ⟨b20, 0, none⟩) t.acc.length k20), (.slice na2 t.bs.length nc2)]) rfl rfl (by simp [Value.oneCell']) siz44 rfl Br (by first | (simp; done) | exact Nat.le_of_ble_eq_true rfl) rfl ?_
        intro w9 S9
        replace hL := hL.chgB S9.chg fun b hb h => by have := (hL.ltB hb).1; have h' : b = br := h; omega
        replace Bt := S9.keep (by omega) Bt
        replace B5 := S9.keep (by omega) B5
        replace B20 := S9.keep (by omega) B20
        replace E := S9.step E (by first | exact Or.inl (by omega) | exact Or.inr rfl | exact Or.inr (by assumption) | exact Or.inr (by simp) | exact Or.inr (by omega) | exact Or.inr (by dsimp only; omega))
        replace Br := S9.blk
        refine WpL_val rfl rfl (by decide) (r_assign (v := (.int .i64 0)) rfl) ?_
        refine WpL_nil ?_
        refine Wp_ret ?_
        refine fin_agg_tmp Try.results21 (vs := [(.int .i64 t.start), (.slice (some ⟨b20, 0, none⟩) t.acc.length k20), (.slice na2 t.bs.length nc2)]) (b := br) (v' := (.int .i64 0)) rfl agg44 siz44 rfl (Br.cells rfl) rfl ?_
        have hnl : (unT t).next.length = t.bs.length := by simp [unT]
        exact ⟨⟨_, rfl, ⟨some ⟨b20, 0, none⟩, k20, na2, nc2, by rw [hnl]; rfl, ints_own (l := t.acc) (rest := r20) B20 (by omega) (by omega), by rw [hnl]; exact hL.intss⟩⟩, E⟩
end Go.Proofs
namespace Go.Proofs
open Go Go.Eng
set_option maxRecDepth 100000
def encN (x : Nat) : List Nat := if x < 128 then [x] else (x % 128 + 128) :: encN (x / 128)
termination_by x
theorem encN_small {x : Nat} (h : x < 128) : encN x = [x] := by rw [encN, if_pos h]
theorem encN_big {x : Nat} (h : 128 ≤ x) : encN x = (x % 128 + 128) :: encN (x / 128) := by rw [encN, if_neg (by omega)]
theorem encN_pos (x : Nat) : 0 < (encN x).length := by rw [encN]; split <;> simp
theorem encN_len : ∀ (k x : Nat), x < 128 ^ (k + 1) → (encN x).length ≤ k + 1
  | 0, x, h => by rw [encN_small (by simpa using h)]; simp
  | k + 1, x, h => by
    rcases Nat.lt_or_ge x 128 with h1 | h1
    · rw [encN_small h1]; simp
    · rw [encN_big h1, List.length_cons]
      have := encN_len k (x / 128) (Nat.div_lt_of_lt_mul (by rw [← Nat.pow_succ']; exact h))
      omega
def byV (x : Nat) : List Value := [.int .u8 ((x : Nat) : Int)]
abbrev ByAt (w : World) (v : Value) (l : List Nat) : Prop := SlAt w 1 v (l.map byV)
theorem by_cells {w : World} {a : Option Addr} {n c : Nat} {l : List Nat} (h : ByAt w (.slice a n c) l) (hn : 0 < n) :
    ∃ b o, a = some ⟨b, o, none⟩ ∧ ∀ i x, l[i]? = some x → w.cell? ⟨b, o + i, none⟩ = some (.int .u8 ((x : Nat) : Int)) := by
  obtain ⟨b, o, ha, h⟩ := SlAt.at h hn
  refine ⟨b, o, ha, fun i x hx => ?_⟩
  have := h i (byV x) (by simp [hx]) 0 _ rfl
  simpa using this
theorem by_flat (l : List Nat) : (l.map byV).flatten = l.map fun x => Value.int .u8 ((x : Nat) : Int) := by
  induction l with
  | nil => rfl
  | cons x l ih => simp [byV]; simpa [byV] using ih
theorem by_own {w : World} {base n : Nat} {v : Value} {l : List Nat} (h : w.ownsRow base TU8 1 v n (l.map fun x => Value.int .u8 ((x : Nat) : Int))) (hn : n = l.length) : ByAt w v l := by
  rw [← by_flat] at h
  exact own_slat h (by intro x hx; simp only [List.mem_map] at hx; obtain ⟨p, _, rfl⟩ := hx; rfl) (by simp [hn]) (by decide)
theorem wU64m (n : Int) : IntKind.u64.wrap n = n % 18446744073709551616 := by
  simp only [IntKind.wrap, IntKind.bits, IntKind.signed, Bool.true_and, Bool.false_and, decide_eq_true_eq, ge_iff_le, Int.reducePow, Nat.reduceSub, Bool.false_eq_true, if_false]
end Go.Proofs
namespace Go.Proofs
open Go Go.Eng Go.Sort
set_option maxRecDepth 100000
def intsT (t : Tab) : List Int := [t.start, ((t.cols : Nat) : Int), ((t.bs.length : Nat) : Int), ((t.ow.length : Nat) : Int)] ++ (t.acc ++ (natV t.bs ++ (t.ow ++ t.nx)))
def encI1 (n : Int) : List Nat := encN (n + 1).toNat
def bytesT (t : Tab) : List Nat := (intsT t).flatMap encI1
theorem encI1_len {n : Int} (h : n ≤ 9223372036854775807) : (encI1 n).length ≤ 10 := encN_len 9 _ (by rw [show (128 : Nat) ^ (9 + 1) = 1180591620717411303424 by decide]; omega)
theorem intsT_ok {t : Tab} (hg : GoodT t) (hW : ∀ x ∈ t.acc, x ≤ 9223372036854775807) : ∀ x ∈ intsT t, -1 ≤ x ∧ x ≤ 9223372036854775807 := by
  have g1 := hg.n1; have g2 := hg.n2; have g3 := hg.c1; have g4 := hg.c2; have g5 := hg.ol; have g6 := hg.nl; have g8 := hg.st
  intro x hx
  simp only [intsT, List.mem_append, List.mem_cons, List.not_mem_nil, or_false] at hx
  rcases hx with (rfl | rfl | rfl | rfl) | h | h | h | h
  · omega
  · omega
  · omega
  · omega
  · exact ⟨hg.am x h, hW x h⟩
  · obtain ⟨b, hb, rfl⟩ := List.mem_map.1 h
    have := hg.bm b hb
    omega
  · obtain ⟨i, hi⟩ := List.getElem?_of_mem h
    obtain ⟨y, hy⟩ := get_of_lt (l := t.nx) (i := i) (by have := lt_of_get hi; omega)
    have := hg.sl i x y hi hy
    omega
  · obtain ⟨i, hi⟩ := List.getElem?_of_mem h
    obtain ⟨y, hy⟩ := get_of_lt (l := t.ow) (i := i) (by have := lt_of_get hi; omega)
    have := hg.sl i y x hy hi
    omega
theorem intsT_len {t : Tab} (hg : GoodT t) : (intsT t).length ≤ 7000 := by
  have g1 := hg.n1; have g2 := hg.n2; have g5 := hg.ol; have g6 := hg.nl; have g7 := hg.al
  simp only [intsT, List.length_append, natV_len, List.length_cons, List.length_nil]
  omega
def partsT (t : Tab) : List (List Int) := [[t.start, ((t.cols : Nat) : Int), ((t.bs.length : Nat) : Int), ((t.ow.length : Nat) : Int)], t.acc, natV t.bs, t.ow, t.nx]
theorem partsT_flat (t : Tab) : (partsT t).flatten = intsT t := by simp [partsT, intsT]
theorem concatT_c (w0 : World) (v : Value) (t : Tab) (h : IntssAt w0 v (partsT t)) (hl : (intsT t).length ≤ 8796093022208) :
    Ret Try.prog 61 #[v] w0 fun r w => (∃ a c, r = .slice a (intsT t).length c ∧ IntsAt w (.slice a (intsT t).length c) (intsT t)) ∧ Ext w0 w := by
  have h1 := concati_c w0 v (partsT t) h (by rw [partsT_flat]; exact hl)
  rw [partsT_flat] at h1
  refine h1.mono ?_
  rintro r w ⟨⟨a, c, rfl⟩, O, e⟩
  exact ⟨⟨a, c, rfl, own_intsD O rfl⟩, e⟩
theorem intss5 {w : World} {a b c d e : Value} {la lb lc ld le : List Int} (h1 : IntsAt w a la) (h2 : IntsAt w b lb) (h3 : IntsAt w c lc) (h4 : IntsAt w d ld) (h5 : IntsAt w e le) : ∀ (i : Nat) u l, [a, b, c, d, e][i]? = some u → [la, lb, lc, ld, le][i]? = some l → IntsAt w u l := by
  intro i u l hu hl
  match i, hu, hl with
  | 0, hu, hl => simp at hu hl; subst hu; subst hl; exact h1
  | 1, hu, hl => simp at hu hl; subst hu; subst hl; exact h2
  | 2, hu, hl => simp at hu hl; subst hu; subst hl; exact h3
  | 3, hu, hl => simp at hu hl; subst hu; subst hl; exact h4
  | 4, hu, hl => simp at hu hl; subst hu; subst hl; exact h5
  | i + 5, hu, hl => simp at hu
abbrev u8V (x : Nat) : Value := .int .u8 ((x : Nat) : Int)
set_option maxHeartbeats 2000000 in
theorem bytes_c (w0 : World) (t : Tab) (vs : List Value) (h : TabAt w0 t vs) (hg : GoodT t) (hW : ∀ x ∈ t.acc, x ≤ 9223372036854775807) :
    Ret Try.prog 20 #[.agg vs.toArray] w0 fun r w => (∃ a c, r = .tuple #[.slice a (bytesT t).length c, .int .i64 0] ∧ ByAt w (.slice a (bytesT t).length c) (bytesT t)) ∧ Ext w0 w := by
  have h' := h
  obtain ⟨aa, ac, ba, bc, oa, oc, na, nc, rfl, ha, hb, ho, hn⟩ := h'
  have hok := intsT_ok hg hW
  have hlen := intsT_len hg
  have g2 := hg.n2; have g5 := hg.ol; have g6 := hg.nl; have g7 := hg.al
  refine Ret_of Try.func20 rfl Try.ntmps20 (Nat.le_of_ble_eq_true rfl) ?_
  have E : Chg none1 w0 w0 := Chg.refl _ _
  refine Wp_seq_region ?_
  refine s_box (v := (.agg #[(.int .i64 t.start), (.int .i64 ((t.cols : Nat) : Int)), (.slice aa t.acc.length ac), (.slice ba t.bs.length bc), (.slice oa t.ow.length oc), (.slice na t.nx.length nc)])) (c := #[(.int .i64 t.start), (.int .i64 ((t.cols : Nat) : Int)), (.slice aa t.acc.length ac), (.slice ba t.bs.length bc), (.slice oa t.ow.length oc), (.slice na t.nx.length nc)]) (by decide) rfl rfl ?_
  intro bt wt Nt
  have Ft := Nt.ge E
  replace E := E.ext Nt.ext
  have Bt := Nt.blk
  refine WpL_val rfl rfl (by decide) (r_assign (v := (.slice none 0 0)) rfl) ?_
  refine WpL_val rfl rfl (by decide) (r_assign (v := (.int .i64 0)) rfl) ?_
  refine WpL_nil ?_
  refine Wp_seq ?_
  refine Wp_seq_region ?_
  refine WpL_val rfl rfl (by decide) (r_loadAgg (vs := [(.int .i64 t.start), (.int .i64 ((t.cols : Nat) : Int)), (.slice aa t.acc.length ac), (.slice ba t.bs.length bc), (.slice oa t.ow.length oc), (.slice na t.nx.length nc)]) rfl agg46 siz46 rfl (Bt.cells rfl)) ?_
  refine WpL_enter rfl rfl (by decide) (r_callF (vs := [(.agg #[(.int .i64 t.start), (.int .i64 ((t.cols : Nat) : Int)), (.slice aa t.acc.length ac), (.slice ba t.bs.length bc), (.slice oa t.ow.length oc), (.slice na t.nx.length nc)])]) Try.func60 nm60 bd60 rfl) (tcheck_c _ t _ (h.ext E) hg) ?_
  rintro _ w9 ⟨rfl, X9⟩
  replace Bt := X9.keep Bt
  replace E := E.ext X9
  have hll : [t.start, ((t.cols : Nat) : Int), ((t.bs.length : Nat) : Int), ((t.ow.length : Nat) : Int)].length = 4 := rfl
  refine WpL_val rfl rfl (by decide) (r_assign (v := (.int .i64 0)) rfl) ?_
  refine WpL_nil ?_
  refine Wp_seq_region ?_
  refine WpL_val rfl rfl (by decide) (r_move (v := (.int .i64 0)) rfl) ?_
  refine WpL_val rfl rfl (by decide) (r_neq (k := .i64) (a := 0) (b := 0) rfl rfl) ?_
  refine WpL_nil ?_
  refine Wp_cond_false rfl ?_
  refine Wp_skip ?_
  refine thn_normal ?_
  refine Wp_seq_region ?_
  refine WpL_val rfl rfl (by decide) (r_assign (v := (.slice none 0 0)) rfl) ?_
  refine WpL_nil ?_
  refine Wp_seq ?_
  refine Wp_seq_region ?_
  refine WpL_val rfl rfl (by decide) (r_fieldAddr (b := bt) (o := 0) (o' := 0) rfl Try.underlying46 rfl siz3 rfl) ?_
  refine WpL_val rfl rfl (by decide) (r_load (v := (.int .i64 t.start)) rfl flat3 (Bt.cell rfl)) ?_
  refine WpL_val rfl rfl (by decide) (r_fieldAddr (b := bt) (o := 0) (o' := 1) rfl Try.underlying46 rfl siz3 rfl) ?_
  refine WpL_val rfl rfl (by decide) (r_load (v := (.int .i64 ((t.cols : Nat) : Int))) rfl flat3 (Bt.cell rfl)) ?_
  refine WpL_val rfl rfl (by decide) (r_fieldAddr (b := bt) (o := 0) (o' := 3) rfl Try.underlying46 rfl siz26 rfl) ?_
  refine WpL_val rfl rfl (by decide) (r_load (v := (.slice ba t.bs.length bc)) rfl flat26 (Bt.cell rfl)) ?_
  refine WpL_val rfl rfl (by decide) (r_lenSlice (ad := ba) (n := t.bs.length) (cap := bc) Try.underlying26 rfl) ?_
  refine WpL_val rfl rfl (by decide) (r_fieldAddr (b := bt) (o := 0) (o' := 4) rfl Try.underlying46 rfl siz26 rfl) ?_
  refine WpL_val rfl rfl (by decide) (r_load (v := (.slice oa t.ow.length oc)) rfl flat26 (Bt.cell rfl)) ?_
  refine WpL_val rfl rfl (by decide) (r_lenSlice (ad := oa) (n := t.ow.length) (cap := oc) Try.underlying26 rfl) ?_
  refine s_buildSlice (ps := [(0, (.int .i64 t.start)), (1, (.int .i64 ((t.cols : Nat) : Int))), (2, (.int .i64 ((t.bs.length : Nat) : Int))), (3, (.int .i64 ((t.ow.length : Nat) : Int)))]) (c := #[(.int .i64 t.start), (.int .i64 ((t.cols : Nat) : Int)), (.int .i64 ((t.bs.length : Nat) : Int)), (.int .i64 ((t.ow.length : Nat) : Int))]) (by decide) rfl Try.underlying26 siz3 zer3 (by decide) (by decide) (by kernel_rfl) ?_
  intro bp wp Np
  have Fp := Np.ge E
  have Op_bt := Np.lt Bt
  replace Bt := Np.keep Bt
  replace E := E.ext Np.ext
  have Bp := Np.blk
  refine WpL_val rfl rfl (by decide) (r_fieldAddr (b := bt) (o := 0) (o' := 2) rfl Try.underlying46 rfl siz26 rfl) ?_
  refine WpL_val rfl rfl (by decide) (r_load (v := (.slice aa t.acc.length ac)) rfl flat26 (Bt.cell rfl)) ?_
  refine WpL_val rfl rfl (by decide) (r_fieldAddr (b := bt) (o := 0) (o' := 3) rfl Try.underlying46 rfl siz26 rfl) ?_
  refine WpL_val rfl rfl (by decide) (r_load (v := (.slice ba t.bs.length bc)) rfl flat26 (Bt.cell rfl)) ?_
  refine WpL_val rfl rfl (by decide) (r_fieldAddr (b := bt) (o := 0) (o' := 4) rfl Try.underlying46 rfl siz26 rfl) ?_
  refine WpL_val rfl rfl (by decide) (r_load (v := (.slice oa t.ow.length oc)) rfl flat26 (Bt.cell rfl)) ?_
  refine WpL_val rfl rfl (by decide) (r_fieldAddr (b := bt) (o := 0) (o' := 5) rfl Try.underlying46 rfl siz26 rfl) ?_
  refine WpL_val rfl rfl (by decide) (r_load (v := (.slice na t.nx.length nc)) rfl flat26 (Bt.cell rfl)) ?_
  refine s_buildSlice (ps := [(0, (.slice (some ⟨bp, 0, none⟩) 4 4)), (1, (.slice aa t.acc.length ac)), (2, (.slice ba t.bs.length bc)), (3, (.slice oa t.ow.length oc)), (4, (.slice na t.nx.length nc))]) (c := #[(.slice (some ⟨bp, 0, none⟩) 4 4), (.slice aa t.acc.length ac), (.slice ba t.bs.length bc), (.slice oa t.ow.length oc), (.slice na t.nx.length nc)]) (by decide) rfl Try.underlying42 siz26 zer26 (by decide) (by decide) (by kernel_rfl) ?_
  intro bq wq Nq
  have Fq := Nq.ge E
  have Oq_bt := Nq.lt Bt
  have Oq_bp := Nq.lt Bp
  replace Bt := Nq.keep Bt
  replace Bp := Nq.keep Bp
  replace E := E.ext Nq.ext
  have Bq := Nq.blk
  refine WpL_enter rfl rfl (by decide) (r_callF (vs := [(.slice (some ⟨bq, 0, none⟩) 5 5)]) Try.func61 nm61 bd61 rfl) (concatT_c _ _ t (intss_blk Bq rfl rfl (by omega) (intss5 (ints_own (l := [t.start, ((t.cols : Nat) : Int), ((t.bs.length : Nat) : Int), ((t.ow.length : Nat) : Int)]) (rest := []) Bp (by omega) (by omega)) (ha.ext E) (hb.ext E) (ho.ext E) (hn.ext E))) (by omega)) ?_
  rintro _ w19 ⟨⟨ja, jc, rfl, hJ⟩, X19⟩
  replace Bt := X19.keep Bt
  replace Bp := X19.keep Bp
  replace Bq := X19.keep Bq
  replace E := E.ext X19
  obtain ⟨n1, hn1⟩ : ∃ n1, n1 = w19.heap.size := ⟨_, rfl⟩
  have hn10 : w0.heap.size ≤ n1 := by rw [hn1]; exact E.size
  obtain ⟨m, hm⟩ : ∃ m, m = (intsT t).length := ⟨_, rfl⟩
  rw [← hm] at hJ ⊢
  have E1 : Chg none1 w19 w19 := Chg.refl _ _
  refine WpL_val rfl rfl (by decide) (r_lenSlice (ad := ja) (n := m) (cap := jc) Try.underlying26 rfl) ?_
  refine WpL_val rfl rfl (by decide) (r_move (v := (.int .i64 0)) rfl) ?_
  refine WpL_nil ?_
  refine Wp_block ?_
  refine Wp_loop (fun nn_ σ W1 => ∃ (k : Nat) (oa2 : Option Addr) (oc2 : Nat) (out : List Nat) (n : Nat), (∃ jj_, σ = upds jj_ [(34, (.slice ja m jc)), (35, (.int .i64 ((m : Nat) : Int))), (36, (.int .i64 ((k : Nat) : Int))), (5, (.slice oa2 n oc2))]) ∧ Chg none1 w0 W1 ∧ Chg none1 w19 W1 ∧ (k ≤ m) ∧ (n = out.length) ∧ (out = ((intsT t).take k).flatMap encI1) ∧ (n ≤ k * 10) ∧ (W1.ownsRow n1 TU8 1 (.slice oa2 n oc2) n (out.map u8V)) ∧ (n1 ≤ W1.heap.size) ∧ nn_ = m - k) (n := m - 0) ?_ ?_
  · exact ⟨0, none, 0, [], 0, Fits.out ⟨rfl, rfl, rfl, rfl, trivial⟩, E, E1, Nat.zero_le _, rfl, rfl, Nat.zero_le _, World.ownsRow_nil _ _ _ _, (by omega), rfl⟩
  · clear E E1
    rintro _ _ W1 ⟨k, oa2, oc2, out, n, ⟨j1, rfl⟩, E, E1, hk, hn2, hout, hol, hO, hsz, rfl⟩
    refine Wp_seq_region ?_
    refine WpL_val rfl rfl (by decide) (r_lss (k := .i64) (a := ((k : Nat) : Int)) (b := ((m : Nat) : Int)) rfl rfl) ?_
    refine WpL_nil ?_
    refine Wp_seq ?_
    refine Wp_cond (b := decide ((((k : Nat) : Int) : Int) < ((m : Nat) : Int))) rfl (fun hlt => ?_) (fun hlt => ?_)
    · have khlt := hlt
      replace hlt := of_decide_eq_true hlt
      obtain ⟨x, hx⟩ := get_of_lt (l := intsT t) (i := k) (by omega)
      obtain ⟨jb, jo, rfl, hjc⟩ := ints_cells hJ (by omega)
      have hxo := hok x (List.mem_of_getElem? hx)
      refine Wp_skip ?_
      refine thn_normal ?_
      refine Wp_seq ?_
      refine Wp_block ?_
      refine Wp_seq_region ?_
      refine WpL_val rfl rfl (by decide) (r_indexSlice (b := jb) (o := jo) (len := m) (cap := jc) (i := k) (o' := jo + k) rfl rfl rfl Try.underlying26 siz3 (by omega) (by omega)) ?_
      refine WpL_val rfl rfl (by decide) (r_load (v := (.int .i64 x)) rfl flat3 (E1.cell (fun f => f) (hjc k x hx))) ?_
      obtain ⟨y0, hy0⟩ : ∃ y0 : Nat, y0 = (x + 1).toNat := ⟨_, rfl⟩
      refine WpL_val rfl rfl (by decide) (r_assign (v := (.int .i64 x)) rfl) ?_
      refine WpL_nil ?_
      refine Wp_seq_region ?_
      refine WpL_val rfl rfl (by decide) (r_move (v := (.int .i64 x)) rfl) ?_
      refine WpL_val rfl rfl (by decide) (r_convInt (k := .i64) (k' := .u64) (n := x) (c := x % 18446744073709551616) ⟨_, Try.underlying3⟩ Try.underlying108 rfl (wU64m _)) ?_
      refine WpL_val rfl rfl (by decide) (r_add (k := .u64) (a := x % 18446744073709551616) (b := 1) (c := ((y0 : Nat) : Int)) rfl rfl ((wU64m _).trans (by omega))) ?_
      refine WpL_val rfl rfl (by decide) (r_assign (v := (.int .u64 ((y0 : Nat) : Int))) rfl) ?_
      refine WpL_nil ?_
      refine Wp_seq ?_
      refine Wp_block ?_
      refine Wp_loop (fun nn_ σ W3 => ∃ (oa3 : Option Addr) (oc3 : Nat) (out2 : List Nat) (n3 : Nat) (y : Nat), (∃ jj_, σ = upds jj_ [(34, (.slice (some ⟨jb, jo, none⟩) m jc)), (35, (.int .i64 ((m : Nat) : Int))), (36, (.int .i64 ((k : Nat) : Int))), (5, (.slice oa3 n3 oc3)), (8, (.int .u64 ((y : Nat) : Int)))]) ∧ Chg none1 w0 W3 ∧ Chg none1 w19 W3 ∧ (n3 = out2.length) ∧ (out2 ++ encN y = out ++ encN y0) ∧ (y ≤ y0) ∧ (W3.ownsRow n1 TU8 1 (.slice oa3 n3 oc3) n3 (out2.map u8V)) ∧ (n1 ≤ W3.heap.size) ∧ nn_ = y + 1) (n := y0 + 1) ?_ ?_
      · exact ⟨oa2, oc2, out, n, y0, Fits.out ⟨rfl, rfl, rfl, rfl, rfl, trivial⟩, E, E1, hn2, rfl, Nat.le_refl _, hO, hsz, rfl⟩
      · clear E E1
        rintro _ _ W3 ⟨oa3, oc3, out2, n3, y, ⟨j3, rfl⟩, E, E1, hn3, hout2, hy, hO2, hsz2, rfl⟩
        have hly := congrArg List.length hout2
        rw [List.length_append, List.length_append] at hly
        have hl10 : (encN y0).length ≤ 10 := by have h9 := encI1_len hxo.2; unfold encI1 at h9; rwa [← hy0] at h9
        have hypos := encN_pos y
        refine Wp_seq ?_
        refine Wp_seq_region ?_
        refine WpL_val rfl rfl (by decide) (r_move (v := (.int .u64 ((y : Nat) : Int))) rfl) ?_
        refine WpL_val rfl rfl (by decide) (r_geq (k := .u64) (a := ((y : Nat) : Int)) (b := 128) rfl rfl) ?_
        refine WpL_nil ?_
        refine Wp_cond (b := decide ((128 : Int) ≤ ((y : Nat) : Int))) rfl (fun hbig => ?_) (fun hbig => ?_)
        · have khbig := hbig
          replace hbig := of_decide_eq_true hbig
          have hkb : 128 ≤ y := by omega
          rw [encN_big hkb] at hout2
          refine Wp_skip ?_
          refine thn_normal ?_
          refine Wp_block ?_
          refine Wp_seq_region ?_
          refine WpL_val rfl rfl (by decide) (r_move (v := (.slice oa3 n3 oc3)) rfl) ?_
          refine WpL_val rfl rfl (by decide) (r_move (v := (.int .u64 ((y : Nat) : Int))) rfl) ?_
          refine WpL_val rfl rfl (by decide) (r_rem (k := .u64) (a := ((y : Nat) : Int)) (b := 128) (c := ((y % 128 : Nat) : Int)) rfl rfl (by omega) rfl) ?_
          refine WpL_val rfl rfl (by decide) (r_convInt (k := .u64) (k' := .u8) (n := ((y % 128 : Nat) : Int)) (c := ((y % 128 : Nat) : Int)) ⟨_, Try.underlying108⟩ Try.underlying5 rfl ((wU8m _).trans (by omega))) ?_
          refine WpL_val rfl rfl (by decide) (r_add (k := .u8) (a := ((y % 128 : Nat) : Int)) (b := 128) (c := ((y % 128 + 128 : Nat) : Int)) rfl rfl ((wU8m _).trans (by omega))) ?_
          refine s_buildSlice (ps := [(0, (.int .u8 ((y % 128 + 128 : Nat) : Int)))]) (c := #[(.int .u8 ((y % 128 + 128 : Nat) : Int))]) (by decide) rfl Try.underlying52 siz5 zer5 (by decide) (by decide) (by kernel_rfl) ?_
          intro br wr Nr
          have Fr := Nr.ge E
          have Fr_E1 := Nr.ge E1
          replace E := E.ext Nr.ext
          have Br := Nr.blk
          replace E1 := E1.ext Nr.ext
          have hO2r := own_ext hO2 Nr.ext
          refine s_append (base := n1) (n := n3) (m := 1) (xs := (out2.map u8V)) (news := [(.int .u8 ((y % 128 + 128 : Nat) : Int))]) (size := 1) (bytes := 1) (v := (.slice oa3 n3 oc3)) (by decide) Try.underlying52 siz5 byt5 zer5 rfl (by decide) rfl hO2r rfl (rfl) (Br.cells rfl) (by simp [Value.oneCell']) (by unfold maxLen; omega) (by omega) ((by have := Nr.ext.size; omega)) ?_
          intro v7 w59 Ov7 Cv7 Dv7
          replace E := E.step Cv7 (fun x hx h => absurd (hO2r.lt x h).1 (by omega))
          replace E1 := E1.step Cv7 (fun x hx h => absurd (hO2r.lt x h).1 (by omega))
          obtain ⟨oa4, oc4, rfl⟩ := own_form Ov7
          refine WpL_val rfl rfl (by decide) (r_assign (v := (.slice oa4 (n3 + 1) oc4)) rfl) ?_
          refine WpL_nil ?_
          refine Wp_region ?_
          refine WpL_val rfl rfl (by decide) (r_move (v := (.int .u64 ((y : Nat) : Int))) rfl) ?_
          refine WpL_val rfl rfl (by decide) (r_quo (k := .u64) (a := ((y : Nat) : Int)) (b := 128) (c := ((y / 128 : Nat) : Int)) rfl rfl (by decide) (by rw [Int.tdiv_eq_ediv_of_nonneg (by omega), wU64m]; omega)) ?_
          refine WpL_val rfl rfl (by decide) (r_assign (v := (.int .u64 ((y / 128 : Nat) : Int))) rfl) ?_
          refine WpL_nil ?_
          refine inB_normal ?_
          refine thn_normal ?_
          exact ⟨(y / 128) + 1, by omega, oa4, oc4, out2 ++ [y % 128 + 128], n3 + 1, y / 128, Fits.out ⟨rfl, rfl, rfl, rfl, rfl, trivial⟩, E, E1, (by simp [hn3]), (by rw [← hout2, List.append_assoc]; rfl), (by omega), (by rw [List.map_append]; exact Ov7), Nat.le_trans hsz2 (Nat.le_trans Nr.ext.size Cv7.size), rfl⟩
        · have khbig := hbig
          replace hbig := of_decide_eq_false hbig
          have hkb : y < 128 := by omega
          rw [encN_small hkb] at hout2 hypos hly
          refine Wp_exit ?_
          refine thn_exit ?_
          refine thn_exit ?_
          refine inB_here ?_
          refine thn_normal ?_
          refine Wp_region ?_
          refine WpL_val rfl rfl (by decide) (r_move (v := (.slice oa3 n3 oc3)) rfl) ?_
          refine WpL_val rfl rfl (by decide) (r_move (v := (.int .u64 ((y : Nat) : Int))) rfl) ?_
          refine WpL_val rfl rfl (by decide) (r_convInt (k := .u64) (k' := .u8) (n := ((y : Nat) : Int)) (c := ((y : Nat) : Int)) ⟨_, Try.underlying108⟩ Try.underlying5 rfl ((wU8m _).trans (by omega))) ?_
          refine s_buildSlice (ps := [(0, (.int .u8 ((y : Nat) : Int)))]) (c := #[(.int .u8 ((y : Nat) : Int))]) (by decide) rfl Try.underlying52 siz5 zer5 (by decide) (by decide) (by kernel_rfl) ?_
          intro br wr Nr
          have Fr := Nr.ge E
          have Fr_E1 := Nr.ge E1
          replace E := E.ext Nr.ext
          have Br := Nr.blk
          replace E1 := E1.ext Nr.ext
          have hO2r := own_ext hO2 Nr.ext
          have hl1 : [y].length = 1 := rfl
          refine s_append (base := n1) (n := n3) (m := 1) (xs := (out2.map u8V)) (news := [(.int .u8 ((y : Nat) : Int))]) (size := 1) (bytes := 1) (v := (.slice oa3 n3 oc3)) (by decide) Try.underlying52 siz5 byt5 zer5 rfl (by decide) rfl hO2r rfl (rfl) (Br.cells rfl) (by simp [Value.oneCell']) (by unfold maxLen; omega) (by omega) ((by have := Nr.ext.size; omega)) ?_
          intro v8 w69 Ov8 Cv8 Dv8
          replace E := E.step Cv8 (fun x hx h => absurd (hO2r.lt x h).1 (by omega))
          replace E1 := E1.step Cv8 (fun x hx h => absurd (hO2r.lt x h).1 (by omega))
          obtain ⟨oa4, oc4, rfl⟩ := own_form Ov8
          refine WpL_val rfl rfl (by decide) (r_assign (v := (.slice oa4 (n3 + 1) oc4)) rfl) ?_
          refine WpL_nil ?_
          refine inB_normal ?_
          refine thn_normal ?_
          refine Wp_region ?_
          refine WpL_val rfl rfl (by decide) (r_add (k := .i64) (a := ((k : Nat) : Int)) (b := 1) (c := ((k : Nat) : Int) + 1) rfl rfl (wI64 (by omega))) ?_
          refine WpL_val rfl rfl (by decide) (r_move (v := (.int .i64 (((k : Nat) : Int) + 1))) rfl) ?_
          refine WpL_nil ?_
          refine thn_normal ?_
          exact ⟨m - (k + 1), by omega, k + 1, oa4, oc4, out2 ++ [y], n3 + 1, Fits.out ⟨rfl, rfl, rfl, rfl, trivial⟩, E, E1, (by omega), (by simp [hn3]), (by rw [hout2, take_snoc' hx, List.flatMap_append, hout]; unfold encI1; simp [hy0, encI1]), (by omega), (by rw [List.map_append]; exact Ov8), Nat.le_trans hsz2 (Nat.le_trans Nr.ext.size Cv8.size), rfl⟩
    · have khlt := hlt
      replace hlt := of_decide_eq_false hlt
      have hkm : k = m := by omega
      rw [hkm, hm, List.take_length] at hout
      refine Wp_exit ?_
      refine thn_exit ?_
      refine thn_exit ?_
      refine inB_here ?_
      refine thn_normal ?_
      refine Wp_seq_region ?_
      refine WpL_val rfl rfl (by decide) (r_move (v := (.slice oa2 n oc2)) rfl) ?_
      refine WpL_val rfl rfl (by decide) (r_assign (v := (.slice oa2 n oc2)) rfl) ?_
      refine WpL_val rfl rfl (by decide) (r_assign (v := (.int .i64 0)) rfl) ?_
      refine WpL_nil ?_
      refine Wp_ret ?_
      refine fin_tmp2 Try.results20 (v := (.slice oa2 n oc2)) (v' := (.int .i64 0)) rfl rfl ?_
      have hn9 : n = (bytesT t).length := by rw [hn2, hout]; rfl
      rw [← hn9]
      exact ⟨⟨oa2, oc2, rfl, by have h9 := by_own hO hn2; rwa [hout] at h9⟩, E⟩
end Go.Proofs
namespace Go.Proofs
open Go Go.Eng Go.Sort
set_option maxRecDepth 100000
def T4 (t : Tab) : List (List Int) := [t.acc, natV t.bs, t.ow, t.nx]
end Go.Proofs
namespace Go.Proofs
open Go Go.Eng Go.Sort
set_option maxRecDepth 100000
--BEGIN
def stR (d : Dfa) : Bool := decide ((0 : Int) ≤ d.start) && decide (d.start < ((d.next.length : Nat) : Int))
def accR (x : Int) : Bool := decide ((-1 : Int) ≤ x)
def rngR (n : Nat) (x : Int) : Bool := decide ((-1 : Int) ≤ x) && decide (x < ((n : Nat) : Int))
def okR (d : Dfa) (k : Nat) : Bool := stR d && ((d.accept.take k).all accR && (d.next.take k).all (fun r => r.all (rngR d.next.length)))
theorem okR_succ {d : Dfa} {k : Nat} {y : Int} {row : List Int} (hy : d.accept[k]? = some y) (hr : d.next[k]? = some row) : okR d (k + 1) = ((okR d k && accR y) && row.all (rngR d.next.length)) := by
  unfold okR
  rw [List.take_add_one, List.take_add_one, hy, hr, List.all_append, List.all_append]
  simp only [Option.toList_some, List.all_cons, List.all_nil, Bool.and_true]
  cases stR d <;> cases (List.take k d.accept).all accR <;> cases (List.take k d.next).all (fun r => r.all (rngR d.next.length)) <;> cases accR y <;> simp
theorem okR_bad {d : Dfa} (hl : d.accept.length = d.next.length) (ha : d.accept ≠ []) (hr : ∀ row ∈ d.next, row ≠ []) : okR d d.next.length = !(bad0 d || d.next.any (badRow d.next.length)) := by
  have e1 : d.accept.take d.next.length = d.accept := by rw [← hl, List.take_length]
  rw [Bool.eq_iff_iff, Bool.not_eq_true', Bool.or_eq_false_iff]
  unfold okR bad0 stR
  rw [List.take_length, e1]
  simp only [Bool.and_eq_true, Bool.or_eq_false_iff, decide_eq_true_eq, decide_eq_false_iff_not, List.all_eq_true, List.any_eq_false, Int.not_lt, Int.not_le]
  have h1 := minL_lt ha (z := -1)
  constructor
  · rintro ⟨⟨h2, h3⟩, h4, h5⟩
    refine ⟨⟨⟨h2, h3⟩, h1.2 fun x hx => by simpa [accR] using h4 x hx⟩, fun row hrow => ?_⟩
    have h6 := h5 row hrow
    simp only [rngR, Bool.and_eq_true, decide_eq_true_eq] at h6
    have h7 := (minL_lt (hr row hrow) (z := -1)).2 fun x hx => (h6 x hx).1
    have h8 := (maxL_lt (hr row hrow) (z := ((d.next.length : Nat) : Int))).2 fun x hx => (h6 x hx).2
    unfold badRow
    simp only [Bool.or_eq_true, decide_eq_true_eq]
    omega
  · rintro ⟨⟨⟨h2, h3⟩, h4⟩, h5⟩
    refine ⟨⟨h2, h3⟩, fun x hx => by simpa [accR] using h1.1 h4 x hx, fun row hrow x hx => ?_⟩
    have h6 := h5 row hrow
    unfold badRow at h6
    simp only [Bool.or_eq_true, decide_eq_true_eq, not_or, Int.not_lt, Int.not_le] at h6
    have h7 := (minL_lt (hr row hrow) (z := -1)).1 h6.1 x hx
    have h8 := (maxL_lt (hr row hrow) (z := ((d.next.length : Nat) : Int))).1 h6.2 x hx
    simp only [rngR, Bool.and_eq_true, decide_eq_true_eq]
    exact ⟨h7, h8⟩
--END
set_option maxHeartbeats 4000000 in
theorem rcheckd_c (w0 : World) (d : Dfa) (vs : List Value) (hd : DfaAt w0 d vs) : Ret Try.prog 17 #[.agg vs.toArray] w0 fun r w => r = .int .i64 (checkD d) ∧ Ext w0 w := by
  obtain ⟨aa, ac, na, nc, rfl, ha, hn⟩ := hd
  have hal : d.accept.length ≤ 9223372036854775807 := by simpa using SlAt.le ha
  obtain ⟨_, _, hv, hcap, hle⟩ := hn.form
  simp only [Value.slice.injEq] at hv
  obtain ⟨rfl, _, rfl⟩ := hv
  refine Ret_of Try.func17 rfl Try.ntmps17 (Nat.le_of_ble_eq_true rfl) ?_
  have E : Chg none1 w0 w0 := Chg.refl _ _
  refine Wp_seq_region ?_
  refine s_box (v := (.agg #[(.int .i64 d.start), (.slice aa d.accept.length ac), (.slice na d.next.length nc)])) (c := #[(.int .i64 d.start), (.slice aa d.accept.length ac), (.slice na d.next.length nc)]) (by decide) rfl rfl ?_
  intro br wr Nr
  have Fr := Nr.ge E
  replace E := E.ext Nr.ext
  have Br := Nr.blk
  refine WpL_val rfl rfl (by decide) (r_assign (v := (.int .i64 0)) rfl) ?_
  refine WpL_nil ?_
  refine Wp_seq_region ?_
  refine WpL_val rfl rfl (by decide) (r_fieldAddr (b := br) (o := 0) (o' := 2) rfl Try.underlying44 rfl siz42 rfl) ?_
  refine WpL_val rfl rfl (by decide) (r_load (v := (.slice na d.next.length nc)) rfl flat42 (Br.cell rfl)) ?_
  refine WpL_val rfl rfl (by decide) (r_lenSlice (ad := na) (n := d.next.length) (cap := nc) Try.underlying42 rfl) ?_
  refine WpL_val rfl rfl (by decide) (r_assign (v := (.int .i64 ((d.next.length : Nat) : Int))) rfl) ?_
  refine WpL_nil ?_
  refine Wp_seq ?_
  refine Wp_seq_region ?_
  refine WpL_val rfl rfl (by decide) (r_move (v := (.int .i64 ((d.next.length : Nat) : Int))) rfl) ?_
  refine WpL_val rfl rfl (by decide) (r_gtr (k := .i64) (a := ((d.next.length : Nat) : Int)) (b := 200) rfl rfl) ?_
  refine WpL_nil ?_
  refine Wp_cond (b := decide ((200 : Int) < ((d.next.length : Nat) : Int))) rfl (fun h1 => ?_) (fun h1 => ?_)
  · have kh1 := h1
    replace h1 := of_decide_eq_true h1
    refine Wp_seq_region ?_
    refine WpL_val rfl rfl (by decide) (r_assign (v := (.int .i64 2)) rfl) ?_
    refine WpL_nil ?_
    refine Wp_ret ?_
    refine thn_ret ?_
    refine fin_tmp Try.results17 (v := (.int .i64 2)) rfl ?_
    exact ⟨int_eq (by unfold checkD; rw [if_pos (by omega)]), E⟩
  · have kh1 := h1
    replace h1 := of_decide_eq_false h1
    refine Wp_skip ?_
    refine thn_normal ?_
    refine Wp_seq ?_
    refine Wp_seq_region ?_
    refine WpL_val rfl rfl (by decide) (r_move (v := (.int .i64 ((d.next.length : Nat) : Int))) rfl) ?_
    obtain ⟨e2, he2⟩ : ∃ e, (decide ((((d.next.length : Nat) : Int) : Int) = 0)) = e := ⟨_, rfl⟩
    refine WpL_val rfl rfl (by decide) ((r_eql (k := .i64) (a := ((d.next.length : Nat) : Int)) (b := 0) rfl rfl).trans (by rw [he2]; try rfl)) ?_
    refine WpL_val rfl rfl (by decide) (r_move (v := (.bool e2)) rfl) ?_
    refine WpL_guard_any (oj := _) (gv := (.bool e2)) (u := (bif e2 then undef else (.pointer (some ⟨br, 1, none⟩)))) rfl rfl (by decide) (by decide) rfl (by cases e2 <;> first | exact Or.inr ⟨Or.inl rfl, rfl⟩ | exact Or.inr ⟨Or.inr rfl, rfl⟩ | exact Or.inl ⟨rfl, r_fieldAddr (b := br) (o := 0) (o' := 1) rfl Try.underlying44 rfl siz26 rfl⟩) ?_
    refine WpL_guard_any (oj := _) (gv := (.bool e2)) (u := (bif e2 then undef else (.slice aa d.accept.length ac))) rfl rfl (by decide) (by decide) rfl (by cases e2 <;> first | exact Or.inr ⟨Or.inl rfl, rfl⟩ | exact Or.inr ⟨Or.inr rfl, rfl⟩ | exact Or.inl ⟨rfl, r_load (v := (.slice aa d.accept.length ac)) rfl flat26 (Br.cell rfl)⟩) ?_
    refine WpL_guard_any (oj := _) (gv := (.bool e2)) (u := (bif e2 then undef else (.int .i64 ((d.accept.length : Nat) : Int)))) rfl rfl (by decide) (by decide) rfl (by cases e2 <;> first | exact Or.inr ⟨Or.inl rfl, rfl⟩ | exact Or.inr ⟨Or.inr rfl, rfl⟩ | exact Or.inl ⟨rfl, r_lenSlice (ad := aa) (n := d.accept.length) (cap := ac) Try.underlying26 rfl⟩) ?_
    refine WpL_guard_any (oj := _) (gv := (.bool e2)) (u := (bif e2 then undef else (.int .i64 ((d.next.length : Nat) : Int)))) rfl rfl (by decide) (by decide) rfl (by cases e2 <;> first | exact Or.inr ⟨Or.inl rfl, rfl⟩ | exact Or.inr ⟨Or.inr rfl, rfl⟩ | exact Or.inl ⟨rfl, r_move (v := (.int .i64 ((d.next.length : Nat) : Int))) rfl⟩) ?_
    obtain ⟨e3, he3⟩ : ∃ e, (decide ((((d.accept.length : Nat) : Int) : Int) ≠ ((d.next.length : Nat) : Int))) = e := ⟨_, rfl⟩
    refine WpL_guard_any (oj := _) (gv := (.bool e2)) (u := (bif e2 then undef else (.bool e3))) rfl rfl (by decide) (by decide) rfl (by cases e2 <;> first | exact Or.inr ⟨Or.inl rfl, rfl⟩ | exact Or.inr ⟨Or.inr rfl, rfl⟩ | exact Or.inl ⟨rfl, (r_neq (k := .i64) (a := ((d.accept.length : Nat) : Int)) (b := ((d.next.length : Nat) : Int)) rfl rfl).trans (by rw [he3]; try rfl)⟩) ?_
    obtain ⟨e4, he4⟩ : ∃ e, (e2 || e3) = e := ⟨_, rfl⟩
    refine WpL_val rfl rfl (by decide) (r_pick (b := e2) (v := .bool e4) rfl (by rw [← he4]; cases e2 <;> rfl)) ?_
    refine WpL_nil ?_
    subst he4
    subst he3
    subst he2
    refine Wp_cond (b := ((decide ((((d.next.length : Nat) : Int) : Int) = 0)) || (decide ((((d.accept.length : Nat) : Int) : Int) ≠ ((d.next.length : Nat) : Int))))) rfl (fun h2 => ?_) (fun h2 => ?_)
    · have kh2 := h2
      refine Wp_seq_region ?_
      refine WpL_val rfl rfl (by decide) (r_assign (v := (.int .i64 3)) rfl) ?_
      refine WpL_nil ?_
      refine Wp_ret ?_
      refine thn_ret ?_
      refine fin_tmp Try.results17 (v := (.int .i64 3)) rfl ?_
      exact ⟨int_eq (by unfold checkD; rw [if_neg (by omega), if_pos (by simp only [Bool.or_eq_true, decide_eq_true_eq] at h2; omega)]), E⟩
    · have kh2 := h2
      simp only [Bool.or_eq_false_iff, decide_eq_false_iff_not] at h2
      have h20 : ¬ (d.next.length = 0 ∨ d.accept.length ≠ d.next.length) := by omega
      obtain ⟨row0, hrow0⟩ := get_of_lt (l := d.next) (i := 0) (by omega)
      have hc0 : colsD d = row0.length := by unfold colsD; cases hq : d.next with | nil => rw [hq] at hrow0; simp at hrow0 | cons y l => rw [hq] at hrow0; simp at hrow0; simp [hrow0]
      obtain ⟨nb, no, hna, hncl⟩ := intss_cells hn (by omega)
      subst hna
      obtain ⟨ab, ao, haa, hax⟩ := ints_cells ha (by omega)
      subst haa
      obtain ⟨ra0, rc0, hcell0, hints0⟩ := hncl 0 row0 hrow0
      refine Wp_skip ?_
      refine thn_normal ?_
      refine Wp_seq ?_
      refine Wp_seq_region ?_
      refine WpL_val rfl rfl (by decide) (r_fieldAddr (b := br) (o := 0) (o' := 2) rfl Try.underlying44 rfl siz42 rfl) ?_
      refine WpL_val rfl rfl (by decide) (r_load (v := (.slice (some ⟨nb, no, none⟩) d.next.length nc)) rfl flat42 (Br.cell rfl)) ?_
      refine WpL_val rfl rfl (by decide) (r_indexSlice (b := nb) (o := no) (len := d.next.length) (cap := nc) (i := 0) (o' := no + 0) rfl rfl rfl Try.underlying42 siz26 (by omega) (by omega)) ?_
      refine WpL_val rfl rfl (by decide) (r_load (v := (.slice ra0 row0.length rc0)) rfl flat26 (E.cell (fun f => f) hcell0)) ?_
      refine WpL_val rfl rfl (by decide) (r_lenSlice (ad := ra0) (n := row0.length) (cap := rc0) Try.underlying26 rfl) ?_
      refine WpL_val rfl rfl (by decide) (r_gtr (k := .i64) (a := ((row0.length : Nat) : Int)) (b := 16) rfl rfl) ?_
      refine WpL_nil ?_
      refine Wp_cond (b := decide ((16 : Int) < ((row0.length : Nat) : Int))) rfl (fun h3 => ?_) (fun h3 => ?_)
      · have kh3 := h3
        replace h3 := of_decide_eq_true h3
        refine Wp_seq_region ?_
        refine WpL_val rfl rfl (by decide) (r_assign (v := (.int .i64 2)) rfl) ?_
        refine WpL_nil ?_
        refine Wp_ret ?_
        refine thn_ret ?_
        refine fin_tmp Try.results17 (v := (.int .i64 2)) rfl ?_
        exact ⟨int_eq (by unfold checkD; rw [if_neg (by omega), if_neg h20, if_pos (by omega)]), E⟩
      · have kh3 := h3
        replace h3 := of_decide_eq_false h3
        refine Wp_skip ?_
        refine thn_normal ?_
        refine Wp_seq ?_
        refine Wp_seq_region ?_
        refine WpL_val rfl rfl (by decide) (r_fieldAddr (b := br) (o := 0) (o' := 2) rfl Try.underlying44 rfl siz42 rfl) ?_
        refine WpL_val rfl rfl (by decide) (r_load (v := (.slice (some ⟨nb, no, none⟩) d.next.length nc)) rfl flat42 (Br.cell rfl)) ?_
        refine WpL_val rfl rfl (by decide) (r_lenSlice (ad := some ⟨nb, no, none⟩) (n := d.next.length) (cap := nc) Try.underlying42 rfl) ?_
        refine WpL_val rfl rfl (by decide) (r_move (v := (.int .i64 0)) rfl) ?_
        refine WpL_nil ?_
        refine Wp_block ?_
        refine Wp_loop (fun nn_ σ W7 => ∃ (k : Nat), (∃ jj_, σ = upds jj_ [(1, (.pointer (some ⟨br, 0, none⟩))), (3, (.int .i64 ((d.next.length : Nat) : Int))), (32, (.slice (some ⟨nb, no, none⟩) d.next.length nc)), (33, (.int .i64 ((d.next.length : Nat) : Int))), (34, (.int .i64 ((k : Nat) : Int)))]) ∧ Chg none1 w0 W7 ∧ Blk W7 br #[(.int .i64 d.start), (.slice (some ⟨ab, ao, none⟩) d.accept.length ac), (.slice (some ⟨nb, no, none⟩) d.next.length nc)] 44 ∧ (k ≤ d.next.length) ∧ ((d.next.take k).any (formRow (colsD d)) = false) ∧ nn_ = d.next.length - k) (n := d.next.length - 0) ?_ ?_
        · exact ⟨0, Fits.out ⟨rfl, rfl, rfl, rfl, rfl, trivial⟩, E, Br, Nat.zero_le _, rfl, rfl⟩
        · clear E Br
          rintro _ _ W7 ⟨k, ⟨j7, rfl⟩, E, Br, hk, hno, rfl⟩
          refine Wp_seq_region ?_
          refine WpL_val rfl rfl (by decide) (r_lss (k := .i64) (a := ((k : Nat) : Int)) (b := ((d.next.length : Nat) : Int)) rfl rfl) ?_
          refine WpL_nil ?_
          refine Wp_seq ?_
          refine Wp_cond (b := decide ((((k : Nat) : Int) : Int) < ((d.next.length : Nat) : Int))) rfl (fun hlt => ?_) (fun hlt => ?_)
          · have khlt := hlt
            replace hlt := of_decide_eq_true hlt
            obtain ⟨row, hrow⟩ := get_of_lt (l := d.next) (i := k) (by omega)
            obtain ⟨ra, rc, hcell, hints⟩ := hncl k row hrow
            have hrl : row.length ≤ 9223372036854775807 := by simpa using SlAt.le hints
            refine Wp_skip ?_
            refine thn_normal ?_
            refine Wp_seq ?_
            refine Wp_block ?_
            refine Wp_seq_region ?_
            refine WpL_val rfl rfl (by decide) (r_indexSlice (b := nb) (o := no) (len := d.next.length) (cap := nc) (i := k) (o' := no + k) rfl rfl rfl Try.underlying42 siz26 (by omega) (by omega)) ?_
            refine WpL_val rfl rfl (by decide) (r_load (v := (.slice ra row.length rc)) rfl flat26 (E.cell (fun f => f) hcell)) ?_
            refine WpL_val rfl rfl (by decide) (r_assign (v := (.slice ra row.length rc)) rfl) ?_
            refine WpL_nil ?_
            refine Wp_seq_region ?_
            refine WpL_val rfl rfl (by decide) (r_move (v := (.slice ra row.length rc)) rfl) ?_
            refine WpL_val rfl rfl (by decide) (r_lenSlice (ad := ra) (n := row.length) (cap := rc) Try.underlying26 rfl) ?_
            refine WpL_val rfl rfl (by decide) (r_fieldAddr (b := br) (o := 0) (o' := 2) rfl Try.underlying44 rfl siz42 rfl) ?_
            refine WpL_val rfl rfl (by decide) (r_load (v := (.slice (some ⟨nb, no, none⟩) d.next.length nc)) rfl flat42 (Br.cell rfl)) ?_
            refine WpL_val rfl rfl (by decide) (r_indexSlice (b := nb) (o := no) (len := d.next.length) (cap := nc) (i := 0) (o' := no + 0) rfl rfl rfl Try.underlying42 siz26 (by omega) (by omega)) ?_
            refine WpL_val rfl rfl (by decide) (r_load (v := (.slice ra0 row0.length rc0)) rfl flat26 (E.cell (fun f => f) hcell0)) ?_
            refine WpL_val rfl rfl (by decide) (r_lenSlice (ad := ra0) (n := row0.length) (cap := rc0) Try.underlying26 rfl) ?_
            obtain ⟨e9, he9⟩ : ∃ e, (decide ((((row.length : Nat) : Int) : Int) ≠ ((row0.length : Nat) : Int))) = e := ⟨_, rfl⟩
            refine WpL_val rfl rfl (by decide) ((r_neq (k := .i64) (a := ((row.length : Nat) : Int)) (b := ((row0.length : Nat) : Int)) rfl rfl).trans (by rw [he9]; try rfl)) ?_
            refine WpL_val rfl rfl (by decide) (r_move (v := (.bool e9)) rfl) ?_
            refine WpL_guard_any (oj := _) (gv := (.bool e9)) (u := (bif e9 then undef else (.slice ra row.length rc))) rfl rfl (by decide) (by decide) rfl (by cases e9 <;> first | exact Or.inr ⟨Or.inl rfl, rfl⟩ | exact Or.inr ⟨Or.inr rfl, rfl⟩ | exact Or.inl ⟨rfl, r_move (v := (.slice ra row.length rc)) rfl⟩) ?_
            refine WpL_guard_any (oj := _) (gv := (.bool e9)) (u := (bif e9 then undef else (.int .i64 ((row.length : Nat) : Int)))) rfl rfl (by decide) (by decide) rfl (by cases e9 <;> first | exact Or.inr ⟨Or.inl rfl, rfl⟩ | exact Or.inr ⟨Or.inr rfl, rfl⟩ | exact Or.inl ⟨rfl, r_lenSlice (ad := ra) (n := row.length) (cap := rc) Try.underlying26 rfl⟩) ?_
            obtain ⟨e10, he10⟩ : ∃ e, (decide ((((row.length : Nat) : Int) : Int) = 0)) = e := ⟨_, rfl⟩
            refine WpL_guard_any (oj := _) (gv := (.bool e9)) (u := (bif e9 then undef else (.bool e10))) rfl rfl (by decide) (by decide) rfl (by cases e9 <;> first | exact Or.inr ⟨Or.inl rfl, rfl⟩ | exact Or.inr ⟨Or.inr rfl, rfl⟩ | exact Or.inl ⟨rfl, (r_eql (k := .i64) (a := ((row.length : Nat) : Int)) (b := 0) rfl rfl).trans (by rw [he10]; try rfl)⟩) ?_
            obtain ⟨e11, he11⟩ : ∃ e, (e9 || e10) = e := ⟨_, rfl⟩
            refine WpL_val rfl rfl (by decide) (r_pick (b := e9) (v := .bool e11) rfl (by rw [← he11]; cases e9 <;> rfl)) ?_
            refine WpL_nil ?_
            subst he11
            subst he10
            subst he9
            refine Wp_cond (b := ((decide ((((row.length : Nat) : Int) : Int) ≠ ((row0.length : Nat) : Int))) || (decide ((((row.length : Nat) : Int) : Int) = 0)))) rfl (fun hf => ?_) (fun hf => ?_)
            · have khf := hf
              refine Wp_seq_region ?_
              refine WpL_val rfl rfl (by decide) (r_assign (v := (.int .i64 3)) rfl) ?_
              refine WpL_nil ?_
              refine Wp_ret ?_
              refine inB_ret ?_
              refine thn_ret ?_
              refine thn_ret ?_
              refine inB_ret ?_
              refine thn_ret ?_
              refine fin_tmp Try.results17 (v := (.int .i64 3)) rfl ?_
              refine ⟨int_eq ?_, E⟩
              unfold checkD
              rw [if_neg (by omega), if_neg h20, if_neg (by omega), if_pos]
              exact List.any_eq_true.2 ⟨row, List.mem_of_getElem? hrow, by unfold formRow; rw [hc0, Bool.or_comm]; simpa using hf⟩
            · have khf := hf
              refine Wp_skip ?_
              refine inB_normal ?_
              refine thn_normal ?_
              refine Wp_region ?_
              refine WpL_val rfl rfl (by decide) (r_add (k := .i64) (a := ((k : Nat) : Int)) (b := 1) (c := ((k : Nat) : Int) + 1) rfl rfl (wI64 (by omega))) ?_
              refine WpL_val rfl rfl (by decide) (r_move (v := (.int .i64 (((k : Nat) : Int) + 1))) rfl) ?_
              refine WpL_nil ?_
              refine thn_normal ?_
              exact ⟨d.next.length - (k + 1), by omega, k + 1, Fits.out ⟨rfl, rfl, rfl, rfl, rfl, trivial⟩, E, Br, (by omega), (by rw [List.take_add_one, hrow, List.any_append, hno]; simp only [Option.toList_some, List.any_cons, List.any_nil, Bool.or_false, Bool.false_or]; unfold formRow; rw [hc0, Bool.or_comm]; simpa using hf), rfl⟩
          · have khlt := hlt
            replace hlt := of_decide_eq_false hlt
            have hkk : k = d.next.length := by omega
            rw [hkk, List.take_length] at hno
            have hrows : ∀ row ∈ d.next, row ≠ [] := fun row hr he => by have := (List.any_eq_false.1 hno) row hr; simp [formRow, he] at this
            have hane : d.accept ≠ [] := fun he => by rw [he] at h20; simp at h20; omega
            have hfin := okR_bad (d := d) (by omega) hane hrows
            refine Wp_exit ?_
            refine thn_exit ?_
            refine thn_exit ?_
            refine inB_here ?_
            refine thn_normal ?_
            refine Wp_seq_region ?_
            refine WpL_val rfl rfl (by decide) (r_fieldAddr (b := br) (o := 0) (o' := 0) rfl Try.underlying44 rfl siz3 rfl) ?_
            refine WpL_val rfl rfl (by decide) (r_load (v := (.int .i64 d.start)) rfl flat3 (Br.cell rfl)) ?_
            obtain ⟨e13, he13⟩ : ∃ e, (decide ((0 : Int) ≤ d.start)) = e := ⟨_, rfl⟩
            refine WpL_val rfl rfl (by decide) ((r_geq (k := .i64) (a := d.start) (b := 0) rfl rfl).trans (by rw [he13]; try rfl)) ?_
            refine WpL_val rfl rfl (by decide) (r_move (v := (.bool e13)) rfl) ?_
            refine WpL_guard_any (oj := _) (gv := (.bool e13)) (u := (bif e13 then (.pointer (some ⟨br, 0, none⟩)) else undef)) rfl rfl (by decide) (by decide) rfl (by cases e13 <;> first | exact Or.inr ⟨Or.inl rfl, rfl⟩ | exact Or.inr ⟨Or.inr rfl, rfl⟩ | exact Or.inl ⟨rfl, r_fieldAddr (b := br) (o := 0) (o' := 0) rfl Try.underlying44 rfl siz3 rfl⟩) ?_
            refine WpL_guard_any (oj := _) (gv := (.bool e13)) (u := (bif e13 then (.int .i64 d.start) else undef)) rfl rfl (by decide) (by decide) rfl (by cases e13 <;> first | exact Or.inr ⟨Or.inl rfl, rfl⟩ | exact Or.inr ⟨Or.inr rfl, rfl⟩ | exact Or.inl ⟨rfl, r_load (v := (.int .i64 d.start)) rfl flat3 (Br.cell rfl)⟩) ?_
            refine WpL_guard_any (oj := _) (gv := (.bool e13)) (u := (bif e13 then (.int .i64 ((d.next.length : Nat) : Int)) else undef)) rfl rfl (by decide) (by decide) rfl (by cases e13 <;> first | exact Or.inr ⟨Or.inl rfl, rfl⟩ | exact Or.inr ⟨Or.inr rfl, rfl⟩ | exact Or.inl ⟨rfl, r_move (v := (.int .i64 ((d.next.length : Nat) : Int))) rfl⟩) ?_
            obtain ⟨e14, he14⟩ : ∃ e, (decide ((d.start : Int) < ((d.next.length : Nat) : Int))) = e := ⟨_, rfl⟩
            refine WpL_guard_any (oj := _) (gv := (.bool e13)) (u := (bif e13 then (.bool e14) else undef)) rfl rfl (by decide) (by decide) rfl (by cases e13 <;> first | exact Or.inr ⟨Or.inl rfl, rfl⟩ | exact Or.inr ⟨Or.inr rfl, rfl⟩ | exact Or.inl ⟨rfl, (r_lss (k := .i64) (a := d.start) (b := ((d.next.length : Nat) : Int)) rfl rfl).trans (by rw [he14]; try rfl)⟩) ?_
            obtain ⟨e15, he15⟩ : ∃ e, (e13 && e14) = e := ⟨_, rfl⟩
            refine WpL_val rfl rfl (by decide) (r_pick (b := e13) (v := .bool e15) rfl (by rw [← he15]; cases e13 <;> rfl)) ?_
            refine WpL_val rfl rfl (by decide) (r_assign (v := (.bool e15)) rfl) ?_
            refine WpL_nil ?_
            subst he15
            subst he14
            subst he13
            refine Wp_seq ?_
            refine Wp_seq_region ?_
            refine WpL_val rfl rfl (by decide) (r_fieldAddr (b := br) (o := 0) (o' := 2) rfl Try.underlying44 rfl siz42 rfl) ?_
            refine WpL_val rfl rfl (by decide) (r_load (v := (.slice (some ⟨nb, no, none⟩) d.next.length nc)) rfl flat42 (Br.cell rfl)) ?_
            refine WpL_val rfl rfl (by decide) (r_lenSlice (ad := some ⟨nb, no, none⟩) (n := d.next.length) (cap := nc) Try.underlying42 rfl) ?_
            refine WpL_val rfl rfl (by decide) (r_move (v := (.int .i64 0)) rfl) ?_
            refine WpL_nil ?_
            refine Wp_block ?_
            refine Wp_loop (fun nn_ σ W16 => ∃ (q : Nat) (ok1 : Bool), (∃ jj_, σ = upds jj_ [(1, (.pointer (some ⟨br, 0, none⟩))), (3, (.int .i64 ((d.next.length : Nat) : Int))), (62, (.slice (some ⟨nb, no, none⟩) d.next.length nc)), (63, (.int .i64 ((d.next.length : Nat) : Int))), (64, (.int .i64 ((q : Nat) : Int))), (6, (.bool ok1))]) ∧ Chg none1 w0 W16 ∧ Blk W16 br #[(.int .i64 d.start), (.slice (some ⟨ab, ao, none⟩) d.accept.length ac), (.slice (some ⟨nb, no, none⟩) d.next.length nc)] 44 ∧ (q ≤ d.next.length) ∧ (ok1 = okR d q) ∧ nn_ = d.next.length - q) (n := d.next.length - 0) ?_ ?_
            · exact ⟨0, (decide ((0 : Int) ≤ d.start) && decide (d.start < ((d.next.length : Nat) : Int))), Fits.out ⟨rfl, rfl, rfl, rfl, rfl, rfl, trivial⟩, E, Br, Nat.zero_le _, (by unfold okR stR; simp), rfl⟩
            · clear E Br
              rintro _ _ W16 ⟨q, ok1, ⟨j16, rfl⟩, E, Br, hq, hok1, rfl⟩
              refine Wp_seq_region ?_
              refine WpL_val rfl rfl (by decide) (r_lss (k := .i64) (a := ((q : Nat) : Int)) (b := ((d.next.length : Nat) : Int)) rfl rfl) ?_
              refine WpL_nil ?_
              refine Wp_seq ?_
              refine Wp_cond (b := decide ((((q : Nat) : Int) : Int) < ((d.next.length : Nat) : Int))) rfl (fun hltq => ?_) (fun hltq => ?_)
              · have khltq := hltq
                replace hltq := of_decide_eq_true hltq
                obtain ⟨row, hrow⟩ := get_of_lt (l := d.next) (i := q) (by omega)
                obtain ⟨y, hy⟩ := get_of_lt (l := d.accept) (i := q) (by omega)
                obtain ⟨ra, rc, hcell, hints⟩ := hncl q row hrow
                have hrl : row.length ≤ 9223372036854775807 := by simpa using SlAt.le hints
                have hrpos : 0 < row.length := List.length_pos_iff.2 (hrows row (List.mem_of_getElem? hrow))
                obtain ⟨rb, ro, hra, hrx⟩ := ints_cells hints hrpos
                subst hra
                refine Wp_skip ?_
                refine thn_normal ?_
                refine Wp_seq ?_
                refine Wp_block ?_
                refine Wp_seq_region ?_
                refine WpL_val rfl rfl (by decide) (r_move (v := (.int .i64 ((q : Nat) : Int))) rfl) ?_
                refine WpL_val rfl rfl (by decide) (r_indexSlice (b := nb) (o := no) (len := d.next.length) (cap := nc) (i := q) (o' := no + q) rfl rfl rfl Try.underlying42 siz26 (by omega) (by omega)) ?_
                refine WpL_val rfl rfl (by decide) (r_load (v := (.slice (some ⟨rb, ro, none⟩) row.length rc)) rfl flat26 (E.cell (fun f => f) hcell)) ?_
                refine WpL_val rfl rfl (by decide) (r_assign (v := (.int .i64 ((q : Nat) : Int))) rfl) ?_
                refine WpL_val rfl rfl (by decide) (r_assign (v := (.slice (some ⟨rb, ro, none⟩) row.length rc)) rfl) ?_
                refine WpL_nil ?_
                refine Wp_seq_region ?_
                refine WpL_val rfl rfl (by decide) (r_move (v := (.bool ok1)) rfl) ?_
                refine WpL_val rfl rfl (by decide) (r_move (v := (.bool ok1)) rfl) ?_
                refine WpL_guard_any (oj := _) (gv := (.bool ok1)) (u := (bif ok1 then (.pointer (some ⟨br, 1, none⟩)) else undef)) rfl rfl (by decide) (by decide) rfl (by cases ok1 <;> first | exact Or.inr ⟨Or.inl rfl, rfl⟩ | exact Or.inr ⟨Or.inr rfl, rfl⟩ | exact Or.inl ⟨rfl, r_fieldAddr (b := br) (o := 0) (o' := 1) rfl Try.underlying44 rfl siz26 rfl⟩) ?_
                refine WpL_guard_any (oj := _) (gv := (.bool ok1)) (u := (bif ok1 then (.slice (some ⟨ab, ao, none⟩) d.accept.length ac) else undef)) rfl rfl (by decide) (by decide) rfl (by cases ok1 <;> first | exact Or.inr ⟨Or.inl rfl, rfl⟩ | exact Or.inr ⟨Or.inr rfl, rfl⟩ | exact Or.inl ⟨rfl, r_load (v := (.slice (some ⟨ab, ao, none⟩) d.accept.length ac)) rfl flat26 (Br.cell rfl)⟩) ?_
                refine WpL_guard_any (oj := _) (gv := (.bool ok1)) (u := (bif ok1 then (.int .i64 ((q : Nat) : Int)) else undef)) rfl rfl (by decide) (by decide) rfl (by cases ok1 <;> first | exact Or.inr ⟨Or.inl rfl, rfl⟩ | exact Or.inr ⟨Or.inr rfl, rfl⟩ | exact Or.inl ⟨rfl, r_move (v := (.int .i64 ((q : Nat) : Int))) rfl⟩) ?_
                refine WpL_guard_any (oj := _) (gv := (.bool ok1)) (u := (bif ok1 then (.pointer (some ⟨ab, ao + q, none⟩)) else undef)) rfl rfl (by decide) (by decide) rfl (by cases ok1 <;> first | exact Or.inr ⟨Or.inl rfl, rfl⟩ | exact Or.inr ⟨Or.inr rfl, rfl⟩ | exact Or.inl ⟨rfl, r_indexSlice (b := ab) (o := ao) (len := d.accept.length) (cap := ac) (i := q) (o' := ao + q) rfl rfl rfl Try.underlying26 siz3 (by omega) (by omega)⟩) ?_
                refine WpL_guard_any (oj := _) (gv := (.bool ok1)) (u := (bif ok1 then (.int .i64 y) else undef)) rfl rfl (by decide) (by decide) rfl (by cases ok1 <;> first | exact Or.inr ⟨Or.inl rfl, rfl⟩ | exact Or.inr ⟨Or.inr rfl, rfl⟩ | exact Or.inl ⟨rfl, r_load (v := (.int .i64 y)) rfl flat3 (E.cell (fun f => f) (hax q y hy))⟩) ?_
                obtain ⟨e18, he18⟩ : ∃ e, (decide (((-1) : Int) ≤ y)) = e := ⟨_, rfl⟩
                refine WpL_guard_any (oj := _) (gv := (.bool ok1)) (u := (bif ok1 then (.bool e18) else undef)) rfl rfl (by decide) (by decide) rfl (by cases ok1 <;> first | exact Or.inr ⟨Or.inl rfl, rfl⟩ | exact Or.inr ⟨Or.inr rfl, rfl⟩ | exact Or.inl ⟨rfl, (r_geq (k := .i64) (a := y) (b := (-1)) rfl rfl).trans (by rw [he18]; try rfl)⟩) ?_
                obtain ⟨e19, he19⟩ : ∃ e, (ok1 && e18) = e := ⟨_, rfl⟩
                refine WpL_val rfl rfl (by decide) (r_pick (b := ok1) (v := .bool e19) rfl (by rw [← he19]; cases ok1 <;> rfl)) ?_
                refine WpL_val rfl rfl (by decide) (r_assign (v := (.bool e19)) rfl) ?_
                refine WpL_nil ?_
                subst he19
                subst he18
                refine Wp_seq_region ?_
                refine WpL_val rfl rfl (by decide) (r_move (v := (.slice (some ⟨rb, ro, none⟩) row.length rc)) rfl) ?_
                refine WpL_val rfl rfl (by decide) (r_lenSlice (ad := some ⟨rb, ro, none⟩) (n := row.length) (cap := rc) Try.underlying26 rfl) ?_
                refine WpL_val rfl rfl (by decide) (r_move (v := (.int .i64 0)) rfl) ?_
                refine WpL_nil ?_
                refine Wp_block ?_
                refine Wp_loop (fun nn_ σ W20 => ∃ (j : Nat) (ok3 : Bool), (∃ jj_, σ = upds jj_ [(1, (.pointer (some ⟨br, 0, none⟩))), (3, (.int .i64 ((d.next.length : Nat) : Int))), (62, (.slice (some ⟨nb, no, none⟩) d.next.length nc)), (63, (.int .i64 ((d.next.length : Nat) : Int))), (64, (.int .i64 ((q : Nat) : Int))), (78, (.slice (some ⟨rb, ro, none⟩) row.length rc)), (79, (.int .i64 ((row.length : Nat) : Int))), (80, (.int .i64 ((j : Nat) : Int))), (6, (.bool ok3))]) ∧ Chg none1 w0 W20 ∧ Blk W20 br #[(.int .i64 d.start), (.slice (some ⟨ab, ao, none⟩) d.accept.length ac), (.slice (some ⟨nb, no, none⟩) d.next.length nc)] 44 ∧ (j ≤ row.length) ∧ (ok3 = ((okR d q && accR y) && (row.take j).all (rngR d.next.length))) ∧ nn_ = row.length - j) (n := row.length - 0) ?_ ?_
                · exact ⟨0, (ok1 && decide ((-1 : Int) ≤ y)), Fits.out ⟨rfl, rfl, rfl, rfl, rfl, rfl, rfl, rfl, rfl, trivial⟩, E, Br, Nat.zero_le _, (by rw [← hok1]; simp [accR]), rfl⟩
                · clear E Br
                  rintro _ _ W20 ⟨j, ok3, ⟨j20, rfl⟩, E, Br, hj, hok3, rfl⟩
                  refine Wp_seq_region ?_
                  refine WpL_val rfl rfl (by decide) (r_lss (k := .i64) (a := ((j : Nat) : Int)) (b := ((row.length : Nat) : Int)) rfl rfl) ?_
                  refine WpL_nil ?_
                  refine Wp_seq ?_
                  refine Wp_cond (b := decide ((((j : Nat) : Int) : Int) < ((row.length : Nat) : Int))) rfl (fun hltj => ?_) (fun hltj => ?_)
                  · have khltj := hltj
                    replace hltj := of_decide_eq_true hltj
                    obtain ⟨x, hx⟩ := get_of_lt (l := row) (i := j) (by omega)
                    have hsx : ((okR d q && accR y) && (row.take (j + 1)).all (rngR d.next.length)) = (ok3 && rngR d.next.length x) := by rw [List.take_add_one, hx, List.all_append, hok3]; simp [Bool.and_assoc]
                    refine Wp_skip ?_
                    refine thn_normal ?_
                    refine Wp_seq ?_
                    refine Wp_block ?_
                    refine Wp_seq_region ?_
                    refine WpL_val rfl rfl (by decide) (r_indexSlice (b := rb) (o := ro) (len := row.length) (cap := rc) (i := j) (o' := ro + j) rfl rfl rfl Try.underlying26 siz3 (by omega) (by omega)) ?_
                    refine WpL_val rfl rfl (by decide) (r_load (v := (.int .i64 x)) rfl flat3 (E.cell (fun f => f) (hrx j x hx))) ?_
                    refine WpL_val rfl rfl (by decide) (r_assign (v := (.int .i64 x)) rfl) ?_
                    refine WpL_nil ?_
                    refine Wp_region ?_
                    refine WpL_val rfl rfl (by decide) (r_move (v := (.bool ok3)) rfl) ?_
                    refine WpL_val rfl rfl (by decide) (r_move (v := (.bool ok3)) rfl) ?_
                    refine WpL_guard_any (oj := _) (gv := (.bool ok3)) (u := (bif ok3 then (.int .i64 x) else undef)) rfl rfl (by decide) (by decide) rfl (by cases ok3 <;> first | exact Or.inr ⟨Or.inl rfl, rfl⟩ | exact Or.inr ⟨Or.inr rfl, rfl⟩ | exact Or.inl ⟨rfl, r_move (v := (.int .i64 x)) rfl⟩) ?_
                    obtain ⟨e22, he22⟩ : ∃ e, (decide (((-1) : Int) ≤ x)) = e := ⟨_, rfl⟩
                    refine WpL_guard_any (oj := _) (gv := (.bool ok3)) (u := (bif ok3 then (.bool e22) else undef)) rfl rfl (by decide) (by decide) rfl (by cases ok3 <;> first | exact Or.inr ⟨Or.inl rfl, rfl⟩ | exact Or.inr ⟨Or.inr rfl, rfl⟩ | exact Or.inl ⟨rfl, (r_geq (k := .i64) (a := x) (b := (-1)) rfl rfl).trans (by rw [he22]; try rfl)⟩) ?_
                    obtain ⟨e23, he23⟩ : ∃ e, (ok3 && e22) = e := ⟨_, rfl⟩
                    refine WpL_val rfl rfl (by decide) (r_pick (b := ok3) (v := .bool e23) rfl (by rw [← he23]; cases ok3 <;> rfl)) ?_
                    refine WpL_val rfl rfl (by decide) (r_move (v := (.bool e23)) rfl) ?_
                    refine WpL_guard_any (oj := _) (gv := (.bool e23)) (u := (bif e23 then (.int .i64 x) else undef)) rfl rfl (by decide) (by decide) rfl (by cases e23 <;> first | exact Or.inr ⟨Or.inl rfl, rfl⟩ | exact Or.inr ⟨Or.inr rfl, rfl⟩ | exact Or.inl ⟨rfl, r_move (v := (.int .i64 x)) rfl⟩) ?_
                    refine WpL_guard_any (oj := _) (gv := (.bool e23)) (u := (bif e23 then (.int .i64 ((d.next.length : Nat) : Int)) else undef)) rfl rfl (by decide) (by decide) rfl (by cases e23 <;> first | exact Or.inr ⟨Or.inl rfl, rfl⟩ | exact Or.inr ⟨Or.inr rfl, rfl⟩ | exact Or.inl ⟨rfl, r_move (v := (.int .i64 ((d.next.length : Nat) : Int))) rfl⟩) ?_
                    obtain ⟨e24, he24⟩ : ∃ e, (decide ((x : Int) < ((d.next.length : Nat) : Int))) = e := ⟨_, rfl⟩
                    refine WpL_guard_any (oj := _) (gv := (.bool e23)) (u := (bif e23 then (.bool e24) else undef)) rfl rfl (by decide) (by decide) rfl (by cases e23 <;> first | exact Or.inr ⟨Or.inl rfl, rfl⟩ | exact Or.inr ⟨Or.inr rfl, rfl⟩ | exact Or.inl ⟨rfl, (r_lss (k := .i64) (a := x) (b := ((d.next.length : Nat) : Int)) rfl rfl).trans (by rw [he24]; try rfl)⟩) ?_
                    obtain ⟨e25, he25⟩ : ∃ e, (e23 && e24) = e := ⟨_, rfl⟩
                    refine WpL_val rfl rfl (by decide) (r_pick (b := e23) (v := .bool e25) rfl (by rw [← he25]; cases e23 <;> rfl)) ?_
                    refine WpL_val rfl rfl (by decide) (r_assign (v := (.bool e25)) rfl) ?_
                    refine WpL_nil ?_
                    subst he25
                    subst he24
                    subst he23
                    subst he22
                    refine inB_normal ?_
                    refine thn_normal ?_
                    refine Wp_region ?_
                    refine WpL_val rfl rfl (by decide) (r_add (k := .i64) (a := ((j : Nat) : Int)) (b := 1) (c := ((j : Nat) : Int) + 1) rfl rfl (wI64 (by omega))) ?_
                    refine WpL_val rfl rfl (by decide) (r_move (v := (.int .i64 (((j : Nat) : Int) + 1))) rfl) ?_
                    refine WpL_nil ?_
                    refine thn_normal ?_
                    exact ⟨row.length - (j + 1), by omega, j + 1, ((ok3 && decide ((-1 : Int) ≤ x)) && decide (x < ((d.next.length : Nat) : Int))), Fits.out ⟨rfl, rfl, rfl, rfl, rfl, rfl, rfl, rfl, rfl, trivial⟩, E, Br, (by omega), (by rw [hsx, Bool.and_assoc]; rfl), rfl⟩
                  · have khltj := hltj
                    replace hltj := of_decide_eq_false hltj
                    have hjj : j = row.length := by omega
                    rw [hjj, List.take_length] at hok3
                    refine Wp_exit ?_
                    refine thn_exit ?_
                    refine thn_exit ?_
                    refine inB_here ?_
                    refine inB_normal ?_
                    refine thn_normal ?_
                    refine Wp_region ?_
                    refine WpL_val rfl rfl (by decide) (r_add (k := .i64) (a := ((q : Nat) : Int)) (b := 1) (c := ((q : Nat) : Int) + 1) rfl rfl (wI64 (by omega))) ?_
                    refine WpL_val rfl rfl (by decide) (r_move (v := (.int .i64 (((q : Nat) : Int) + 1))) rfl) ?_
                    refine WpL_nil ?_
                    refine thn_normal ?_
                    exact ⟨d.next.length - (q + 1), by omega, q + 1, ok3, Fits.out ⟨rfl, rfl, rfl, rfl, rfl, rfl, trivial⟩, E, Br, (by omega), (by rw [hok3, okR_succ hy hrow]), rfl⟩
              · have khltq := hltq
                replace hltq := of_decide_eq_false hltq
                have hqq : q = d.next.length := by omega
                rw [hqq, hfin] at hok1
                refine Wp_exit ?_
                refine thn_exit ?_
                refine thn_exit ?_
                refine inB_here ?_
                refine thn_normal ?_
                refine Wp_seq ?_
                refine Wp_seq_region ?_
                refine WpL_val rfl rfl (by decide) (r_move (v := (.bool ok1)) rfl) ?_
                refine WpL_val rfl rfl (by decide) (r_not (b := ok1) rfl) ?_
                refine WpL_nil ?_
                refine Wp_cond (b := !ok1) rfl (fun hb => ?_) (fun hb => ?_)
                · have khb := hb
                  replace hb := by simpa using hb
                  refine Wp_seq_region ?_
                  refine WpL_val rfl rfl (by decide) (r_assign (v := (.int .i64 1)) rfl) ?_
                  refine WpL_nil ?_
                  refine Wp_ret ?_
                  refine thn_ret ?_
                  refine fin_tmp Try.results17 (v := (.int .i64 1)) rfl ?_
                  exact ⟨int_eq (by unfold checkD; rw [if_neg (by omega), if_neg h20, if_neg (by omega), if_neg (by rw [hno]; simp), if_pos (by rw [hb] at hok1; have h9 := hok1.symm; rwa [Bool.not_eq_false'] at h9)]), E⟩
                · have khb := hb
                  replace hb := by simpa using hb
                  refine Wp_skip ?_
                  refine thn_normal ?_
                  refine Wp_seq_region ?_
                  refine WpL_val rfl rfl (by decide) (r_assign (v := (.int .i64 0)) rfl) ?_
                  refine WpL_nil ?_
                  refine Wp_ret ?_
                  refine fin_tmp Try.results17 (v := (.int .i64 0)) rfl ?_
                  exact ⟨int_eq (by unfold checkD; rw [if_neg (by omega), if_neg h20, if_neg (by omega), if_neg (by rw [hno]; simp), if_neg (by rw [hb] at hok1; simpa using hok1.symm)]), E⟩
theorem okD_of_check {d : Dfa} (h : checkD d = 0) : OkD d.next.length (colsD d) d ∧ (1 ≤ d.next.length ∧ d.next.length ≤ 200) ∧ (1 ≤ colsD d ∧ colsD d ≤ 16) := by
  unfold checkD at h
  split at h
  · omega
  split at h
  · omega
  split at h
  · omega
  split at h
  · omega
  rename_i h1 h2 h3 h4
  split at h
  · omega
  rename_i h5
  have hr : ∀ row ∈ d.next, row.length = colsD d ∧ row ≠ [] := fun row hrow => by
    have h6 := (List.any_eq_false.1 (Bool.eq_false_iff.2 h4)) row hrow
    unfold formRow at h6
    simp only [Bool.or_eq_true, decide_eq_true_eq, not_or] at h6
    exact ⟨by omega, fun e => by rw [e] at h6; simp at h6⟩
  have hne : d.accept ≠ [] := fun e => by have e2 : d.accept.length = 0 := by rw [e]; rfl
                                          omega
  have h7 := okR_bad (d := d) (by omega) hne (fun row hrow => (hr row hrow).2)
  rw [Bool.eq_false_iff.2 h5] at h7
  unfold okR stR at h7
  rw [List.take_length, show d.accept.take d.next.length = d.accept from by rw [show d.next.length = d.accept.length from by omega, List.take_length]] at h7
  simp only [Bool.not_false, Bool.and_eq_true, decide_eq_true_eq, List.all_eq_true] at h7
  obtain ⟨⟨h8, h9⟩, h10, h11⟩ := h7
  obtain ⟨row0, hrow0⟩ := get_of_lt (l := d.next) (i := 0) (by omega)
  have hc0 : colsD d = row0.length := by unfold colsD; cases hq : d.next with | nil => rw [hq] at hrow0; simp at hrow0 | cons y l => rw [hq] at hrow0; simp at hrow0; simp [hrow0]
  have h12 := List.length_pos_iff.2 (hr row0 (List.mem_of_getElem? hrow0)).2
  refine ⟨⟨rfl, by omega, ⟨h8, h9⟩, fun x hx => by simpa [accR] using h10 x hx, fun row hrow => ⟨(hr row hrow).1, fun x hx => ?_⟩⟩, by omega, by omega⟩
  have h13 := h11 row hrow x hx
  simpa [rngR] using h13
end Go.Proofs
namespace Go.Proofs
open Go Go.Eng Go.Sort
set_option maxRecDepth 100000
def tabVs (t : Tab) (aa ba oa na : Option Addr) (ac bc oc nc : Nat) : List Value := [.int .i64 t.start, .int .i64 ((t.cols : Nat) : Int), .slice aa t.acc.length ac, .slice ba t.bs.length bc, .slice oa t.ow.length oc, .slice na t.nx.length nc]
theorem pack_f (w0 : World) (n c : Nat) (d : Dfa) (vs : List Value) (hd : DfaAt w0 d vs) (h : OkD n c d) (hn : 1 ≤ n ∧ n ≤ 200) (hc : 1 ≤ c ∧ c ≤ 16) :
    Ret Try.prog 15 #[.agg vs.toArray] w0 fun r w => (∃ (t : Tab) (aa ba oa na : Option Addr) (ac bc oc nc : Nat), r = .tuple #[.agg #[.int .i64 t.start, .int .i64 ((t.cols : Nat) : Int), .slice aa t.acc.length ac, .slice ba t.bs.length bc, .slice oa t.ow.length oc, .slice na t.nx.length nc], .int .i64 0] ∧
      TabAt w t (tabVs t aa ba oa na ac bc oc nc) ∧ GoodT t ∧ unT t = d ∧ (∀ v ∈ tabVs t aa ba oa na ac bc oc nc, NewV w0.heap.size v) ∧ PkX d.next t.ow t.nx t.bs ∧ t.start = d.start ∧ t.cols = c ∧ t.acc = d.accept ∧ t.bs.length = n) ∧ Ext w0 w := by
  refine (pack_e w0 n c d vs hd h hn hc).mono ?_
  rintro r w ⟨⟨owner, nxt, bs, aa, ba, oa, na, ac, bc, oc, nc, rfl, hT, hg, hb, _, _, hat, ⟨hN1, hN2, hN3, hN4⟩, hX⟩, e⟩
  refine ⟨⟨⟨d.start, c, d.accept, bs, owner, nxt⟩, aa, ba, oa, na, ac, bc, oc, nc, rfl, hT, hg, ?_, ?_, hX, rfl, rfl, rfl, hb⟩, e⟩
  rotate_left
  · intro v hv
    simp only [tabVs, List.mem_cons, List.not_mem_nil, or_false] at hv
    rcases hv with rfl | rfl | rfl | rfl | rfl | rfl
    · intro b h; cases h
    · intro b h; cases h
    · exact hN1
    · exact hN2
    · exact hN3
    · exact hN4
  obtain ⟨h1, h2, h3, h4, h5⟩ := h
  have hnext : (List.range bs.length).map (rowT ⟨d.start, c, d.accept, bs, owner, nxt⟩) = d.next := by
    apply List.ext_getElem?
    intro s
    rcases Nat.lt_or_ge s n with hs | hs
    · obtain ⟨row, hrow⟩ := get_of_lt (l := d.next) (i := s) (by omega)
      rw [List.getElem?_map, List.getElem?_range (by omega), hrow]
      show some (rowT _ s) = some row
      congr 1
      have hrl := (h5 row (List.mem_of_getElem? hrow)).1
      apply List.ext_getElem?
      intro k
      rcases Nat.lt_or_ge k c with hk | hk
      · obtain ⟨x, hx⟩ := get_of_lt (l := row) (i := k) (by omega)
        unfold rowT
        rw [List.getElem?_map, List.getElem?_range hk, hx]
        show some (atT owner nxt bs s k) = some x
        rw [hat s k row x hrow hx]
      · rw [List.getElem?_eq_none (by rw [rowT_len]; exact hk), List.getElem?_eq_none (by omega)]
    · rw [List.getElem?_eq_none (by simp; omega), List.getElem?_eq_none (by omega)]
  show (⟨d.start, d.accept, _⟩ : Dfa) = d
  rw [hnext]
theorem pack_bad (w0 : World) (d : Dfa) (vs : List Value) (hd : DfaAt w0 d vs) (h : checkD d ≠ 0) :
    Ret Try.prog 15 #[.agg vs.toArray] w0 fun r w => r = .tuple #[.agg #[.int .i64 0, .int .i64 0, .slice none 0 0, .slice none 0 0, .slice none 0 0, .slice none 0 0], .int .i64 (checkD d)] ∧ Ext w0 w := by
  obtain ⟨aa, ac, na, nc, rfl, _, _⟩ := id hd
  refine Ret_of Try.func15 rfl Try.ntmps15 (Nat.le_of_ble_eq_true rfl) ?_
  have E : Chg none1 w0 w0 := Chg.refl _ _
  refine Wp_seq_region ?_
  refine s_box (v := (.agg #[(.int .i64 d.start), (.slice aa d.accept.length ac), (.slice na d.next.length nc)])) (c := #[(.int .i64 d.start), (.slice aa d.accept.length ac), (.slice na d.next.length nc)]) (by decide) rfl rfl ?_
  intro bp wp Np
  have Fp := Np.ge E
  replace E := E.ext Np.ext
  have Bp := Np.blk
  refine s_alloc (c := #[(.int .i64 0), (.int .i64 0), (.slice none 0 0), (.slice none 0 0), (.slice none 0 0), (.slice none 0 0)]) (by decide) zer46 rfl ?_
  intro bq wq Nq
  have Fq := Nq.ge E
  have Oq_bp := Nq.lt Bp
  replace Bp := Nq.keep Bp
  replace E := E.ext Nq.ext
  have Bq := Nq.blk
  refine WpL_val rfl rfl (by decide) (r_assign (v := (.int .i64 0)) rfl) ?_
  refine WpL_nil ?_
  refine Wp_seq ?_
  refine Wp_seq_region ?_
  refine WpL_val rfl rfl (by decide) (r_loadAgg (vs := [(.int .i64 d.start), (.slice aa d.accept.length ac), (.slice na d.next.length nc)]) rfl agg44 siz44 rfl (Bp.cells rfl)) ?_
  refine WpL_enter rfl rfl (by decide) (r_callF (vs := [(.agg #[(.int .i64 d.start), (.slice aa d.accept.length ac), (.slice na d.next.length nc)])]) Try.func48 nm48 bd48 rfl) (dcheck_c _ d _ (hd.ext E)) ?_
  rintro _ w9 ⟨rfl, X9⟩
  replace Bp := X9.keep Bp
  replace Bq := X9.keep Bq
  replace E := E.ext X9
  refine WpL_val rfl rfl (by decide) (r_assign (v := (.int .i64 (checkD d))) rfl) ?_
  refine WpL_nil ?_
  refine Wp_seq_region ?_
  refine WpL_val rfl rfl (by decide) (r_move (v := (.int .i64 (checkD d))) rfl) ?_
  refine WpL_val rfl rfl (by decide) (r_neq (k := .i64) (a := checkD d) (b := 0) rfl rfl) ?_
  refine WpL_nil ?_
  have hc1 : (decide ((checkD d : Int) ≠ 0)) = true := decide_eq_true h
  refine Wp_cond_true (congrArg Value.bool hc1) ?_
  refine Wp_seq_region ?_
  refine WpL_val rfl rfl (by decide) (r_build (ps := []) (v := (.agg #[(.int .i64 0), (.int .i64 0), (.slice none 0 0), (.slice none 0 0), (.slice none 0 0), (.slice none 0 0)])) rfl (by kernel_rfl)) ?_
  refine WpL_val rfl rfl (by decide) (r_move (v := (.int .i64 (checkD d))) rfl) ?_
  refine s_storeAgg (b := bq) (o := 0) (c' := #[(.int .i64 0), (.int .i64 0), (.slice none 0 0), (.slice none 0 0), (.slice none 0 0), (.slice none 0 0)]) rfl rfl (by simp [Value.oneCell']) siz46 rfl Bq (by first | (simp; done) | exact Nat.le_of_ble_eq_true rfl) rfl ?_
  intro w2 S2
  replace Bp := S2.keep (by omega) Bp
  replace E := S2.step E (by first | exact Or.inl (by omega) | exact Or.inr rfl | exact Or.inr (by assumption) | exact Or.inr (by simp) | exact Or.inr (by omega) | exact Or.inr (by dsimp only; omega))
  replace Bq := S2.blk
  refine WpL_val rfl rfl (by decide) (r_assign (v := (.int .i64 (checkD d))) rfl) ?_
  refine WpL_nil ?_
  refine Wp_ret ?_
  refine thn_ret ?_
  refine fin_agg_tmp Try.results15 (vs := [(.int .i64 0), (.int .i64 0), (.slice none 0 0), (.slice none 0 0), (.slice none 0 0), (.slice none 0 0)]) (b := bq) (v' := (.int .i64 (checkD d))) rfl agg46 siz46 rfl (Bq.cells rfl) rfl ?_
  exact ⟨rfl, E⟩
theorem unpack_f (w0 : World) (t : Tab) (d : Dfa) (vs : List Value) (h : TabAt w0 t vs) (hg : GoodT t) (he : unT t = d) : Ret Try.prog 21 #[.agg vs.toArray] w0 fun r w => (∃ aa ac na nc, r = .tuple #[.agg #[.int .i64 d.start, .slice aa d.accept.length ac, .slice na d.next.length nc], .int .i64 0] ∧ DfaAt w d [.int .i64 d.start, .slice aa d.accept.length ac, .slice na d.next.length nc]) ∧ Ext w0 w := by
  refine (unpack_c w0 t vs h hg).mono ?_
  rintro r w ⟨⟨dv, rfl, hD⟩, e⟩
  rw [he] at hD
  have hD' := hD
  obtain ⟨aa, ac, na, nc, rfl, _, _⟩ := hD'
  exact ⟨⟨aa, ac, na, nc, rfl, hD⟩, e⟩
theorem tab_acc {t : Tab} {d : Dfa} (hU : unT t = d) (hW : ∀ x ∈ d.accept, x ≤ 9223372036854775807) : ∀ x ∈ t.acc, x ≤ 9223372036854775807 := fun x hx => by
  subst hU
  exact hW x hx
end Go.Proofs
namespace Go.Proofs
open Go Go.Eng
set_option maxRecDepth 100000
theorem ieqr_c (w0 : World) (v1 v2 : Value) (l1 l2 : List Int) (h1 : IntsAt w0 v1 l1) (h2 : IntsAt w0 v2 l2) :
    Ret Try.prog 39 #[v1, v2] w0 fun v w => v = .bool (decide (l1 = l2)) ∧ Ext w0 w := by
  obtain ⟨a1, c1, rfl⟩ := SlAt.form h1
  obtain ⟨a2, c2, rfl⟩ := SlAt.form h2
  have hb1 : l1.length ≤ 9223372036854775807 := by simpa using SlAt.le h1
  simp only [List.length_map] at h1 h2 ⊢
  refine Ret_of Try.func39 rfl Try.ntmps39 (Nat.le_of_ble_eq_true rfl) ?_
  have E : Chg none1 w0 w0 := Chg.refl _ _
  refine Wp_seq_region ?_
  refine WpL_val rfl rfl (by decide) (r_assign (v := (.bool false)) rfl) ?_
  refine WpL_nil ?_
  refine Wp_seq ?_
  refine Wp_seq_region ?_
  refine WpL_val rfl rfl (by decide) (r_move (v := (.slice a1 l1.length c1)) rfl) ?_
  refine WpL_val rfl rfl (by decide) (r_lenSlice (ad := a1) (n := l1.length) (cap := c1) Try.underlying26 rfl) ?_
  refine WpL_val rfl rfl (by decide) (r_move (v := (.slice a2 l2.length c2)) rfl) ?_
  refine WpL_val rfl rfl (by decide) (r_lenSlice (ad := a2) (n := l2.length) (cap := c2) Try.underlying26 rfl) ?_
  refine WpL_val rfl rfl (by decide) (r_neq (k := .i64) (a := ((l1.length : Nat) : Int)) (b := ((l2.length : Nat) : Int)) rfl rfl) ?_
  refine WpL_nil ?_
  refine Wp_cond (b := decide ((((l1.length : Nat) : Int) : Int) ≠ ((l2.length : Nat) : Int))) rfl (fun hl => ?_) (fun hl => ?_)
  · have khl := hl
    replace hl := of_decide_eq_true hl
    refine Wp_seq_region ?_
    refine WpL_val rfl rfl (by decide) (r_assign (v := (.bool false)) rfl) ?_
    refine WpL_nil ?_
    refine Wp_ret ?_
    refine thn_ret ?_
    refine fin_tmp Try.results39 (v := (.bool false)) rfl ?_
    exact ⟨bool_eq (by symm; rw [decide_eq_false_iff_not]; intro h; rw [h] at hl; exact hl rfl), E⟩
  · have khl := hl
    replace hl := of_decide_eq_false hl
    refine Wp_skip ?_
    refine thn_normal ?_
    refine Wp_seq ?_
    refine Wp_seq_region ?_
    refine WpL_val rfl rfl (by decide) (r_move (v := (.slice a1 l1.length c1)) rfl) ?_
    refine WpL_val rfl rfl (by decide) (r_lenSlice (ad := a1) (n := l1.length) (cap := c1) Try.underlying26 rfl) ?_
    refine WpL_val rfl rfl (by decide) (r_move (v := (.int .i64 0)) rfl) ?_
    refine WpL_nil ?_
    refine Wp_block ?_
    refine Wp_loop (fun nn_ σ W2 => ∃ (k : Nat), (∃ jj_, σ = upds jj_ [(0, (.slice a1 l1.length c1)), (1, (.slice a2 l2.length c2)), (12, (.int .i64 ((l1.length : Nat) : Int))), (13, (.int .i64 ((k : Nat) : Int)))]) ∧ Chg none1 w0 W2 ∧ (k ≤ l1.length) ∧ (∀ (i : Nat), i < k → l1[i]? = l2[i]?) ∧ nn_ = l1.length - k) (n := l1.length - 0) ?_ ?_
    · exact ⟨0, Fits.out ⟨rfl, rfl, rfl, rfl, trivial⟩, E, Nat.zero_le _, (fun i h => absurd h (Nat.not_lt_zero _)), rfl⟩
    · clear E
      rintro _ _ W2 ⟨k, ⟨j2, rfl⟩, E, hk, heq, rfl⟩
      refine Wp_seq_region ?_
      refine WpL_val rfl rfl (by decide) (r_lss (k := .i64) (a := ((k : Nat) : Int)) (b := ((l1.length : Nat) : Int)) rfl rfl) ?_
      refine WpL_nil ?_
      refine Wp_seq ?_
      refine Wp_cond (b := decide ((((k : Nat) : Int) : Int) < ((l1.length : Nat) : Int))) rfl (fun hlt => ?_) (fun hlt => ?_)
      · have khlt := hlt
        replace hlt := of_decide_eq_true hlt
        obtain ⟨p, hp⟩ := get_of_lt (l := l1) (i := k) (by omega)
        obtain ⟨q, hq⟩ := get_of_lt (l := l2) (i := k) (by omega)
        obtain ⟨b1, o1, rfl, hc1⟩ := ints_cells h1 (by omega)
        obtain ⟨b2, o2, rfl, hc2⟩ := ints_cells h2 (by omega)
        refine Wp_skip ?_
        refine thn_normal ?_
        refine Wp_seq ?_
        refine Wp_block ?_
        refine Wp_seq_region ?_
        refine WpL_val rfl rfl (by decide) (r_move (v := (.int .i64 ((k : Nat) : Int))) rfl) ?_
        refine WpL_val rfl rfl (by decide) (r_assign (v := (.int .i64 ((k : Nat) : Int))) rfl) ?_
        refine WpL_nil ?_
        refine Wp_seq_draw 8 mixed (by kernel_rfl) ?_
        intro w4 X4 _
        replace E := E.ext X4
        refine WpT_val rfl rfl (by decide) (r_move (v := (.slice (some ⟨b1, o1, none⟩) l1.length c1)) rfl) ?_
        refine WpT_val rfl rfl (by decide) (r_move (v := (.int .i64 ((k : Nat) : Int))) rfl) ?_
        refine WpT_val rfl rfl (by decide) (r_indexSlice (b := b1) (o := o1) (len := l1.length) (cap := c1) (i := k) (o' := o1 + k) rfl rfl rfl Try.underlying26 siz3 (by omega) (by omega)) ?_
        refine WpT_val rfl rfl (by decide) (r_load (v := (.int .i64 p)) rfl flat3 (E.cell (fun f => f) (hc1 k p hp))) ?_
        refine WpT_val rfl rfl (by decide) (r_move (v := (.slice (some ⟨b2, o2, none⟩) l2.length c2)) rfl) ?_
        refine WpT_val rfl rfl (by decide) (r_move (v := (.int .i64 ((k : Nat) : Int))) rfl) ?_
        refine WpT_val rfl rfl (by decide) (r_indexSlice (b := b2) (o := o2) (len := l2.length) (cap := c2) (i := k) (o' := o2 + k) rfl rfl rfl Try.underlying26 siz3 (by omega) (by omega)) ?_
        refine WpT_val rfl rfl (by decide) (r_load (v := (.int .i64 q)) rfl flat3 (E.cell (fun f => f) (hc2 k q hq))) ?_
        refine WpT_zero ?_
        refine WpL_val rfl rfl (by decide) (r_neq (k := .i64) (a := p) (b := q) rfl rfl) ?_
        refine WpL_nil ?_
        refine Wp_cond (b := decide ((p : Int) ≠ q)) rfl (fun hpq => ?_) (fun hpq => ?_)
        · have khpq := hpq
          replace hpq := of_decide_eq_true hpq
          refine Wp_seq_region ?_
          refine WpL_val rfl rfl (by decide) (r_assign (v := (.bool false)) rfl) ?_
          refine WpL_nil ?_
          refine Wp_ret ?_
          refine inB_ret ?_
          refine thn_ret ?_
          refine thn_ret ?_
          refine inB_ret ?_
          refine thn_ret ?_
          refine fin_tmp Try.results39 (v := (.bool false)) rfl ?_
          exact ⟨bool_eq (by symm; rw [decide_eq_false_iff_not]; intro h; subst h; rw [hp] at hq; cases hq; exact hpq rfl), E⟩
        · have khpq := hpq
          replace hpq := of_decide_eq_false hpq
          have hpq2 : p = q := by omega
          refine Wp_skip ?_
          refine inB_normal ?_
          refine thn_normal ?_
          refine Wp_region ?_
          refine WpL_val rfl rfl (by decide) (r_add (k := .i64) (a := ((k : Nat) : Int)) (b := 1) (c := ((k : Nat) : Int) + 1) rfl rfl (wI64 (by omega))) ?_
          refine WpL_val rfl rfl (by decide) (r_move (v := (.int .i64 (((k : Nat) : Int) + 1))) rfl) ?_
          refine WpL_nil ?_
          refine thn_normal ?_
          exact ⟨l1.length - (k + 1), by omega, k + 1, Fits.out ⟨rfl, rfl, rfl, rfl, trivial⟩, E, (by omega), (fun i hi => by rcases Nat.lt_or_ge i k with h | h; exact heq i h; obtain rfl : i = k := (by omega); rw [hp, hq, hpq2]), rfl⟩
      · have khlt := hlt
        replace hlt := of_decide_eq_false hlt
        have hkk : k = l1.length := by omega
        refine Wp_exit ?_
        refine thn_exit ?_
        refine thn_exit ?_
        refine inB_here ?_
        refine thn_normal ?_
        refine Wp_seq_region ?_
        refine WpL_val rfl rfl (by decide) (r_assign (v := (.bool true)) rfl) ?_
        refine WpL_nil ?_
        refine Wp_ret ?_
        refine fin_tmp Try.results39 (v := (.bool true)) rfl ?_
        exact ⟨bool_eq (by symm; rw [decide_eq_true_eq]; apply List.ext_getElem?; intro i; rcases Nat.lt_or_ge i l1.length with h | h; exact heq i (by omega); rw [List.getElem?_eq_none h, List.getElem?_eq_none (by omega)]), E⟩
theorem dfa_ext {a b : Dfa} (h1 : a.start = b.start) (h2 : a.accept = b.accept) (h3 : a.next = b.next) : a = b := by
  cases a; cases b; simp only at h1 h2 h3; rw [h1, h2, h3]
set_option maxHeartbeats 1000000 in
theorem dfaeq_c (w0 : World) (d1 d2 : Dfa) (vs us : List Value) (h1 : DfaAt w0 d1 vs) (h2 : DfaAt w0 d2 us) :
    Ret Try.prog 23 #[.agg vs.toArray, .agg us.toArray] w0 fun v w => (∃ b, v = .bool b ∧ (b = true ↔ d1 = d2)) ∧ Ext w0 w := by
  obtain ⟨aa, ac, na, nc, rfl, ha1, hn1⟩ := h1
  obtain ⟨ba, bc, ma, mc, rfl, ha2, hn2⟩ := h2
  obtain ⟨_, _, _, _, hle⟩ := hn1.form
  refine Ret_of Try.func23 rfl Try.ntmps23 (Nat.le_of_ble_eq_true rfl) ?_
  have E : Chg none1 w0 w0 := Chg.refl _ _
  refine Wp_seq_region ?_
  refine s_box (v := (.agg #[(.int .i64 d1.start), (.slice aa d1.accept.length ac), (.slice na d1.next.length nc)])) (c := #[(.int .i64 d1.start), (.slice aa d1.accept.length ac), (.slice na d1.next.length nc)]) (by decide) rfl rfl ?_
  intro bp wp Np
  have Fp := Np.ge E
  replace E := E.ext Np.ext
  have Bp := Np.blk
  refine s_box (v := (.agg #[(.int .i64 d2.start), (.slice ba d2.accept.length bc), (.slice ma d2.next.length mc)])) (c := #[(.int .i64 d2.start), (.slice ba d2.accept.length bc), (.slice ma d2.next.length mc)]) (by decide) rfl rfl ?_
  intro bq wq Nq
  have Fq := Nq.ge E
  have Oq_bp := Nq.lt Bp
  replace Bp := Nq.keep Bp
  replace E := E.ext Nq.ext
  have Bq := Nq.blk
  refine WpL_val rfl rfl (by decide) (r_assign (v := (.bool false)) rfl) ?_
  refine WpL_nil ?_
  refine Wp_seq ?_
  refine Wp_seq_region ?_
  refine WpL_val rfl rfl (by decide) (r_fieldAddr (b := bp) (o := 0) (o' := 0) rfl Try.underlying44 rfl siz3 rfl) ?_
  refine WpL_val rfl rfl (by decide) (r_load (v := (.int .i64 d1.start)) rfl flat3 (Bp.cell rfl)) ?_
  refine WpL_val rfl rfl (by decide) (r_fieldAddr (b := bq) (o := 0) (o' := 0) rfl Try.underlying44 rfl siz3 rfl) ?_
  refine WpL_val rfl rfl (by decide) (r_load (v := (.int .i64 d2.start)) rfl flat3 (Bq.cell rfl)) ?_
  refine WpL_val rfl rfl (by decide) (r_neq (k := .i64) (a := d1.start) (b := d2.start) rfl rfl) ?_
  refine WpL_val rfl rfl (by decide) (r_move (v := (.bool (decide ((d1.start : Int) ≠ d2.start)))) rfl) ?_
  rcases Bool.eq_false_or_eq_true (decide ((d1.start : Int) ≠ d2.start)) with g1 | g1
  · have kg1 := g1
    replace kg1 := of_decide_eq_true kg1
    refine WpL_guard_no (oj := _) rfl rfl (by decide) (v := .bool true) (congrArg Value.bool g1) (Or.inl rfl) ?_
    refine WpL_guard_no (oj := _) rfl rfl (by decide) (v := .bool true) (congrArg Value.bool g1) (Or.inl rfl) ?_
    refine WpL_guard_no (oj := _) rfl rfl (by decide) (v := .bool true) (congrArg Value.bool g1) (Or.inl rfl) ?_
    refine WpL_guard_no (oj := _) rfl rfl (by decide) (v := .bool true) (congrArg Value.bool g1) (Or.inl rfl) ?_
    refine WpL_guard_no (oj := _) rfl rfl (by decide) (v := .bool true) (congrArg Value.bool g1) (Or.inl rfl) ?_
    refine WpL_guard_no (oj := _) rfl rfl (by decide) (v := .bool true) (congrArg Value.bool g1) (Or.inl rfl) ?_
    refine WpL_val rfl rfl (by decide) (r_pick (b := decide ((d1.start : Int) ≠ d2.start)) (v := (.bool true)) rfl (by rw [g1]; rfl)) ?_
    refine WpL_val rfl rfl (by decide) (r_move (v := (.bool true)) rfl) ?_
    refine WpL_guard_no (oj := _) rfl rfl (by decide) (v := .bool true) rfl (Or.inl rfl) ?_
    refine WpL_guard_no (oj := _) rfl rfl (by decide) (v := .bool true) rfl (Or.inl rfl) ?_
    refine WpL_guard_no (oj := _) rfl rfl (by decide) (v := .bool true) rfl (Or.inl rfl) ?_
    refine WpL_guard_no (oj := _) rfl rfl (by decide) (v := .bool true) rfl (Or.inl rfl) ?_
    refine WpL_guard_no (oj := _) rfl rfl (by decide) (v := .bool true) rfl (Or.inl rfl) ?_
    refine WpL_guard_no (oj := _) rfl rfl (by decide) (v := .bool true) rfl (Or.inl rfl) ?_
    refine WpL_guard_no (oj := _) rfl rfl (by decide) (v := .bool true) rfl (Or.inl rfl) ?_
    refine WpL_val rfl rfl (by decide) (r_pick (b := true) (v := (.bool true)) rfl rfl) ?_
    refine WpL_nil ?_
    refine Wp_cond_true rfl ?_
    refine Wp_seq_region ?_
    refine WpL_val rfl rfl (by decide) (r_assign (v := (.bool false)) rfl) ?_
    refine WpL_nil ?_
    refine Wp_ret ?_
    refine thn_ret ?_
    refine fin_tmp Try.results23 (v := (.bool false)) rfl ?_
    exact ⟨⟨false, rfl, by simp; intro h; exact kg1 (congrArg Dfa.start h)⟩, E⟩
  · have kg1 := g1
    replace kg1 := of_decide_eq_false kg1
    refine WpL_guard_yes (oj := _) rfl rfl (by decide) (congrArg Value.bool g1) ?_
    refine WpL_val rfl rfl (by decide) (r_fieldAddr (b := bp) (o := 0) (o' := 1) rfl Try.underlying44 rfl siz26 rfl) ?_
    refine WpL_guard_yes (oj := _) rfl rfl (by decide) (congrArg Value.bool g1) ?_
    refine WpL_val rfl rfl (by decide) (r_load (v := (.slice aa d1.accept.length ac)) rfl flat26 (Bp.cell rfl)) ?_
    refine WpL_guard_yes (oj := _) rfl rfl (by decide) (congrArg Value.bool g1) ?_
    refine WpL_val rfl rfl (by decide) (r_fieldAddr (b := bq) (o := 0) (o' := 1) rfl Try.underlying44 rfl siz26 rfl) ?_
    refine WpL_guard_yes (oj := _) rfl rfl (by decide) (congrArg Value.bool g1) ?_
    refine WpL_val rfl rfl (by decide) (r_load (v := (.slice ba d2.accept.length bc)) rfl flat26 (Bq.cell rfl)) ?_
    refine WpL_guard_yes (oj := _) rfl rfl (by decide) (congrArg Value.bool g1) ?_
    refine WpL_enter rfl rfl (by decide) (r_callF (vs := [(.slice aa d1.accept.length ac), (.slice ba d2.accept.length bc)]) Try.func39 nm39 bd39 rfl) (ieqr_c _ _ _ _ _ (ha1.ext E) (ha2.ext E)) ?_
    rintro _ w9 ⟨rfl, X9⟩
    replace Bp := X9.keep Bp
    replace Bq := X9.keep Bq
    replace E := E.ext X9
    refine WpL_guard_yes (oj := _) rfl rfl (by decide) (congrArg Value.bool g1) ?_
    refine WpL_val rfl rfl (by decide) (r_not (b := decide (d1.accept = d2.accept)) rfl) ?_
    refine WpL_val rfl rfl (by decide) (r_pick (b := decide ((d1.start : Int) ≠ d2.start)) (v := (.bool (!(decide (d1.accept = d2.accept))))) rfl (by rw [g1]; rfl)) ?_
    refine WpL_val rfl rfl (by decide) (r_move (v := (.bool (!(decide (d1.accept = d2.accept))))) rfl) ?_
    rcases Bool.eq_false_or_eq_true (!(decide (d1.accept = d2.accept))) with g2 | g2
    · have kg2 := g2
      refine WpL_guard_no (oj := _) rfl rfl (by decide) (v := .bool true) (congrArg Value.bool g2) (Or.inl rfl) ?_
      refine WpL_guard_no (oj := _) rfl rfl (by decide) (v := .bool true) (congrArg Value.bool g2) (Or.inl rfl) ?_
      refine WpL_guard_no (oj := _) rfl rfl (by decide) (v := .bool true) (congrArg Value.bool g2) (Or.inl rfl) ?_
      refine WpL_guard_no (oj := _) rfl rfl (by decide) (v := .bool true) (congrArg Value.bool g2) (Or.inl rfl) ?_
      refine WpL_guard_no (oj := _) rfl rfl (by decide) (v := .bool true) (congrArg Value.bool g2) (Or.inl rfl) ?_
      refine WpL_guard_no (oj := _) rfl rfl (by decide) (v := .bool true) (congrArg Value.bool g2) (Or.inl rfl) ?_
      refine WpL_guard_no (oj := _) rfl rfl (by decide) (v := .bool true) (congrArg Value.bool g2) (Or.inl rfl) ?_
      refine WpL_val rfl rfl (by decide) (r_pick (b := !(decide (d1.accept = d2.accept))) (v := (.bool true)) rfl (by rw [g2]; rfl)) ?_
      refine WpL_nil ?_
      refine Wp_cond_true rfl ?_
      refine Wp_seq_region ?_
      refine WpL_val rfl rfl (by decide) (r_assign (v := (.bool false)) rfl) ?_
      refine WpL_nil ?_
      refine Wp_ret ?_
      refine thn_ret ?_
      refine fin_tmp Try.results23 (v := (.bool false)) rfl ?_
      exact ⟨⟨false, rfl, by simp; intro h; simp [h] at kg2⟩, E⟩
    · have kg2 := g2
      refine WpL_guard_yes (oj := _) rfl rfl (by decide) (congrArg Value.bool g2) ?_
      refine WpL_val rfl rfl (by decide) (r_fieldAddr (b := bp) (o := 0) (o' := 2) rfl Try.underlying44 rfl siz42 rfl) ?_
      refine WpL_guard_yes (oj := _) rfl rfl (by decide) (congrArg Value.bool g2) ?_
      refine WpL_val rfl rfl (by decide) (r_load (v := (.slice na d1.next.length nc)) rfl flat42 (Bp.cell rfl)) ?_
      refine WpL_guard_yes (oj := _) rfl rfl (by decide) (congrArg Value.bool g2) ?_
      refine WpL_val rfl rfl (by decide) (r_lenSlice (ad := na) (n := d1.next.length) (cap := nc) Try.underlying42 rfl) ?_
      refine WpL_guard_yes (oj := _) rfl rfl (by decide) (congrArg Value.bool g2) ?_
      refine WpL_val rfl rfl (by decide) (r_fieldAddr (b := bq) (o := 0) (o' := 2) rfl Try.underlying44 rfl siz42 rfl) ?_
      refine WpL_guard_yes (oj := _) rfl rfl (by decide) (congrArg Value.bool g2) ?_
      refine WpL_val rfl rfl (by decide) (r_load (v := (.slice ma d2.next.length mc)) rfl flat42 (Bq.cell rfl)) ?_
      refine WpL_guard_yes (oj := _) rfl rfl (by decide) (congrArg Value.bool g2) ?_
      refine WpL_val rfl rfl (by decide) (r_lenSlice (ad := ma) (n := d2.next.length) (cap := mc) Try.underlying42 rfl) ?_
      refine WpL_guard_yes (oj := _) rfl rfl (by decide) (congrArg Value.bool g2) ?_
      refine WpL_val rfl rfl (by decide) (r_neq (k := .i64) (a := ((d1.next.length : Nat) : Int)) (b := ((d2.next.length : Nat) : Int)) rfl rfl) ?_
      refine WpL_val rfl rfl (by decide) (r_pick (b := !(decide (d1.accept = d2.accept))) (v := (.bool (decide ((((d1.next.length : Nat) : Int) : Int) ≠ ((d2.next.length : Nat) : Int))))) rfl (by rw [g2]; rfl)) ?_
      refine WpL_nil ?_
      refine Wp_cond (b := decide ((((d1.next.length : Nat) : Int) : Int) ≠ ((d2.next.length : Nat) : Int))) rfl (fun g3 => ?_) (fun g3 => ?_)
      · have kg3 := g3
        replace g3 := of_decide_eq_true g3
        refine Wp_seq_region ?_
        refine WpL_val rfl rfl (by decide) (r_assign (v := (.bool false)) rfl) ?_
        refine WpL_nil ?_
        refine Wp_ret ?_
        refine thn_ret ?_
        refine fin_tmp Try.results23 (v := (.bool false)) rfl ?_
        exact ⟨⟨false, rfl, by simp; intro h; rw [h] at g3; exact g3 rfl⟩, E⟩
      · have kg3 := g3
        replace g3 := of_decide_eq_false g3
        have hs : d1.start = d2.start := by omega
        have hac : d1.accept = d2.accept := by simpa using kg2
        refine Wp_skip ?_
        refine thn_normal ?_
        refine Wp_seq ?_
        refine Wp_seq_region ?_
        refine WpL_val rfl rfl (by decide) (r_fieldAddr (b := bp) (o := 0) (o' := 2) rfl Try.underlying44 rfl siz42 rfl) ?_
        refine WpL_val rfl rfl (by decide) (r_load (v := (.slice na d1.next.length nc)) rfl flat42 (Bp.cell rfl)) ?_
        refine WpL_val rfl rfl (by decide) (r_lenSlice (ad := na) (n := d1.next.length) (cap := nc) Try.underlying42 rfl) ?_
        refine WpL_val rfl rfl (by decide) (r_move (v := (.int .i64 0)) rfl) ?_
        refine WpL_nil ?_
        refine Wp_block ?_
        refine Wp_loop (fun nn_ σ W4 => ∃ (k : Nat), (∃ jj_, σ = upds jj_ [(2, (.pointer (some ⟨bp, 0, none⟩))), (3, (.pointer (some ⟨bq, 0, none⟩))), (30, (.int .i64 ((d1.next.length : Nat) : Int))), (31, (.int .i64 ((k : Nat) : Int)))]) ∧ Chg none1 w0 W4 ∧ Blk W4 bp #[(.int .i64 d1.start), (.slice aa d1.accept.length ac), (.slice na d1.next.length nc)] 44 ∧ Blk W4 bq #[(.int .i64 d2.start), (.slice ba d2.accept.length bc), (.slice ma d2.next.length mc)] 44 ∧ (k ≤ d1.next.length) ∧ (∀ (i : Nat), i < k → d1.next[i]? = d2.next[i]?) ∧ nn_ = d1.next.length - k) (n := d1.next.length - 0) ?_ ?_
        · exact ⟨0, Fits.out ⟨rfl, rfl, rfl, rfl, trivial⟩, E, Bp, Bq, Nat.zero_le _, (fun i h => absurd h (Nat.not_lt_zero _)), rfl⟩
        · clear E Bp Bq
          rintro _ _ W4 ⟨k, ⟨j4, rfl⟩, E, Bp, Bq, hk, heq, rfl⟩
          refine Wp_seq_region ?_
          refine WpL_val rfl rfl (by decide) (r_lss (k := .i64) (a := ((k : Nat) : Int)) (b := ((d1.next.length : Nat) : Int)) rfl rfl) ?_
          refine WpL_nil ?_
          refine Wp_seq ?_
          refine Wp_cond (b := decide ((((k : Nat) : Int) : Int) < ((d1.next.length : Nat) : Int))) rfl (fun hlt => ?_) (fun hlt => ?_)
          · have khlt := hlt
            replace hlt := of_decide_eq_true hlt
            obtain ⟨x, hx⟩ := get_of_lt (l := d1.next) (i := k) (by omega)
            obtain ⟨y, hy⟩ := get_of_lt (l := d2.next) (i := k) (by omega)
            obtain ⟨b1, o1, rfl, hc1⟩ := intss_cells hn1 (by omega)
            obtain ⟨b2, o2, rfl, hc2⟩ := intss_cells hn2 (by omega)
            obtain ⟨xa, xc, hxc, hxi⟩ := hc1 k x hx
            obtain ⟨ya, yc, hyc, hyi⟩ := hc2 k y hy
            refine Wp_skip ?_
            refine thn_normal ?_
            refine Wp_seq ?_
            refine Wp_block ?_
            refine Wp_seq_region ?_
            refine WpL_val rfl rfl (by decide) (r_move (v := (.int .i64 ((k : Nat) : Int))) rfl) ?_
            refine WpL_val rfl rfl (by decide) (r_assign (v := (.int .i64 ((k : Nat) : Int))) rfl) ?_
            refine WpL_nil ?_
            refine Wp_seq ?_
            obtain ⟨Fs6, hFs6⟩ : ∃ Fs : List Fact, Fs = [.eq (.pointer (some ⟨bp, 2, none⟩)), .eq (.slice (some ⟨b1, o1, none⟩) d1.next.length nc), .eq (.int .i64 ((k : Nat) : Int)), .eq (.pointer (some ⟨b1, o1 + k, none⟩)), .eq (.slice xa x.length xc), .eq (.pointer (some ⟨bq, 2, none⟩)), .eq (.slice (some ⟨b2, o2, none⟩) d2.next.length mc), .eq (.int .i64 ((k : Nat) : Int)), .eq (.pointer (some ⟨b2, o2 + k, none⟩)), .eq (.slice ya y.length yc), .eq (.bool (decide (x = y))), .eq (.bool (!(decide (x = y))))] := ⟨_, rfl⟩
            refine Wp_dag [34, 35, 36, 37, 38, 39, 40, 41, 42, 43, 44, 45] [[], [0], [], [1, 2], [3], [], [5], [], [6, 7], [8], [4, 9], [10]] Fs6 hFs6 mixed (by kernel_rfl) (by kernel_rfl) ?_ ?_
            · intro wd X0
              refine DagSteps.cons (fun s' w' X U H => Or.inl ⟨?_, ?_⟩) ?_
              · exact Guarded_none rfl
              · exact Does_val (r_fieldAddr (b := bp) (o := 0) (o' := 2) (U 2 rfl) Try.underlying44 rfl siz42 rfl) (Ext.refl _) rfl
              refine DagSteps.cons (fun s' w' X U H => Or.inl ⟨?_, ?_⟩) ?_
              · exact Guarded_none rfl
              · have e34 : s' 34 = (.pointer (some ⟨bp, 2, none⟩)) := H 0 rfl 34 (.eq (.pointer (some ⟨bp, 2, none⟩))) rfl (by rw [hFs6]; rfl)
                exact Does_val (r_load (v := (.slice (some ⟨b1, o1, none⟩) d1.next.length nc)) e34 flat42 (((X0.trans X).keep Bp).cell rfl)) (Ext.refl _) rfl
              refine DagSteps.cons (fun s' w' X U H => Or.inl ⟨?_, ?_⟩) ?_
              · exact Guarded_none rfl
              · exact Does_val (r_move (v := (.int .i64 ((k : Nat) : Int))) (U 5 rfl)) (Ext.refl _) rfl
              refine DagSteps.cons (fun s' w' X U H => Or.inl ⟨?_, ?_⟩) ?_
              · exact Guarded_none rfl
              · have e35 : s' 35 = (.slice (some ⟨b1, o1, none⟩) d1.next.length nc) := H 1 rfl 35 (.eq (.slice (some ⟨b1, o1, none⟩) d1.next.length nc)) rfl (by rw [hFs6]; rfl)
                have e36 : s' 36 = (.int .i64 ((k : Nat) : Int)) := H 2 rfl 36 (.eq (.int .i64 ((k : Nat) : Int))) rfl (by rw [hFs6]; rfl)
                exact Does_val (r_indexSlice (b := b1) (o := o1) (len := d1.next.length) (cap := nc) (i := k) (o' := o1 + k) e35 e36 rfl Try.underlying42 siz26 (by omega) (by omega)) (Ext.refl _) rfl
              refine DagSteps.cons (fun s' w' X U H => Or.inl ⟨?_, ?_⟩) ?_
              · exact Guarded_none rfl
              · have e37 : s' 37 = (.pointer (some ⟨b1, o1 + k, none⟩)) := H 3 rfl 37 (.eq (.pointer (some ⟨b1, o1 + k, none⟩))) rfl (by rw [hFs6]; rfl)
                exact Does_val (r_load (v := (.slice xa x.length xc)) e37 flat26 ((Chg.ext E (X0.trans X)).cell (fun f => f) hxc)) (Ext.refl _) rfl
              refine DagSteps.cons (fun s' w' X U H => Or.inl ⟨?_, ?_⟩) ?_
              · exact Guarded_none rfl
              · exact Does_val (r_fieldAddr (b := bq) (o := 0) (o' := 2) (U 3 rfl) Try.underlying44 rfl siz42 rfl) (Ext.refl _) rfl
              refine DagSteps.cons (fun s' w' X U H => Or.inl ⟨?_, ?_⟩) ?_
              · exact Guarded_none rfl
              · have e39 : s' 39 = (.pointer (some ⟨bq, 2, none⟩)) := H 5 rfl 39 (.eq (.pointer (some ⟨bq, 2, none⟩))) rfl (by rw [hFs6]; rfl)
                exact Does_val (r_load (v := (.slice (some ⟨b2, o2, none⟩) d2.next.length mc)) e39 flat42 (((X0.trans X).keep Bq).cell rfl)) (Ext.refl _) rfl
              refine DagSteps.cons (fun s' w' X U H => Or.inl ⟨?_, ?_⟩) ?_
              · exact Guarded_none rfl
              · exact Does_val (r_move (v := (.int .i64 ((k : Nat) : Int))) (U 5 rfl)) (Ext.refl _) rfl
              refine DagSteps.cons (fun s' w' X U H => Or.inl ⟨?_, ?_⟩) ?_
              · exact Guarded_none rfl
              · have e40 : s' 40 = (.slice (some ⟨b2, o2, none⟩) d2.next.length mc) := H 6 rfl 40 (.eq (.slice (some ⟨b2, o2, none⟩) d2.next.length mc)) rfl (by rw [hFs6]; rfl)
                have e41 : s' 41 = (.int .i64 ((k : Nat) : Int)) := H 7 rfl 41 (.eq (.int .i64 ((k : Nat) : Int))) rfl (by rw [hFs6]; rfl)
                exact Does_val (r_indexSlice (b := b2) (o := o2) (len := d2.next.length) (cap := mc) (i := k) (o' := o2 + k) e40 e41 rfl Try.underlying42 siz26 (by omega) (by omega)) (Ext.refl _) rfl
              refine DagSteps.cons (fun s' w' X U H => Or.inl ⟨?_, ?_⟩) ?_
              · exact Guarded_none rfl
              · have e42 : s' 42 = (.pointer (some ⟨b2, o2 + k, none⟩)) := H 8 rfl 42 (.eq (.pointer (some ⟨b2, o2 + k, none⟩))) rfl (by rw [hFs6]; rfl)
                exact Does_val (r_load (v := (.slice ya y.length yc)) e42 flat26 ((Chg.ext E (X0.trans X)).cell (fun f => f) hyc)) (Ext.refl _) rfl
              refine DagSteps.cons (fun s' w' X U H => Or.inl ⟨?_, ?_⟩) ?_
              · exact Guarded_none rfl
              · have e38 : s' 38 = (.slice xa x.length xc) := H 4 rfl 38 (.eq (.slice xa x.length xc)) rfl (by rw [hFs6]; rfl)
                have e43 : s' 43 = (.slice ya y.length yc) := H 9 rfl 43 (.eq (.slice ya y.length yc)) rfl (by rw [hFs6]; rfl)
                exact Does_enter (r_callF (vs := [(.slice xa x.length xc), (.slice ya y.length yc)]) Try.func39 nm39 bd39 (lst2 e38 e43)) (ieqr_c _ _ _ x y (hxi.ext (Chg.ext E (X0.trans X))) (hyi.ext (Chg.ext E (X0.trans X))))
              refine DagSteps.cons (fun s' w' X U H => Or.inl ⟨?_, ?_⟩) ?_
              · exact Guarded_none rfl
              · have e44 : s' 44 = (.bool (decide (x = y))) := H 10 rfl 44 (.eq (.bool (decide (x = y)))) rfl (by rw [hFs6]; rfl)
                exact Does_val (r_not (b := decide (x = y)) e44) (Ext.refl _) rfl
              exact DagSteps.nil
            · intro s' w6 X6 U H
              obtain ⟨j6, rfl⟩ := Fits.out (σ := s') (l := [(2, (.pointer (some ⟨bp, 0, none⟩))), (3, (.pointer (some ⟨bq, 0, none⟩))), (30, (.int .i64 ((d1.next.length : Nat) : Int))), (31, (.int .i64 ((k : Nat) : Int))), (45, (.bool (!(decide (x = y)))))]) ⟨U 2 rfl, U 3 rfl, U 30 rfl, U 31 rfl, (show s' 45 = (.bool (!(decide (x = y)))) from H 11 45 (.eq (.bool (!(decide (x = y))))) rfl (by rw [hFs6]; rfl)), trivial⟩
              clear U H
              replace Bp := X6.keep Bp
              replace Bq := X6.keep Bq
              replace E := E.ext X6
              refine thn_normal ?_
              refine Wp_cond (b := !(decide (x = y))) rfl (fun hne => ?_) (fun hne => ?_)
              · have khne := hne
                replace hne := by simpa using hne
                refine Wp_seq_region ?_
                refine WpL_val rfl rfl (by decide) (r_assign (v := (.bool false)) rfl) ?_
                refine WpL_nil ?_
                refine Wp_ret ?_
                refine inB_ret ?_
                refine thn_ret ?_
                refine thn_ret ?_
                refine inB_ret ?_
                refine thn_ret ?_
                refine fin_tmp Try.results23 (v := (.bool false)) rfl ?_
                exact ⟨⟨false, rfl, by simp; intro h; rw [h, hy] at hx; cases hx; simp at hne⟩, E⟩
              · have khne := hne
                replace hne := by simpa using hne
                refine Wp_skip ?_
                refine inB_normal ?_
                refine thn_normal ?_
                refine Wp_region ?_
                refine WpL_val rfl rfl (by decide) (r_add (k := .i64) (a := ((k : Nat) : Int)) (b := 1) (c := ((k : Nat) : Int) + 1) rfl rfl (wI64 (by omega))) ?_
                refine WpL_val rfl rfl (by decide) (r_move (v := (.int .i64 (((k : Nat) : Int) + 1))) rfl) ?_
                refine WpL_nil ?_
                refine thn_normal ?_
                exact ⟨d1.next.length - (k + 1), by omega, k + 1, Fits.out ⟨rfl, rfl, rfl, rfl, trivial⟩, E, Bp, Bq, (by omega), (fun i hi => by rcases Nat.lt_or_ge i k with h | h; exact heq i h; obtain rfl : i = k := (by omega); rw [hx, hy]; simpa using hne), rfl⟩
          · have khlt := hlt
            replace hlt := of_decide_eq_false hlt
            have hnx : d1.next = d2.next := by
              apply List.ext_getElem?
              intro i
              rcases Nat.lt_or_ge i d1.next.length with h | h
              · exact heq i (by omega)
              · rw [List.getElem?_eq_none h, List.getElem?_eq_none (by omega)]
            refine Wp_exit ?_
            refine thn_exit ?_
            refine thn_exit ?_
            refine inB_here ?_
            refine thn_normal ?_
            refine Wp_seq_region ?_
            refine WpL_val rfl rfl (by decide) (r_assign (v := (.bool true)) rfl) ?_
            refine WpL_nil ?_
            refine Wp_ret ?_
            refine fin_tmp Try.results23 (v := (.bool true)) rfl ?_
            exact ⟨⟨true, rfl, by simp; exact dfa_ext hs hac hnx⟩, E⟩
end Go.Proofs
namespace Go.Proofs
open Go Go.Eng Go.Sort
set_option maxRecDepth 100000
def tabB (t u : Tab) : Bool := decide (t.start = u.start) && (decide (((t.cols : Nat) : Int) = ((u.cols : Nat) : Int)) && (decide (t.acc = u.acc) && (decide (natV t.bs = natV u.bs) && (decide (t.ow = u.ow) && decide (t.nx = u.nx)))))
theorem tabeq_c (w0 : World) (t u : Tab) (tv uv : List Value) (ht : TabAt w0 t tv) (hu : TabAt w0 u uv) :
    Ret Try.prog 18 #[.agg tv.toArray, .agg uv.toArray] w0 fun v w => v = .bool (tabB t u) ∧ Ext w0 w := by
  obtain ⟨aa, ac, ba, bc, oa, oc, na, nc, rfl, ha, hb, ho, hn⟩ := ht
  obtain ⟨aa2, ac2, ba2, bc2, oa2, oc2, na2, nc2, rfl, ha2, hb2, ho2, hn2⟩ := hu
  refine Ret_of Try.func18 rfl Try.ntmps18 (Nat.le_of_ble_eq_true rfl) ?_
  have E : Chg none1 w0 w0 := Chg.refl _ _
  refine Wp_seq_region ?_
  refine s_box (v := (.agg #[(.int .i64 t.start), (.int .i64 ((t.cols : Nat) : Int)), (.slice aa t.acc.length ac), (.slice ba t.bs.length bc), (.slice oa t.ow.length oc), (.slice na t.nx.length nc)])) (c := #[(.int .i64 t.start), (.int .i64 ((t.cols : Nat) : Int)), (.slice aa t.acc.length ac), (.slice ba t.bs.length bc), (.slice oa t.ow.length oc), (.slice na t.nx.length nc)]) (by decide) rfl rfl ?_
  intro bp wp Np
  have Fp := Np.ge E
  replace E := E.ext Np.ext
  have Bp := Np.blk
  refine s_box (v := (.agg #[(.int .i64 u.start), (.int .i64 ((u.cols : Nat) : Int)), (.slice aa2 u.acc.length ac2), (.slice ba2 u.bs.length bc2), (.slice oa2 u.ow.length oc2), (.slice na2 u.nx.length nc2)])) (c := #[(.int .i64 u.start), (.int .i64 ((u.cols : Nat) : Int)), (.slice aa2 u.acc.length ac2), (.slice ba2 u.bs.length bc2), (.slice oa2 u.ow.length oc2), (.slice na2 u.nx.length nc2)]) (by decide) rfl rfl ?_
  intro bq wq Nq
  have Fq := Nq.ge E
  have Oq_bp := Nq.lt Bp
  replace Bp := Nq.keep Bp
  replace E := E.ext Nq.ext
  have Bq := Nq.blk
  refine WpL_val rfl rfl (by decide) (r_assign (v := (.bool false)) rfl) ?_
  refine WpL_nil ?_
  refine Wp_seq_region ?_
  refine WpL_val rfl rfl (by decide) (r_fieldAddr (b := bp) (o := 0) (o' := 0) rfl Try.underlying46 rfl siz3 rfl) ?_
  refine WpL_val rfl rfl (by decide) (r_load (v := (.int .i64 t.start)) rfl flat3 (Bp.cell rfl)) ?_
  refine WpL_val rfl rfl (by decide) (r_fieldAddr (b := bq) (o := 0) (o' := 0) rfl Try.underlying46 rfl siz3 rfl) ?_
  refine WpL_val rfl rfl (by decide) (r_load (v := (.int .i64 u.start)) rfl flat3 (Bq.cell rfl)) ?_
  refine WpL_val rfl rfl (by decide) (r_eql (k := .i64) (a := t.start) (b := u.start) rfl rfl) ?_
  refine WpL_val rfl rfl (by decide) (r_move (v := (.bool (decide ((t.start : Int) = u.start)))) rfl) ?_
  rcases Bool.eq_false_or_eq_true (decide ((t.start : Int) = u.start)) with g1 | g1
  · have kg1 := g1
    replace kg1 := of_decide_eq_true kg1
    refine WpL_guard_yes (oj := _) rfl rfl (by decide) (congrArg Value.bool g1) ?_
    refine WpL_val rfl rfl (by decide) (r_fieldAddr (b := bp) (o := 0) (o' := 1) rfl Try.underlying46 rfl siz3 rfl) ?_
    refine WpL_guard_yes (oj := _) rfl rfl (by decide) (congrArg Value.bool g1) ?_
    refine WpL_val rfl rfl (by decide) (r_load (v := (.int .i64 ((t.cols : Nat) : Int))) rfl flat3 (Bp.cell rfl)) ?_
    refine WpL_guard_yes (oj := _) rfl rfl (by decide) (congrArg Value.bool g1) ?_
    refine WpL_val rfl rfl (by decide) (r_fieldAddr (b := bq) (o := 0) (o' := 1) rfl Try.underlying46 rfl siz3 rfl) ?_
    refine WpL_guard_yes (oj := _) rfl rfl (by decide) (congrArg Value.bool g1) ?_
    refine WpL_val rfl rfl (by decide) (r_load (v := (.int .i64 ((u.cols : Nat) : Int))) rfl flat3 (Bq.cell rfl)) ?_
    refine WpL_guard_yes (oj := _) rfl rfl (by decide) (congrArg Value.bool g1) ?_
    refine WpL_val rfl rfl (by decide) (r_eql (k := .i64) (a := ((t.cols : Nat) : Int)) (b := ((u.cols : Nat) : Int)) rfl rfl) ?_
    refine WpL_val rfl rfl (by decide) (r_pick (b := decide ((t.start : Int) = u.start)) (v := (.bool (decide ((((t.cols : Nat) : Int) : Int) = ((u.cols : Nat) : Int))))) rfl (by rw [g1]; rfl)) ?_
    refine WpL_val rfl rfl (by decide) (r_move (v := (.bool (decide ((((t.cols : Nat) : Int) : Int) = ((u.cols : Nat) : Int))))) rfl) ?_
    rcases Bool.eq_false_or_eq_true (decide ((((t.cols : Nat) : Int) : Int) = ((u.cols : Nat) : Int))) with g2 | g2
    · have kg2 := g2
      replace kg2 := of_decide_eq_true kg2
      refine WpL_guard_yes (oj := _) rfl rfl (by decide) (congrArg Value.bool g2) ?_
      refine WpL_val rfl rfl (by decide) (r_fieldAddr (b := bp) (o := 0) (o' := 2) rfl Try.underlying46 rfl siz26 rfl) ?_
      refine WpL_guard_yes (oj := _) rfl rfl (by decide) (congrArg Value.bool g2) ?_
      refine WpL_val rfl rfl (by decide) (r_load (v := (.slice aa t.acc.length ac)) rfl flat26 (Bp.cell rfl)) ?_
      refine WpL_guard_yes (oj := _) rfl rfl (by decide) (congrArg Value.bool g2) ?_
      refine WpL_val rfl rfl (by decide) (r_fieldAddr (b := bq) (o := 0) (o' := 2) rfl Try.underlying46 rfl siz26 rfl) ?_
      refine WpL_guard_yes (oj := _) rfl rfl (by decide) (congrArg Value.bool g2) ?_
      refine WpL_val rfl rfl (by decide) (r_load (v := (.slice aa2 u.acc.length ac2)) rfl flat26 (Bq.cell rfl)) ?_
      refine WpL_guard_yes (oj := _) rfl rfl (by decide) (congrArg Value.bool g2) ?_
      refine WpL_enter rfl rfl (by decide) (r_callF (vs := [(.slice aa t.acc.length ac), (.slice aa2 u.acc.length ac2)]) Try.func39 nm39 bd39 rfl) (ieqr_c _ _ _ _ _ (ha.ext E) (ha2.ext E)) ?_
      rintro _ w9 ⟨rfl, X9⟩
      replace Bp := X9.keep Bp
      replace Bq := X9.keep Bq
      replace E := E.ext X9
      refine WpL_val rfl rfl (by decide) (r_pick (b := decide ((((t.cols : Nat) : Int) : Int) = ((u.cols : Nat) : Int))) (v := (.bool (decide (t.acc = u.acc)))) rfl (by rw [g2]; rfl)) ?_
      refine WpL_val rfl rfl (by decide) (r_move (v := (.bool (decide (t.acc = u.acc)))) rfl) ?_
      rcases Bool.eq_false_or_eq_true (decide (t.acc = u.acc)) with g3 | g3
      · have kg3 := g3
        replace kg3 := of_decide_eq_true kg3
        refine WpL_guard_yes (oj := _) rfl rfl (by decide) (congrArg Value.bool g3) ?_
        refine WpL_val rfl rfl (by decide) (r_fieldAddr (b := bp) (o := 0) (o' := 3) rfl Try.underlying46 rfl siz26 rfl) ?_
        refine WpL_guard_yes (oj := _) rfl rfl (by decide) (congrArg Value.bool g3) ?_
        refine WpL_val rfl rfl (by decide) (r_load (v := (.slice ba t.bs.length bc)) rfl flat26 (Bp.cell rfl)) ?_
        refine WpL_guard_yes (oj := _) rfl rfl (by decide) (congrArg Value.bool g3) ?_
        refine WpL_val rfl rfl (by decide) (r_fieldAddr (b := bq) (o := 0) (o' := 3) rfl Try.underlying46 rfl siz26 rfl) ?_
        refine WpL_guard_yes (oj := _) rfl rfl (by decide) (congrArg Value.bool g3) ?_
        refine WpL_val rfl rfl (by decide) (r_load (v := (.slice ba2 u.bs.length bc2)) rfl flat26 (Bq.cell rfl)) ?_
        refine WpL_guard_yes (oj := _) rfl rfl (by decide) (congrArg Value.bool g3) ?_
        refine WpL_enter rfl rfl (by decide) (r_callF (vs := [(.slice ba t.bs.length bc), (.slice ba2 u.bs.length bc2)]) Try.func39 nm39 bd39 rfl) (ieqr_c _ _ _ _ _ (hb.ext E) (hb2.ext E)) ?_
        rintro _ w19 ⟨rfl, X19⟩
        replace Bp := X19.keep Bp
        replace Bq := X19.keep Bq
        replace E := E.ext X19
        refine WpL_val rfl rfl (by decide) (r_pick (b := decide (t.acc = u.acc)) (v := (.bool (decide (natV t.bs = natV u.bs)))) rfl (by rw [g3]; rfl)) ?_
        refine WpL_val rfl rfl (by decide) (r_move (v := (.bool (decide (natV t.bs = natV u.bs)))) rfl) ?_
        rcases Bool.eq_false_or_eq_true (decide (natV t.bs = natV u.bs)) with g4 | g4
        · have kg4 := g4
          replace kg4 := of_decide_eq_true kg4
          refine WpL_guard_yes (oj := _) rfl rfl (by decide) (congrArg Value.bool g4) ?_
          refine WpL_val rfl rfl (by decide) (r_fieldAddr (b := bp) (o := 0) (o' := 4) rfl Try.underlying46 rfl siz26 rfl) ?_
          refine WpL_guard_yes (oj := _) rfl rfl (by decide) (congrArg Value.bool g4) ?_
          refine WpL_val rfl rfl (by decide) (r_load (v := (.slice oa t.ow.length oc)) rfl flat26 (Bp.cell rfl)) ?_
          refine WpL_guard_yes (oj := _) rfl rfl (by decide) (congrArg Value.bool g4) ?_
          refine WpL_val rfl rfl (by decide) (r_fieldAddr (b := bq) (o := 0) (o' := 4) rfl Try.underlying46 rfl siz26 rfl) ?_
          refine WpL_guard_yes (oj := _) rfl rfl (by decide) (congrArg Value.bool g4) ?_
          refine WpL_val rfl rfl (by decide) (r_load (v := (.slice oa2 u.ow.length oc2)) rfl flat26 (Bq.cell rfl)) ?_
          refine WpL_guard_yes (oj := _) rfl rfl (by decide) (congrArg Value.bool g4) ?_
          refine WpL_enter rfl rfl (by decide) (r_callF (vs := [(.slice oa t.ow.length oc), (.slice oa2 u.ow.length oc2)]) Try.func39 nm39 bd39 rfl) (ieqr_c _ _ _ _ _ (ho.ext E) (ho2.ext E)) ?_
          rintro _ w29 ⟨rfl, X29⟩
          replace Bp := X29.keep Bp
          replace Bq := X29.keep Bq
          replace E := E.ext X29
          refine WpL_val rfl rfl (by decide) (r_pick (b := decide (natV t.bs = natV u.bs)) (v := (.bool (decide (t.ow = u.ow)))) rfl (by rw [g4]; rfl)) ?_
          refine WpL_val rfl rfl (by decide) (r_move (v := (.bool (decide (t.ow = u.ow)))) rfl) ?_
          rcases Bool.eq_false_or_eq_true (decide (t.ow = u.ow)) with g5 | g5
          · have kg5 := g5
            replace kg5 := of_decide_eq_true kg5
            refine WpL_guard_yes (oj := _) rfl rfl (by decide) (congrArg Value.bool g5) ?_
            refine WpL_val rfl rfl (by decide) (r_fieldAddr (b := bp) (o := 0) (o' := 5) rfl Try.underlying46 rfl siz26 rfl) ?_
            refine WpL_guard_yes (oj := _) rfl rfl (by decide) (congrArg Value.bool g5) ?_
            refine WpL_val rfl rfl (by decide) (r_load (v := (.slice na t.nx.length nc)) rfl flat26 (Bp.cell rfl)) ?_
            refine WpL_guard_yes (oj := _) rfl rfl (by decide) (congrArg Value.bool g5) ?_
            refine WpL_val rfl rfl (by decide) (r_fieldAddr (b := bq) (o := 0) (o' := 5) rfl Try.underlying46 rfl siz26 rfl) ?_
            refine WpL_guard_yes (oj := _) rfl rfl (by decide) (congrArg Value.bool g5) ?_
            refine WpL_val rfl rfl (by decide) (r_load (v := (.slice na2 u.nx.length nc2)) rfl flat26 (Bq.cell rfl)) ?_
            refine WpL_guard_yes (oj := _) rfl rfl (by decide) (congrArg Value.bool g5) ?_
            refine WpL_enter rfl rfl (by decide) (r_callF (vs := [(.slice na t.nx.length nc), (.slice na2 u.nx.length nc2)]) Try.func39 nm39 bd39 rfl) (ieqr_c _ _ _ _ _ (hn.ext E) (hn2.ext E)) ?_
            rintro _ w39 ⟨rfl, X39⟩
            replace Bp := X39.keep Bp
            replace Bq := X39.keep Bq
            replace E := E.ext X39
            refine WpL_val rfl rfl (by decide) (r_pick (b := decide (t.ow = u.ow)) (v := (.bool (decide (t.nx = u.nx)))) rfl (by rw [g5]; rfl)) ?_
            refine WpL_val rfl rfl (by decide) (r_assign (v := (.bool (decide (t.nx = u.nx)))) rfl) ?_
            refine WpL_nil ?_
            refine Wp_ret ?_
            refine fin_tmp Try.results18 (v := (.bool (decide (t.nx = u.nx)))) rfl ?_
            exact ⟨bool_eq (by unfold tabB; simp [kg1, kg2, kg3, kg4, kg5]), E⟩
          · have kg5 := g5
            replace kg5 := of_decide_eq_false kg5
            refine WpL_guard_no (oj := _) rfl rfl (by decide) (v := .bool false) (congrArg Value.bool g5) (Or.inl rfl) ?_
            refine WpL_guard_no (oj := _) rfl rfl (by decide) (v := .bool false) (congrArg Value.bool g5) (Or.inl rfl) ?_
            refine WpL_guard_no (oj := _) rfl rfl (by decide) (v := .bool false) (congrArg Value.bool g5) (Or.inl rfl) ?_
            refine WpL_guard_no (oj := _) rfl rfl (by decide) (v := .bool false) (congrArg Value.bool g5) (Or.inl rfl) ?_
            refine WpL_guard_no (oj := _) rfl rfl (by decide) (v := .bool false) (congrArg Value.bool g5) (Or.inl rfl) ?_
            refine WpL_val rfl rfl (by decide) (r_pick (b := decide (t.ow = u.ow)) (v := (.bool false)) rfl (by rw [g5]; rfl)) ?_
            refine WpL_val rfl rfl (by decide) (r_assign (v := (.bool false)) rfl) ?_
            refine WpL_nil ?_
            refine Wp_ret ?_
            refine fin_tmp Try.results18 (v := (.bool false)) rfl ?_
            exact ⟨bool_eq (by unfold tabB; simp [kg5]), E⟩
        · have kg4 := g4
          replace kg4 := of_decide_eq_false kg4
          refine WpL_guard_no (oj := _) rfl rfl (by decide) (v := .bool false) (congrArg Value.bool g4) (Or.inl rfl) ?_
          refine WpL_guard_no (oj := _) rfl rfl (by decide) (v := .bool false) (congrArg Value.bool g4) (Or.inl rfl) ?_
          refine WpL_guard_no (oj := _) rfl rfl (by decide) (v := .bool false) (congrArg Value.bool g4) (Or.inl rfl) ?_
          refine WpL_guard_no (oj := _) rfl rfl (by decide) (v := .bool false) (congrArg Value.bool g4) (Or.inl rfl) ?_
          refine WpL_guard_no (oj := _) rfl rfl (by decide) (v := .bool false) (congrArg Value.bool g4) (Or.inl rfl) ?_
          refine WpL_val rfl rfl (by decide) (r_pick (b := decide (natV t.bs = natV u.bs)) (v := (.bool false)) rfl (by rw [g4]; rfl)) ?_
          refine WpL_val rfl rfl (by decide) (r_move (v := (.bool false)) rfl) ?_
          refine WpL_guard_no (oj := _) rfl rfl (by decide) (v := .bool false) rfl (Or.inl rfl) ?_
          refine WpL_guard_no (oj := _) rfl rfl (by decide) (v := .bool false) rfl (Or.inl rfl) ?_
          refine WpL_guard_no (oj := _) rfl rfl (by decide) (v := .bool false) rfl (Or.inl rfl) ?_
          refine WpL_guard_no (oj := _) rfl rfl (by decide) (v := .bool false) rfl (Or.inl rfl) ?_
          refine WpL_guard_no (oj := _) rfl rfl (by decide) (v := .bool false) rfl (Or.inl rfl) ?_
          refine WpL_val rfl rfl (by decide) (r_pick (b := false) (v := (.bool false)) rfl rfl) ?_
          refine WpL_val rfl rfl (by decide) (r_assign (v := (.bool false)) rfl) ?_
          refine WpL_nil ?_
          refine Wp_ret ?_
          refine fin_tmp Try.results18 (v := (.bool false)) rfl ?_
          exact ⟨bool_eq (by unfold tabB; simp [kg4]), E⟩
      · have kg3 := g3
        replace kg3 := of_decide_eq_false kg3
        refine WpL_guard_no (oj := _) rfl rfl (by decide) (v := .bool false) (congrArg Value.bool g3) (Or.inl rfl) ?_
        refine WpL_guard_no (oj := _) rfl rfl (by decide) (v := .bool false) (congrArg Value.bool g3) (Or.inl rfl) ?_
        refine WpL_guard_no (oj := _) rfl rfl (by decide) (v := .bool false) (congrArg Value.bool g3) (Or.inl rfl) ?_
        refine WpL_guard_no (oj := _) rfl rfl (by decide) (v := .bool false) (congrArg Value.bool g3) (Or.inl rfl) ?_
        refine WpL_guard_no (oj := _) rfl rfl (by decide) (v := .bool false) (congrArg Value.bool g3) (Or.inl rfl) ?_
        refine WpL_val rfl rfl (by decide) (r_pick (b := decide (t.acc = u.acc)) (v := (.bool false)) rfl (by rw [g3]; rfl)) ?_
        refine WpL_val rfl rfl (by decide) (r_move (v := (.bool false)) rfl) ?_
        refine WpL_guard_no (oj := _) rfl rfl (by decide) (v := .bool false) rfl (Or.inl rfl) ?_
        refine WpL_guard_no (oj := _) rfl rfl (by decide) (v := .bool false) rfl (Or.inl rfl) ?_
        refine WpL_guard_no (oj := _) rfl rfl (by decide) (v := .bool false) rfl (Or.inl rfl) ?_
        refine WpL_guard_no (oj := _) rfl rfl (by decide) (v := .bool false) rfl (Or.inl rfl) ?_
        refine WpL_guard_no (oj := _) rfl rfl (by decide) (v := .bool false) rfl (Or.inl rfl) ?_
        refine WpL_val rfl rfl (by decide) (r_pick (b := false) (v := (.bool false)) rfl rfl) ?_
        refine WpL_val rfl rfl (by decide) (r_move (v := (.bool false)) rfl) ?_
        refine WpL_guard_no (oj := _) rfl rfl (by decide) (v := .bool false) rfl (Or.inl rfl) ?_
        refine WpL_guard_no (oj := _) rfl rfl (by decide) (v := .bool false) rfl (Or.inl rfl) ?_
        refine WpL_guard_no (oj := _) rfl rfl (by decide) (v := .bool false) rfl (Or.inl rfl) ?_
        refine WpL_guard_no (oj := _) rfl rfl (by decide) (v := .bool false) rfl (Or.inl rfl) ?_
        refine WpL_guard_no (oj := _) rfl rfl (by decide) (v := .bool false) rfl (Or.inl rfl) ?_
        refine WpL_val rfl rfl (by decide) (r_pick (b := false) (v := (.bool false)) rfl rfl) ?_
        refine WpL_val rfl rfl (by decide) (r_assign (v := (.bool false)) rfl) ?_
        refine WpL_nil ?_
        refine Wp_ret ?_
        refine fin_tmp Try.results18 (v := (.bool false)) rfl ?_
        exact ⟨bool_eq (by unfold tabB; simp [kg3]), E⟩
    · have kg2 := g2
      replace kg2 := of_decide_eq_false kg2
      refine WpL_guard_no (oj := _) rfl rfl (by decide) (v := .bool false) (congrArg Value.bool g2) (Or.inl rfl) ?_
      refine WpL_guard_no (oj := _) rfl rfl (by decide) (v := .bool false) (congrArg Value.bool g2) (Or.inl rfl) ?_
      refine WpL_guard_no (oj := _) rfl rfl (by decide) (v := .bool false) (congrArg Value.bool g2) (Or.inl rfl) ?_
      refine WpL_guard_no (oj := _) rfl rfl (by decide) (v := .bool false) (congrArg Value.bool g2) (Or.inl rfl) ?_
      refine WpL_guard_no (oj := _) rfl rfl (by decide) (v := .bool false) (congrArg Value.bool g2) (Or.inl rfl) ?_
      refine WpL_val rfl rfl (by decide) (r_pick (b := decide ((((t.cols : Nat) : Int) : Int) = ((u.cols : Nat) : Int))) (v := (.bool false)) rfl (by rw [g2]; rfl)) ?_
      refine WpL_val rfl rfl (by decide) (r_move (v := (.bool false)) rfl) ?_
      refine WpL_guard_no (oj := _) rfl rfl (by decide) (v := .bool false) rfl (Or.inl rfl) ?_
      refine WpL_guard_no (oj := _) rfl rfl (by decide) (v := .bool false) rfl (Or.inl rfl) ?_
      refine WpL_guard_no (oj := _) rfl rfl (by decide) (v := .bool false) rfl (Or.inl rfl) ?_
      refine WpL_guard_no (oj := _) rfl rfl (by decide) (v := .bool false) rfl (Or.inl rfl) ?_
      refine WpL_guard_no (oj := _) rfl rfl (by decide) (v := .bool false) rfl (Or.inl rfl) ?_
      refine WpL_val rfl rfl (by decide) (r_pick (b := false) (v := (.bool false)) rfl rfl) ?_
      refine WpL_val rfl rfl (by decide) (r_move (v := (.bool false)) rfl) ?_
      refine WpL_guard_no (oj := _) rfl rfl (by decide) (v := .bool false) rfl (Or.inl rfl) ?_
      refine WpL_guard_no (oj := _) rfl rfl (by decide) (v := .bool false) rfl (Or.inl rfl) ?_
      refine WpL_guard_no (oj := _) rfl rfl (by decide) (v := .bool false) rfl (Or.inl rfl) ?_
      refine WpL_guard_no (oj := _) rfl rfl (by decide) (v := .bool false) rfl (Or.inl rfl) ?_
      refine WpL_guard_no (oj := _) rfl rfl (by decide) (v := .bool false) rfl (Or.inl rfl) ?_
      refine WpL_val rfl rfl (by decide) (r_pick (b := false) (v := (.bool false)) rfl rfl) ?_
      refine WpL_val rfl rfl (by decide) (r_move (v := (.bool false)) rfl) ?_
      refine WpL_guard_no (oj := _) rfl rfl (by decide) (v := .bool false) rfl (Or.inl rfl) ?_
      refine WpL_guard_no (oj := _) rfl rfl (by decide) (v := .bool false) rfl (Or.inl rfl) ?_
      refine WpL_guard_no (oj := _) rfl rfl (by decide) (v := .bool false) rfl (Or.inl rfl) ?_
      refine WpL_guard_no (oj := _) rfl rfl (by decide) (v := .bool false) rfl (Or.inl rfl) ?_
      refine WpL_guard_no (oj := _) rfl rfl (by decide) (v := .bool false) rfl (Or.inl rfl) ?_
      refine WpL_val rfl rfl (by decide) (r_pick (b := false) (v := (.bool false)) rfl rfl) ?_
      refine WpL_val rfl rfl (by decide) (r_assign (v := (.bool false)) rfl) ?_
      refine WpL_nil ?_
      refine Wp_ret ?_
      refine fin_tmp Try.results18 (v := (.bool false)) rfl ?_
      exact ⟨bool_eq (by unfold tabB; simp [kg2]), E⟩
  · have kg1 := g1
    replace kg1 := of_decide_eq_false kg1
    refine WpL_guard_no (oj := _) rfl rfl (by decide) (v := .bool false) (congrArg Value.bool g1) (Or.inl rfl) ?_
    refine WpL_guard_no (oj := _) rfl rfl (by decide) (v := .bool false) (congrArg Value.bool g1) (Or.inl rfl) ?_
    refine WpL_guard_no (oj := _) rfl rfl (by decide) (v := .bool false) (congrArg Value.bool g1) (Or.inl rfl) ?_
    refine WpL_guard_no (oj := _) rfl rfl (by decide) (v := .bool false) (congrArg Value.bool g1) (Or.inl rfl) ?_
    refine WpL_guard_no (oj := _) rfl rfl (by decide) (v := .bool false) (congrArg Value.bool g1) (Or.inl rfl) ?_
    refine WpL_val rfl rfl (by decide) (r_pick (b := decide ((t.start : Int) = u.start)) (v := (.bool false)) rfl (by rw [g1]; rfl)) ?_
    refine WpL_val rfl rfl (by decide) (r_move (v := (.bool false)) rfl) ?_
    refine WpL_guard_no (oj := _) rfl rfl (by decide) (v := .bool false) rfl (Or.inl rfl) ?_
    refine WpL_guard_no (oj := _) rfl rfl (by decide) (v := .bool false) rfl (Or.inl rfl) ?_
    refine WpL_guard_no (oj := _) rfl rfl (by decide) (v := .bool false) rfl (Or.inl rfl) ?_
    refine WpL_guard_no (oj := _) rfl rfl (by decide) (v := .bool false) rfl (Or.inl rfl) ?_
    refine WpL_guard_no (oj := _) rfl rfl (by decide) (v := .bool false) rfl (Or.inl rfl) ?_
    refine WpL_val rfl rfl (by decide) (r_pick (b := false) (v := (.bool false)) rfl rfl) ?_
    refine WpL_val rfl rfl (by decide) (r_move (v := (.bool false)) rfl) ?_
    refine WpL_guard_no (oj := _) rfl rfl (by decide) (v := .bool false) rfl (Or.inl rfl) ?_
    refine WpL_guard_no (oj := _) rfl rfl (by decide) (v := .bool false) rfl (Or.inl rfl) ?_
    refine WpL_guard_no (oj := _) rfl rfl (by decide) (v := .bool false) rfl (Or.inl rfl) ?_
    refine WpL_guard_no (oj := _) rfl rfl (by decide) (v := .bool false) rfl (Or.inl rfl) ?_
    refine WpL_guard_no (oj := _) rfl rfl (by decide) (v := .bool false) rfl (Or.inl rfl) ?_
    refine WpL_val rfl rfl (by decide) (r_pick (b := false) (v := (.bool false)) rfl rfl) ?_
    refine WpL_val rfl rfl (by decide) (r_move (v := (.bool false)) rfl) ?_
    refine WpL_guard_no (oj := _) rfl rfl (by decide) (v := .bool false) rfl (Or.inl rfl) ?_
    refine WpL_guard_no (oj := _) rfl rfl (by decide) (v := .bool false) rfl (Or.inl rfl) ?_
    refine WpL_guard_no (oj := _) rfl rfl (by decide) (v := .bool false) rfl (Or.inl rfl) ?_
    refine WpL_guard_no (oj := _) rfl rfl (by decide) (v := .bool false) rfl (Or.inl rfl) ?_
    refine WpL_guard_no (oj := _) rfl rfl (by decide) (v := .bool false) rfl (Or.inl rfl) ?_
    refine WpL_val rfl rfl (by decide) (r_pick (b := false) (v := (.bool false)) rfl rfl) ?_
    refine WpL_val rfl rfl (by decide) (r_move (v := (.bool false)) rfl) ?_
    refine WpL_guard_no (oj := _) rfl rfl (by decide) (v := .bool false) rfl (Or.inl rfl) ?_
    refine WpL_guard_no (oj := _) rfl rfl (by decide) (v := .bool false) rfl (Or.inl rfl) ?_
    refine WpL_guard_no (oj := _) rfl rfl (by decide) (v := .bool false) rfl (Or.inl rfl) ?_
    refine WpL_guard_no (oj := _) rfl rfl (by decide) (v := .bool false) rfl (Or.inl rfl) ?_
    refine WpL_guard_no (oj := _) rfl rfl (by decide) (v := .bool false) rfl (Or.inl rfl) ?_
    refine WpL_val rfl rfl (by decide) (r_pick (b := false) (v := (.bool false)) rfl rfl) ?_
    refine WpL_val rfl rfl (by decide) (r_assign (v := (.bool false)) rfl) ?_
    refine WpL_nil ?_
    refine Wp_ret ?_
    refine fin_tmp Try.results18 (v := (.bool false)) rfl ?_
    exact ⟨bool_eq (by unfold tabB; simp [kg1]), E⟩
def byR (base : Nat) (l : List Nat) (r : Value) (w : World) : Prop := ∃ a c, r = .slice a l.length c ∧ w.ownsRow base TU8 1 (.slice a l.length c) l.length (l.map u8V)
theorem own_any {w : World} {base e n c : Nat} {a : Option Addr} {xs : List Value} (h : w.ownsRow base e 1 (.slice a n c) n xs) : (n = 0 ∧ xs = []) ∨ ∃ bx ox, a = some ⟨bx, ox, none⟩ ∧ CellsAt w bx ox xs := by
  rcases Nat.eq_zero_or_pos n with rfl | h0
  · exact .inl ⟨rfl, List.eq_nil_of_length_eq_zero (by simpa using h.1)⟩
  · obtain ⟨g, rfl, _, hc⟩ := own_cells h h0
    exact .inr ⟨g, 0, rfl, hc⟩
theorem by_one (l : List Nat) : ∀ u ∈ l.map u8V, u.oneCell' = true := fun u hu => by
  obtain ⟨x, _, rfl⟩ := List.mem_map.1 hu; rfl
set_option maxHeartbeats 1000000 in
theorem numbytes_c : ∀ (z : Nat) (w0 : World) (n : Int), n.toNat ≤ z → -1 ≤ n → n ≤ 9223372036854775807 →
    Ret Try.prog 63 #[.int .i64 n] w0 fun r w => byR w0.heap.size (encI1 n) r w ∧ Ext w0 w := by
  intro z
  induction z with
  | zero =>
    intro w0 n hz h1 h2
    have hl : ([(n + 1).toNat] : List Nat).length = 1 := rfl
    have he : encI1 n = [(n + 1).toNat] := encN_small (by omega)
    rw [he]
    refine Ret_of Try.func63 rfl Try.ntmps63 (Nat.le_of_ble_eq_true rfl) ?_
    have E : Chg none1 w0 w0 := Chg.refl _ _
    refine Wp_seq_region ?_
    refine WpL_val rfl rfl (by decide) (r_assign (v := (.slice none 0 0)) rfl) ?_
    refine WpL_nil ?_
    refine Wp_seq ?_
    refine Wp_seq_region ?_
    refine WpL_val rfl rfl (by decide) (r_move (v := (.int .i64 n)) rfl) ?_
    refine WpL_val rfl rfl (by decide) (r_lss (k := .i64) (a := n) (b := 127) rfl rfl) ?_
    refine WpL_nil ?_
    have hc1 : (decide ((n : Int) < 127)) = true := decide_eq_true (by omega)
    refine Wp_cond_true (congrArg Value.bool hc1) ?_
    refine Wp_seq_region ?_
    refine WpL_val rfl rfl (by decide) (r_move (v := (.int .i64 n)) rfl) ?_
    refine WpL_val rfl rfl (by decide) (r_add (k := .i64) (a := n) (b := 1) (c := n + 1) rfl rfl (wI64 (by omega))) ?_
    refine WpL_val rfl rfl (by decide) (r_convInt (k := .i64) (k' := .u8) (n := n + 1) (c := (((n + 1).toNat : Nat) : Int)) ⟨_, Try.underlying3⟩ Try.underlying5 rfl ((wU8m _).trans (by omega))) ?_
    refine s_buildSlice (ps := [(0, (.int .u8 (((n + 1).toNat : Nat) : Int)))]) (c := #[(.int .u8 (((n + 1).toNat : Nat) : Int))]) (by decide) rfl Try.underlying52 siz5 zer5 (by decide) (by decide) (by kernel_rfl) ?_
    intro br wr Nr
    have Fr := Nr.ge E
    replace E := E.ext Nr.ext
    have Br := Nr.blk
    refine WpL_val rfl rfl (by decide) (r_assign (v := (.slice (some ⟨br, 0, none⟩) 1 1)) rfl) ?_
    refine WpL_nil ?_
    refine Wp_ret ?_
    refine thn_ret ?_
    refine fin_tmp Try.results63 (v := (.slice (some ⟨br, 0, none⟩) 1 1)) rfl ?_
    exact ⟨⟨some ⟨br, 0, none⟩, 1, rfl, own_lit1 Br (by omega)⟩, E⟩
  | succ z ih =>
    intro w0 n hz h1 h2
    by_cases hs : n < 127
    · have hl : ([(n + 1).toNat] : List Nat).length = 1 := rfl
      have he : encI1 n = [(n + 1).toNat] := encN_small (by omega)
      rw [he]
      refine Ret_of Try.func63 rfl Try.ntmps63 (Nat.le_of_ble_eq_true rfl) ?_
      have E : Chg none1 w0 w0 := Chg.refl _ _
      refine Wp_seq_region ?_
      refine WpL_val rfl rfl (by decide) (r_assign (v := (.slice none 0 0)) rfl) ?_
      refine WpL_nil ?_
      refine Wp_seq ?_
      refine Wp_seq_region ?_
      refine WpL_val rfl rfl (by decide) (r_move (v := (.int .i64 n)) rfl) ?_
      refine WpL_val rfl rfl (by decide) (r_lss (k := .i64) (a := n) (b := 127) rfl rfl) ?_
      refine WpL_nil ?_
      have hc1 : (decide ((n : Int) < 127)) = true := decide_eq_true hs
      refine Wp_cond_true (congrArg Value.bool hc1) ?_
      refine Wp_seq_region ?_
      refine WpL_val rfl rfl (by decide) (r_move (v := (.int .i64 n)) rfl) ?_
      refine WpL_val rfl rfl (by decide) (r_add (k := .i64) (a := n) (b := 1) (c := n + 1) rfl rfl (wI64 (by omega))) ?_
      refine WpL_val rfl rfl (by decide) (r_convInt (k := .i64) (k' := .u8) (n := n + 1) (c := (((n + 1).toNat : Nat) : Int)) ⟨_, Try.underlying3⟩ Try.underlying5 rfl ((wU8m _).trans (by omega))) ?_
      refine s_buildSlice (ps := [(0, (.int .u8 (((n + 1).toNat : Nat) : Int)))]) (c := #[(.int .u8 (((n + 1).toNat : Nat) : Int))]) (by decide) rfl Try.underlying52 siz5 zer5 (by decide) (by decide) (by kernel_rfl) ?_
      intro br wr Nr
      have Fr := Nr.ge E
      replace E := E.ext Nr.ext
      have Br := Nr.blk
      refine WpL_val rfl rfl (by decide) (r_assign (v := (.slice (some ⟨br, 0, none⟩) 1 1)) rfl) ?_
      refine WpL_nil ?_
      refine Wp_ret ?_
      refine thn_ret ?_
      refine fin_tmp Try.results63 (v := (.slice (some ⟨br, 0, none⟩) 1 1)) rfl ?_
      exact ⟨⟨some ⟨br, 0, none⟩, 1, rfl, own_lit1 Br (by omega)⟩, E⟩
    · obtain ⟨x, hx⟩ : ∃ x : Nat, ((x : Nat) : Int) = n + 1 := ⟨(n + 1).toNat, by omega⟩
      have hn : n = ((x : Nat) : Int) - 1 := by omega
      subst hn
      have he : encI1 (((x : Nat) : Int) - 1) = (x % 128 + 128) :: encN (x / 128) := by
        unfold encI1
        rw [show (((x : Nat) : Int) - 1 + 1).toNat = x by omega, encN_big (by omega)]
      rw [he]
      refine Ret_of Try.func63 rfl Try.ntmps63 (Nat.le_of_ble_eq_true rfl) ?_
      have E : Chg none1 w0 w0 := Chg.refl _ _
      refine Wp_seq_region ?_
      refine WpL_val rfl rfl (by decide) (r_assign (v := (.slice none 0 0)) rfl) ?_
      refine WpL_nil ?_
      refine Wp_seq ?_
      refine Wp_seq_region ?_
      refine WpL_val rfl rfl (by decide) (r_move (v := (.int .i64 (((x : Nat) : Int) - 1))) rfl) ?_
      refine WpL_val rfl rfl (by decide) (r_lss (k := .i64) (a := ((x : Nat) : Int) - 1) (b := 127) rfl rfl) ?_
      refine WpL_nil ?_
      have hc1 : (decide ((((x : Nat) : Int) - 1 : Int) < 127)) = false := decide_eq_false hs
      refine Wp_cond_false (congrArg Value.bool hc1) ?_
      refine Wp_skip ?_
      refine thn_normal ?_
      refine Wp_seq_region ?_
      refine WpL_val rfl rfl (by decide) (r_move (v := (.int .i64 (((x : Nat) : Int) - 1))) rfl) ?_
      refine WpL_val rfl rfl (by decide) (r_quo (k := .i64) (a := ((x : Nat) : Int) - 1) (b := 128) (c := (((x : Nat) : Int) - 1) / 128) rfl rfl (by decide) (by rw [Int.tdiv_eq_ediv_of_nonneg (by omega)]; exact wI64 (by omega))) ?_
      refine WpL_val rfl rfl (by decide) (r_move (v := (.int .i64 (((x : Nat) : Int) - 1))) rfl) ?_
      refine WpL_val rfl rfl (by decide) (r_rem (k := .i64) (a := ((x : Nat) : Int) - 1) (b := 128) (c := Int.tmod (((x : Nat) : Int) - 1) 128) rfl rfl (by decide) rfl) ?_
      have htm : Int.tmod (((x : Nat) : Int) - 1) 128 = (((x : Nat) : Int) - 1) % 128 := Int.tmod_eq_emod_of_nonneg (by omega)
      refine WpL_val rfl rfl (by decide) (r_add (k := .i64) (a := Int.tmod (((x : Nat) : Int) - 1) 128) (b := 1) (c := Int.tmod (((x : Nat) : Int) - 1) 128 + 1) rfl rfl (wI64 (by omega))) ?_
      refine WpL_val rfl rfl (by decide) (r_assign (v := (.int .i64 ((((x : Nat) : Int) - 1) / 128))) rfl) ?_
      refine WpL_val rfl rfl (by decide) (r_assign (v := (.int .i64 (Int.tmod (((x : Nat) : Int) - 1) 128 + 1))) rfl) ?_
      refine WpL_nil ?_
      refine Wp_cut (fun σ W2 => ∃ (q r : Int), (∃ jj_, σ = upds jj_ [(3, (.int .i64 q)), (4, (.int .i64 r))]) ∧ Chg none1 w0 W2 ∧ (q = ((x / 128 : Nat) : Int)) ∧ (r = ((x % 128 : Nat) : Int))) ?_ ?_
      · skip
        refine Wp_seq_region ?_
        refine WpL_val rfl rfl (by decide) (r_move (v := (.int .i64 (Int.tmod (((x : Nat) : Int) - 1) 128 + 1))) rfl) ?_
        refine WpL_val rfl rfl (by decide) (r_eql (k := .i64) (a := Int.tmod (((x : Nat) : Int) - 1) 128 + 1) (b := 128) rfl rfl) ?_
        refine WpL_nil ?_
        refine Wp_cond (b := decide ((Int.tmod (((x : Nat) : Int) - 1) 128 + 1 : Int) = 128)) rfl (fun h128 => ?_) (fun h128 => ?_)
        · have kh128 := h128
          replace h128 := of_decide_eq_true h128
          refine Wp_region ?_
          refine WpL_val rfl rfl (by decide) (r_move (v := (.int .i64 ((((x : Nat) : Int) - 1) / 128))) rfl) ?_
          refine WpL_val rfl rfl (by decide) (r_add (k := .i64) (a := (((x : Nat) : Int) - 1) / 128) (b := 1) (c := ((((x : Nat) : Int) - 1) / 128) + 1) rfl rfl (wI64 (by omega))) ?_
          refine WpL_val rfl rfl (by decide) (r_assign (v := (.int .i64 (((((x : Nat) : Int) - 1) / 128) + 1))) rfl) ?_
          refine WpL_val rfl rfl (by decide) (r_assign (v := (.int .i64 0)) rfl) ?_
          refine WpL_nil ?_
          refine thn_normal ?_
          exact ⟨(((x : Nat) : Int) - 1) / 128 + 1, 0, Fits.out ⟨rfl, rfl, trivial⟩, E, (by omega), (by omega)⟩
        · have kh128 := h128
          replace h128 := of_decide_eq_false h128
          refine Wp_skip ?_
          refine thn_normal ?_
          exact ⟨(((x : Nat) : Int) - 1) / 128, Int.tmod (((x : Nat) : Int) - 1) 128 + 1, Fits.out ⟨rfl, rfl, trivial⟩, E, (by omega), (by omega)⟩
      · clear E
        rintro _ W2 ⟨q, r, ⟨j2, rfl⟩, E, hq, hr⟩
        subst hq hr
        refine Wp_seq_region ?_
        refine WpL_val rfl rfl (by decide) (r_move (v := (.int .i64 ((x % 128 : Nat) : Int))) rfl) ?_
        refine WpL_val rfl rfl (by decide) (r_add (k := .i64) (a := ((x % 128 : Nat) : Int)) (b := 128) (c := ((x % 128 : Nat) : Int) + 128) rfl rfl (wI64 (by omega))) ?_
        refine WpL_val rfl rfl (by decide) (r_convInt (k := .i64) (k' := .u8) (n := ((x % 128 : Nat) : Int) + 128) (c := ((x % 128 + 128 : Nat) : Int)) ⟨_, Try.underlying3⟩ Try.underlying5 rfl ((wU8m _).trans (by omega))) ?_
        refine s_buildSlice (ps := [(0, (.int .u8 ((x % 128 + 128 : Nat) : Int)))]) (c := #[(.int .u8 ((x % 128 + 128 : Nat) : Int))]) (by decide) rfl Try.underlying52 siz5 zer5 (by decide) (by decide) (by kernel_rfl) ?_
        intro bb wb Nb
        have Fb := Nb.ge E
        replace E := E.ext Nb.ext
        have Bb := Nb.blk
        refine WpL_val rfl rfl (by decide) (r_move (v := (.int .i64 ((x / 128 : Nat) : Int))) rfl) ?_
        obtain ⟨z0, hz0⟩ : ∃ z0, z0 = w0.heap.size := ⟨_, rfl⟩
        have hown := own_lit1 (base := z0) Bb (by have := E.size; have := Nb.eq; have := Nb.ext.size; omega)
        refine WpL_val rfl rfl (by decide) (r_sub (k := .i64) (a := ((x / 128 : Nat) : Int)) (b := 1) (c := ((x / 128 : Nat) : Int) - 1) rfl rfl (wI64 (by omega))) ?_
        refine WpL_enter rfl rfl (by decide) (r_callF (vs := [(.int .i64 (((x / 128 : Nat) : Int) - 1))]) Try.func63 nm63 bd63 rfl) (ih _ (((x / 128 : Nat) : Int) - 1) (by omega) (by omega) (by omega)) ?_
        rintro _ w19 ⟨⟨na, nc, rfl, hN⟩, X19⟩
        replace Bb := X19.keep Bb
        replace hown := own_ext hown X19
        replace E := E.ext X19
        have hen : encI1 (((x / 128 : Nat) : Int) - 1) = encN (x / 128) := by unfold encI1; rw [show (((x / 128 : Nat) : Int) - 1 + 1).toNat = x / 128 by omega]
        have hle10 := encI1_len (n := ((x / 128 : Nat) : Int) - 1) (by omega)
        refine s_appendAny (base := z0) (n := 1) (m := ((encI1 (((x / 128 : Nat) : Int) - 1)).length)) (xs := [u8V (x % 128 + 128)]) (news := (encI1 (((x / 128 : Nat) : Int) - 1)).map u8V) (size := 1) (bytes := 1) (v := (.slice (some ⟨bb, 0, none⟩) 1 1)) (by decide) Try.underlying52 siz5 byt5 zer5 rfl (by decide) rfl hown rfl ((by simp)) (own_any hN) (by_one _) (by unfold maxLen; omega) (by omega) ((by have := E.size; omega)) ?_
        intro v9 w29 Ov9 Cv9 Dv9
        replace E := E.step Cv9 (fun x hx h => absurd (hown.lt x h).1 (by omega))
        obtain ⟨oa4, oc4, rfl⟩ := own_form Ov9
        refine WpL_val rfl rfl (by decide) (r_assign (v := (.slice oa4 (1 + (encI1 (((x / 128 : Nat) : Int) - 1)).length) oc4)) rfl) ?_
        refine WpL_nil ?_
        refine Wp_ret ?_
        refine fin_tmp Try.results63 (v := (.slice oa4 (1 + (encI1 (((x / 128 : Nat) : Int) - 1)).length) oc4)) rfl ?_
        have hl9 : ((x % 128 + 128) :: encN (x / 128)).length = 1 + (encI1 (((x / 128 : Nat) : Int) - 1)).length := by rw [List.length_cons, hen, Nat.add_comm]
        rw [hz0] at Ov9
        exact ⟨⟨oa4, oc4, by rw [hl9], by rw [hl9]; rw [hen] at Ov9 ⊢; exact Ov9⟩, E⟩
theorem parts_len {t : Tab} (hg : GoodT t) (i : Nat) : (((partsT t).take i).flatten).length ≤ 7000 := by
  have h1 := intsT_len hg
  rw [← partsT_flat, ← List.take_append_drop i (partsT t), List.flatten_append, List.length_append] at h1
  omega
set_option maxHeartbeats 2000000 in
theorem tabytes_c (w0 : World) (t : Tab) (vs : List Value) (h : TabAt w0 t vs) (hg : GoodT t) (hW : ∀ x ∈ t.acc, x ≤ 9223372036854775807) :
    Ret Try.prog 22 #[.agg vs.toArray] w0 fun r w => (∃ a c, r = .slice a (bytesT t).length c ∧ ByAt w (.slice a (bytesT t).length c) (bytesT t)) ∧ Ext w0 w := by
  have h' := h
  obtain ⟨aa, ac, ba, bc, oa, oc, na, nc, rfl, ha, hb, ho, hn⟩ := h'
  have hok := intsT_ok hg hW
  have hlen := intsT_len hg
  have g2 := hg.n2; have g5 := hg.ol; have g6 := hg.nl; have g7 := hg.al
  refine Ret_of Try.func22 rfl Try.ntmps22 (Nat.le_of_ble_eq_true rfl) ?_
  have E : Chg none1 w0 w0 := Chg.refl _ _
  refine Wp_seq_region ?_
  refine s_box (v := (.agg #[(.int .i64 t.start), (.int .i64 ((t.cols : Nat) : Int)), (.slice aa t.acc.length ac), (.slice ba t.bs.length bc), (.slice oa t.ow.length oc), (.slice na t.nx.length nc)])) (c := #[(.int .i64 t.start), (.int .i64 ((t.cols : Nat) : Int)), (.slice aa t.acc.length ac), (.slice ba t.bs.length bc), (.slice oa t.ow.length oc), (.slice na t.nx.length nc)]) (by decide) rfl rfl ?_
  intro bt wt Nt
  have Ft := Nt.ge E
  replace E := E.ext Nt.ext
  have Bt := Nt.blk
  refine WpL_val rfl rfl (by decide) (r_assign (v := (.slice none 0 0)) rfl) ?_
  refine WpL_nil ?_
  refine Wp_seq_region ?_
  refine WpL_val rfl rfl (by decide) (r_assign (v := (.slice none 0 0)) rfl) ?_
  refine WpL_nil ?_
  refine Wp_seq ?_
  refine Wp_seq_region ?_
  refine WpL_val rfl rfl (by decide) (r_fieldAddr (b := bt) (o := 0) (o' := 0) rfl Try.underlying46 rfl siz3 rfl) ?_
  refine WpL_val rfl rfl (by decide) (r_load (v := (.int .i64 t.start)) rfl flat3 (Bt.cell rfl)) ?_
  refine WpL_val rfl rfl (by decide) (r_fieldAddr (b := bt) (o := 0) (o' := 1) rfl Try.underlying46 rfl siz3 rfl) ?_
  refine WpL_val rfl rfl (by decide) (r_load (v := (.int .i64 ((t.cols : Nat) : Int))) rfl flat3 (Bt.cell rfl)) ?_
  refine WpL_val rfl rfl (by decide) (r_fieldAddr (b := bt) (o := 0) (o' := 3) rfl Try.underlying46 rfl siz26 rfl) ?_
  refine WpL_val rfl rfl (by decide) (r_load (v := (.slice ba t.bs.length bc)) rfl flat26 (Bt.cell rfl)) ?_
  refine WpL_val rfl rfl (by decide) (r_lenSlice (ad := ba) (n := t.bs.length) (cap := bc) Try.underlying26 rfl) ?_
  refine WpL_val rfl rfl (by decide) (r_fieldAddr (b := bt) (o := 0) (o' := 4) rfl Try.underlying46 rfl siz26 rfl) ?_
  refine WpL_val rfl rfl (by decide) (r_load (v := (.slice oa t.ow.length oc)) rfl flat26 (Bt.cell rfl)) ?_
  refine WpL_val rfl rfl (by decide) (r_lenSlice (ad := oa) (n := t.ow.length) (cap := oc) Try.underlying26 rfl) ?_
  refine s_buildSlice (ps := [(0, (.int .i64 t.start)), (1, (.int .i64 ((t.cols : Nat) : Int))), (2, (.int .i64 ((t.bs.length : Nat) : Int))), (3, (.int .i64 ((t.ow.length : Nat) : Int)))]) (c := #[(.int .i64 t.start), (.int .i64 ((t.cols : Nat) : Int)), (.int .i64 ((t.bs.length : Nat) : Int)), (.int .i64 ((t.ow.length : Nat) : Int))]) (by decide) rfl Try.underlying26 siz3 zer3 (by decide) (by decide) (by kernel_rfl) ?_
  intro bp wp Np
  have Fp := Np.ge E
  have Op_bt := Np.lt Bt
  replace Bt := Np.keep Bt
  replace E := E.ext Np.ext
  have Bp := Np.blk
  refine WpL_val rfl rfl (by decide) (r_fieldAddr (b := bt) (o := 0) (o' := 2) rfl Try.underlying46 rfl siz26 rfl) ?_
  refine WpL_val rfl rfl (by decide) (r_load (v := (.slice aa t.acc.length ac)) rfl flat26 (Bt.cell rfl)) ?_
  refine WpL_val rfl rfl (by decide) (r_fieldAddr (b := bt) (o := 0) (o' := 3) rfl Try.underlying46 rfl siz26 rfl) ?_
  refine WpL_val rfl rfl (by decide) (r_load (v := (.slice ba t.bs.length bc)) rfl flat26 (Bt.cell rfl)) ?_
  refine WpL_val rfl rfl (by decide) (r_fieldAddr (b := bt) (o := 0) (o' := 4) rfl Try.underlying46 rfl siz26 rfl) ?_
  refine WpL_val rfl rfl (by decide) (r_load (v := (.slice oa t.ow.length oc)) rfl flat26 (Bt.cell rfl)) ?_
  refine WpL_val rfl rfl (by decide) (r_fieldAddr (b := bt) (o := 0) (o' := 5) rfl Try.underlying46 rfl siz26 rfl) ?_
  refine WpL_val rfl rfl (by decide) (r_load (v := (.slice na t.nx.length nc)) rfl flat26 (Bt.cell rfl)) ?_
  refine s_buildSlice (ps := [(0, (.slice (some ⟨bp, 0, none⟩) 4 4)), (1, (.slice aa t.acc.length ac)), (2, (.slice ba t.bs.length bc)), (3, (.slice oa t.ow.length oc)), (4, (.slice na t.nx.length nc))]) (c := #[(.slice (some ⟨bp, 0, none⟩) 4 4), (.slice aa t.acc.length ac), (.slice ba t.bs.length bc), (.slice oa t.ow.length oc), (.slice na t.nx.length nc)]) (by decide) rfl Try.underlying42 siz26 zer26 (by decide) (by decide) (by kernel_rfl) ?_
  intro bq wq Nq
  have Fq := Nq.ge E
  have Oq_bt := Nq.lt Bt
  have Oq_bp := Nq.lt Bp
  replace Bt := Nq.keep Bt
  replace Bp := Nq.keep Bp
  replace E := E.ext Nq.ext
  have Bq := Nq.blk
  refine WpL_val rfl rfl (by decide) (r_lenSlice (ad := some ⟨bq, 0, none⟩) (n := 5) (cap := 5) Try.underlying42 rfl) ?_
  refine WpL_val rfl rfl (by decide) (r_move (v := (.int .i64 0)) rfl) ?_
  refine WpL_nil ?_
  refine Wp_block ?_
  have hll : [t.start, ((t.cols : Nat) : Int), ((t.bs.length : Nat) : Int), ((t.ow.length : Nat) : Int)].length = 4 := rfl
  have hI := intss_blk (n := 5) (ll := partsT t) Bq rfl rfl (by omega) (intss5 (ints_own (l := [t.start, ((t.cols : Nat) : Int), ((t.bs.length : Nat) : Int), ((t.ow.length : Nat) : Int)]) (rest := []) Bp (by omega) (by omega)) (ha.ext E) (hb.ext E) (ho.ext E) (hn.ext E))
  obtain ⟨n1, hn1⟩ : ∃ n1, n1 = (wq).heap.size := ⟨_, rfl⟩
  have hn10 : w0.heap.size ≤ n1 := by rw [hn1]; exact E.size
  have E1 : Chg none1 wq wq := Chg.refl _ _
  refine Wp_loop (fun nn_ σ W1 => ∃ (i oc2 n : Nat) (oa2 : Option Addr) (out : List Nat), (∃ jj_, σ = upds jj_ [(27, (.slice (some ⟨bq, 0, none⟩) 5 5)), (28, (.int .i64 5)), (29, (.int .i64 ((i : Nat) : Int))), (3, (.slice oa2 n oc2))]) ∧ Chg none1 w0 W1 ∧ Chg none1 wq W1 ∧ (i ≤ 5) ∧ (n = out.length) ∧ (out = (((partsT t).take i).flatten).flatMap encI1) ∧ (n ≤ (((partsT t).take i).flatten).length * 10) ∧ (W1.ownsRow n1 TU8 1 (.slice oa2 n oc2) n (out.map u8V)) ∧ (n1 ≤ W1.heap.size) ∧ nn_ = 5 - i) (n := 5 - 0) ?_ ?_
  · exact ⟨0, 0, 0, none, [], Fits.out ⟨rfl, rfl, rfl, rfl, trivial⟩, E, E1, Nat.zero_le _, rfl, rfl, Nat.zero_le _, World.ownsRow_nil _ _ _ _, (by omega), rfl⟩
  · clear E E1
    rintro _ _ W1 ⟨i, oc2, n, oa2, out, ⟨j1, rfl⟩, E, E1, hi, hn2, hout, hol, hO, hsz, rfl⟩
    refine Wp_seq_region ?_
    refine WpL_val rfl rfl (by decide) (r_lss (k := .i64) (a := ((i : Nat) : Int)) (b := 5) rfl rfl) ?_
    refine WpL_nil ?_
    refine Wp_seq ?_
    refine Wp_cond (b := decide ((((i : Nat) : Int) : Int) < 5)) rfl (fun hlt => ?_) (fun hlt => ?_)
    · have khlt := hlt
      replace hlt := of_decide_eq_true hlt
      obtain ⟨l, hl⟩ := get_of_lt (l := partsT t) (i := i) (show i < 5 by omega)
      obtain ⟨qb, qo, hqe, hqc⟩ := intss_cells hI (by omega)
      simp only [Option.some.injEq, Addr.mk.injEq, and_true] at hqe
      obtain ⟨rfl, rfl⟩ := hqe
      obtain ⟨la, lc, hcell, hints⟩ := hqc i l hl
      have hlm : ∀ x ∈ l, -1 ≤ x ∧ x ≤ 9223372036854775807 := fun x hx => hok x (by rw [← partsT_flat]; exact List.mem_flatten.2 ⟨l, List.mem_of_getElem? hl, hx⟩)
      have htk : (((partsT t).take (i + 1)).flatten) = (((partsT t).take i).flatten) ++ l := by rw [List.take_add_one, hl, List.flatten_append]; simp
      have hpl := parts_len hg (i + 1)
      rw [htk, List.length_append] at hpl
      refine Wp_skip ?_
      refine thn_normal ?_
      refine Wp_seq ?_
      refine Wp_block ?_
      refine Wp_seq_region ?_
      refine WpL_val rfl rfl (by decide) (r_indexSlice (b := bq) (o := 0) (len := 5) (cap := 5) (i := i) (o' := 0 + i) rfl rfl rfl Try.underlying42 siz26 (by omega) (by omega)) ?_
      refine WpL_val rfl rfl (by decide) (r_load (v := (.slice la l.length lc)) rfl flat26 (E1.cell (fun f => f) hcell)) ?_
      refine WpL_val rfl rfl (by decide) (r_assign (v := (.slice la l.length lc)) rfl) ?_
      refine WpL_nil ?_
      refine Wp_seq_region ?_
      refine WpL_val rfl rfl (by decide) (r_move (v := (.slice la l.length lc)) rfl) ?_
      refine WpL_val rfl rfl (by decide) (r_lenSlice (ad := la) (n := l.length) (cap := lc) Try.underlying26 rfl) ?_
      refine WpL_val rfl rfl (by decide) (r_move (v := (.int .i64 0)) rfl) ?_
      refine WpL_nil ?_
      refine Wp_block ?_
      refine Wp_loop (fun nn_ σ W3 => ∃ (j oc3 n3 : Nat) (oa3 : Option Addr) (out2 : List Nat), (∃ jj_, σ = upds jj_ [(27, (.slice (some ⟨bq, 0, none⟩) 5 5)), (28, (.int .i64 5)), (29, (.int .i64 ((i : Nat) : Int))), (33, (.slice la l.length lc)), (34, (.int .i64 ((l.length : Nat) : Int))), (35, (.int .i64 ((j : Nat) : Int))), (3, (.slice oa3 n3 oc3))]) ∧ Chg none1 w0 W3 ∧ Chg none1 wq W3 ∧ (j ≤ l.length) ∧ (n3 = out2.length) ∧ (out2 = out ++ (l.take j).flatMap encI1) ∧ (n3 ≤ ((((partsT t).take i).flatten).length + j) * 10) ∧ (W3.ownsRow n1 TU8 1 (.slice oa3 n3 oc3) n3 (out2.map u8V)) ∧ (n1 ≤ W3.heap.size) ∧ nn_ = l.length - j) (n := l.length - 0) ?_ ?_
      · exact ⟨0, oc2, n, oa2, out, Fits.out ⟨rfl, rfl, rfl, rfl, rfl, rfl, rfl, trivial⟩, E, E1, Nat.zero_le _, hn2, (by simp), (by omega), hO, hsz, rfl⟩
      · clear E E1
        rintro _ _ W3 ⟨j, oc3, n3, oa3, out2, ⟨j3, rfl⟩, E, E1, hj, hn3, hout2, hol2, hO2, hsz2, rfl⟩
        refine Wp_seq_region ?_
        refine WpL_val rfl rfl (by decide) (r_lss (k := .i64) (a := ((j : Nat) : Int)) (b := ((l.length : Nat) : Int)) rfl rfl) ?_
        refine WpL_nil ?_
        refine Wp_seq ?_
        refine Wp_cond (b := decide ((((j : Nat) : Int) : Int) < ((l.length : Nat) : Int))) rfl (fun hltj => ?_) (fun hltj => ?_)
        · have khltj := hltj
          replace hltj := of_decide_eq_true hltj
          obtain ⟨x, hx⟩ := get_of_lt (l := l) (i := j) (by omega)
          obtain ⟨lb, lo, rfl, hlc⟩ := ints_cells hints (by omega)
          have hxo := hlm x (List.mem_of_getElem? hx)
          have hx10 := encI1_len hxo.2
          refine Wp_skip ?_
          refine thn_normal ?_
          refine Wp_seq ?_
          refine Wp_block ?_
          refine Wp_seq_region ?_
          refine WpL_val rfl rfl (by decide) (r_indexSlice (b := lb) (o := lo) (len := l.length) (cap := lc) (i := j) (o' := lo + j) rfl rfl rfl Try.underlying26 siz3 (by omega) (by omega)) ?_
          refine WpL_val rfl rfl (by decide) (r_load (v := (.int .i64 x)) rfl flat3 (E1.cell (fun f => f) (hlc j x hx))) ?_
          refine WpL_val rfl rfl (by decide) (r_assign (v := (.int .i64 x)) rfl) ?_
          refine WpL_nil ?_
          refine Wp_region ?_
          refine WpL_val rfl rfl (by decide) (r_move (v := (.slice oa3 n3 oc3)) rfl) ?_
          refine WpL_val rfl rfl (by decide) (r_move (v := (.int .i64 x)) rfl) ?_
          refine WpL_enter rfl rfl (by decide) (r_callF (vs := [(.int .i64 x)]) Try.func63 nm63 bd63 rfl) (numbytes_c _ _ x (Nat.le_refl _) hxo.1 hxo.2) ?_
          rintro _ w19 ⟨⟨xa, xc, rfl, hN⟩, X19⟩
          replace hO2 := own_ext hO2 X19
          replace hsz2 := Nat.le_trans hsz2 X19.size
          replace E := E.ext X19
          replace E1 := E1.ext X19
          refine s_appendAny (base := n1) (n := n3) (m := ((encI1 x).length)) (xs := out2.map u8V) (news := (encI1 x).map u8V) (size := 1) (bytes := 1) (v := (.slice oa3 n3 oc3)) (by decide) Try.underlying52 siz5 byt5 zer5 rfl (by decide) rfl hO2 rfl ((by simp)) (own_any hN) (by_one _) (by unfold maxLen; omega) (by omega) (hsz2) ?_
          intro v9 w29 Ov9 Cv9 Dv9
          replace E := E.step Cv9 (fun x hx h => absurd (hO2.lt x h).1 (by omega))
          replace E1 := E1.step Cv9 (fun x hx h => absurd (hO2.lt x h).1 (by omega))
          obtain ⟨oa4, oc4, rfl⟩ := own_form Ov9
          refine WpL_val rfl rfl (by decide) (r_assign (v := (.slice oa4 (n3 + (encI1 x).length) oc4)) rfl) ?_
          refine WpL_nil ?_
          refine inB_normal ?_
          refine thn_normal ?_
          refine Wp_region ?_
          refine WpL_val rfl rfl (by decide) (r_add (k := .i64) (a := ((j : Nat) : Int)) (b := 1) (c := ((j : Nat) : Int) + 1) rfl rfl (wI64 (by omega))) ?_
          refine WpL_val rfl rfl (by decide) (r_move (v := (.int .i64 (((j : Nat) : Int) + 1))) rfl) ?_
          refine WpL_nil ?_
          refine thn_normal ?_
          exact ⟨l.length - (j + 1), by omega, j + 1, oc4, n3 + (encI1 x).length, oa4, out2 ++ encI1 x, Fits.out ⟨rfl, rfl, rfl, rfl, rfl, rfl, rfl, trivial⟩, E, E1, (by omega), (by simp [hn3]), (by rw [hout2, take_snoc' hx, List.flatMap_append, List.append_assoc]; simp), (by omega), (by rw [List.map_append]; exact Ov9), Nat.le_trans hsz2 Cv9.size, rfl⟩
        · have khltj := hltj
          replace hltj := of_decide_eq_false hltj
          have hjl : j = l.length := by omega
          rw [hjl, List.take_length] at hout2
          refine Wp_exit ?_
          refine thn_exit ?_
          refine thn_exit ?_
          refine inB_here ?_
          refine inB_normal ?_
          refine thn_normal ?_
          refine Wp_region ?_
          refine WpL_val rfl rfl (by decide) (r_add (k := .i64) (a := ((i : Nat) : Int)) (b := 1) (c := ((i : Nat) : Int) + 1) rfl rfl (wI64 (by omega))) ?_
          refine WpL_val rfl rfl (by decide) (r_move (v := (.int .i64 (((i : Nat) : Int) + 1))) rfl) ?_
          refine WpL_nil ?_
          refine thn_normal ?_
          exact ⟨5 - (i + 1), by omega, i + 1, oc3, n3, oa3, out2, Fits.out ⟨rfl, rfl, rfl, rfl, trivial⟩, E, E1, (by omega), hn3, (by rw [hout2, hout, htk, List.flatMap_append]), (by rw [htk, List.length_append, ← hjl]; exact hol2), hO2, hsz2, rfl⟩
    · have khlt := hlt
      replace hlt := of_decide_eq_false hlt
      have hi5 : i = 5 := by omega
      have hall : out = bytesT t := by rw [hout, hi5, show (partsT t).take 5 = partsT t from rfl, partsT_flat]; rfl
      refine Wp_exit ?_
      refine thn_exit ?_
      refine thn_exit ?_
      refine inB_here ?_
      refine thn_normal ?_
      refine Wp_seq_region ?_
      refine WpL_val rfl rfl (by decide) (r_move (v := (.slice oa2 n oc2)) rfl) ?_
      refine WpL_val rfl rfl (by decide) (r_assign (v := (.slice oa2 n oc2)) rfl) ?_
      refine WpL_nil ?_
      refine Wp_ret ?_
      refine fin_tmp Try.results22 (v := (.slice oa2 n oc2)) rfl ?_
      rw [hall] at hn2 hO
      rw [← hn2]
      exact ⟨⟨oa2, oc2, rfl, by_own hO hn2⟩, E⟩
end Go.Proofs
namespace Go.Proofs
open Go Go.Eng Go.Sort
set_option maxRecDepth 100000
def d2 (x0 x1 y0 y1 : Int) : Dfa := ⟨0, [x0, x1], [[y0], [y1]]⟩
theorem d2_at {w : World} {x0 x1 y0 y1 : Int} {a p q n T1 T2 T3 T4 : Nat} (Ba : Blk w a #[.int .i64 x0, .int .i64 x1] T1) (Bp : Blk w p #[.int .i64 y0] T2) (Bq : Blk w q #[.int .i64 y1] T3) (Bn : Blk w n #[.slice (some ⟨p, 0, none⟩) 1 1, .slice (some ⟨q, 0, none⟩) 1 1] T4) :
    DfaAt w (d2 x0 x1 y0 y1) [.int .i64 0, .slice (some ⟨a, 0, none⟩) 2 2, .slice (some ⟨n, 0, none⟩) 2 2] := by
  refine ⟨_, _, _, _, rfl, ints_own (l := [x0, x1]) (rest := []) Ba (by simp) (by simp), [.slice (some ⟨p, 0, none⟩) 1 1, .slice (some ⟨q, 0, none⟩) 1 1], ⟨_, _, rfl, by simp, by simp, .inr ⟨n, 0, rfl, ?_⟩⟩, rfl, ?_⟩
  · intro i r hr
    rcases i with _ | _ | i
    · simp at hr; subst hr
      intro j u hu
      cases j with
      | zero => simp at hu; subst hu; exact Bn.cell rfl
      | succ j => simp at hu
    · simp at hr; subst hr
      intro j u hu
      cases j with
      | zero => simp at hu; subst hu; exact Bn.cell rfl
      | succ j => simp at hu
    · simp at hr
  · intro i u l hu hl
    rcases i with _ | _ | i
    · simp [d2] at hu hl; subst hu; subst hl; exact ints_own (l := [y0]) (rest := []) Bp (by simp) (by simp)
    · simp [d2] at hu hl; subst hu; subst hl; exact ints_own (l := [y1]) (rest := []) Bq (by simp) (by simp)
    · simp at hu
theorem dtwo_c (w0 : World) : Ret Try.prog 57 #[] w0 fun r w => evnF r w ∧ Ext w0 w := by
  refine Ret_of Try.func57 rfl Try.ntmps57 (Nat.le_of_ble_eq_true rfl) ?_
  have E : Chg none1 w0 w0 := Chg.refl _ _
  refine Wp_seq_region ?_
  refine s_alloc (c := #[(.int .i64 0), (.slice none 0 0), (.slice none 0 0)]) (by decide) zer44 rfl ?_
  intro bt wt Nt
  have Ft := Nt.ge E
  replace E := E.ext Nt.ext
  have Bt := Nt.blk
  refine WpL_nil ?_
  refine Wp_seq_region ?_
  refine s_buildSlice (ps := [(0, (.int .i64 0)), (1, (.int .i64 (-1)))]) (c := #[(.int .i64 0), (.int .i64 (-1))]) (by decide) rfl Try.underlying26 siz3 zer3 (by decide) (by decide) (by kernel_rfl) ?_
  intro ba wa Na
  have Fa := Na.ge E
  have Oa_bt := Na.lt Bt
  replace Bt := Na.keep Bt
  replace E := E.ext Na.ext
  have Ba := Na.blk
  refine s_buildSlice (ps := [(0, (.int .i64 1))]) (c := #[(.int .i64 1)]) (by decide) rfl Try.underlying26 siz3 zer3 (by decide) (by decide) (by kernel_rfl) ?_
  intro bp wp Np
  have Fp := Np.ge E
  have Op_bt := Np.lt Bt
  have Op_ba := Np.lt Ba
  replace Bt := Np.keep Bt
  replace Ba := Np.keep Ba
  replace E := E.ext Np.ext
  have Bp := Np.blk
  refine s_buildSlice (ps := [(0, (.int .i64 0))]) (c := #[(.int .i64 0)]) (by decide) rfl Try.underlying26 siz3 zer3 (by decide) (by decide) (by kernel_rfl) ?_
  intro bq wq Nq
  have Fq := Nq.ge E
  have Oq_bt := Nq.lt Bt
  have Oq_ba := Nq.lt Ba
  have Oq_bp := Nq.lt Bp
  replace Bt := Nq.keep Bt
  replace Ba := Nq.keep Ba
  replace Bp := Nq.keep Bp
  replace E := E.ext Nq.ext
  have Bq := Nq.blk
  refine s_buildSlice (ps := [(0, (.slice (some ⟨bp, 0, none⟩) 1 1)), (1, (.slice (some ⟨bq, 0, none⟩) 1 1))]) (c := #[(.slice (some ⟨bp, 0, none⟩) 1 1), (.slice (some ⟨bq, 0, none⟩) 1 1)]) (by decide) rfl Try.underlying42 siz26 zer26 (by decide) (by decide) (by kernel_rfl) ?_
  intro bn wn Nn
  have Fn := Nn.ge E
  have On_bt := Nn.lt Bt
  have On_ba := Nn.lt Ba
  have On_bp := Nn.lt Bp
  have On_bq := Nn.lt Bq
  replace Bt := Nn.keep Bt
  replace Ba := Nn.keep Ba
  replace Bp := Nn.keep Bp
  replace Bq := Nn.keep Bq
  replace E := E.ext Nn.ext
  have Bn := Nn.blk
  refine WpL_val rfl rfl (by decide) (r_build (ps := [(1, (.slice (some ⟨ba, 0, none⟩) 2 2)), (2, (.slice (some ⟨bn, 0, none⟩) 2 2))]) (v := (.agg #[(.int .i64 0), (.slice (some ⟨ba, 0, none⟩) 2 2), (.slice (some ⟨bn, 0, none⟩) 2 2)])) rfl (by kernel_rfl)) ?_
  refine s_storeAgg (b := bt) (o := 0) (c' := #[(.int .i64 0), (.slice (some ⟨ba, 0, none⟩) 2 2), (.slice (some ⟨bn, 0, none⟩) 2 2)]) rfl rfl (by simp [Value.oneCell']) siz44 rfl Bt (by first | (simp; done) | exact Nat.le_of_ble_eq_true rfl) rfl ?_
  intro w1 S1
  replace Ba := S1.keep (by omega) Ba
  replace Bp := S1.keep (by omega) Bp
  replace Bq := S1.keep (by omega) Bq
  replace Bn := S1.keep (by omega) Bn
  replace E := S1.step E (by first | exact Or.inl (by omega) | exact Or.inr rfl | exact Or.inr (by assumption) | exact Or.inr (by simp) | exact Or.inr (by omega) | exact Or.inr (by dsimp only; omega))
  replace Bt := S1.blk
  refine WpL_nil ?_
  refine Wp_ret ?_
  refine fin_agg Try.results57 (vs := [(.int .i64 0), (.slice (some ⟨ba, 0, none⟩) 2 2), (.slice (some ⟨bn, 0, none⟩) 2 2)]) (b := bt) rfl agg44 siz44 rfl (Bt.cells rfl) ?_
  exact ⟨⟨_, _, _, _, rfl, d2_at Ba Bp Bq Bn⟩, E⟩
end Go.Proofs
