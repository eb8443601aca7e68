/- Contracts and plain lemmas, part 6. -/
import Derived.Tactics
import Derived.Deep.Quiet
import Derived.Laws.AppendOwn
import Derived.KernelRfl
import Derived.Laws.Entries
import Derived.Laws.Build
import Derived.Below
import Derived.RowKit3
import Derived.StillTail
import Derived.Sort.Grow
import Derived.Deep.Draws
import Derived.Test.YtncmfkibflogkaaChecked
import Derived.Laws.StructEq
import Derived.MapKept
import Derived.Laws.BytesArg
import Derived.Laws.CopyRow
import Derived.DeepKeys3
import Derived.Test.YtncmfkibflogkaaTo5
namespace Go.Proofs
open Go Go.Eng Go.Sort
set_option maxRecDepth 100000
set_option maxHeartbeats 16000000 in
theorem same_d (w0 : World) (n m c : Nat) (a b : Dfa) (av bv : List Value) (oka : OkD n c a) (okb : OkD m c b) (ha : DfaAt w0 a av) (hb : DfaAt w0 b bv) (hc : 1 ≤ c ∧ c ≤ 16) (hn : 1 ≤ n ∧ n ≤ 200) (hm : 1 ≤ m ∧ m ≤ 200) :
    Ret Try.prog 11 #[.agg av.toArray, .agg bv.toArray] w0 fun r w => (∃ ok l ad cc, r = .tuple #[.bool ok, .slice ad l.length cc, .int .i64 0] ∧ IntsAt w (.slice ad l.length cc) (toI l) ∧ SameOf c a b ok l ∧ l.length ≤ (n + 1) * (m + 1)) ∧ Ext w0 w := by
  have hnl := oka.nl
  have hnl2 := okb.nl
  have hal := oka.al
  have hbl := okb.al
  have hsta := oka.st
  have hstb := okb.st
  obtain ⟨nb, no, nc, aa, ac, ra, rc, rfl, hcell⟩ := okD_row0 oka ha hn.1
  obtain ⟨nb2, no2, nc2, aa2, ac2, ra2, rc2, rfl, hcell2⟩ := okD_row0 okb hb hm.1
  have hkl : ∀ k, (ndC k).length = 4 := fun _ => rfl
  obtain ⟨mx, hmx⟩ : ∃ mx, mx = (n + 1) * (m + 1) := ⟨_, rfl⟩
  have hmxb : mx ≤ 40401 := by rw [hmx]; exact Nat.le_trans (Nat.mul_le_mul (show n + 1 ≤ 201 by omega) (show m + 1 ≤ 201 by omega)) (by decide)
  refine Ret_of Try.func11 rfl Try.ntmps11 (Nat.le_of_ble_eq_true rfl) ?_
  have E : Chg none1 w0 w0 := Chg.refl _ _
  refine Wp_seq_region ?_
  refine s_box (v := (.agg #[(.int .i64 a.start), (.slice aa a.accept.length ac), (.slice (some ⟨nb, no, none⟩) a.next.length nc)])) (c := #[(.int .i64 a.start), (.slice aa a.accept.length ac), (.slice (some ⟨nb, no, none⟩) a.next.length nc)]) (by decide) rfl rfl ?_
  intro bp wp Np
  have Fp := Np.ge E
  replace E := E.ext Np.ext
  have Bp := Np.blk
  refine s_box (v := (.agg #[(.int .i64 b.start), (.slice aa2 b.accept.length ac2), (.slice (some ⟨nb2, no2, none⟩) b.next.length nc2)])) (c := #[(.int .i64 b.start), (.slice aa2 b.accept.length ac2), (.slice (some ⟨nb2, no2, none⟩) b.next.length nc2)]) (by decide) rfl rfl ?_
  intro bq wq Nq
  have Fq := Nq.ge E
  have Oq_bp := Nq.lt Bp
  replace Bp := Nq.keep Bp
  replace E := E.ext Nq.ext
  have Bq := Nq.blk
  refine WpL_val rfl rfl (by decide) (r_assign (v := (.bool false)) rfl) ?_
  refine WpL_val rfl rfl (by decide) (r_assign (v := (.slice none 0 0)) rfl) ?_
  refine WpL_val rfl rfl (by decide) (r_assign (v := (.int .i64 0)) rfl) ?_
  refine WpL_nil ?_
  refine Wp_seq ?_
  refine Wp_seq_region ?_
  refine WpL_val rfl rfl (by decide) (r_loadAgg (vs := [(.int .i64 a.start), (.slice aa a.accept.length ac), (.slice (some ⟨nb, no, none⟩) a.next.length nc)]) rfl agg25 siz25 rfl (Bp.cells rfl)) ?_
  refine WpL_enter rfl rfl (by decide) (r_callF (vs := [(.agg #[(.int .i64 a.start), (.slice aa a.accept.length ac), (.slice (some ⟨nb, no, none⟩) a.next.length nc)])]) Try.func50 nm50 bd50 rfl) (dcheck_c _ a _ (ha.ext E)) ?_
  rintro _ w9 ⟨rfl, X9⟩
  replace Bp := X9.keep Bp
  replace Bq := X9.keep Bq
  replace E := E.ext X9
  refine WpL_val rfl rfl (by decide) (r_assign (v := (.int .i64 (checkD a))) rfl) ?_
  refine WpL_nil ?_
  refine Wp_seq_region ?_
  refine WpL_val rfl rfl (by decide) (r_move (v := (.int .i64 (checkD a))) rfl) ?_
  refine WpL_val rfl rfl (by decide) (r_neq (k := .i64) (a := checkD a) (b := 0) rfl rfl) ?_
  refine WpL_nil ?_
  have hc1 : (decide ((checkD a : Int) ≠ 0)) = false := decide_eq_false (by rw [okD_check oka hn hc]; decide)
  refine Wp_cond_false (congrArg Value.bool hc1) ?_
  refine Wp_skip ?_
  refine thn_normal ?_
  refine Wp_seq ?_
  refine Wp_seq_region ?_
  refine WpL_val rfl rfl (by decide) (r_loadAgg (vs := [(.int .i64 b.start), (.slice aa2 b.accept.length ac2), (.slice (some ⟨nb2, no2, none⟩) b.next.length nc2)]) rfl agg25 siz25 rfl (Bq.cells rfl)) ?_
  refine WpL_enter rfl rfl (by decide) (r_callF (vs := [(.agg #[(.int .i64 b.start), (.slice aa2 b.accept.length ac2), (.slice (some ⟨nb2, no2, none⟩) b.next.length nc2)])]) Try.func50 nm50 bd50 rfl) (dcheck_c _ b _ (hb.ext E)) ?_
  rintro _ w19 ⟨rfl, X19⟩
  replace Bp := X19.keep Bp
  replace Bq := X19.keep Bq
  replace E := E.ext X19
  refine WpL_val rfl rfl (by decide) (r_assign (v := (.int .i64 (checkD b))) rfl) ?_
  refine WpL_nil ?_
  refine Wp_seq_region ?_
  refine WpL_val rfl rfl (by decide) (r_move (v := (.int .i64 (checkD b))) rfl) ?_
  refine WpL_val rfl rfl (by decide) (r_neq (k := .i64) (a := checkD b) (b := 0) rfl rfl) ?_
  refine WpL_nil ?_
  have hc2 : (decide ((checkD b : Int) ≠ 0)) = false := decide_eq_false (by rw [okD_check okb hm hc]; decide)
  refine Wp_cond_false (congrArg Value.bool hc2) ?_
  refine Wp_skip ?_
  refine thn_normal ?_
  refine Wp_seq ?_
  refine Wp_seq_draw 10 mixed (by kernel_rfl) ?_
  intro w3 X3 _
  replace Bp := X3.keep Bp
  replace Bq := X3.keep Bq
  replace E := E.ext X3
  refine WpT_val rfl rfl (by decide) (r_fieldAddr (b := bp) (o := 0) (o' := 2) rfl Try.underlying25 rfl siz23 rfl) ?_
  refine WpT_val rfl rfl (by decide) (r_load (v := (.slice (some ⟨nb, no, none⟩) a.next.length nc)) rfl flat23 (Bp.cell rfl)) ?_
  refine WpT_val rfl rfl (by decide) (r_indexSlice (b := nb) (o := no) (len := a.next.length) (cap := nc) (i := 0) (o' := no + 0) rfl rfl rfl Try.underlying23 siz22 (by omega) (by omega)) ?_
  refine WpT_val rfl rfl (by decide) (r_load (v := (.slice ra c rc)) rfl flat22 (E.cell (fun f => f) hcell)) ?_
  refine WpT_val rfl rfl (by decide) (r_lenSlice (ad := ra) (n := c) (cap := rc) Try.underlying22 rfl) ?_
  refine WpT_val rfl rfl (by decide) (r_fieldAddr (b := bq) (o := 0) (o' := 2) rfl Try.underlying25 rfl siz23 rfl) ?_
  refine WpT_val rfl rfl (by decide) (r_load (v := (.slice (some ⟨nb2, no2, none⟩) b.next.length nc2)) rfl flat23 (Bq.cell rfl)) ?_
  refine WpT_val rfl rfl (by decide) (r_indexSlice (b := nb2) (o := no2) (len := b.next.length) (cap := nc2) (i := 0) (o' := no2 + 0) rfl rfl rfl Try.underlying23 siz22 (by omega) (by omega)) ?_
  refine WpT_val rfl rfl (by decide) (r_load (v := (.slice ra2 c rc2)) rfl flat22 (E.cell (fun f => f) hcell2)) ?_
  refine WpT_val rfl rfl (by decide) (r_lenSlice (ad := ra2) (n := c) (cap := rc2) Try.underlying22 rfl) ?_
  refine WpT_zero ?_
  refine WpL_val rfl rfl (by decide) (r_neq (k := .i64) (a := ((c : Nat) : Int)) (b := ((c : Nat) : Int)) rfl rfl) ?_
  refine WpL_nil ?_
  have hc4 : (decide ((((c : Nat) : Int) : Int) ≠ ((c : Nat) : Int))) = false := decide_eq_false (by omega)
  refine Wp_cond_false (congrArg Value.bool hc4) ?_
  refine Wp_skip ?_
  refine thn_normal ?_
  refine Wp_seq_region ?_
  refine WpL_val rfl rfl (by decide) (r_assign (v := (.func (.func 51) #[] #[])) rfl) ?_
  refine WpL_nil ?_
  refine Wp_seq_region ?_
  refine WpL_val rfl rfl (by decide) (r_assign (v := (.func (.func 52) #[] #[])) rfl) ?_
  refine WpL_nil ?_
  refine Wp_seq_region ?_
  refine WpL_val rfl rfl (by decide) (r_fieldAddr (b := bp) (o := 0) (o' := 0) rfl Try.underlying25 rfl siz3 rfl) ?_
  refine WpL_val rfl rfl (by decide) (r_load (v := (.int .i64 a.start)) rfl flat3 (Bp.cell rfl)) ?_
  refine WpL_val rfl rfl (by decide) (r_fieldAddr (b := bq) (o := 0) (o' := 0) rfl Try.underlying25 rfl siz3 rfl) ?_
  refine WpL_val rfl rfl (by decide) (r_load (v := (.int .i64 b.start)) rfl flat3 (Bq.cell rfl)) ?_
  refine WpL_val rfl rfl (by decide) (r_build (ps := [(0, (.int .i64 a.start)), (1, (.int .i64 b.start)), (2, (.int .i64 (-1))), (3, (.int .i64 (-1)))]) (v := (.agg #[(.int .i64 a.start), (.int .i64 b.start), (.int .i64 (-1)), (.int .i64 (-1))])) rfl (by kernel_rfl)) ?_
  refine s_buildSlice (ps := [(0, (.agg #[(.int .i64 a.start), (.int .i64 b.start), (.int .i64 (-1)), (.int .i64 (-1))]))]) (c := #[(.int .i64 a.start), (.int .i64 b.start), (.int .i64 (-1)), (.int .i64 (-1))]) (by decide) rfl Try.underlying74 siz73 zer73 (by decide) (by decide) (by kernel_rfl) ?_
  intro bl wl Nl
  have Fl := Nl.ge E
  have Ol_bp := Nl.lt Bp
  have Ol_bq := Nl.lt Bq
  replace Bp := Nl.keep Bp
  replace Bq := Nl.keep Bq
  replace E := E.ext Nl.ext
  have Bl := Nl.blk
  refine WpL_val rfl rfl (by decide) (r_assign (v := (.slice (some ⟨bl, 0, none⟩) 1 1)) rfl) ?_
  refine WpL_nil ?_
  refine Wp_seq_region ?_
  refine s_makeMap kPair kBool (by decide) ?_
  intro bm wm Nm
  have Fm := Nm.ge E
  have Om_bp := Nm.lt Bp
  have Om_bq := Nm.lt Bq
  have Om_bl := Nm.lt Bl
  replace Bp := Nm.keep Bp
  replace Bq := Nm.keep Bq
  replace Bl := Nm.keep Bl
  replace E := E.ext Nm.ext
  intro Mm
  refine WpL_val rfl rfl (by decide) (r_fieldAddr (b := bp) (o := 0) (o' := 0) rfl Try.underlying25 rfl siz3 rfl) ?_
  refine WpL_val rfl rfl (by decide) (r_load (v := (.int .i64 a.start)) rfl flat3 (Bp.cell rfl)) ?_
  refine WpL_val rfl rfl (by decide) (r_fieldAddr (b := bq) (o := 0) (o' := 0) rfl Try.underlying25 rfl siz3 rfl) ?_
  refine WpL_val rfl rfl (by decide) (r_load (v := (.int .i64 b.start)) rfl flat3 (Bq.cell rfl)) ?_
  refine WpL_val rfl rfl (by decide) (r_build (ps := [(0, (.int .i64 a.start)), (1, (.int .i64 b.start))]) (v := (.agg #[(.int .i64 a.start), (.int .i64 b.start)])) rfl (by kernel_rfl)) ?_
  refine s_insert (k := (a.start, b.start)) (v := true) Try.underlying76 (key75) Mm rfl rfl rfl ?_
  intro w5 S5 H5
  replace Bp := S5.keep (by omega) Bp
  replace Bq := S5.keep (by omega) Bq
  replace Bl := S5.keep (by omega) Bl
  replace E := S5.step E (by first | exact Or.inl (by omega) | exact Or.inr rfl | exact Or.inr (by assumption) | exact Or.inr (by simp) | exact Or.inr (by omega) | exact Or.inr (by dsimp only; omega))
  replace Mm := H5
  refine WpL_val rfl rfl (by decide) (r_move (v := (.map (some bm))) rfl) ?_
  refine WpL_val rfl rfl (by decide) (r_assign (v := (.map (some bm))) rfl) ?_
  refine WpL_nil ?_
  refine Wp_seq ?_
  refine Wp_seq_region ?_
  refine WpL_val rfl rfl (by decide) (r_assign (v := (.int .i64 0)) rfl) ?_
  refine WpL_nil ?_
  refine Wp_block ?_
  obtain ⟨n1, hn1e⟩ : ∃ n1, n1 = bl := ⟨_, rfl⟩
  have hbl0 : w0.heap.size ≤ n1 ∧ bl < bm := by omega
  have hS0 : (w5).ownsRow n1 73 4 (.slice (some ⟨bl, 0, none⟩) 1 1) 1 ([(a.start, b.start, (-1 : Int), (-1 : Int))].map ndC).flatten := own_lit4 (base := n1) Bl (by omega)
  obtain ⟨n2, hn2e⟩ : ∃ n2, n2 = (w5).heap.size := ⟨_, rfl⟩
  have hn2b : bp < n2 ∧ bq < n2 ∧ bl < n2 ∧ bm < n2 ∧ bp < n1 ∧ bq < n1 := ⟨by rw [hn2e]; exact Bp.lt, by rw [hn2e]; exact Bq.lt, by rw [hn2e]; exact Bl.lt, by rw [hn2e]; exact Mm.lt, by omega, by omega⟩
  refine Wp_loop (fun nn_ σ W6 => ∃ (i : Nat) (work : List (Int × Int)) (wd : List (List Nat)) (ps : List (Nat × Nat)) (nds : List (Int × Int × Int × Int)) (sa : Option Addr) (sc2 sn : Nat), (∃ jj_, σ = upds jj_ [(2, (.pointer (some ⟨bp, 0, none⟩))), (3, (.pointer (some ⟨bq, 0, none⟩))), (9, (.func (.func 51) #[] #[])), (10, (.func (.func 52) #[] #[])), (12, (.map (some bm))), (13, (.int .i64 ((i : Nat) : Int))), (11, (.slice sa sn sc2))]) ∧ Chg none1 w0 W6 ∧ Blk W6 bp #[(.int .i64 a.start), (.slice aa a.accept.length ac), (.slice (some ⟨nb, no, none⟩) a.next.length nc)] 25 ∧ Blk W6 bq #[(.int .i64 b.start), (.slice aa2 b.accept.length ac2), (.slice (some ⟨nb2, no2, none⟩) b.next.length nc2)] 25 ∧ MapAt W6 bm kPair kBool (seenM work) ∧ (BfsW c (stpB a b) (a.start, b.start) work wd ps i 0) ∧ (ReachB c (stpB a b) (tgtB a b) (a.start, b.start) ⟨work, wd, i, 0⟩) ∧ (NdOf work ps nds) ∧ (∀ (j : Nat) p, j < i → work[j]? = some p → tgtB a b p = false) ∧ (∀ k ∈ work, (-1 ≤ k.1 ∧ k.1 < n) ∧ (-1 ≤ k.2 ∧ k.2 < m)) ∧ (sn = work.length) ∧ (i ≤ sn) ∧ (W6.ownsRow n1 73 4 (.slice sa sn sc2) sn (nds.map ndC).flatten) ∧ (∀ b, (Value.slice sa sn sc2).ownBlock = some b → b ≠ bm) ∧ (n2 ≤ W6.heap.size) ∧ nn_ = mx - i) (n := mx - 0) ?_ ?_
  · exact ⟨0, [(a.start, b.start)], [[]], [(0, 0)], [(a.start, b.start, -1, -1)], some ⟨bl, 0, none⟩, 1, 1, Fits.out ⟨rfl, rfl, rfl, rfl, rfl, rfl, rfl, trivial⟩, E, Bp, Bq, Mm, BfsW.start _ _ _ _, ⟨0, rfl⟩, NdOf.start _ _, (fun j t h => by omega), (fun k hk => by rw [List.mem_singleton] at hk; subst hk; exact ⟨⟨by show -1 ≤ a.start; omega, hsta.2⟩, ⟨by show -1 ≤ b.start; omega, hstb.2⟩⟩), rfl, (by omega), hS0, (fun b hb => by have hb' : bl = b := Option.some.inj hb; omega), (by omega), rfl⟩
  · clear E Bp Bq Mm
    rintro _ _ W6 ⟨i, work, wd, ps, nds, sa, sc2, sn, ⟨j6, rfl⟩, E, Bp, Bq, Mm, hB, hR, hnd, hno, hsl, hsn, hin, hS, hap, hsz, rfl⟩
    refine Wp_seq ?_
    refine Wp_seq_region ?_
    refine WpL_val rfl rfl (by decide) (r_move (v := (.int .i64 ((i : Nat) : Int))) rfl) ?_
    refine WpL_val rfl rfl (by decide) (r_move (v := (.slice sa sn sc2)) rfl) ?_
    refine WpL_val rfl rfl (by decide) (r_lenSlice (ad := sa) (n := sn) (cap := sc2) Try.underlying74 rfl) ?_
    refine WpL_val rfl rfl (by decide) (r_lss (k := .i64) (a := ((i : Nat) : Int)) (b := ((sn : Nat) : Int)) rfl rfl) ?_
    refine WpL_nil ?_
    refine Wp_cond (b := decide ((((i : Nat) : Int) : Int) < ((sn : Nat) : Int))) rfl (fun hlt => ?_) (fun hlt => ?_)
    · have khlt := hlt
      replace hlt := of_decide_eq_true hlt
      obtain ⟨p, hpi⟩ := get_of_lt (l := work) (i := i) (by omega)
      obtain ⟨v, hvi⟩ := hB.get hpi
      obtain ⟨hp1, hp2⟩ := hsl p (List.mem_of_getElem? hpi)
      have hwl : work.length ≤ mx := by rw [hmx]; exact pairs_few hB.nd hsl
      obtain ⟨f0, y0, hnd0, _, _⟩ := hnd.at' i p hpi
      obtain ⟨sb, rfl, hsb1, hsc⟩ := own_cells hS (by omega)
      have hkc : CellsAt (W6) sb (0 + i * 4) [.int .i64 p.1, .int .i64 p.2, .int .i64 f0, .int .i64 y0] := flat_cells hkl hsc hnd0
      obtain ⟨z0, hz0⟩ : ∃ z0, z0 = (W6).heap.size := ⟨_, rfl⟩
      have hSz : ∀ b, (Value.slice (some ⟨sb, 0, none⟩) sn sc2).ownBlock = some b → b < z0 := fun b hb => by have := (hS.lt b hb).2; omega
      refine Wp_skip ?_
      refine thn_normal ?_
      refine Wp_seq ?_
      refine Wp_block ?_
      refine Wp_seq_region ?_
      refine WpL_val rfl rfl (by decide) (r_move (v := (.slice (some ⟨sb, 0, none⟩) sn sc2)) rfl) ?_
      refine WpL_val rfl rfl (by decide) (r_move (v := (.int .i64 ((i : Nat) : Int))) rfl) ?_
      refine WpL_val rfl rfl (by decide) (r_indexSlice (b := sb) (o := 0) (len := sn) (cap := sc2) (i := i) (o' := 0 + i * 4) rfl rfl rfl Try.underlying74 siz73 (by omega) (by omega)) ?_
      refine WpL_val rfl rfl (by decide) (r_loadAgg (vs := [(.int .i64 p.1), (.int .i64 p.2), (.int .i64 f0), (.int .i64 y0)]) rfl agg73 siz73 rfl (hkc)) ?_
      refine s_allocStore (v := (.agg #[(.int .i64 p.1), (.int .i64 p.2), (.int .i64 f0), (.int .i64 y0)])) (c := #[(.int .i64 p.1), (.int .i64 p.2), (.int .i64 f0), (.int .i64 y0)]) (n := 4) (by decide) zer73 rfl siz73 rfl rfl rfl (by simp [Value.oneCell']) ?_
      intro bn wn Nn
      have Fn := Nn.ge E
      have On_bp := Nn.lt Bp
      have On_bq := Nn.lt Bq
      have On_bm := Nn.ltM Mm
      replace Bp := Nn.keep Bp
      replace Bq := Nn.keep Bq
      replace Mm := Nn.keepM Mm
      replace hS := own_ext hS Nn.ext
      replace hsz := Nat.le_trans hsz Nn.ext.size
      replace E := E.ext Nn.ext
      have Bn := Nn.blk
      refine WpL_nil ?_
      refine Wp_seq ?_
      have hnz : z0 ≤ bn := by have := Nn.eq; omega
      have hz_8 : w0.heap.size ≤ wn.heap.size := E.size
      have lz_8_bp : bp < wn.heap.size := Bp.lt
      have lz_8_bq : bq < wn.heap.size := Bq.lt
      have lz_8_bm : bm < wn.heap.size := Mm.lt
      have lz_8_bn : bn < wn.heap.size := Bn.lt
      refine Wp_seq ?_
      obtain ⟨Fs8, hFs8⟩ : ∃ Fs : List FctS, Fs = [(fun _ _ v _ => v = (.func (.func 51) #[] #[])), (fun _ _ v _ => v = (.agg #[(.int .i64 a.start), (.slice aa a.accept.length ac), (.slice (some ⟨nb, no, none⟩) a.next.length nc)])), (fun _ _ v _ => v = (.pointer (some ⟨bn, 0, none⟩))), (fun _ _ v _ => v = (.int .i64 p.1)), (fun _ _ v _ => v = (.int .i64 (atD a p.1))), (fun _ _ v _ => v = (.func (.func 51) #[] #[])), (fun _ _ v _ => v = (.agg #[(.int .i64 b.start), (.slice aa2 b.accept.length ac2), (.slice (some ⟨nb2, no2, none⟩) b.next.length nc2)])), (fun _ _ v _ => v = (.pointer (some ⟨bn, 1, none⟩))), (fun _ _ v _ => v = (.int .i64 p.2)), (fun _ _ v _ => v = (.int .i64 (atD b p.2))), (fun _ _ v _ => v = (.bool (decide ((atD a p.1 : Int) ≠ atD b p.2))))] := ⟨_, rfl⟩
      refine Wp_dagS (MsL []) [true, true, true, true, true, true, true, true, true, true, true] [] [63, 64, 65, 66, 67, 68, 69, 70, 71, 72, 73] [[], [], [], [2], [0, 1, 3], [], [], [], [7], [4, 5, 6, 8], [4, 9]] [[], [], [], [2], [0, 1, 3, 2], [], [], [], [7], [4, 0, 1, 3, 2, 5, 6, 8, 7], [4, 0, 1, 3, 2, 9, 5, 6, 8, 7]] Fs8 hFs8 (by kernel_rfl) mixed (by kernel_rfl) (by kernel_rfl) (by kernel_rfl) (by kernel_rfl) ?_ ?_
      · intro wd X0
        refine DagStepsS.cons (StabS.eq) (LocS.const) (fun S s' w' hi hN X U H => Or.inl ⟨Guarded_none rfl, ?_⟩) ?_
        · replace X := X.mono (M' := none1) (fun y _ h => by
              obtain ⟨j, hj, h⟩ := h
              exact h.elim)
          exact DoesT_pure (r_move (v := (.func (.func 51) #[] #[])) (U 9 rfl)) rfl
        refine DagStepsS.cons (StabS.eq) (LocS.const) (fun S s' w' hi hN X U H => Or.inl ⟨Guarded_none rfl, ?_⟩) ?_
        · replace X := X.mono (M' := none1) (fun y _ h => by
              obtain ⟨j, hj, h⟩ := h
              exact h.elim)
          exact DoesT_pure (r_loadAgg (vs := [(.int .i64 a.start), (.slice aa a.accept.length ac), (.slice (some ⟨nb, no, none⟩) a.next.length nc)]) (U 2 rfl) agg25 siz25 rfl (((X0.trans X).keep Bp).cells rfl)) rfl
        refine DagStepsS.cons (StabS.eq) (LocS.const) (fun S s' w' hi hN X U H => Or.inl ⟨Guarded_none rfl, ?_⟩) ?_
        · replace X := X.mono (M' := none1) (fun y _ h => by
              obtain ⟨j, hj, h⟩ := h
              exact h.elim)
          exact DoesT_pure (r_fieldAddr (b := bn) (o := 0) (o' := 0) (U 14 rfl) Try.underlying73 rfl siz3 rfl) rfl
        refine DagStepsS.cons (StabS.eq) (LocS.const) (fun S s' w' hi hN X U H => Or.inl ⟨Guarded_none rfl, ?_⟩) ?_
        · replace X := X.mono (M' := none1) (fun y _ h => by
              obtain ⟨j, hj, h⟩ := h
              exact h.elim)
          have e65 : s' 65 = (.pointer (some ⟨bn, 0, none⟩)) := (H 2 rfl).2 65 (fun _ _ v _ => v = (.pointer (some ⟨bn, 0, none⟩))) rfl (by rw [hFs8]; rfl)
          exact DoesT_pure (r_load (v := (.int .i64 p.1)) e65 flat3 (((X0.trans X).keep Bn).cell rfl)) rfl
        refine DagStepsS.cons (StabS.eq) (LocS.const) (fun S s' w' hi hN X U H => Or.inl ⟨Guarded_none rfl, ?_⟩) ?_
        · replace X := X.mono (M' := none1) (fun y _ h => by
              obtain ⟨j, hj, h⟩ := h
              exact h.elim)
          have e64 : s' 64 = (.agg #[(.int .i64 a.start), (.slice aa a.accept.length ac), (.slice (some ⟨nb, no, none⟩) a.next.length nc)]) := (H 1 rfl).2 64 (fun _ _ v _ => v = (.agg #[(.int .i64 a.start), (.slice aa a.accept.length ac), (.slice (some ⟨nb, no, none⟩) a.next.length nc)])) rfl (by rw [hFs8]; rfl)
          have e66 : s' 66 = (.int .i64 p.1) := (H 3 rfl).2 66 (fun _ _ v _ => v = (.int .i64 p.1)) rfl (by rw [hFs8]; rfl)
          have e63 : s' 63 = (.func (.func 51) #[] #[]) := (H 0 rfl).2 63 (fun _ _ v _ => v = (.func (.func 51) #[] #[])) rfl (by rw [hFs8]; rfl)
          exact DoesT_callE (r_callV (first := #[]) (cap := #[]) (vs := [(.agg #[(.int .i64 a.start), (.slice aa a.accept.length ac), (.slice (some ⟨nb, no, none⟩) a.next.length nc)]), (.int .i64 p.1)]) (ws := #[(.agg #[(.int .i64 a.start), (.slice aa a.accept.length ac), (.slice (some ⟨nb, no, none⟩) a.next.length nc)]), (.int .i64 p.1)]) e63 Try.func51 nm51 bd51 (lst2 e64 e66) rfl) ((same1_c _ a _ p.1 (ha.ext (Ext.trans E (X0.trans X))) (by omega)).mono (fun v w h => h))
        refine DagStepsS.cons (StabS.eq) (LocS.const) (fun S s' w' hi hN X U H => Or.inl ⟨Guarded_none rfl, ?_⟩) ?_
        · replace X := X.mono (M' := none1) (fun y _ h => by
              obtain ⟨j, hj, h⟩ := h
              exact h.elim)
          exact DoesT_pure (r_move (v := (.func (.func 51) #[] #[])) (U 9 rfl)) rfl
        refine DagStepsS.cons (StabS.eq) (LocS.const) (fun S s' w' hi hN X U H => Or.inl ⟨Guarded_none rfl, ?_⟩) ?_
        · replace X := X.mono (M' := none1) (fun y _ h => by
              obtain ⟨j, hj, h⟩ := h
              exact h.elim)
          exact DoesT_pure (r_loadAgg (vs := [(.int .i64 b.start), (.slice aa2 b.accept.length ac2), (.slice (some ⟨nb2, no2, none⟩) b.next.length nc2)]) (U 3 rfl) agg25 siz25 rfl (((X0.trans X).keep Bq).cells rfl)) rfl
        refine DagStepsS.cons (StabS.eq) (LocS.const) (fun S s' w' hi hN X U H => Or.inl ⟨Guarded_none rfl, ?_⟩) ?_
        · replace X := X.mono (M' := none1) (fun y _ h => by
              obtain ⟨j, hj, h⟩ := h
              exact h.elim)
          exact DoesT_pure (r_fieldAddr (b := bn) (o := 0) (o' := 1) (U 14 rfl) Try.underlying73 rfl siz3 rfl) rfl
        refine DagStepsS.cons (StabS.eq) (LocS.const) (fun S s' w' hi hN X U H => Or.inl ⟨Guarded_none rfl, ?_⟩) ?_
        · replace X := X.mono (M' := none1) (fun y _ h => by
              obtain ⟨j, hj, h⟩ := h
              exact h.elim)
          have e70 : s' 70 = (.pointer (some ⟨bn, 1, none⟩)) := (H 7 rfl).2 70 (fun _ _ v _ => v = (.pointer (some ⟨bn, 1, none⟩))) rfl (by rw [hFs8]; rfl)
          exact DoesT_pure (r_load (v := (.int .i64 p.2)) e70 flat3 (((X0.trans X).keep Bn).cell rfl)) rfl
        refine DagStepsS.cons (StabS.eq) (LocS.const) (fun S s' w' hi hN X U H => Or.inl ⟨Guarded_none rfl, ?_⟩) ?_
        · replace X := X.mono (M' := none1) (fun y _ h => by
              obtain ⟨j, hj, h⟩ := h
              exact h.elim)
          have e69 : s' 69 = (.agg #[(.int .i64 b.start), (.slice aa2 b.accept.length ac2), (.slice (some ⟨nb2, no2, none⟩) b.next.length nc2)]) := (H 6 rfl).2 69 (fun _ _ v _ => v = (.agg #[(.int .i64 b.start), (.slice aa2 b.accept.length ac2), (.slice (some ⟨nb2, no2, none⟩) b.next.length nc2)])) rfl (by rw [hFs8]; rfl)
          have e71 : s' 71 = (.int .i64 p.2) := (H 8 rfl).2 71 (fun _ _ v _ => v = (.int .i64 p.2)) rfl (by rw [hFs8]; rfl)
          have e68 : s' 68 = (.func (.func 51) #[] #[]) := (H 5 rfl).2 68 (fun _ _ v _ => v = (.func (.func 51) #[] #[])) rfl (by rw [hFs8]; rfl)
          exact DoesT_callE (r_callV (first := #[]) (cap := #[]) (vs := [(.agg #[(.int .i64 b.start), (.slice aa2 b.accept.length ac2), (.slice (some ⟨nb2, no2, none⟩) b.next.length nc2)]), (.int .i64 p.2)]) (ws := #[(.agg #[(.int .i64 b.start), (.slice aa2 b.accept.length ac2), (.slice (some ⟨nb2, no2, none⟩) b.next.length nc2)]), (.int .i64 p.2)]) e68 Try.func51 nm51 bd51 (lst2 e69 e71) rfl) ((same1_c _ b _ p.2 (hb.ext (Ext.trans E (X0.trans X))) (by omega)).mono (fun v w h => h))
        refine DagStepsS.cons (StabS.eq) (LocS.const) (fun S s' w' hi hN X U H => Or.inl ⟨Guarded_none rfl, ?_⟩) ?_
        · replace X := X.mono (M' := none1) (fun y _ h => by
              obtain ⟨j, hj, h⟩ := h
              exact h.elim)
          have e67 : s' 67 = (.int .i64 (atD a p.1)) := (H 4 rfl).2 67 (fun _ _ v _ => v = (.int .i64 (atD a p.1))) rfl (by rw [hFs8]; rfl)
          have e72 : s' 72 = (.int .i64 (atD b p.2)) := (H 9 rfl).2 72 (fun _ _ v _ => v = (.int .i64 (atD b p.2))) rfl (by rw [hFs8]; rfl)
          exact DoesT_pure (r_neq (k := .i64) (a := atD a p.1) (b := atD b p.2) e67 e72) rfl
        exact DagStepsS.nil
      · intro s' wd8 w8 X0 X8 U H
        replace X8 := X8.mono (M' := none1) (fun y _ h => by
            obtain ⟨j, hj, h⟩ := h
            exact h.elim)
        have e73 : s' 73 = (.bool (decide ((atD a p.1 : Int) ≠ atD b p.2))) := H 10 rfl 73 (fun _ _ v _ => v = (.bool (decide ((atD a p.1 : Int) ≠ atD b p.2)))) rfl (by rw [hFs8]; rfl)
        obtain ⟨j8, rfl⟩ := Fits.out (σ := s') (l := [(2, (.pointer (some ⟨bp, 0, none⟩))), (3, (.pointer (some ⟨bq, 0, none⟩))), (9, (.func (.func 51) #[] #[])), (10, (.func (.func 52) #[] #[])), (11, (.slice (some ⟨sb, 0, none⟩) sn sc2)), (12, (.map (some bm))), (13, (.int .i64 ((i : Nat) : Int))), (14, (.pointer (some ⟨bn, 0, none⟩))), (73, (.bool (decide ((atD a p.1 : Int) ≠ atD b p.2))))]) ⟨U 2 rfl, U 3 rfl, U 9 rfl, U 10 rfl, U 11 rfl, U 12 rfl, U 13 rfl, U 14 rfl, e73, trivial⟩
        clear U H
        replace Bp := (X0.trans X8).keep Bp
        replace Bq := (X0.trans X8).keep Bq
        replace Mm := (X0.trans X8).keepM Mm
        replace Bn := (X0.trans X8).keep Bn
        replace hS := own_ext hS (X0.trans X8)
        replace hsz := Nat.le_trans hsz (X0.trans X8).size
        replace X8 := X0.trans X8
        replace E := E.ext X8
        refine WpL_nil ?_
        refine thn_normal ?_
        refine Wp_cond (b := decide ((atD a p.1 : Int) ≠ atD b p.2)) rfl (fun hdf => ?_) (fun hdf => ?_)
        · have khdf := hdf
          replace hdf := of_decide_eq_true hdf
          have htg : tgtB a b p = true := decide_eq_true hdf
          have hno2 := hB.same_no hno hpi hvi htg
          have hvl := hB.wlen i v hvi
          obtain ⟨n3, hn3⟩ : ∃ n3, n3 = (w8).heap.size := ⟨_, rfl⟩
          have hq3 : bp < n3 ∧ bq < n3 ∧ bm < n3 ∧ bn < n3 ∧ sb < n3 := ⟨by rw [hn3]; exact Bp.lt, by rw [hn3]; exact Bq.lt, by rw [hn3]; exact Mm.lt, by rw [hn3]; exact Bn.lt, by have := (hS.lt sb rfl).2; omega⟩
          refine Wp_seq_region ?_
          refine WpL_val rfl rfl (by decide) (r_assign (v := (.slice none 0 0)) rfl) ?_
          refine WpL_nil ?_
          refine Wp_seq ?_
          refine Wp_seq_region ?_
          refine WpL_val rfl rfl (by decide) (r_move (v := (.int .i64 ((i : Nat) : Int))) rfl) ?_
          refine WpL_val rfl rfl (by decide) (r_assign (v := (.int .i64 ((i : Nat) : Int))) rfl) ?_
          refine WpL_nil ?_
          refine Wp_block ?_
          refine Wp_loop (fun nn_ σ W10 => ∃ (k : Nat) (v1 u : List Nat) (oa : Option Addr) (oc on : Nat), (∃ jj_, σ = upds jj_ [(11, (.slice (some ⟨sb, 0, none⟩) sn sc2)), (16, (.int .i64 ((k : Nat) : Int))), (15, (.slice oa on oc))]) ∧ Chg none1 w0 W10 ∧ Blk W10 bp #[(.int .i64 a.start), (.slice aa a.accept.length ac), (.slice (some ⟨nb, no, none⟩) a.next.length nc)] 25 ∧ Blk W10 bq #[(.int .i64 b.start), (.slice aa2 b.accept.length ac2), (.slice (some ⟨nb2, no2, none⟩) b.next.length nc2)] 25 ∧ MapAt W10 bm kPair kBool (seenM work) ∧ Blk W10 bn #[(.int .i64 p.1), (.int .i64 p.2), (.int .i64 f0), (.int .i64 y0)] 73 ∧ (wd[k]? = some v1) ∧ (v = v1 ++ u) ∧ (on = u.length) ∧ (W10.ownsRow n3 TDI 1 (.slice oa on oc) on ((toI u.reverse).map (Value.int .i64))) ∧ (W10.ownsRow n1 73 4 (.slice (some ⟨sb, 0, none⟩) sn sc2) sn (nds.map ndC).flatten) ∧ (n3 ≤ W10.heap.size) ∧ nn_ = k + 1) (n := i + 1) ?_ ?_
          · exact ⟨i, v, [], none, 0, 0, Fits.out ⟨rfl, rfl, rfl, trivial⟩, E, Bp, Bq, Mm, Bn, hvi, (by simp), rfl, World.ownsRow_nil _ _ _ _, hS, (by omega), rfl⟩
          · clear E Bp Bq Mm Bn
            rintro _ _ W10 ⟨k, v1, u, oa, oc, on, ⟨j10, rfl⟩, E, Bp, Bq, Mm, Bn, hvj, hvu, hon, hO, hS, hsz2, rfl⟩
            have hkw : k < work.length := by rw [← hB.len]; exact lt_of_get hvj
            obtain ⟨p1, hpk⟩ := get_of_lt hkw
            obtain ⟨f, y, hndk, hk0, hk1⟩ := hnd.at' k p1 hpk
            obtain ⟨sb9, hsb9, _, hsc9⟩ := own_cells hS (by omega)
            simp only [Option.some.injEq, Addr.mk.injEq, and_true] at hsb9
            subst hsb9
            have hkc : CellsAt (W10) sb (0 + k * 4) [.int .i64 p1.1, .int .i64 p1.2, .int .i64 f, .int .i64 y] := flat_cells hkl hsc9 hndk
            refine Wp_seq ?_
            refine Wp_seq_region ?_
            refine WpL_val rfl rfl (by decide) (r_move (v := (.slice (some ⟨sb, 0, none⟩) sn sc2)) rfl) ?_
            refine WpL_val rfl rfl (by decide) (r_move (v := (.int .i64 ((k : Nat) : Int))) rfl) ?_
            refine WpL_val rfl rfl (by decide) (r_indexSlice (b := sb) (o := 0) (len := sn) (cap := sc2) (i := k) (o' := 0 + k * 4) rfl rfl rfl Try.underlying74 siz73 (by omega) (by omega)) ?_
            refine WpL_val rfl rfl (by decide) (r_fieldAddr (b := sb) (o := 0 + k * 4) (o' := 0 + k * 4 + 2) rfl Try.underlying73 rfl siz3 rfl) ?_
            refine WpL_val rfl rfl (by decide) (r_load (v := (.int .i64 f)) rfl flat3 (hkc 2 _ rfl)) ?_
            refine WpL_val rfl rfl (by decide) (r_geq (k := .i64) (a := f) (b := 0) rfl rfl) ?_
            refine WpL_nil ?_
            refine Wp_cond (b := decide ((0 : Int) ≤ f)) rfl (fun hge => ?_) (fun hge => ?_)
            · have khge := hge
              replace hge := of_decide_eq_true hge
              have hkp : 0 < k := by rcases Nat.eq_zero_or_pos k with h0 | h0; have := hk0 h0; omega; exact h0
              obtain ⟨j2, y2, v2, hj2, hps2, hv2, rfl⟩ := hB.par k v1 hkp hvj
              obtain ⟨hf, hy⟩ := hk1 hkp j2 y2 hps2
              have hul : u.length ≤ i := by rw [hvu] at hvl; simp at hvl; omega
              refine Wp_skip ?_
              refine thn_normal ?_
              refine Wp_seq ?_
              refine Wp_block ?_
              refine Wp_region ?_
              refine WpL_val rfl rfl (by decide) (r_move (v := (.slice oa on oc)) rfl) ?_
              refine WpL_val rfl rfl (by decide) (r_move (v := (.slice (some ⟨sb, 0, none⟩) sn sc2)) rfl) ?_
              refine WpL_val rfl rfl (by decide) (r_move (v := (.int .i64 ((k : Nat) : Int))) rfl) ?_
              refine WpL_val rfl rfl (by decide) (r_indexSlice (b := sb) (o := 0) (len := sn) (cap := sc2) (i := k) (o' := 0 + k * 4) rfl rfl rfl Try.underlying74 siz73 (by omega) (by omega)) ?_
              refine WpL_val rfl rfl (by decide) (r_fieldAddr (b := sb) (o := 0 + k * 4) (o' := 0 + k * 4 + 3) rfl Try.underlying73 rfl siz3 rfl) ?_
              refine WpL_val rfl rfl (by decide) (r_load (v := (.int .i64 y)) rfl flat3 (hkc 3 _ rfl)) ?_
              refine s_buildSlice (ps := [(0, (.int .i64 y))]) (c := #[(.int .i64 y)]) (by decide) rfl Try.underlying22 siz3 zer3 (by decide) (by decide) (by kernel_rfl) ?_
              intro b12 w12 N12
              have F12 := N12.ge E
              have O12_bp := N12.lt Bp
              have O12_bq := N12.lt Bq
              have O12_bm := N12.ltM Mm
              have O12_bn := N12.lt Bn
              replace Bp := N12.keep Bp
              replace Bq := N12.keep Bq
              replace Mm := N12.keepM Mm
              replace Bn := N12.keep Bn
              replace hO := own_ext hO N12.ext
              replace hS := own_ext hS N12.ext
              replace hkc := hkc.ext N12.ext
              replace hsz2 := Nat.le_trans hsz2 N12.ext.size
              replace E := E.ext N12.ext
              have B12 := N12.blk
              refine s_append (base := n3) (n := on) (m := 1) (xs := ((toI u.reverse).map (Value.int .i64))) (news := [(.int .i64 y)]) (size := 1) (bytes := 8) (v := (.slice oa on oc)) (by decide) Try.underlying22 siz3 byt3 zer3 rfl (by decide) rfl hO rfl (rfl) (B12.cells rfl) (by simp [Value.oneCell']) (by unfold maxLen; omega) (by omega) (hsz2) ?_
              intro v7 w59 Ov7 Cv7 Dv7
              replace Bp := Cv7.keep (fun h => by have := (hO.lt _ h).1; omega) Bp
              replace Bq := Cv7.keep (fun h => by have := (hO.lt _ h).1; omega) Bq
              replace Mm := Cv7.keepM (fun h => by have := (hO.lt _ h).1; omega) Mm
              replace Bn := Cv7.keep (fun h => by have := (hO.lt _ h).1; omega) Bn
              replace E := E.step Cv7 (fun x hx h => absurd (hO.lt x h).1 (by omega))
              obtain ⟨sa3, sc3, rfl⟩ := own_form Ov7
              refine WpL_val rfl rfl (by decide) (r_assign (v := (.slice sa3 (on + 1) sc3)) rfl) ?_
              refine WpL_nil ?_
              refine inB_normal ?_
              refine thn_normal ?_
              refine Wp_region ?_
              refine WpL_val rfl rfl (by decide) (r_move (v := (.slice (some ⟨sb, 0, none⟩) sn sc2)) rfl) ?_
              refine WpL_val rfl rfl (by decide) (r_move (v := (.int .i64 ((k : Nat) : Int))) rfl) ?_
              refine WpL_val rfl rfl (by decide) (r_indexSlice (b := sb) (o := 0) (len := sn) (cap := sc2) (i := k) (o' := 0 + k * 4) rfl rfl rfl Try.underlying74 siz73 (by omega) (by omega)) ?_
              refine WpL_val rfl rfl (by decide) (r_fieldAddr (b := sb) (o := 0 + k * 4) (o' := 0 + k * 4 + 2) rfl Try.underlying73 rfl siz3 rfl) ?_
              refine WpL_val rfl rfl (by decide) (r_load (v := (.int .i64 f)) rfl flat3 (Chg.cell Cv7 (fun h => by have h1 := (hO.lt sb h).1; have h2 := hq3.2.2.2.2; omega) (hkc 2 _ rfl))) ?_
              refine WpL_val rfl rfl (by decide) (r_assign (v := (.int .i64 f)) rfl) ?_
              refine WpL_nil ?_
              refine thn_normal ?_
              rw [hf]
              exact ⟨j2 + 1, by omega, j2, v2, y2 :: u, sa3, sc3, (on + 1), Fits.out ⟨rfl, rfl, rfl, trivial⟩, E, Bp, Bq, Mm, Bn, hv2, (by rw [hvu]; simp), (by simp [hon]), (by rw [hy] at Ov7; simpa [toI] using Ov7), own_chg hS Cv7 (fun b hb h => by have hb' : sb = b := Option.some.inj hb; have := (hO.lt _ h).1; omega), Nat.le_trans hsz2 Cv7.size, rfl⟩
            · have khge := hge
              replace hge := of_decide_eq_false hge
              have hk00 : k = 0 := by rcases Nat.eq_zero_or_pos k with h0 | h0; exact h0; obtain ⟨j2, y2, v2, hj2, hps2, hv2, rfl⟩ := hB.par k v1 h0 hvj; have := (hk1 h0 j2 y2 hps2).1; omega
              rw [hk00, hB.wf] at hvj
              have hv10 : v1 = [] := (Option.some.inj hvj).symm
              rw [hv10, List.nil_append] at hvu
              subst hvu
              refine Wp_exit ?_
              refine thn_exit ?_
              refine thn_exit ?_
              refine inB_here ?_
              refine thn_normal ?_
              refine Wp_seq_region ?_
              refine WpL_val rfl rfl (by decide) (r_move (v := (.slice oa on oc)) rfl) ?_
              refine WpL_enter rfl rfl (by decide) (r_callF (vs := [(.slice oa on oc)]) Try.func53 nm53 bd53 rfl) (revo_c _ n3 oc oa (toI v.reverse) on (by simp [hon, toI]) hO (by simp [toI]; omega)) ?_
              rintro _ w69 ⟨hO2, C69⟩
              replace Bp := C69.keep (fun h => by have := (hO.lt _ h).1; omega) Bp
              replace Bq := C69.keep (fun h => by have := (hO.lt _ h).1; omega) Bq
              replace Mm := C69.keepM (fun h => by have := (hO.lt _ h).1; omega) Mm
              replace Bn := C69.keep (fun h => by have := (hO.lt _ h).1; omega) Bn
              replace E := E.step C69 (fun x hx h => absurd (hO.lt x h).1 (by omega))
              refine WpL_nil ?_
              refine Wp_seq_region ?_
              refine WpL_val rfl rfl (by decide) (r_move (v := (.slice oa on oc)) rfl) ?_
              refine WpL_val rfl rfl (by decide) (r_assign (v := (.bool false)) rfl) ?_
              refine WpL_val rfl rfl (by decide) (r_assign (v := (.slice oa on oc)) rfl) ?_
              refine WpL_val rfl rfl (by decide) (r_assign (v := (.int .i64 0)) rfl) ?_
              refine WpL_nil ?_
              refine Wp_ret ?_
              refine thn_ret ?_
              refine inB_ret ?_
              refine thn_ret ?_
              refine thn_ret ?_
              refine inB_ret ?_
              refine thn_ret ?_
              refine fin_tmp3 Try.results11 (v := (.bool false)) (v' := (.slice oa on oc)) (v'' := (.int .i64 0)) rfl rfl rfl ?_
              exact ⟨⟨false, v, oa, oc, by rw [hon], by rw [← hon]; exact own_intsD (n := on) (by simpa [toI, List.map_reverse] using hO2) (by simp [hon, toI]), ⟨(fun h => by cases h), fun _ => hno2, ⟨_, hR, nextB_stop hpi hvi htg, fun _ => hvi, by symm; rw [decide_eq_false_iff_not]; show ¬ work.length ≤ i; omega⟩⟩, by rw [← hmx]; omega⟩, E⟩
        · have khdf := hdf
          replace hdf := of_decide_eq_false hdf
          have htg : tgtB a b p = false := decide_eq_false hdf
          refine Wp_skip ?_
          refine thn_normal ?_
          refine Wp_seq_region ?_
          refine WpL_val rfl rfl (by decide) (r_fieldAddr (b := bp) (o := 0) (o' := 2) rfl Try.underlying25 rfl siz23 rfl) ?_
          refine WpL_val rfl rfl (by decide) (r_load (v := (.slice (some ⟨nb, no, none⟩) a.next.length nc)) rfl flat23 (Bp.cell rfl)) ?_
          refine WpL_val rfl rfl (by decide) (r_indexSlice (b := nb) (o := no) (len := a.next.length) (cap := nc) (i := 0) (o' := no + 0) rfl rfl rfl Try.underlying23 siz22 (by omega) (by omega)) ?_
          refine WpL_val rfl rfl (by decide) (r_load (v := (.slice ra c rc)) rfl flat22 (E.cell (fun f => f) hcell)) ?_
          refine WpL_val rfl rfl (by decide) (r_lenSlice (ad := ra) (n := c) (cap := rc) Try.underlying22 rfl) ?_
          refine WpL_val rfl rfl (by decide) (r_move (v := (.int .i64 0)) rfl) ?_
          refine WpL_nil ?_
          refine Wp_block ?_
          refine Wp_loop (fun nn_ σ W13 => ∃ (x : Nat) (work : List (Int × Int)) (wd : List (List Nat)) (ps : List (Nat × Nat)) (nds : List (Int × Int × Int × Int)) (sa : Option Addr) (sc2 sn : Nat), (∃ jj_, σ = upds jj_ [(2, (.pointer (some ⟨bp, 0, none⟩))), (3, (.pointer (some ⟨bq, 0, none⟩))), (9, (.func (.func 51) #[] #[])), (10, (.func (.func 52) #[] #[])), (12, (.map (some bm))), (13, (.int .i64 ((i : Nat) : Int))), (14, (.pointer (some ⟨bn, 0, none⟩))), (101, (.int .i64 ((c : Nat) : Int))), (102, (.int .i64 ((x : Nat) : Int))), (11, (.slice sa sn sc2))]) ∧ Chg none1 w0 W13 ∧ Blk W13 bp #[(.int .i64 a.start), (.slice aa a.accept.length ac), (.slice (some ⟨nb, no, none⟩) a.next.length nc)] 25 ∧ Blk W13 bq #[(.int .i64 b.start), (.slice aa2 b.accept.length ac2), (.slice (some ⟨nb2, no2, none⟩) b.next.length nc2)] 25 ∧ MapAt W13 bm kPair kBool (seenM work) ∧ Blk W13 bn #[(.int .i64 p.1), (.int .i64 p.2), (.int .i64 f0), (.int .i64 y0)] 73 ∧ (x ≤ c) ∧ (BfsW c (stpB a b) (a.start, b.start) work wd ps i x) ∧ (ReachB c (stpB a b) (tgtB a b) (a.start, b.start) ⟨work, wd, i, x⟩) ∧ (NdOf work ps nds) ∧ (∀ (j : Nat) p, j < i + 1 → work[j]? = some p → tgtB a b p = false) ∧ (∀ k ∈ work, (-1 ≤ k.1 ∧ k.1 < n) ∧ (-1 ≤ k.2 ∧ k.2 < m)) ∧ (work[i]? = some p) ∧ (wd[i]? = some v) ∧ (sn = work.length) ∧ (W13.ownsRow n1 73 4 (.slice sa sn sc2) sn (nds.map ndC).flatten) ∧ (∀ b, (Value.slice sa sn sc2).ownBlock = some b → b ≠ bm ∧ b ≠ bn) ∧ (n2 ≤ W13.heap.size) ∧ nn_ = c - x) (n := c - 0) ?_ ?_
          · exact ⟨0, work, wd, ps, nds, some ⟨sb, 0, none⟩, sc2, sn, Fits.out ⟨rfl, rfl, rfl, rfl, rfl, rfl, rfl, rfl, rfl, rfl, trivial⟩, E, Bp, Bq, Mm, Bn, Nat.zero_le _, hB, hR, hnd, (fun j t hj ht => by rcases Nat.lt_or_ge j i with h1 | h1; exact hno j t h1 ht; (have h2 : j = i := by omega); rw [h2, hpi] at ht; cases ht; exact htg), hsl, hpi, hvi, hsn, hS, (fun b hb => ⟨hap b hb, fun e => by have := hSz b hb; omega⟩), hsz, rfl⟩
          · clear E Bp Bq Mm Bn
            rintro _ _ W13 ⟨x, work, wd, ps, nds, sa, sc2, sn, ⟨j13, rfl⟩, E, Bp, Bq, Mm, Bn, hx, hB, hR, hnd, hno, hsl, hpi, hvi, hsn, hS, hap, hsz, rfl⟩
            refine Wp_seq_region ?_
            refine WpL_val rfl rfl (by decide) (r_lss (k := .i64) (a := ((x : Nat) : Int)) (b := ((c : Nat) : Int)) rfl rfl) ?_
            refine WpL_nil ?_
            refine Wp_seq ?_
            refine Wp_cond (b := decide ((((x : Nat) : Int) : Int) < ((c : Nat) : Int))) rfl (fun hlt2 => ?_) (fun hlt2 => ?_)
            · have khlt2 := hlt2
              replace hlt2 := of_decide_eq_true hlt2
              obtain ⟨z1, hz1⟩ : ∃ z1, z1 = (W13).heap.size := ⟨_, rfl⟩
              have hS1 : ∀ b, (Value.slice sa sn sc2).ownBlock = some b → b < z1 := fun b hb => by have := (hS.lt b hb).2; omega
              refine Wp_skip ?_
              refine thn_normal ?_
              refine Wp_seq ?_
              refine Wp_block ?_
              refine Wp_seq_region ?_
              refine WpL_val rfl rfl (by decide) (r_move (v := (.int .i64 ((x : Nat) : Int))) rfl) ?_
              refine WpL_val rfl rfl (by decide) (r_assign (v := (.int .i64 ((x : Nat) : Int))) rfl) ?_
              refine WpL_nil ?_
              have hz_15 : w0.heap.size ≤ W13.heap.size := E.size
              have lz_15_bp : bp < W13.heap.size := Bp.lt
              have lz_15_bq : bq < W13.heap.size := Bq.lt
              have lz_15_bm : bm < W13.heap.size := Mm.lt
              have lz_15_bn : bn < W13.heap.size := Bn.lt
              refine Wp_seq ?_
              obtain ⟨Fs15, hFs15⟩ : ∃ Fs : List FctS, Fs = [(fun _ _ v _ => v = (.func (.func 52) #[] #[])), (fun _ _ v _ => v = (.agg #[(.int .i64 a.start), (.slice aa a.accept.length ac), (.slice (some ⟨nb, no, none⟩) a.next.length nc)])), (fun _ _ v _ => v = (.pointer (some ⟨bn, 0, none⟩))), (fun _ _ v _ => v = (.int .i64 p.1)), (fun _ _ v _ => v = (.int .i64 ((x : Nat) : Int))), (fun _ _ v _ => v = (.int .i64 (toD a p.1 x))), (fun _ _ v _ => v = (.func (.func 52) #[] #[])), (fun _ _ v _ => v = (.agg #[(.int .i64 b.start), (.slice aa2 b.accept.length ac2), (.slice (some ⟨nb2, no2, none⟩) b.next.length nc2)])), (fun _ _ v _ => v = (.pointer (some ⟨bn, 1, none⟩))), (fun _ _ v _ => v = (.int .i64 p.2)), (fun _ _ v _ => v = (.int .i64 ((x : Nat) : Int))), (fun _ _ v _ => v = (.int .i64 (toD b p.2 x))), (fun _ _ v _ => v = (.agg #[(.int .i64 (toD a p.1 x)), (.int .i64 (toD b p.2 x))])), (fun _ _ => alF 75 #[(.int .i64 0), (.int .i64 0)] W13.heap.size), (fun _ _ v _ => v = undef)] := ⟨_, rfl⟩
              refine Wp_dagS (MsL []) [true, true, true, true, true, true, true, true, true, true, true, true, true, true, false] [14] [105, 106, 107, 108, 109, 110, 111, 112, 113, 114, 115, 116, 117, 18, 149] [[], [], [], [2], [], [0, 1, 3, 4], [], [], [], [8], [], [5, 6, 7, 9, 10], [5, 11], [], []] [[], [], [], [2], [], [0, 1, 3, 2, 4], [], [], [], [8], [], [5, 0, 1, 3, 2, 4, 6, 7, 9, 8, 10], [5, 0, 1, 3, 2, 4, 11, 6, 7, 9, 8, 10], [], []] Fs15 hFs15 (by kernel_rfl) mixed (by kernel_rfl) (by kernel_rfl) (by kernel_rfl) (by kernel_rfl) ?_ ?_
              · intro wd X0
                refine DagStepsS.cons (StabS.eq) (LocS.const) (fun S s' w' hi hN X U H => Or.inl ⟨Guarded_none rfl, ?_⟩) ?_
                · replace X := X.mono (M' := none1) (fun y _ h => by
                      obtain ⟨j, hj, h⟩ := h
                      exact h.elim)
                  exact DoesT_pure (r_move (v := (.func (.func 52) #[] #[])) (U 10 rfl)) rfl
                refine DagStepsS.cons (StabS.eq) (LocS.const) (fun S s' w' hi hN X U H => Or.inl ⟨Guarded_none rfl, ?_⟩) ?_
                · replace X := X.mono (M' := none1) (fun y _ h => by
                      obtain ⟨j, hj, h⟩ := h
                      exact h.elim)
                  exact DoesT_pure (r_loadAgg (vs := [(.int .i64 a.start), (.slice aa a.accept.length ac), (.slice (some ⟨nb, no, none⟩) a.next.length nc)]) (U 2 rfl) agg25 siz25 rfl (((X0.trans X).keep Bp).cells rfl)) rfl
                refine DagStepsS.cons (StabS.eq) (LocS.const) (fun S s' w' hi hN X U H => Or.inl ⟨Guarded_none rfl, ?_⟩) ?_
                · replace X := X.mono (M' := none1) (fun y _ h => by
                      obtain ⟨j, hj, h⟩ := h
                      exact h.elim)
                  exact DoesT_pure (r_fieldAddr (b := bn) (o := 0) (o' := 0) (U 14 rfl) Try.underlying73 rfl siz3 rfl) rfl
                refine DagStepsS.cons (StabS.eq) (LocS.const) (fun S s' w' hi hN X U H => Or.inl ⟨Guarded_none rfl, ?_⟩) ?_
                · replace X := X.mono (M' := none1) (fun y _ h => by
                      obtain ⟨j, hj, h⟩ := h
                      exact h.elim)
                  have e107 : s' 107 = (.pointer (some ⟨bn, 0, none⟩)) := (H 2 rfl).2 107 (fun _ _ v _ => v = (.pointer (some ⟨bn, 0, none⟩))) rfl (by rw [hFs15]; rfl)
                  exact DoesT_pure (r_load (v := (.int .i64 p.1)) e107 flat3 (((X0.trans X).keep Bn).cell rfl)) rfl
                refine DagStepsS.cons (StabS.eq) (LocS.const) (fun S s' w' hi hN X U H => Or.inl ⟨Guarded_none rfl, ?_⟩) ?_
                · replace X := X.mono (M' := none1) (fun y _ h => by
                      obtain ⟨j, hj, h⟩ := h
                      exact h.elim)
                  exact DoesT_pure (r_move (v := (.int .i64 ((x : Nat) : Int))) (U 17 rfl)) rfl
                refine DagStepsS.cons (StabS.eq) (LocS.const) (fun S s' w' hi hN X U H => Or.inl ⟨Guarded_none rfl, ?_⟩) ?_
                · replace X := X.mono (M' := none1) (fun y _ h => by
                      obtain ⟨j, hj, h⟩ := h
                      exact h.elim)
                  have e106 : s' 106 = (.agg #[(.int .i64 a.start), (.slice aa a.accept.length ac), (.slice (some ⟨nb, no, none⟩) a.next.length nc)]) := (H 1 rfl).2 106 (fun _ _ v _ => v = (.agg #[(.int .i64 a.start), (.slice aa a.accept.length ac), (.slice (some ⟨nb, no, none⟩) a.next.length nc)])) rfl (by rw [hFs15]; rfl)
                  have e108 : s' 108 = (.int .i64 p.1) := (H 3 rfl).2 108 (fun _ _ v _ => v = (.int .i64 p.1)) rfl (by rw [hFs15]; rfl)
                  have e109 : s' 109 = (.int .i64 ((x : Nat) : Int)) := (H 4 rfl).2 109 (fun _ _ v _ => v = (.int .i64 ((x : Nat) : Int))) rfl (by rw [hFs15]; rfl)
                  have e105 : s' 105 = (.func (.func 52) #[] #[]) := (H 0 rfl).2 105 (fun _ _ v _ => v = (.func (.func 52) #[] #[])) rfl (by rw [hFs15]; rfl)
                  exact DoesT_callE (r_callV (first := #[]) (cap := #[]) (vs := [(.agg #[(.int .i64 a.start), (.slice aa a.accept.length ac), (.slice (some ⟨nb, no, none⟩) a.next.length nc)]), (.int .i64 p.1), (.int .i64 ((x : Nat) : Int))]) (ws := #[(.agg #[(.int .i64 a.start), (.slice aa a.accept.length ac), (.slice (some ⟨nb, no, none⟩) a.next.length nc)]), (.int .i64 p.1), (.int .i64 ((x : Nat) : Int))]) e105 Try.func52 nm52 bd52 (lst3 e106 e108 e109) rfl) ((same2_c _ n c a _ p.1 ((x : Nat) : Int) oka (ha.ext (Ext.trans E (X0.trans X))) hp1.2 (by omega)).mono (fun v w h => h))
                refine DagStepsS.cons (StabS.eq) (LocS.const) (fun S s' w' hi hN X U H => Or.inl ⟨Guarded_none rfl, ?_⟩) ?_
                · replace X := X.mono (M' := none1) (fun y _ h => by
                      obtain ⟨j, hj, h⟩ := h
                      exact h.elim)
                  exact DoesT_pure (r_move (v := (.func (.func 52) #[] #[])) (U 10 rfl)) rfl
                refine DagStepsS.cons (StabS.eq) (LocS.const) (fun S s' w' hi hN X U H => Or.inl ⟨Guarded_none rfl, ?_⟩) ?_
                · replace X := X.mono (M' := none1) (fun y _ h => by
                      obtain ⟨j, hj, h⟩ := h
                      exact h.elim)
                  exact DoesT_pure (r_loadAgg (vs := [(.int .i64 b.start), (.slice aa2 b.accept.length ac2), (.slice (some ⟨nb2, no2, none⟩) b.next.length nc2)]) (U 3 rfl) agg25 siz25 rfl (((X0.trans X).keep Bq).cells rfl)) rfl
                refine DagStepsS.cons (StabS.eq) (LocS.const) (fun S s' w' hi hN X U H => Or.inl ⟨Guarded_none rfl, ?_⟩) ?_
                · replace X := X.mono (M' := none1) (fun y _ h => by
                      obtain ⟨j, hj, h⟩ := h
                      exact h.elim)
                  exact DoesT_pure (r_fieldAddr (b := bn) (o := 0) (o' := 1) (U 14 rfl) Try.underlying73 rfl siz3 rfl) rfl
                refine DagStepsS.cons (StabS.eq) (LocS.const) (fun S s' w' hi hN X U H => Or.inl ⟨Guarded_none rfl, ?_⟩) ?_
                · replace X := X.mono (M' := none1) (fun y _ h => by
                      obtain ⟨j, hj, h⟩ := h
                      exact h.elim)
                  have e113 : s' 113 = (.pointer (some ⟨bn, 1, none⟩)) := (H 8 rfl).2 113 (fun _ _ v _ => v = (.pointer (some ⟨bn, 1, none⟩))) rfl (by rw [hFs15]; rfl)
                  exact DoesT_pure (r_load (v := (.int .i64 p.2)) e113 flat3 (((X0.trans X).keep Bn).cell rfl)) rfl
                refine DagStepsS.cons (StabS.eq) (LocS.const) (fun S s' w' hi hN X U H => Or.inl ⟨Guarded_none rfl, ?_⟩) ?_
                · replace X := X.mono (M' := none1) (fun y _ h => by
                      obtain ⟨j, hj, h⟩ := h
                      exact h.elim)
                  exact DoesT_pure (r_move (v := (.int .i64 ((x : Nat) : Int))) (U 17 rfl)) rfl
                refine DagStepsS.cons (StabS.eq) (LocS.const) (fun S s' w' hi hN X U H => Or.inl ⟨Guarded_none rfl, ?_⟩) ?_
                · replace X := X.mono (M' := none1) (fun y _ h => by
                      obtain ⟨j, hj, h⟩ := h
                      exact h.elim)
                  have e112 : s' 112 = (.agg #[(.int .i64 b.start), (.slice aa2 b.accept.length ac2), (.slice (some ⟨nb2, no2, none⟩) b.next.length nc2)]) := (H 7 rfl).2 112 (fun _ _ v _ => v = (.agg #[(.int .i64 b.start), (.slice aa2 b.accept.length ac2), (.slice (some ⟨nb2, no2, none⟩) b.next.length nc2)])) rfl (by rw [hFs15]; rfl)
                  have e114 : s' 114 = (.int .i64 p.2) := (H 9 rfl).2 114 (fun _ _ v _ => v = (.int .i64 p.2)) rfl (by rw [hFs15]; rfl)
                  have e115 : s' 115 = (.int .i64 ((x : Nat) : Int)) := (H 10 rfl).2 115 (fun _ _ v _ => v = (.int .i64 ((x : Nat) : Int))) rfl (by rw [hFs15]; rfl)
                  have e111 : s' 111 = (.func (.func 52) #[] #[]) := (H 6 rfl).2 111 (fun _ _ v _ => v = (.func (.func 52) #[] #[])) rfl (by rw [hFs15]; rfl)
                  exact DoesT_callE (r_callV (first := #[]) (cap := #[]) (vs := [(.agg #[(.int .i64 b.start), (.slice aa2 b.accept.length ac2), (.slice (some ⟨nb2, no2, none⟩) b.next.length nc2)]), (.int .i64 p.2), (.int .i64 ((x : Nat) : Int))]) (ws := #[(.agg #[(.int .i64 b.start), (.slice aa2 b.accept.length ac2), (.slice (some ⟨nb2, no2, none⟩) b.next.length nc2)]), (.int .i64 p.2), (.int .i64 ((x : Nat) : Int))]) e111 Try.func52 nm52 bd52 (lst3 e112 e114 e115) rfl) ((same2_c _ m c b _ p.2 ((x : Nat) : Int) okb (hb.ext (Ext.trans E (X0.trans X))) hp2.2 (by omega)).mono (fun v w h => h))
                refine DagStepsS.cons (StabS.eq) (LocS.const) (fun S s' w' hi hN X U H => Or.inl ⟨Guarded_none rfl, ?_⟩) ?_
                · replace X := X.mono (M' := none1) (fun y _ h => by
                      obtain ⟨j, hj, h⟩ := h
                      exact h.elim)
                  have e110 : s' 110 = (.int .i64 (toD a p.1 x)) := (H 5 rfl).2 110 (fun _ _ v _ => v = (.int .i64 (toD a p.1 x))) rfl (by rw [hFs15]; rfl)
                  have e116 : s' 116 = (.int .i64 (toD b p.2 x)) := (H 11 rfl).2 116 (fun _ _ v _ => v = (.int .i64 (toD b p.2 x))) rfl (by rw [hFs15]; rfl)
                  exact DoesT_pure (r_build (ps := [(0, (.int .i64 (toD a p.1 x))), (1, (.int .i64 (toD b p.2 x)))]) (v := (.agg #[(.int .i64 (toD a p.1 x)), (.int .i64 (toD b p.2 x))])) (bld2 e110 e116) (by kernel_rfl)) rfl
                refine DagStepsS.cons (StabS.chg (U := none1) (fun v w w' x h => alF_ext _ _ _ v w w' x h) (fun p y hp hw h => by
                      exact h.elim)) (LocS.const) (fun S s' w' hi hN X U H => Or.inl ⟨Guarded_none rfl, ?_⟩) ?_
                · replace X := X.mono (M' := none1) (fun y _ h => by
                      obtain ⟨j, hj, h⟩ := h
                      exact h.elim)
                  exact DoesT_alloc (c := #[(.int .i64 0), (.int .i64 0)]) zer75 rfl (by have := X0.size; have := X.size; omega)
                refine DagStepsS.tail ?_
                exact DagStepsS.nil
              · intro s' wd15 w15 X0 X15 U H
                replace X15 := X15.mono (M' := none1) (fun y _ h => by
                    obtain ⟨j, hj, h⟩ := h
                    exact h.elim)
                have e117 : s' 117 = (.agg #[(.int .i64 (toD a p.1 x)), (.int .i64 (toD b p.2 x))]) := H 12 rfl 117 (fun _ _ v _ => v = (.agg #[(.int .i64 (toD a p.1 x)), (.int .i64 (toD b p.2 x))])) rfl (by rw [hFs15]; rfl)
                obtain ⟨b18, e18, B18, g18⟩ := (show ((fun _ _ => alF 75 #[(.int .i64 0), (.int .i64 0)] W13.heap.size) : FctS) (allS [true, true, true, true, true, true, true, true, true, true, true, true, true, true, false]) s' (s' 18) w15 from H 13 rfl 18 (fun _ _ => alF 75 #[(.int .i64 0), (.int .i64 0)] W13.heap.size) rfl (by rw [hFs15]; rfl))
                obtain ⟨j15, rfl⟩ := Fits.out (σ := s') (l := [(2, (.pointer (some ⟨bp, 0, none⟩))), (3, (.pointer (some ⟨bq, 0, none⟩))), (9, (.func (.func 51) #[] #[])), (10, (.func (.func 52) #[] #[])), (11, (.slice sa sn sc2)), (12, (.map (some bm))), (13, (.int .i64 ((i : Nat) : Int))), (14, (.pointer (some ⟨bn, 0, none⟩))), (17, (.int .i64 ((x : Nat) : Int))), (101, (.int .i64 ((c : Nat) : Int))), (102, (.int .i64 ((x : Nat) : Int))), (117, (.agg #[(.int .i64 (toD a p.1 x)), (.int .i64 (toD b p.2 x))])), (18, (.pointer (some ⟨b18, 0, none⟩)))]) ⟨U 2 rfl, U 3 rfl, U 9 rfl, U 10 rfl, U 11 rfl, U 12 rfl, U 13 rfl, U 14 rfl, U 17 rfl, U 101 rfl, U 102 rfl, e117, e18, trivial⟩
                clear U H
                replace Bp := (X0.trans X15).keep Bp
                replace Bq := (X0.trans X15).keep Bq
                replace Mm := (X0.trans X15).keepM Mm
                replace Bn := (X0.trans X15).keep Bn
                replace hS := own_ext hS (X0.trans X15)
                replace hsz := Nat.le_trans hsz (X0.trans X15).size
                replace X15 := X0.trans X15
                replace E := E.ext X15
                refine s_storeAgg (b := b18) (o := 0) (c' := #[(.int .i64 (toD a p.1 x)), (.int .i64 (toD b p.2 x))]) rfl rfl (by simp [Value.oneCell']) siz75 rfl B18 (by simp) rfl ?_
                intro w16 S16
                replace hS := own_chg hS S16.chg fun y hy h => by have := hS1 y hy; have h' : y = b18 := h; omega
                replace hsz := Nat.le_trans hsz S16.chg.size
                replace Bp := S16.keep (by omega) Bp
                replace Bq := S16.keep (by omega) Bq
                replace Mm := S16.keepM (by omega) Mm
                replace Bn := S16.keep (by omega) Bn
                replace E := S16.step E (by first | exact Or.inl (by omega) | exact Or.inr rfl | exact Or.inr (by assumption) | exact Or.inr (by simp) | exact Or.inr (by omega) | exact Or.inr (by dsimp only; omega))
                replace B18 := S16.blk
                refine WpL_nil ?_
                refine thn_normal ?_
                refine Wp_seq_region ?_
                refine WpL_val rfl rfl (by decide) (r_move (v := (.map (some bm))) rfl) ?_
                refine WpL_val rfl rfl (by decide) (r_loadAgg (vs := [(.int .i64 (toD a p.1 x)), (.int .i64 (toD b p.2 x))]) rfl agg75 siz75 rfl (B18.cells rfl)) ?_
                refine WpL_val (v := (.bool ((getM (seenM work) (toD a p.1 x, toD b p.2 x)).getD false))) rfl rfl (by decide) (r_lookup (k := (toD a p.1 x, toD b p.2 x)) (z := false) Try.underlying76 (key75) zer4 Mm rfl rfl) ?_
                refine WpL_val rfl rfl (by decide) (r_not (b := (getM (seenM work) (toD a p.1 x, toD b p.2 x)).getD false) rfl) ?_
                refine WpL_nil ?_
                skip
                refine Wp_cond (b := !((getM (seenM work) (toD a p.1 x, toD b p.2 x)).getD false)) rfl (fun hnew => ?_) (fun hnew => ?_)
                · have khnew := hnew
                  replace hnew := by simpa using hnew
                  have hnm : (toD a p.1 x, toD b p.2 x) ∉ work := fun hm => by rw [seenM_get, decide_eq_true hm] at khnew; cases khnew
                  have htgp := hno i p (by omega) hpi
                  have hBn := hB.new hpi hvi (show x < c by omega) rfl hnm
                  have hRn := hR.step (nextB_new hpi hvi (by omega) htgp rfl hnm)
                  have hndn := hnd.push hB.plen (by have := lt_of_get hpi; omega) (toD a p.1 x, toD b p.2 x) i x
                  have hwl2 : work.length ≤ mx := by rw [hmx]; exact pairs_few hB.nd hsl
                  refine Wp_seq_region ?_
                  refine WpL_val rfl rfl (by decide) (r_move (v := (.map (some bm))) rfl) ?_
                  refine WpL_val rfl rfl (by decide) (r_loadAgg (vs := [(.int .i64 (toD a p.1 x)), (.int .i64 (toD b p.2 x))]) rfl agg75 siz75 rfl (B18.cells rfl)) ?_
                  refine s_mapUpdate (k := (toD a p.1 x, toD b p.2 x)) (v := true) Try.underlying76 (key75) Mm rfl rfl rfl ?_
                  intro w18 S18 H18
                  replace hS := own_chg hS S18.chg fun y hy h => (hap y hy).1 h
                  replace hsz := Nat.le_trans hsz S18.chg.size
                  replace Bp := S18.keep (by omega) Bp
                  replace Bq := S18.keep (by omega) Bq
                  replace Bn := S18.keep (by omega) Bn
                  replace B18 := S18.keep (by omega) B18
                  replace E := S18.step E (by first | exact Or.inl (by omega) | exact Or.inr rfl | exact Or.inr (by assumption) | exact Or.inr (by simp) | exact Or.inr (by omega) | exact Or.inr (by dsimp only; omega))
                  replace Mm := H18
                  refine WpL_nil ?_
                  refine Wp_region ?_
                  refine WpL_val rfl rfl (by decide) (r_move (v := (.slice sa sn sc2)) rfl) ?_
                  refine WpL_val rfl rfl (by decide) (r_indexArr (b := b18) (o := 0) (i := 0) (o' := 0) rfl rfl rfl Try.underlying75 siz3 (by omega) (by omega)) ?_
                  refine WpL_val rfl rfl (by decide) (r_load (v := (.int .i64 (toD a p.1 x))) rfl flat3 (B18.cell rfl)) ?_
                  refine WpL_val rfl rfl (by decide) (r_indexArr (b := b18) (o := 0) (i := 1) (o' := 1) rfl rfl rfl Try.underlying75 siz3 (by omega) (by omega)) ?_
                  refine WpL_val rfl rfl (by decide) (r_load (v := (.int .i64 (toD b p.2 x))) rfl flat3 (B18.cell rfl)) ?_
                  refine WpL_val rfl rfl (by decide) (r_move (v := (.int .i64 ((i : Nat) : Int))) rfl) ?_
                  refine WpL_val rfl rfl (by decide) (r_move (v := (.int .i64 ((x : Nat) : Int))) rfl) ?_
                  refine WpL_val rfl rfl (by decide) (r_build (ps := [(0, (.int .i64 (toD a p.1 x))), (1, (.int .i64 (toD b p.2 x))), (2, (.int .i64 ((i : Nat) : Int))), (3, (.int .i64 ((x : Nat) : Int)))]) (v := (.agg #[(.int .i64 (toD a p.1 x)), (.int .i64 (toD b p.2 x)), (.int .i64 ((i : Nat) : Int)), (.int .i64 ((x : Nat) : Int))])) rfl (by kernel_rfl)) ?_
                  refine s_buildSlice (ps := [(0, (.agg #[(.int .i64 (toD a p.1 x)), (.int .i64 (toD b p.2 x)), (.int .i64 ((i : Nat) : Int)), (.int .i64 ((x : Nat) : Int))]))]) (c := #[(.int .i64 (toD a p.1 x)), (.int .i64 (toD b p.2 x)), (.int .i64 ((i : Nat) : Int)), (.int .i64 ((x : Nat) : Int))]) (by decide) rfl Try.underlying74 siz73 zer73 (by decide) (by decide) (by kernel_rfl) ?_
                  intro b19 w19 N19
                  have F19 := N19.ge E
                  have O19_bp := N19.lt Bp
                  have O19_bq := N19.lt Bq
                  have O19_bm := N19.ltM Mm
                  have O19_bn := N19.lt Bn
                  have O19_b18 := N19.lt B18
                  replace Bp := N19.keep Bp
                  replace Bq := N19.keep Bq
                  replace Mm := N19.keepM Mm
                  replace Bn := N19.keep Bn
                  replace B18 := N19.keep B18
                  replace hS := own_ext hS N19.ext
                  replace hsz := Nat.le_trans hsz N19.ext.size
                  replace E := E.ext N19.ext
                  have B19 := N19.blk
                  have hbn9 : bn < (w19).heap.size ∧ bm < (w19).heap.size := ⟨Bn.lt, Mm.lt⟩
                  refine s_append (base := n1) (n := sn) (m := 1) (xs := (nds.map ndC).flatten) (news := [(.int .i64 (toD a p.1 x)), (.int .i64 (toD b p.2 x)), (.int .i64 ((i : Nat) : Int)), (.int .i64 ((x : Nat) : Int))]) (size := 4) (bytes := 32) (v := (.slice sa sn sc2)) (by decide) Try.underlying74 siz73 byt73 zer73 rfl (by decide) rfl hS rfl (rfl) (B19.cells rfl) (by simp [Value.oneCell']) (by unfold maxLen; omega) (by omega) ((by omega)) ?_
                  intro v7 w59 Ov7 Cv7 Dv7
                  replace Bp := Cv7.keep (fun h => by have := (hS.lt _ h).1; omega) Bp
                  replace Bq := Cv7.keep (fun h => by have := (hS.lt _ h).1; omega) Bq
                  replace Mm := Cv7.keepM (fun h => (hap _ h).1 rfl) Mm
                  replace Bn := Cv7.keep (fun h => (hap _ h).2 rfl) Bn
                  replace E := E.step Cv7 (fun x hx h => absurd (hS.lt x h).1 (by omega))
                  obtain ⟨sa3, sc3, rfl⟩ := own_form Ov7
                  replace Mm : MapAt (w59) bm kPair kBool (putM (seenM work) (toD a p.1 x, toD b p.2 x) true) := Mm
                  rw [seenM_put hnm] at Mm
                  refine WpL_val rfl rfl (by decide) (r_assign (v := (.slice sa3 (sn + 1) sc3)) rfl) ?_
                  refine WpL_nil ?_
                  refine inB_normal ?_
                  refine thn_normal ?_
                  refine Wp_region ?_
                  refine WpL_val rfl rfl (by decide) (r_add (k := .i64) (a := ((x : Nat) : Int)) (b := 1) (c := ((x : Nat) : Int) + 1) rfl rfl (wI64 (by omega))) ?_
                  refine WpL_val rfl rfl (by decide) (r_move (v := (.int .i64 (((x : Nat) : Int) + 1))) rfl) ?_
                  refine WpL_nil ?_
                  refine thn_normal ?_
                  exact ⟨c - (x + 1), by omega, x + 1, work ++ [(toD a p.1 x, toD b p.2 x)], wd ++ [v ++ [x]], ps ++ [(i, x)], nds ++ [(toD a p.1 x, toD b p.2 x, ((i : Nat) : Int), ((x : Nat) : Int))], sa3, sc3, (sn + 1), Fits.out ⟨rfl, rfl, rfl, rfl, rfl, rfl, rfl, rfl, rfl, rfl, trivial⟩, E, Bp, Bq, Mm, Bn, (by omega), hBn, hRn, hndn, (fun j t9 hj ht9 => hno j t9 hj (by rwa [List.getElem?_append_left (by have := lt_of_get hpi; omega)] at ht9)), (fun t9 h9 => by rcases List.mem_append.1 h9 with h8 | h8; exact hsl t9 h8; rw [List.mem_singleton] at h8; subst h8; exact ⟨oka.to, okb.to⟩), (by rw [List.getElem?_append_left (lt_of_get hpi)]; exact hpi), (by rw [List.getElem?_append_left (lt_of_get hvi)]; exact hvi), (by simp [hsn]), (by rw [List.map_append, List.flatten_append]; exact Ov7), (fun b hb => by rcases Dv7 b hb with h9 | h9; exact hap b h9; exact ⟨by omega, by omega⟩), Nat.le_trans hsz Cv7.size, rfl⟩
                · have khnew := hnew
                  replace hnew := by simpa using hnew
                  have hmm : (toD a p.1 x, toD b p.2 x) ∈ work := Classical.byContradiction fun h9 => by rw [seenM_get, decide_eq_false h9] at khnew; cases khnew
                  have htgp := hno i p (by omega) hpi
                  refine Wp_skip ?_
                  refine inB_normal ?_
                  refine thn_normal ?_
                  refine Wp_region ?_
                  refine WpL_val rfl rfl (by decide) (r_add (k := .i64) (a := ((x : Nat) : Int)) (b := 1) (c := ((x : Nat) : Int) + 1) rfl rfl (wI64 (by omega))) ?_
                  refine WpL_val rfl rfl (by decide) (r_move (v := (.int .i64 (((x : Nat) : Int) + 1))) rfl) ?_
                  refine WpL_nil ?_
                  refine thn_normal ?_
                  exact ⟨c - (x + 1), by omega, x + 1, work, wd, ps, nds, sa, sc2, sn, Fits.out ⟨rfl, rfl, rfl, rfl, rfl, rfl, rfl, rfl, rfl, rfl, trivial⟩, E, Bp, Bq, Mm, Bn, (by omega), hB.old hpi rfl hmm, hR.step (nextB_old hpi hvi (by omega) htgp rfl hmm), hnd, hno, hsl, hpi, hvi, hsn, hS, hap, hsz, rfl⟩
            · have khlt2 := hlt2
              replace hlt2 := of_decide_eq_false hlt2
              have hxc : x = c := by omega
              rw [hxc] at hB hR
              have hil := lt_of_get hpi
              have htgp := hno i p (by omega) hpi
              refine Wp_exit ?_
              refine thn_exit ?_
              refine thn_exit ?_
              refine inB_here ?_
              refine inB_normal ?_
              refine thn_normal ?_
              refine Wp_region ?_
              refine WpL_val rfl rfl (by decide) (r_move (v := (.int .i64 ((i : Nat) : Int))) rfl) ?_
              refine WpL_val rfl rfl (by decide) (r_add (k := .i64) (a := ((i : Nat) : Int)) (b := 1) (c := ((i : Nat) : Int) + 1) rfl rfl (wI64 (by omega))) ?_
              refine WpL_val rfl rfl (by decide) (r_assign (v := (.int .i64 (((i : Nat) : Int) + 1))) rfl) ?_
              refine WpL_nil ?_
              refine thn_normal ?_
              exact ⟨mx - (i + 1), by omega, i + 1, work, wd, ps, nds, sa, sc2, sn, Fits.out ⟨rfl, rfl, rfl, rfl, rfl, rfl, rfl, trivial⟩, E, Bp, Bq, Mm, hB.row, hR.step (nextB_row hpi hvi htgp), hnd, hno, hsl, hsn, (by omega), hS, (fun b hb => (hap b hb).1), hsz, rfl⟩
    · have khlt := hlt
      replace hlt := of_decide_eq_false hlt
      refine Wp_exit ?_
      refine thn_exit ?_
      refine thn_exit ?_
      refine inB_here ?_
      refine thn_normal ?_
      refine Wp_seq_region ?_
      refine WpL_val rfl rfl (by decide) (r_assign (v := (.bool true)) rfl) ?_
      refine WpL_val rfl rfl (by decide) (r_assign (v := (.slice none 0 0)) rfl) ?_
      refine WpL_val rfl rfl (by decide) (r_assign (v := (.int .i64 0)) rfl) ?_
      refine WpL_nil ?_
      refine Wp_ret ?_
      refine fin_tmp3 Try.results11 (v := (.bool true)) (v' := (.slice none 0 0)) (v'' := (.int .i64 0)) rfl rfl rfl ?_
      exact ⟨⟨true, [], none, 0, rfl, SlAt.nil _ _ _ _, ⟨fun _ => ⟨rfl, hB.same_yes hno (by omega)⟩, (fun h => by cases h), ⟨_, hR, nextB_end (List.getElem?_eq_none (by show work.length ≤ i; omega)), (fun h => by cases h), by symm; rw [decide_eq_true_iff]; show work.length ≤ i; omega⟩⟩, Nat.zero_le _⟩, E⟩
end Go.Proofs
namespace Go.Proofs
open Go Go.Eng Go.Sort
set_option maxRecDepth 100000
theorem bD_at {w : World} {a p q n T1 T2 T3 T4 : Nat} (Ba : Blk w a #[.int .i64 (-1), .int .i64 7] T1) (Bp : Blk w p #[.int .i64 1] T2) (Bq : Blk w q #[.int .i64 (-1)] T3) (Bn : Blk w n #[.slice (some ⟨p, 0, none⟩) 1 1, .slice (some ⟨q, 0, none⟩) 1 1] T4) :
    DfaAt w bD [.int .i64 0, .slice (some ⟨a, 0, none⟩) 2 2, .slice (some ⟨n, 0, none⟩) 2 2] := by
  refine ⟨_, _, _, _, rfl, ints_own (l := [-1, 7]) (rest := []) Ba (by decide) (by decide), [.slice (some ⟨p, 0, none⟩) 1 1, .slice (some ⟨q, 0, none⟩) 1 1], ⟨_, _, rfl, by simp, by simp, .inr ⟨n, 0, rfl, ?_⟩⟩, rfl, ?_⟩
  · intro i r hr
    rcases i with _ | _ | i
    · simp at hr; subst hr
      intro j u hu
      cases j with
      | zero => simp at hu; subst hu; exact Bn.cell rfl
      | succ j => simp at hu
    · simp at hr; subst hr
      intro j u hu
      cases j with
      | zero => simp at hu; subst hu; exact Bn.cell rfl
      | succ j => simp at hu
    · simp at hr
  · intro i u l hu hl
    rcases i with _ | _ | i
    · simp [bD] at hu hl; subst hu; subst hl; exact ints_own (l := [1]) (rest := []) Bp (by decide) (by decide)
    · simp [bD] at hu hl; subst hu; subst hl; exact ints_own (l := [-1]) (rest := []) Bq (by decide) (by decide)
    · simp at hu
def evnF : Fct := fun v w => ∃ aa ac na nc, v = .agg #[.int .i64 0, .slice aa 2 ac, .slice na 2 nc] ∧ DfaAt w evnD [.int .i64 0, .slice aa 2 ac, .slice na 2 nc]
theorem evnF_ext : ∀ v w w', Ext w w' → evnF v w → evnF v w' := by
  rintro v w w' e ⟨aa, ac, na, nc, h1, h2⟩
  exact ⟨aa, ac, na, nc, h1, h2.ext e⟩
set_option maxHeartbeats 4000000 in
theorem mbegun_c (w0 : World) : Ret Try.prog 20 #[] w0 fun r w => r = .bool true ∧ Ext w0 w := by
  refine Ret_of Try.func20 rfl Try.ntmps20 (Nat.le_of_ble_eq_true rfl) ?_
  have E : Chg none1 w0 w0 := Chg.refl _ _
  refine Wp_seq_region ?_
  refine WpL_val rfl rfl (by decide) (r_assign (v := (.bool false)) rfl) ?_
  refine WpL_nil ?_
  refine Wp_seq_region ?_
  refine WpL_enter rfl rfl (by decide) (r_callF (vs := []) Try.func27 nm27 bd27 rfl) (evn_d _) ?_
  rintro _ w9 ⟨⟨aa, ac, na, nc, rfl, hv⟩, X9⟩
  replace E := E.ext X9
  refine WpL_enter rfl rfl (by decide) (r_callF (vs := [(.agg #[(.int .i64 0), (.slice aa 2 ac), (.slice na 2 nc)])]) Try.func22 nm22 bd22 rfl) (miniMin_c _ 2 1 evnD _ evn_ok hv (by decide) (by decide) evnD_acc) ?_
  rintro _ w19 ⟨⟨C1, ca1, cc1, ma1, mc1, hC1, hl1, hx1, rfl, hN1⟩, X19⟩
  replace E := E.ext X19
  have hD1 := hN1.at'
  have he1 := CanOf.uniq hC1 can_evn (fun w _ => rfl)
  refine WpL_val rfl rfl (by decide) (r_move (v := (.tuple #[(.agg #[(.int .i64 C1.start), (.slice ca1 C1.accept.length cc1), (.slice ma1 C1.next.length mc1)]), (.int .i64 0)])) rfl) ?_
  refine WpL_val rfl rfl (by decide) (r_extract (vs := #[(.agg #[(.int .i64 C1.start), (.slice ca1 C1.accept.length cc1), (.slice ma1 C1.next.length mc1)]), (.int .i64 0)]) (v := (.agg #[(.int .i64 C1.start), (.slice ca1 C1.accept.length cc1), (.slice ma1 C1.next.length mc1)])) rfl rfl) ?_
  refine WpL_val rfl rfl (by decide) (r_extract (vs := #[(.agg #[(.int .i64 C1.start), (.slice ca1 C1.accept.length cc1), (.slice ma1 C1.next.length mc1)]), (.int .i64 0)]) (v := (.int .i64 0)) rfl rfl) ?_
  refine s_allocStore (v := (.agg #[(.int .i64 C1.start), (.slice ca1 C1.accept.length cc1), (.slice ma1 C1.next.length mc1)])) (c := #[(.int .i64 C1.start), (.slice ca1 C1.accept.length cc1), (.slice ma1 C1.next.length mc1)]) (n := 3) (by decide) zer25 rfl siz25 rfl rfl rfl (by simp [Value.oneCell']) ?_
  intro bd wd Nd
  have Fd := Nd.ge E
  replace hD1 := hD1.ext Nd.ext
  replace E := E.ext Nd.ext
  have Bd := Nd.blk
  refine WpL_val rfl rfl (by decide) (r_assign (v := (.int .i64 0)) rfl) ?_
  refine WpL_nil ?_
  refine Wp_seq_region ?_
  refine s_buildSlice (ps := [(0, (.int .i64 (-1))), (1, (.int .i64 7))]) (c := #[(.int .i64 (-1)), (.int .i64 7)]) (by decide) rfl Try.underlying22 siz3 zer3 (by decide) (by decide) (by kernel_rfl) ?_
  intro bp wp Np
  have Fp := Np.ge E
  have Op_bd := Np.lt Bd
  replace Bd := Np.keep Bd
  replace hD1 := hD1.ext Np.ext
  replace E := E.ext Np.ext
  have Bp := Np.blk
  refine s_buildSlice (ps := [(0, (.int .i64 1))]) (c := #[(.int .i64 1)]) (by decide) rfl Try.underlying22 siz3 zer3 (by decide) (by decide) (by kernel_rfl) ?_
  intro bq wq Nq
  have Fq := Nq.ge E
  have Oq_bd := Nq.lt Bd
  have Oq_bp := Nq.lt Bp
  replace Bd := Nq.keep Bd
  replace Bp := Nq.keep Bp
  replace hD1 := hD1.ext Nq.ext
  replace E := E.ext Nq.ext
  have Bq := Nq.blk
  refine s_buildSlice (ps := [(0, (.int .i64 (-1)))]) (c := #[(.int .i64 (-1))]) (by decide) rfl Try.underlying22 siz3 zer3 (by decide) (by decide) (by kernel_rfl) ?_
  intro br wr Nr
  have Fr := Nr.ge E
  have Or_bd := Nr.lt Bd
  have Or_bp := Nr.lt Bp
  have Or_bq := Nr.lt Bq
  replace Bd := Nr.keep Bd
  replace Bp := Nr.keep Bp
  replace Bq := Nr.keep Bq
  replace hD1 := hD1.ext Nr.ext
  replace E := E.ext Nr.ext
  have Br := Nr.blk
  refine s_buildSlice (ps := [(0, (.slice (some ⟨bq, 0, none⟩) 1 1)), (1, (.slice (some ⟨br, 0, none⟩) 1 1))]) (c := #[(.slice (some ⟨bq, 0, none⟩) 1 1), (.slice (some ⟨br, 0, none⟩) 1 1)]) (by decide) rfl Try.underlying23 siz22 zer22 (by decide) (by decide) (by kernel_rfl) ?_
  intro bs ws Ns
  have Fs := Ns.ge E
  have Os_bd := Ns.lt Bd
  have Os_bp := Ns.lt Bp
  have Os_bq := Ns.lt Bq
  have Os_br := Ns.lt Br
  replace Bd := Ns.keep Bd
  replace Bp := Ns.keep Bp
  replace Bq := Ns.keep Bq
  replace Br := Ns.keep Br
  replace hD1 := hD1.ext Ns.ext
  replace E := E.ext Ns.ext
  have Bs := Ns.blk
  refine WpL_val rfl rfl (by decide) (r_build (ps := [(1, (.slice (some ⟨bp, 0, none⟩) 2 2)), (2, (.slice (some ⟨bs, 0, none⟩) 2 2))]) (v := (.agg #[(.int .i64 0), (.slice (some ⟨bp, 0, none⟩) 2 2), (.slice (some ⟨bs, 0, none⟩) 2 2)])) rfl (by kernel_rfl)) ?_
  refine WpL_enter rfl rfl (by decide) (r_callF (vs := [(.agg #[(.int .i64 0), (.slice (some ⟨bp, 0, none⟩) 2 2), (.slice (some ⟨bs, 0, none⟩) 2 2)])]) Try.func23 nm23 bd23 rfl) (back_c _ 2 1 64 bD _ bD_ok (bD_at Bp Bq Br Bs) (by decide) (by decide) (by decide) (by decide) (fun m hm hl => few_bits hm.ok.1 (by omega))) ?_
  rintro _ w29 ⟨⟨C2, ca2, cc2, ma2, mc2, hC2, hl2, hx2, rfl, hN2⟩, X29⟩
  replace Bd := X29.keep Bd
  replace Bp := X29.keep Bp
  replace Bq := X29.keep Bq
  replace Br := X29.keep Br
  replace Bs := X29.keep Bs
  replace hD1 := hD1.ext X29
  replace E := E.ext X29
  have hD2 := hN2.at'
  have he2 := CanOf.uniq hC2 can_bk (fun w _ => rfl)
  have hlen2 : C2.next.length = 2 ∧ C2.accept.length = 2 := by rw [he2]; exact ⟨rfl, rfl⟩
  obtain ⟨hAcc2, _⟩ := hD2.parts
  obtain ⟨cb, co, rfl, hcx⟩ := ints_cells hAcc2 (by omega)
  have hc1 := hcx 1 0 (by rw [he2]; rfl)
  refine WpL_val rfl rfl (by decide) (r_move (v := (.tuple #[(.agg #[(.int .i64 C2.start), (.slice (some ⟨cb, co, none⟩) C2.accept.length cc2), (.slice ma2 C2.next.length mc2)]), (.int .i64 0)])) rfl) ?_
  refine WpL_val rfl rfl (by decide) (r_extract (vs := #[(.agg #[(.int .i64 C2.start), (.slice (some ⟨cb, co, none⟩) C2.accept.length cc2), (.slice ma2 C2.next.length mc2)]), (.int .i64 0)]) (v := (.agg #[(.int .i64 C2.start), (.slice (some ⟨cb, co, none⟩) C2.accept.length cc2), (.slice ma2 C2.next.length mc2)])) rfl rfl) ?_
  refine WpL_val rfl rfl (by decide) (r_extract (vs := #[(.agg #[(.int .i64 C2.start), (.slice (some ⟨cb, co, none⟩) C2.accept.length cc2), (.slice ma2 C2.next.length mc2)]), (.int .i64 0)]) (v := (.int .i64 0)) rfl rfl) ?_
  refine s_allocStore (v := (.agg #[(.int .i64 C2.start), (.slice (some ⟨cb, co, none⟩) C2.accept.length cc2), (.slice ma2 C2.next.length mc2)])) (c := #[(.int .i64 C2.start), (.slice (some ⟨cb, co, none⟩) C2.accept.length cc2), (.slice ma2 C2.next.length mc2)]) (n := 3) (by decide) zer25 rfl siz25 rfl rfl rfl (by simp [Value.oneCell']) ?_
  intro be we Ne
  have Fe := Ne.ge E
  have Oe_bd := Ne.lt Bd
  have Oe_bp := Ne.lt Bp
  have Oe_bq := Ne.lt Bq
  have Oe_br := Ne.lt Br
  have Oe_bs := Ne.lt Bs
  replace Bd := Ne.keep Bd
  replace Bp := Ne.keep Bp
  replace Bq := Ne.keep Bq
  replace Br := Ne.keep Br
  replace Bs := Ne.keep Bs
  replace hD1 := hD1.ext Ne.ext
  replace hc1 := Ne.ext.cell hc1
  replace E := E.ext Ne.ext
  have Be := Ne.blk
  refine WpL_val rfl rfl (by decide) (r_assign (v := (.int .i64 0)) rfl) ?_
  refine WpL_nil ?_
  have hk1 : decide (((C2.next.length : Nat) : Int) = 2) = true := decide_eq_true (by omega)
  have hq2 : decide (C1 = evnD) = true := decide_eq_true he1
  have hz_1 : w0.heap.size ≤ we.heap.size := E.size
  have lz_1_bd : bd < we.heap.size := Bd.lt
  have lz_1_bp : bp < we.heap.size := Bp.lt
  have lz_1_bq : bq < we.heap.size := Bq.lt
  have lz_1_br : br < we.heap.size := Br.lt
  have lz_1_bs : bs < we.heap.size := Bs.lt
  have lz_1_be : be < we.heap.size := Be.lt
  refine Wp_seq ?_
  obtain ⟨Fs1, hFs1⟩ : ∃ Fs : List FctS, Fs = [(fun _ _ v _ => v = (.int .i64 0)), (fun _ _ v _ => v = (.bool true)), (fun _ _ v _ => v = (.bool true)), (fun _ _ v _ => v = (.int .i64 0)), (fun _ _ v _ => v = (.bool true)), (fun _ _ v _ => v = (.bool true)), (fun _ _ v _ => v = (.bool true)), (fun _ _ v _ => v = (.agg #[(.int .i64 C1.start), (.slice ca1 C1.accept.length cc1), (.slice ma1 C1.next.length mc1)])), (fun _ _ => evnF), (fun _ _ v _ => v = (.bool true)), (fun _ _ v _ => v = (.bool true)), (fun _ _ v _ => v = (.bool true)), (fun _ _ v _ => v = (.pointer (some ⟨be, 2, none⟩))), (fun _ _ v _ => v = (.slice ma2 C2.next.length mc2)), (fun _ _ v _ => v = (.int .i64 ((C2.next.length : Nat) : Int))), (fun _ _ v _ => v = (.bool true)), (fun _ _ v _ => v = (.bool true)), (fun _ _ v _ => v = (.bool true)), (fun _ _ v _ => v = (.pointer (some ⟨be, 1, none⟩))), (fun _ _ v _ => v = (.slice (some ⟨cb, co, none⟩) C2.accept.length cc2)), (fun _ _ v _ => v = (.pointer (some ⟨cb, co + 1, none⟩))), (fun _ _ v _ => v = (.int .i64 0)), (fun _ _ v _ => v = (.bool true)), (fun _ _ v _ => v = (.bool true)), (fun _ _ v _ => v = undef)] := ⟨_, rfl⟩
  refine Wp_dagS (MsL []) [true, true, true, true, true, true, true, true, true, true, true, true, true, true, true, true, true, true, true, true, true, true, true, true, false] [24] [19, 20, 21, 22, 23, 24, 25, 26, 27, 28, 29, 30, 31, 32, 33, 34, 35, 36, 37, 38, 39, 40, 41, 42, 67] [[], [0], [1], [2], [2, 3], [2, 4], [2, 5], [6], [6], [6, 7, 8], [6, 9], [9, 10], [11], [11, 12], [11, 13], [11, 14], [11, 15], [11, 16], [17], [17, 18], [17, 19], [17, 20], [17, 21], [17, 22], []] [[], [0], [1, 0], [2, 1, 0], [2, 1, 0, 3], [2, 1, 0, 4, 3], [2, 1, 0, 5, 4, 3], [6, 2, 1, 0, 5, 4, 3], [6, 2, 1, 0, 5, 4, 3], [6, 2, 1, 0, 5, 4, 3, 7, 8], [6, 2, 1, 0, 5, 4, 3, 9, 7, 8], [9, 6, 2, 1, 0, 5, 4, 3, 7, 8, 10], [11, 9, 6, 2, 1, 0, 5, 4, 3, 7, 8, 10], [11, 9, 6, 2, 1, 0, 5, 4, 3, 7, 8, 10, 12], [11, 9, 6, 2, 1, 0, 5, 4, 3, 7, 8, 10, 13, 12], [11, 9, 6, 2, 1, 0, 5, 4, 3, 7, 8, 10, 14, 13, 12], [11, 9, 6, 2, 1, 0, 5, 4, 3, 7, 8, 10, 15, 14, 13, 12], [11, 9, 6, 2, 1, 0, 5, 4, 3, 7, 8, 10, 16, 15, 14, 13, 12], [17, 11, 9, 6, 2, 1, 0, 5, 4, 3, 7, 8, 10, 16, 15, 14, 13, 12], [17, 11, 9, 6, 2, 1, 0, 5, 4, 3, 7, 8, 10, 16, 15, 14, 13, 12, 18], [17, 11, 9, 6, 2, 1, 0, 5, 4, 3, 7, 8, 10, 16, 15, 14, 13, 12, 19, 18], [17, 11, 9, 6, 2, 1, 0, 5, 4, 3, 7, 8, 10, 16, 15, 14, 13, 12, 20, 19, 18], [17, 11, 9, 6, 2, 1, 0, 5, 4, 3, 7, 8, 10, 16, 15, 14, 13, 12, 21, 20, 19, 18], [17, 11, 9, 6, 2, 1, 0, 5, 4, 3, 7, 8, 10, 16, 15, 14, 13, 12, 22, 21, 20, 19, 18], []] Fs1 hFs1 (by kernel_rfl) mixed (by kernel_rfl) (by kernel_rfl) (by kernel_rfl) (by kernel_rfl) ?_ ?_
  · intro wd X0
    refine DagStepsS.cons (StabS.eq) (LocS.const) (fun S s' w' hi hN X U H => Or.inl ⟨Guarded_none rfl, ?_⟩) ?_
    · replace X := X.mono (M' := none1) (fun y _ h => by
          obtain ⟨j, hj, h⟩ := h
          exact h.elim)
      exact DoesT_pure (r_move (v := (.int .i64 0)) (U 2 rfl)) rfl
    refine DagStepsS.cons (StabS.eq) (LocS.const) (fun S s' w' hi hN X U H => Or.inl ⟨Guarded_none rfl, ?_⟩) ?_
    · replace X := X.mono (M' := none1) (fun y _ h => by
          obtain ⟨j, hj, h⟩ := h
          exact h.elim)
      have e19 : s' 19 = (.int .i64 0) := (H 0 rfl).2 19 (fun _ _ v _ => v = (.int .i64 0)) rfl (by rw [hFs1]; rfl)
      exact DoesT_pure (r_eql (k := .i64) (a := 0) (b := 0) e19 rfl) rfl
    refine DagStepsS.cons (StabS.eq) (LocS.const) (fun S s' w' hi hN X U H => Or.inl ⟨Guarded_none rfl, ?_⟩) ?_
    · replace X := X.mono (M' := none1) (fun y _ h => by
          obtain ⟨j, hj, h⟩ := h
          exact h.elim)
      have e20 : s' 20 = (.bool true) := (H 1 rfl).2 20 (fun _ _ v _ => v = (.bool true)) rfl (by rw [hFs1]; rfl)
      exact DoesT_pure (r_move (v := (.bool true)) e20) rfl
    refine DagStepsS.cons (StabS.eq) (LocS.const) (fun S s' w' hi hN X U H => Or.inl ⟨Guarded_some rfl rfl (d := 21) ((H 2 rfl).2 21 (fun _ _ v _ => v = (.bool true)) rfl (by rw [hFs1]; rfl)), ?_⟩) ?_
    · replace X := X.mono (M' := none1) (fun y _ h => by
          obtain ⟨j, hj, h⟩ := h
          exact h.elim)
      exact DoesT_pure (r_move (v := (.int .i64 0)) (U 4 rfl)) rfl
    refine DagStepsS.cons (StabS.eq) (LocS.const) (fun S s' w' hi hN X U H => Or.inl ⟨Guarded_some rfl rfl (d := 21) ((H 2 rfl).2 21 (fun _ _ v _ => v = (.bool true)) rfl (by rw [hFs1]; rfl)), ?_⟩) ?_
    · replace X := X.mono (M' := none1) (fun y _ h => by
          obtain ⟨j, hj, h⟩ := h
          exact h.elim)
      have e22 : s' 22 = (.int .i64 0) := (H 3 rfl).2 22 (fun _ _ v _ => v = (.int .i64 0)) rfl (by rw [hFs1]; rfl)
      exact DoesT_pure (r_eql (k := .i64) (a := 0) (b := 0) e22 rfl) rfl
    refine DagStepsS.cons (StabS.eq) (LocS.const) (fun S s' w' hi hN X U H => Or.inl ⟨Guarded_none rfl, ?_⟩) ?_
    · replace X := X.mono (M' := none1) (fun y _ h => by
          obtain ⟨j, hj, h⟩ := h
          exact h.elim)
      have e21 : s' 21 = (.bool true) := (H 2 rfl).2 21 (fun _ _ v _ => v = (.bool true)) rfl (by rw [hFs1]; rfl)
      have e23 : s' 23 = (.bool true) := (H 4 rfl).2 23 (fun _ _ v _ => v = (.bool true)) rfl (by rw [hFs1]; rfl)
      exact DoesT_pure (r_pick (b := true) (v := (.bool true)) e21 e23) rfl
    refine DagStepsS.cons (StabS.eq) (LocS.const) (fun S s' w' hi hN X U H => Or.inl ⟨Guarded_none rfl, ?_⟩) ?_
    · replace X := X.mono (M' := none1) (fun y _ h => by
          obtain ⟨j, hj, h⟩ := h
          exact h.elim)
      have e24 : s' 24 = (.bool true) := (H 5 rfl).2 24 (fun _ _ v _ => v = (.bool true)) rfl (by rw [hFs1]; rfl)
      exact DoesT_pure (r_move (v := (.bool true)) e24) rfl
    refine DagStepsS.cons (StabS.eq) (LocS.const) (fun S s' w' hi hN X U H => Or.inl ⟨Guarded_some rfl rfl (d := 25) ((H 6 rfl).2 25 (fun _ _ v _ => v = (.bool true)) rfl (by rw [hFs1]; rfl)), ?_⟩) ?_
    · replace X := X.mono (M' := none1) (fun y _ h => by
          obtain ⟨j, hj, h⟩ := h
          exact h.elim)
      exact DoesT_pure (r_loadAgg (vs := [(.int .i64 C1.start), (.slice ca1 C1.accept.length cc1), (.slice ma1 C1.next.length mc1)]) (U 1 rfl) agg25 siz25 rfl (((X0.trans X).keep Bd).cells rfl)) rfl
    refine DagStepsS.cons (StabS.chg (U := none1) (evnF_ext) (fun p y hp hw h => by
          exact h.elim)) (LocS.const) (fun S s' w' hi hN X U H => Or.inl ⟨Guarded_some rfl rfl (d := 25) ((H 6 rfl).2 25 (fun _ _ v _ => v = (.bool true)) rfl (by rw [hFs1]; rfl)), ?_⟩) ?_
    · replace X := X.mono (M' := none1) (fun y _ h => by
          obtain ⟨j, hj, h⟩ := h
          exact h.elim)
      exact DoesT_callE (r_callF (vs := []) Try.func27 nm27 bd27 rfl) ((evn_d _).mono (fun v w h => h))
    refine DagStepsS.cons (StabS.eq) (LocS.const) (fun S s' w' hi hN X U H => Or.inl ⟨Guarded_some rfl rfl (d := 25) ((H 6 rfl).2 25 (fun _ _ v _ => v = (.bool true)) rfl (by rw [hFs1]; rfl)), ?_⟩) ?_
    · replace X := X.mono (M' := none1) (fun y _ h => by
          obtain ⟨j, hj, h⟩ := h
          exact h.elim)
      have e26 : s' 26 = (.agg #[(.int .i64 C1.start), (.slice ca1 C1.accept.length cc1), (.slice ma1 C1.next.length mc1)]) := (H 7 rfl).2 26 (fun _ _ v _ => v = (.agg #[(.int .i64 C1.start), (.slice ca1 C1.accept.length cc1), (.slice ma1 C1.next.length mc1)])) rfl (by rw [hFs1]; rfl)
      obtain ⟨aa27, ac27, na27, nc27, e27, d27⟩ := (show ((fun _ _ => evnF) : FctS) S s' (s' 27) w' from (H 8 rfl).2 27 (fun _ _ => evnF) rfl (by rw [hFs1]; rfl))
      exact DoesT_callE (r_callF (vs := [(.agg #[(.int .i64 C1.start), (.slice ca1 C1.accept.length cc1), (.slice ma1 C1.next.length mc1)]), (.agg #[(.int .i64 0), (.slice aa27 2 ac27), (.slice na27 2 nc27)])]) Try.func25 nm25 bd25 (lst2 e26 e27)) ((equalD_c _ C1 evnD _ _ (hD1.ext (X0.trans X)) d27 (by omega)).mono (fun v w h => ⟨h.1.trans (by rw [hq2]), h.2⟩))
    refine DagStepsS.cons (StabS.eq) (LocS.const) (fun S s' w' hi hN X U H => Or.inl ⟨Guarded_none rfl, ?_⟩) ?_
    · replace X := X.mono (M' := none1) (fun y _ h => by
          obtain ⟨j, hj, h⟩ := h
          exact h.elim)
      have e25 : s' 25 = (.bool true) := (H 6 rfl).2 25 (fun _ _ v _ => v = (.bool true)) rfl (by rw [hFs1]; rfl)
      have e28 : s' 28 = (.bool true) := (H 9 rfl).2 28 (fun _ _ v _ => v = (.bool true)) rfl (by rw [hFs1]; rfl)
      exact DoesT_pure (r_pick (b := true) (v := (.bool true)) e25 e28) rfl
    refine DagStepsS.cons (StabS.eq) (LocS.const) (fun S s' w' hi hN X U H => Or.inl ⟨Guarded_none rfl, ?_⟩) ?_
    · replace X := X.mono (M' := none1) (fun y _ h => by
          obtain ⟨j, hj, h⟩ := h
          exact h.elim)
      have e29 : s' 29 = (.bool true) := (H 10 rfl).2 29 (fun _ _ v _ => v = (.bool true)) rfl (by rw [hFs1]; rfl)
      exact DoesT_pure (r_move (v := (.bool true)) e29) rfl
    refine DagStepsS.cons (StabS.eq) (LocS.const) (fun S s' w' hi hN X U H => Or.inl ⟨Guarded_some rfl rfl (d := 30) ((H 11 rfl).2 30 (fun _ _ v _ => v = (.bool true)) rfl (by rw [hFs1]; rfl)), ?_⟩) ?_
    · replace X := X.mono (M' := none1) (fun y _ h => by
          obtain ⟨j, hj, h⟩ := h
          exact h.elim)
      exact DoesT_pure (r_fieldAddr (b := be) (o := 0) (o' := 2) (U 3 rfl) Try.underlying25 rfl siz23 rfl) rfl
    refine DagStepsS.cons (StabS.eq) (LocS.const) (fun S s' w' hi hN X U H => Or.inl ⟨Guarded_some rfl rfl (d := 30) ((H 11 rfl).2 30 (fun _ _ v _ => v = (.bool true)) rfl (by rw [hFs1]; rfl)), ?_⟩) ?_
    · replace X := X.mono (M' := none1) (fun y _ h => by
          obtain ⟨j, hj, h⟩ := h
          exact h.elim)
      have e31 : s' 31 = (.pointer (some ⟨be, 2, none⟩)) := (H 12 rfl).2 31 (fun _ _ v _ => v = (.pointer (some ⟨be, 2, none⟩))) rfl (by rw [hFs1]; rfl)
      exact DoesT_pure (r_load (v := (.slice ma2 C2.next.length mc2)) e31 flat23 (((X0.trans X).keep Be).cell rfl)) rfl
    refine DagStepsS.cons (StabS.eq) (LocS.const) (fun S s' w' hi hN X U H => Or.inl ⟨Guarded_some rfl rfl (d := 30) ((H 11 rfl).2 30 (fun _ _ v _ => v = (.bool true)) rfl (by rw [hFs1]; rfl)), ?_⟩) ?_
    · replace X := X.mono (M' := none1) (fun y _ h => by
          obtain ⟨j, hj, h⟩ := h
          exact h.elim)
      have e32 : s' 32 = (.slice ma2 C2.next.length mc2) := (H 13 rfl).2 32 (fun _ _ v _ => v = (.slice ma2 C2.next.length mc2)) rfl (by rw [hFs1]; rfl)
      exact DoesT_pure (r_lenSlice (ad := ma2) (n := C2.next.length) (cap := mc2) Try.underlying23 e32) rfl
    refine DagStepsS.cons (StabS.eq) (LocS.const) (fun S s' w' hi hN X U H => Or.inl ⟨Guarded_some rfl rfl (d := 30) ((H 11 rfl).2 30 (fun _ _ v _ => v = (.bool true)) rfl (by rw [hFs1]; rfl)), ?_⟩) ?_
    · replace X := X.mono (M' := none1) (fun y _ h => by
          obtain ⟨j, hj, h⟩ := h
          exact h.elim)
      have e33 : s' 33 = (.int .i64 ((C2.next.length : Nat) : Int)) := (H 14 rfl).2 33 (fun _ _ v _ => v = (.int .i64 ((C2.next.length : Nat) : Int))) rfl (by rw [hFs1]; rfl)
      exact DoesT_pure (Eq.trans (r_eql (k := .i64) (a := ((C2.next.length : Nat) : Int)) (b := 2) e33 rfl) (by rw [hk1])) rfl
    refine DagStepsS.cons (StabS.eq) (LocS.const) (fun S s' w' hi hN X U H => Or.inl ⟨Guarded_none rfl, ?_⟩) ?_
    · replace X := X.mono (M' := none1) (fun y _ h => by
          obtain ⟨j, hj, h⟩ := h
          exact h.elim)
      have e30 : s' 30 = (.bool true) := (H 11 rfl).2 30 (fun _ _ v _ => v = (.bool true)) rfl (by rw [hFs1]; rfl)
      have e34 : s' 34 = (.bool true) := (H 15 rfl).2 34 (fun _ _ v _ => v = (.bool true)) rfl (by rw [hFs1]; rfl)
      exact DoesT_pure (r_pick (b := true) (v := (.bool true)) e30 e34) rfl
    refine DagStepsS.cons (StabS.eq) (LocS.const) (fun S s' w' hi hN X U H => Or.inl ⟨Guarded_none rfl, ?_⟩) ?_
    · replace X := X.mono (M' := none1) (fun y _ h => by
          obtain ⟨j, hj, h⟩ := h
          exact h.elim)
      have e35 : s' 35 = (.bool true) := (H 16 rfl).2 35 (fun _ _ v _ => v = (.bool true)) rfl (by rw [hFs1]; rfl)
      exact DoesT_pure (r_move (v := (.bool true)) e35) rfl
    refine DagStepsS.cons (StabS.eq) (LocS.const) (fun S s' w' hi hN X U H => Or.inl ⟨Guarded_some rfl rfl (d := 36) ((H 17 rfl).2 36 (fun _ _ v _ => v = (.bool true)) rfl (by rw [hFs1]; rfl)), ?_⟩) ?_
    · replace X := X.mono (M' := none1) (fun y _ h => by
          obtain ⟨j, hj, h⟩ := h
          exact h.elim)
      exact DoesT_pure (r_fieldAddr (b := be) (o := 0) (o' := 1) (U 3 rfl) Try.underlying25 rfl siz22 rfl) rfl
    refine DagStepsS.cons (StabS.eq) (LocS.const) (fun S s' w' hi hN X U H => Or.inl ⟨Guarded_some rfl rfl (d := 36) ((H 17 rfl).2 36 (fun _ _ v _ => v = (.bool true)) rfl (by rw [hFs1]; rfl)), ?_⟩) ?_
    · replace X := X.mono (M' := none1) (fun y _ h => by
          obtain ⟨j, hj, h⟩ := h
          exact h.elim)
      have e37 : s' 37 = (.pointer (some ⟨be, 1, none⟩)) := (H 18 rfl).2 37 (fun _ _ v _ => v = (.pointer (some ⟨be, 1, none⟩))) rfl (by rw [hFs1]; rfl)
      exact DoesT_pure (r_load (v := (.slice (some ⟨cb, co, none⟩) C2.accept.length cc2)) e37 flat22 (((X0.trans X).keep Be).cell rfl)) rfl
    refine DagStepsS.cons (StabS.eq) (LocS.const) (fun S s' w' hi hN X U H => Or.inl ⟨Guarded_some rfl rfl (d := 36) ((H 17 rfl).2 36 (fun _ _ v _ => v = (.bool true)) rfl (by rw [hFs1]; rfl)), ?_⟩) ?_
    · replace X := X.mono (M' := none1) (fun y _ h => by
          obtain ⟨j, hj, h⟩ := h
          exact h.elim)
      have e38 : s' 38 = (.slice (some ⟨cb, co, none⟩) C2.accept.length cc2) := (H 19 rfl).2 38 (fun _ _ v _ => v = (.slice (some ⟨cb, co, none⟩) C2.accept.length cc2)) rfl (by rw [hFs1]; rfl)
      exact DoesT_pure (r_indexSlice (b := cb) (o := co) (len := C2.accept.length) (cap := cc2) (i := 1) (o' := co + 1) e38 rfl rfl Try.underlying22 siz3 (by omega) (by omega)) rfl
    refine DagStepsS.cons (StabS.eq) (LocS.const) (fun S s' w' hi hN X U H => Or.inl ⟨Guarded_some rfl rfl (d := 36) ((H 17 rfl).2 36 (fun _ _ v _ => v = (.bool true)) rfl (by rw [hFs1]; rfl)), ?_⟩) ?_
    · replace X := X.mono (M' := none1) (fun y _ h => by
          obtain ⟨j, hj, h⟩ := h
          exact h.elim)
      have e39 : s' 39 = (.pointer (some ⟨cb, co + 1, none⟩)) := (H 20 rfl).2 39 (fun _ _ v _ => v = (.pointer (some ⟨cb, co + 1, none⟩))) rfl (by rw [hFs1]; rfl)
      exact DoesT_pure (r_load (v := (.int .i64 0)) e39 flat3 ((X0.trans X).cell hc1)) rfl
    refine DagStepsS.cons (StabS.eq) (LocS.const) (fun S s' w' hi hN X U H => Or.inl ⟨Guarded_some rfl rfl (d := 36) ((H 17 rfl).2 36 (fun _ _ v _ => v = (.bool true)) rfl (by rw [hFs1]; rfl)), ?_⟩) ?_
    · replace X := X.mono (M' := none1) (fun y _ h => by
          obtain ⟨j, hj, h⟩ := h
          exact h.elim)
      have e40 : s' 40 = (.int .i64 0) := (H 21 rfl).2 40 (fun _ _ v _ => v = (.int .i64 0)) rfl (by rw [hFs1]; rfl)
      exact DoesT_pure (r_eql (k := .i64) (a := 0) (b := 0) e40 rfl) rfl
    refine DagStepsS.cons (StabS.eq) (LocS.const) (fun S s' w' hi hN X U H => Or.inl ⟨Guarded_none rfl, ?_⟩) ?_
    · replace X := X.mono (M' := none1) (fun y _ h => by
          obtain ⟨j, hj, h⟩ := h
          exact h.elim)
      have e36 : s' 36 = (.bool true) := (H 17 rfl).2 36 (fun _ _ v _ => v = (.bool true)) rfl (by rw [hFs1]; rfl)
      have e41 : s' 41 = (.bool true) := (H 22 rfl).2 41 (fun _ _ v _ => v = (.bool true)) rfl (by rw [hFs1]; rfl)
      exact DoesT_pure (r_pick (b := true) (v := (.bool true)) e36 e41) rfl
    refine DagStepsS.tail ?_
    exact DagStepsS.nil
  · intro s' wd1 w1 X0 X1 U H
    replace X1 := X1.mono (M' := none1) (fun y _ h => by
        obtain ⟨j, hj, h⟩ := h
        exact h.elim)
    have e42 : s' 42 = (.bool true) := H 23 rfl 42 (fun _ _ v _ => v = (.bool true)) rfl (by rw [hFs1]; rfl)
    obtain ⟨j1, rfl⟩ := Fits.out (σ := s') (l := [(42, (.bool true))]) ⟨e42, trivial⟩
    clear U H
    replace Bd := (X0.trans X1).keep Bd
    replace Bp := (X0.trans X1).keep Bp
    replace Bq := (X0.trans X1).keep Bq
    replace Br := (X0.trans X1).keep Br
    replace Bs := (X0.trans X1).keep Bs
    replace Be := (X0.trans X1).keep Be
    replace hD1 := hD1.ext (X0.trans X1)
    replace hc1 := (X0.trans X1).cell hc1
    replace X1 := X0.trans X1
    replace E := E.ext X1
    refine WpL_val rfl rfl (by decide) (r_assign (v := (.bool true)) rfl) ?_
    refine WpL_nil ?_
    refine thn_normal ?_
    refine Wp_ret ?_
    refine fin_tmp Try.results20 (v := (.bool true)) rfl ?_
    exact ⟨rfl, E⟩
end Go.Proofs
namespace Go.Proofs
open Go Go.Eng Go.Sort
set_option maxRecDepth 100000
theorem SameOf.wi {c : Nat} {a b : Dfa} {ok : Bool} {w : List Nat} (h : SameOf c a b ok w) : inW c w := by
  cases ok with
  | true => rw [(h.yes rfl).1]; exact inW.nil c
  | false => exact (h.no rfl).1
theorem SameOf.mins {c : Nat} {a b X Y : Dfa} {ok : Bool} {w : List Nat} (h : SameOf c a b ok w) (hX : CanOf c (beh a a.start) X) (hY : CanOf c (beh b b.start) Y) : ok = decide (X = Y) := by
  cases ok with
  | true => symm; rw [decide_eq_true_iff]; exact CanOf.uniq hX hY (h.yes rfl).2
  | false =>
    symm; rw [decide_eq_false_iff_not]
    intro e
    obtain ⟨h1, h2, _⟩ := h.no rfl
    apply h2
    rw [← hX.ok.2.2.1 w h1, ← hY.ok.2.2.1 w h1, e]
set_option maxHeartbeats 8000000 in
theorem told_c (w0 : World) (v1 v2 v3 : Value) (l1 l2 l3 : List Int) (h1 : IntsAt w0 v1 l1) (h2 : IntsAt w0 v2 l2) (h3 : IntsAt w0 v3 l3) :
    Ret Try.prog 7 #[v1, v2, v3] w0 fun r w => r = .bool true ∧ Ext w0 w := by
  refine Ret_of Try.func7 rfl Try.ntmps7 (Nat.le_of_ble_eq_true rfl) ?_
  have E : Chg none1 w0 w0 := Chg.refl _ _
  refine Wp_seq_region ?_
  refine WpL_val rfl rfl (by decide) (r_assign (v := (.bool false)) rfl) ?_
  refine WpL_nil ?_
  refine Wp_seq ?_
  refine Wp_seq_region ?_
  refine WpL_enter rfl rfl (by decide) (r_callF (vs := []) Try.func20 nm20 bd20 rfl) (mbegun_c _) ?_
  rintro _ w9 ⟨rfl, X9⟩
  replace E := E.ext X9
  refine WpL_val rfl rfl (by decide) (r_not (b := true) rfl) ?_
  refine WpL_val rfl rfl (by decide) (r_move (v := (.bool false)) rfl) ?_
  refine WpL_guard_yes (oj := _) rfl rfl (by decide) rfl ?_
  refine WpL_enter rfl rfl (by decide) (r_callF (vs := []) Try.func32 nm32 bd32 rfl) (dfbegun_c _) ?_
  rintro _ w19 ⟨rfl, X19⟩
  replace E := E.ext X19
  refine WpL_guard_yes (oj := _) rfl rfl (by decide) rfl ?_
  refine WpL_val rfl rfl (by decide) (r_not (b := true) rfl) ?_
  refine WpL_val rfl rfl (by decide) (r_pick (b := false) (v := (.bool false)) rfl rfl) ?_
  refine WpL_nil ?_
  refine Wp_cond_false rfl ?_
  refine Wp_skip ?_
  refine thn_normal ?_
  refine Wp_seq_region ?_
  refine WpL_val rfl rfl (by decide) (r_move (v := v1) rfl) ?_
  refine WpL_enter rfl rfl (by decide) (r_callF (vs := [v1, (.int .i64 3)]) Try.func21 nm21 bd21 rfl) (plain_d _ _ l1 (h1.ext E)) ?_
  rintro _ w29 ⟨⟨n1, a, aa, ac, na, nc, hn1, oka, hacca, rfl, hDa⟩, X29⟩
  replace E := E.ext X29
  refine WpL_val rfl rfl (by decide) (r_move (v := v2) rfl) ?_
  refine WpL_enter rfl rfl (by decide) (r_callF (vs := [v2, (.int .i64 3)]) Try.func21 nm21 bd21 rfl) (plain_d _ _ l2 (h2.ext E)) ?_
  rintro _ w39 ⟨⟨n2, b, aa2, ac2, na2, nc2, hn2, okb, haccb, rfl, hDb⟩, X39⟩
  replace hDa := hDa.ext X39
  replace E := E.ext X39
  have E2 : Chg none1 w39 w39 := Chg.refl _ _
  refine s_alloc (c := #[(.int .i64 0), (.slice none 0 0), (.slice none 0 0)]) (by decide) zer25 rfl ?_
  intro ba wa Na
  have Fa := Na.ge E
  have Fa_E2 := Na.ge E2
  replace E := E.ext Na.ext
  have Ba := Na.blk
  replace E2 := E2.ext Na.ext
  refine s_alloc (c := #[(.int .i64 0), (.slice none 0 0), (.slice none 0 0)]) (by decide) zer25 rfl ?_
  intro bb wb Nb
  have Fb := Nb.ge E
  have Fb_E2 := Nb.ge E2
  have Ob_ba := Nb.lt Ba
  replace Ba := Nb.keep Ba
  replace E := E.ext Nb.ext
  have Bb := Nb.blk
  replace E2 := E2.ext Nb.ext
  refine s_storeAgg (b := ba) (o := 0) (c' := #[(.int .i64 a.start), (.slice aa n1 ac), (.slice na n1 nc)]) rfl rfl (by simp [Value.oneCell']) siz25 rfl Ba (by simp) rfl ?_
  intro w1 S1
  replace Bb := S1.keep (by omega) Bb
  replace E := S1.step E (by first | exact Or.inl (by omega) | exact Or.inr rfl | exact Or.inr (by assumption) | exact Or.inr (by simp) | exact Or.inr (by omega) | exact Or.inr (by dsimp only; omega))
  replace E2 := S1.step E2 (Or.inl (by omega))
  replace Ba := S1.blk
  refine s_storeAgg (b := bb) (o := 0) (c' := #[(.int .i64 b.start), (.slice aa2 n2 ac2), (.slice na2 n2 nc2)]) rfl rfl (by simp [Value.oneCell']) siz25 rfl Bb (by simp) rfl ?_
  intro w2 S2
  replace Ba := S2.keep (by omega) Ba
  replace E := S2.step E (by first | exact Or.inl (by omega) | exact Or.inr rfl | exact Or.inr (by assumption) | exact Or.inr (by simp) | exact Or.inr (by omega) | exact Or.inr (by dsimp only; omega))
  replace E2 := S2.step E2 (Or.inl (by omega))
  replace Bb := S2.blk
  refine WpL_nil ?_
  refine Wp_seq_region ?_
  refine WpL_val rfl rfl (by decide) (r_loadAgg (vs := [(.int .i64 a.start), (.slice aa n1 ac), (.slice na n1 nc)]) rfl agg25 siz25 rfl (Ba.cells rfl)) ?_
  refine WpL_val rfl rfl (by decide) (r_loadAgg (vs := [(.int .i64 b.start), (.slice aa2 n2 ac2), (.slice na2 n2 nc2)]) rfl agg25 siz25 rfl (Bb.cells rfl)) ?_
  have hA := hDa.ext E2
  have hB := hDb.ext E2
  have hla : ∀ x ∈ a.accept, x < 2147483648 := fun x h => by have := hacca x h; omega
  have hlb : ∀ x ∈ b.accept, x < 2147483648 := fun x h => by have := haccb x h; omega
  refine WpL_enter rfl rfl (by decide) (r_callF (vs := [(.agg #[(.int .i64 a.start), (.slice aa n1 ac), (.slice na n1 nc)]), (.agg #[(.int .i64 b.start), (.slice aa2 n2 ac2), (.slice na2 n2 nc2)])]) Try.func11 nm11 bd11 rfl) (same_d _ n1 n2 3 a b _ _ oka okb hA hB (by decide) (by omega) (by omega)) ?_
  rintro _ w49 ⟨⟨ok, wl, wa, wc, rfl, hW, hS, hwl⟩, X49⟩
  replace Ba := X49.keep Ba
  replace Bb := X49.keep Bb
  replace hA := hA.ext X49
  replace hB := hB.ext X49
  replace E := E.ext X49
  have hwl2 : wl.length ≤ 49 := Nat.le_trans hwl (Nat.le_trans (Nat.mul_le_mul (show n1 + 1 ≤ 7 by omega) (show n2 + 1 ≤ 7 by omega)) (by decide))
  refine WpL_val rfl rfl (by decide) (r_move (v := (.tuple #[(.bool ok), (.slice wa wl.length wc), (.int .i64 0)])) rfl) ?_
  refine WpL_val rfl rfl (by decide) (r_extract (vs := #[(.bool ok), (.slice wa wl.length wc), (.int .i64 0)]) (v := (.bool ok)) rfl rfl) ?_
  refine WpL_val rfl rfl (by decide) (r_extract (vs := #[(.bool ok), (.slice wa wl.length wc), (.int .i64 0)]) (v := (.slice wa wl.length wc)) rfl rfl) ?_
  refine WpL_val rfl rfl (by decide) (r_extract (vs := #[(.bool ok), (.slice wa wl.length wc), (.int .i64 0)]) (v := (.int .i64 0)) rfl rfl) ?_
  refine WpL_val rfl rfl (by decide) (r_assign (v := (.bool ok)) rfl) ?_
  refine WpL_val rfl rfl (by decide) (r_assign (v := (.slice wa wl.length wc)) rfl) ?_
  refine WpL_val rfl rfl (by decide) (r_assign (v := (.int .i64 0)) rfl) ?_
  refine WpL_nil ?_
  refine Wp_seq_region ?_
  refine WpL_val rfl rfl (by decide) (r_loadAgg (vs := [(.int .i64 a.start), (.slice aa n1 ac), (.slice na n1 nc)]) rfl agg25 siz25 rfl (Ba.cells rfl)) ?_
  refine WpL_enter rfl rfl (by decide) (r_callF (vs := [(.agg #[(.int .i64 a.start), (.slice aa n1 ac), (.slice na n1 nc)])]) Try.func22 nm22 bd22 rfl) (miniMin_c _ n1 3 a _ oka hA (by omega) (by decide) hla) ?_
  rintro _ w59 ⟨⟨C1, ca1, cc1, ma1, mc1, hC1, hl1, hx1, rfl, hN1⟩, X59⟩
  replace Ba := X59.keep Ba
  replace Bb := X59.keep Bb
  replace hA := hA.ext X59
  replace hB := hB.ext X59
  replace hW := hW.ext X59
  replace E := E.ext X59
  have hD1 := hN1.at'
  refine WpL_val rfl rfl (by decide) (r_move (v := (.tuple #[(.agg #[(.int .i64 C1.start), (.slice ca1 C1.accept.length cc1), (.slice ma1 C1.next.length mc1)]), (.int .i64 0)])) rfl) ?_
  refine WpL_val rfl rfl (by decide) (r_extract (vs := #[(.agg #[(.int .i64 C1.start), (.slice ca1 C1.accept.length cc1), (.slice ma1 C1.next.length mc1)]), (.int .i64 0)]) (v := (.agg #[(.int .i64 C1.start), (.slice ca1 C1.accept.length cc1), (.slice ma1 C1.next.length mc1)])) rfl rfl) ?_
  refine WpL_val rfl rfl (by decide) (r_extract (vs := #[(.agg #[(.int .i64 C1.start), (.slice ca1 C1.accept.length cc1), (.slice ma1 C1.next.length mc1)]), (.int .i64 0)]) (v := (.int .i64 0)) rfl rfl) ?_
  refine s_allocStore (v := (.agg #[(.int .i64 C1.start), (.slice ca1 C1.accept.length cc1), (.slice ma1 C1.next.length mc1)])) (c := #[(.int .i64 C1.start), (.slice ca1 C1.accept.length cc1), (.slice ma1 C1.next.length mc1)]) (n := 3) (by decide) zer25 rfl siz25 rfl rfl rfl (by simp [Value.oneCell']) ?_
  intro b3 w3 N3
  have F3 := N3.ge E
  have O3_ba := N3.lt Ba
  have O3_bb := N3.lt Bb
  replace Ba := N3.keep Ba
  replace Bb := N3.keep Bb
  replace hA := hA.ext N3.ext
  replace hB := hB.ext N3.ext
  replace hW := hW.ext N3.ext
  replace hD1 := hD1.ext N3.ext
  replace E := E.ext N3.ext
  have B3 := N3.blk
  refine WpL_val rfl rfl (by decide) (r_assign (v := (.int .i64 0)) rfl) ?_
  refine WpL_nil ?_
  refine Wp_seq_region ?_
  refine WpL_val rfl rfl (by decide) (r_loadAgg (vs := [(.int .i64 b.start), (.slice aa2 n2 ac2), (.slice na2 n2 nc2)]) rfl agg25 siz25 rfl (Bb.cells rfl)) ?_
  refine WpL_enter rfl rfl (by decide) (r_callF (vs := [(.agg #[(.int .i64 b.start), (.slice aa2 n2 ac2), (.slice na2 n2 nc2)])]) Try.func22 nm22 bd22 rfl) (miniMin_c _ n2 3 b _ okb hB (by omega) (by decide) hlb) ?_
  rintro _ w69 ⟨⟨C2, ca2, cc2, ma2, mc2, hC2, hl2, hx2, rfl, hN2⟩, X69⟩
  replace Ba := X69.keep Ba
  replace Bb := X69.keep Bb
  replace B3 := X69.keep B3
  replace hA := hA.ext X69
  replace hB := hB.ext X69
  replace hW := hW.ext X69
  replace hD1 := hD1.ext X69
  replace E := E.ext X69
  have hD2 := hN2.at'
  refine WpL_val rfl rfl (by decide) (r_move (v := (.tuple #[(.agg #[(.int .i64 C2.start), (.slice ca2 C2.accept.length cc2), (.slice ma2 C2.next.length mc2)]), (.int .i64 0)])) rfl) ?_
  refine WpL_val rfl rfl (by decide) (r_extract (vs := #[(.agg #[(.int .i64 C2.start), (.slice ca2 C2.accept.length cc2), (.slice ma2 C2.next.length mc2)]), (.int .i64 0)]) (v := (.agg #[(.int .i64 C2.start), (.slice ca2 C2.accept.length cc2), (.slice ma2 C2.next.length mc2)])) rfl rfl) ?_
  refine WpL_val rfl rfl (by decide) (r_extract (vs := #[(.agg #[(.int .i64 C2.start), (.slice ca2 C2.accept.length cc2), (.slice ma2 C2.next.length mc2)]), (.int .i64 0)]) (v := (.int .i64 0)) rfl rfl) ?_
  refine s_allocStore (v := (.agg #[(.int .i64 C2.start), (.slice ca2 C2.accept.length cc2), (.slice ma2 C2.next.length mc2)])) (c := #[(.int .i64 C2.start), (.slice ca2 C2.accept.length cc2), (.slice ma2 C2.next.length mc2)]) (n := 3) (by decide) zer25 rfl siz25 rfl rfl rfl (by simp [Value.oneCell']) ?_
  intro bd wd Nd
  have Fd := Nd.ge E
  have Od_ba := Nd.lt Ba
  have Od_bb := Nd.lt Bb
  have Od_b3 := Nd.lt B3
  replace Ba := Nd.keep Ba
  replace Bb := Nd.keep Bb
  replace B3 := Nd.keep B3
  replace hA := hA.ext Nd.ext
  replace hB := hB.ext Nd.ext
  replace hW := hW.ext Nd.ext
  replace hD1 := hD1.ext Nd.ext
  replace hD2 := hD2.ext Nd.ext
  replace E := E.ext Nd.ext
  have Bd := Nd.blk
  refine WpL_val rfl rfl (by decide) (r_assign (v := (.int .i64 0)) rfl) ?_
  refine WpL_nil ?_
  refine Wp_seq ?_
  refine Wp_seq_region ?_
  refine WpL_val rfl rfl (by decide) (r_move (v := (.int .i64 0)) rfl) ?_
  refine WpL_val rfl rfl (by decide) (r_move (v := (.int .i64 0)) rfl) ?_
  refine WpL_val rfl rfl (by decide) (r_move (v := (.int .i64 0)) rfl) ?_
  refine s_buildSlice (ps := [(0, (.int .i64 0)), (1, (.int .i64 0)), (2, (.int .i64 0))]) (c := #[(.int .i64 0), (.int .i64 0), (.int .i64 0)]) (by decide) rfl Try.underlying85 siz26 zer26 (by decide) (by decide) (by kernel_rfl) ?_
  intro bg wg Ng
  have Fg := Ng.ge E
  have Og_ba := Ng.lt Ba
  have Og_bb := Ng.lt Bb
  have Og_b3 := Ng.lt B3
  have Og_bd := Ng.lt Bd
  replace Ba := Ng.keep Ba
  replace Bb := Ng.keep Bb
  replace B3 := Ng.keep B3
  replace Bd := Ng.keep Bd
  replace hA := hA.ext Ng.ext
  replace hB := hB.ext Ng.ext
  replace hW := hW.ext Ng.ext
  replace hD1 := hD1.ext Ng.ext
  replace hD2 := hD2.ext Ng.ext
  replace E := E.ext Ng.ext
  have Bg := Ng.blk
  refine WpL_enter rfl rfl (by decide) (r_callF (vs := [(.slice (some ⟨bg, 0, none⟩) 3 3)]) Try.func24 nm24 bd24 rfl) (good_c _ _ [0, 0, 0] (ints_of_blk [0, 0, 0] Bg (by decide) (by decide))) ?_
  rintro _ w79 ⟨rfl, X79⟩
  replace Ba := X79.keep Ba
  replace Bb := X79.keep Bb
  replace B3 := X79.keep B3
  replace Bd := X79.keep Bd
  replace Bg := X79.keep Bg
  replace hA := hA.ext X79
  replace hB := hB.ext X79
  replace hW := hW.ext X79
  replace hD1 := hD1.ext X79
  replace hD2 := hD2.ext X79
  replace E := E.ext X79
  have hok := hS.mins hC1 hC2
  refine WpL_val rfl rfl (by decide) (r_not (b := true) rfl) ?_
  refine WpL_val rfl rfl (by decide) (r_move (v := (.bool false)) rfl) ?_
  refine WpL_guard_yes (oj := _) rfl rfl (by decide) rfl ?_
  refine WpL_val rfl rfl (by decide) (r_move (v := (.bool ok)) rfl) ?_
  refine WpL_guard_yes (oj := _) rfl rfl (by decide) rfl ?_
  refine WpL_val rfl rfl (by decide) (r_loadAgg (vs := [(.int .i64 C1.start), (.slice ca1 C1.accept.length cc1), (.slice ma1 C1.next.length mc1)]) rfl agg25 siz25 rfl (B3.cells rfl)) ?_
  refine WpL_guard_yes (oj := _) rfl rfl (by decide) rfl ?_
  refine WpL_val rfl rfl (by decide) (r_loadAgg (vs := [(.int .i64 C2.start), (.slice ca2 C2.accept.length cc2), (.slice ma2 C2.next.length mc2)]) rfl agg25 siz25 rfl (Bd.cells rfl)) ?_
  refine WpL_guard_yes (oj := _) rfl rfl (by decide) rfl ?_
  refine WpL_enter rfl rfl (by decide) (r_callF (vs := [(.agg #[(.int .i64 C1.start), (.slice ca1 C1.accept.length cc1), (.slice ma1 C1.next.length mc1)]), (.agg #[(.int .i64 C2.start), (.slice ca2 C2.accept.length cc2), (.slice ma2 C2.next.length mc2)])]) Try.func25 nm25 bd25 rfl) (equalD_c _ C1 C2 _ _ hD1 hD2 (by omega)) ?_
  rintro _ w89 ⟨rfl, X89⟩
  replace Ba := X89.keep Ba
  replace Bb := X89.keep Bb
  replace B3 := X89.keep B3
  replace Bd := X89.keep Bd
  replace Bg := X89.keep Bg
  replace hA := hA.ext X89
  replace hB := hB.ext X89
  replace hW := hW.ext X89
  replace hD1 := hD1.ext X89
  replace hD2 := hD2.ext X89
  replace E := E.ext X89
  refine WpL_guard_yes (oj := _) rfl rfl (by decide) rfl ?_
  refine WpL_val rfl rfl (by decide) (r_neqB (p := ok) (q := decide (C1 = C2)) Try.underlying4 rfl rfl) ?_
  refine WpL_val rfl rfl (by decide) (r_pick (b := false) (v := (.bool (ok != (decide (C1 = C2))))) rfl rfl) ?_
  refine WpL_nil ?_
  have hc4 : (ok != (decide (C1 = C2))) = false := by rw [← hok]; cases ok <;> rfl
  refine Wp_cond_false (congrArg Value.bool hc4) ?_
  refine Wp_skip ?_
  refine thn_normal ?_
  refine Wp_seq_region ?_
  refine WpL_val rfl rfl (by decide) (r_move (v := (.slice wa wl.length wc)) rfl) ?_
  refine WpL_val rfl rfl (by decide) (r_lenSlice (ad := wa) (n := wl.length) (cap := wc) Try.underlying22 rfl) ?_
  refine WpL_val rfl rfl (by decide) (r_sub (k := .i64) (a := ((wl.length : Nat) : Int)) (b := 1) (c := ((wl.length : Nat) : Int) - 1) rfl rfl (wI64 (by omega))) ?_
  refine WpL_val rfl rfl (by decide) (r_maxI (k := .i64) (a := 0) (b := ((wl.length : Nat) : Int) - 1) (c := ((wl.length - 1 : Nat) : Int)) rfl rfl (by omega)) ?_
  refine WpL_val rfl rfl (by decide) (r_move (v := v3) rfl) ?_
  refine WpL_enter rfl rfl (by decide) (r_callF (vs := [(.int .i64 3), (.int .i64 ((wl.length - 1 : Nat) : Int)), v3]) Try.func35 nm35 bd35 rfl) (word_c _ _ l3 3 (wl.length - 1) (h3.ext E) (by decide) (by omega)) ?_
  rintro _ w99 ⟨⟨u, ua, uc, rfl, hu, huw, hul⟩, X99⟩
  replace Ba := X99.keep Ba
  replace Bb := X99.keep Bb
  replace B3 := X99.keep B3
  replace Bd := X99.keep Bd
  replace Bg := X99.keep Bg
  replace hA := hA.ext X99
  replace hB := hB.ext X99
  replace hW := hW.ext X99
  replace hD1 := hD1.ext X99
  replace hD2 := hD2.ext X99
  replace E := E.ext X99
  have hul3 : (toI u).length ≤ 4000 := by simp [toI]; omega
  have hwl3 : (toI wl).length ≤ 4000 := by simp [toI]; omega
  have hww := hS.wi
  refine WpL_val rfl rfl (by decide) (r_assign (v := (.slice ua u.length uc)) rfl) ?_
  refine WpL_nil ?_
  refine Wp_seq_region ?_
  refine WpL_val rfl rfl (by decide) (r_loadAgg (vs := [(.int .i64 a.start), (.slice aa n1 ac), (.slice na n1 nc)]) rfl agg25 siz25 rfl (Ba.cells rfl)) ?_
  refine WpL_val rfl rfl (by decide) (r_move (v := (.slice wa wl.length wc)) rfl) ?_
  refine WpL_enter rfl rfl (by decide) (r_callF (vs := [(.agg #[(.int .i64 a.start), (.slice aa n1 ac), (.slice na n1 nc)]), (.slice wa wl.length wc)]) Try.func31 nm31 bd31 rfl) (dfrun_c _ n1 3 a _ _ (toI wl) oka hA (by omega) (by decide) hW hwl3 (toI_rng hww)) ?_
  rintro _ wpp ⟨rfl, Xp⟩
  replace Ba := Xp.keep Ba
  replace Bb := Xp.keep Bb
  replace B3 := Xp.keep B3
  replace Bd := Xp.keep Bd
  replace Bg := Xp.keep Bg
  replace hA := hA.ext Xp
  replace hB := hB.ext Xp
  replace hW := hW.ext Xp
  replace hD1 := hD1.ext Xp
  replace hD2 := hD2.ext Xp
  replace hu := hu.ext Xp
  replace E := E.ext Xp
  refine WpL_val rfl rfl (by decide) (r_move (v := (.tuple #[(.int .i64 (beh a a.start ((toI wl).map Int.toNat))), (.int .i64 0)])) rfl) ?_
  refine WpL_val rfl rfl (by decide) (r_extract (vs := #[(.int .i64 (beh a a.start ((toI wl).map Int.toNat))), (.int .i64 0)]) (v := (.int .i64 (beh a a.start ((toI wl).map Int.toNat)))) rfl rfl) ?_
  refine WpL_val rfl rfl (by decide) (r_extract (vs := #[(.int .i64 (beh a a.start ((toI wl).map Int.toNat))), (.int .i64 0)]) (v := (.int .i64 0)) rfl rfl) ?_
  refine WpL_val rfl rfl (by decide) (r_assign (v := (.int .i64 (beh a a.start ((toI wl).map Int.toNat)))) rfl) ?_
  refine WpL_val rfl rfl (by decide) (r_assign (v := (.int .i64 0)) rfl) ?_
  refine WpL_nil ?_
  refine Wp_seq_region ?_
  refine WpL_val rfl rfl (by decide) (r_loadAgg (vs := [(.int .i64 b.start), (.slice aa2 n2 ac2), (.slice na2 n2 nc2)]) rfl agg25 siz25 rfl (Bb.cells rfl)) ?_
  refine WpL_val rfl rfl (by decide) (r_move (v := (.slice wa wl.length wc)) rfl) ?_
  refine WpL_enter rfl rfl (by decide) (r_callF (vs := [(.agg #[(.int .i64 b.start), (.slice aa2 n2 ac2), (.slice na2 n2 nc2)]), (.slice wa wl.length wc)]) Try.func31 nm31 bd31 rfl) (dfrun_c _ n2 3 b _ _ (toI wl) okb hB (by omega) (by decide) hW hwl3 (toI_rng hww)) ?_
  rintro _ wqq ⟨rfl, Xq⟩
  replace Ba := Xq.keep Ba
  replace Bb := Xq.keep Bb
  replace B3 := Xq.keep B3
  replace Bd := Xq.keep Bd
  replace Bg := Xq.keep Bg
  replace hA := hA.ext Xq
  replace hB := hB.ext Xq
  replace hW := hW.ext Xq
  replace hD1 := hD1.ext Xq
  replace hD2 := hD2.ext Xq
  replace hu := hu.ext Xq
  replace E := E.ext Xq
  refine WpL_val rfl rfl (by decide) (r_move (v := (.tuple #[(.int .i64 (beh b b.start ((toI wl).map Int.toNat))), (.int .i64 0)])) rfl) ?_
  refine WpL_val rfl rfl (by decide) (r_extract (vs := #[(.int .i64 (beh b b.start ((toI wl).map Int.toNat))), (.int .i64 0)]) (v := (.int .i64 (beh b b.start ((toI wl).map Int.toNat)))) rfl rfl) ?_
  refine WpL_val rfl rfl (by decide) (r_extract (vs := #[(.int .i64 (beh b b.start ((toI wl).map Int.toNat))), (.int .i64 0)]) (v := (.int .i64 0)) rfl rfl) ?_
  refine WpL_val rfl rfl (by decide) (r_assign (v := (.int .i64 (beh b b.start ((toI wl).map Int.toNat)))) rfl) ?_
  refine WpL_val rfl rfl (by decide) (r_assign (v := (.int .i64 0)) rfl) ?_
  refine WpL_nil ?_
  refine Wp_seq_region ?_
  refine WpL_val rfl rfl (by decide) (r_loadAgg (vs := [(.int .i64 a.start), (.slice aa n1 ac), (.slice na n1 nc)]) rfl agg25 siz25 rfl (Ba.cells rfl)) ?_
  refine WpL_val rfl rfl (by decide) (r_move (v := (.slice ua u.length uc)) rfl) ?_
  refine WpL_enter rfl rfl (by decide) (r_callF (vs := [(.agg #[(.int .i64 a.start), (.slice aa n1 ac), (.slice na n1 nc)]), (.slice ua u.length uc)]) Try.func31 nm31 bd31 rfl) (dfrun_c _ n1 3 a _ _ (toI u) oka hA (by omega) (by decide) hu hul3 (toI_rng huw)) ?_
  rintro _ wrr ⟨rfl, Xr⟩
  replace Ba := Xr.keep Ba
  replace Bb := Xr.keep Bb
  replace B3 := Xr.keep B3
  replace Bd := Xr.keep Bd
  replace Bg := Xr.keep Bg
  replace hA := hA.ext Xr
  replace hB := hB.ext Xr
  replace hW := hW.ext Xr
  replace hD1 := hD1.ext Xr
  replace hD2 := hD2.ext Xr
  replace hu := hu.ext Xr
  replace E := E.ext Xr
  refine WpL_val rfl rfl (by decide) (r_move (v := (.tuple #[(.int .i64 (beh a a.start ((toI u).map Int.toNat))), (.int .i64 0)])) rfl) ?_
  refine WpL_val rfl rfl (by decide) (r_extract (vs := #[(.int .i64 (beh a a.start ((toI u).map Int.toNat))), (.int .i64 0)]) (v := (.int .i64 (beh a a.start ((toI u).map Int.toNat)))) rfl rfl) ?_
  refine WpL_val rfl rfl (by decide) (r_extract (vs := #[(.int .i64 (beh a a.start ((toI u).map Int.toNat))), (.int .i64 0)]) (v := (.int .i64 0)) rfl rfl) ?_
  refine WpL_val rfl rfl (by decide) (r_assign (v := (.int .i64 (beh a a.start ((toI u).map Int.toNat)))) rfl) ?_
  refine WpL_val rfl rfl (by decide) (r_assign (v := (.int .i64 0)) rfl) ?_
  refine WpL_nil ?_
  refine Wp_seq_region ?_
  refine WpL_val rfl rfl (by decide) (r_loadAgg (vs := [(.int .i64 b.start), (.slice aa2 n2 ac2), (.slice na2 n2 nc2)]) rfl agg25 siz25 rfl (Bb.cells rfl)) ?_
  refine WpL_val rfl rfl (by decide) (r_move (v := (.slice ua u.length uc)) rfl) ?_
  refine WpL_enter rfl rfl (by decide) (r_callF (vs := [(.agg #[(.int .i64 b.start), (.slice aa2 n2 ac2), (.slice na2 n2 nc2)]), (.slice ua u.length uc)]) Try.func31 nm31 bd31 rfl) (dfrun_c _ n2 3 b _ _ (toI u) okb hB (by omega) (by decide) hu hul3 (toI_rng huw)) ?_
  rintro _ wtt ⟨rfl, Xt⟩
  replace Ba := Xt.keep Ba
  replace Bb := Xt.keep Bb
  replace B3 := Xt.keep B3
  replace Bd := Xt.keep Bd
  replace Bg := Xt.keep Bg
  replace hA := hA.ext Xt
  replace hB := hB.ext Xt
  replace hW := hW.ext Xt
  replace hD1 := hD1.ext Xt
  replace hD2 := hD2.ext Xt
  replace hu := hu.ext Xt
  replace E := E.ext Xt
  refine WpL_val rfl rfl (by decide) (r_move (v := (.tuple #[(.int .i64 (beh b b.start ((toI u).map Int.toNat))), (.int .i64 0)])) rfl) ?_
  refine WpL_val rfl rfl (by decide) (r_extract (vs := #[(.int .i64 (beh b b.start ((toI u).map Int.toNat))), (.int .i64 0)]) (v := (.int .i64 (beh b b.start ((toI u).map Int.toNat)))) rfl rfl) ?_
  refine WpL_val rfl rfl (by decide) (r_extract (vs := #[(.int .i64 (beh b b.start ((toI u).map Int.toNat))), (.int .i64 0)]) (v := (.int .i64 0)) rfl rfl) ?_
  refine WpL_val rfl rfl (by decide) (r_assign (v := (.int .i64 (beh b b.start ((toI u).map Int.toNat)))) rfl) ?_
  refine WpL_val rfl rfl (by decide) (r_assign (v := (.int .i64 0)) rfl) ?_
  refine WpL_nil ?_
  refine Wp_seq ?_
  refine Wp_seq_region ?_
  refine WpL_val rfl rfl (by decide) (r_move (v := (.int .i64 0)) rfl) ?_
  refine WpL_val rfl rfl (by decide) (r_move (v := (.int .i64 0)) rfl) ?_
  refine WpL_val rfl rfl (by decide) (r_move (v := (.int .i64 0)) rfl) ?_
  refine WpL_val rfl rfl (by decide) (r_move (v := (.int .i64 0)) rfl) ?_
  refine s_buildSlice (ps := [(0, (.int .i64 0)), (1, (.int .i64 0)), (2, (.int .i64 0)), (3, (.int .i64 0))]) (c := #[(.int .i64 0), (.int .i64 0), (.int .i64 0), (.int .i64 0)]) (by decide) rfl Try.underlying85 siz26 zer26 (by decide) (by decide) (by kernel_rfl) ?_
  intro bh wh Nh
  have Fh := Nh.ge E
  have Oh_ba := Nh.lt Ba
  have Oh_bb := Nh.lt Bb
  have Oh_b3 := Nh.lt B3
  have Oh_bd := Nh.lt Bd
  have Oh_bg := Nh.lt Bg
  replace Ba := Nh.keep Ba
  replace Bb := Nh.keep Bb
  replace B3 := Nh.keep B3
  replace Bd := Nh.keep Bd
  replace Bg := Nh.keep Bg
  replace hA := hA.ext Nh.ext
  replace hB := hB.ext Nh.ext
  replace hW := hW.ext Nh.ext
  replace hD1 := hD1.ext Nh.ext
  replace hD2 := hD2.ext Nh.ext
  replace hu := hu.ext Nh.ext
  replace E := E.ext Nh.ext
  have Bh := Nh.blk
  refine WpL_enter rfl rfl (by decide) (r_callF (vs := [(.slice (some ⟨bh, 0, none⟩) 4 4)]) Try.func24 nm24 bd24 rfl) (good_c _ _ [0, 0, 0, 0] (ints_of_blk [0, 0, 0, 0] Bh (by decide) (by decide))) ?_
  rintro _ wg2 ⟨rfl, Xg2⟩
  replace Ba := Xg2.keep Ba
  replace Bb := Xg2.keep Bb
  replace B3 := Xg2.keep B3
  replace Bd := Xg2.keep Bd
  replace Bg := Xg2.keep Bg
  replace Bh := Xg2.keep Bh
  replace hA := hA.ext Xg2
  replace hB := hB.ext Xg2
  replace hW := hW.ext Xg2
  replace hD1 := hD1.ext Xg2
  replace hD2 := hD2.ext Xg2
  replace hu := hu.ext Xg2
  replace E := E.ext Xg2
  refine WpL_val rfl rfl (by decide) (r_not (b := true) rfl) ?_
  refine WpL_nil ?_
  refine Wp_cond_false rfl ?_
  refine Wp_skip ?_
  refine thn_normal ?_
  refine Wp_seq ?_
  refine Wp_seq_region ?_
  refine WpL_val rfl rfl (by decide) (r_move (v := (.bool ok)) rfl) ?_
  refine WpL_nil ?_
  refine Wp_cond (b := ok) rfl (fun hokb => ?_) (fun hokb => ?_)
  · have khokb := hokb
    refine Wp_seq_region ?_
    refine WpL_val rfl rfl (by decide) (r_move (v := (.slice wa wl.length wc)) rfl) ?_
    refine WpL_val rfl rfl (by decide) (r_lenSlice (ad := wa) (n := wl.length) (cap := wc) Try.underlying22 rfl) ?_
    obtain ⟨e6, he6⟩ : ∃ e, (decide ((((wl.length : Nat) : Int) : Int) = 0)) = e := ⟨_, rfl⟩
    refine WpL_val rfl rfl (by decide) ((r_eql (k := .i64) (a := ((wl.length : Nat) : Int)) (b := 0) rfl rfl).trans (by rw [he6]; try rfl)) ?_
    refine WpL_val rfl rfl (by decide) (r_move (v := (.bool e6)) rfl) ?_
    refine WpL_guard_any (oj := _) (gv := (.bool e6)) (u := (bif e6 then (.int .i64 (beh a a.start ((toI wl).map Int.toNat))) else undef)) rfl rfl (by decide) (by decide) rfl (by cases e6 <;> first | exact Or.inr ⟨Or.inl rfl, rfl⟩ | exact Or.inr ⟨Or.inr rfl, rfl⟩ | exact Or.inl ⟨rfl, r_move (v := (.int .i64 (beh a a.start ((toI wl).map Int.toNat)))) rfl⟩) ?_
    refine WpL_guard_any (oj := _) (gv := (.bool e6)) (u := (bif e6 then (.int .i64 (beh b b.start ((toI wl).map Int.toNat))) else undef)) rfl rfl (by decide) (by decide) rfl (by cases e6 <;> first | exact Or.inr ⟨Or.inl rfl, rfl⟩ | exact Or.inr ⟨Or.inr rfl, rfl⟩ | exact Or.inl ⟨rfl, r_move (v := (.int .i64 (beh b b.start ((toI wl).map Int.toNat)))) rfl⟩) ?_
    obtain ⟨e7, he7⟩ : ∃ e, (decide ((beh a a.start ((toI wl).map Int.toNat) : Int) = beh b b.start ((toI wl).map Int.toNat))) = e := ⟨_, rfl⟩
    refine WpL_guard_any (oj := _) (gv := (.bool e6)) (u := (bif e6 then (.bool e7) else undef)) rfl rfl (by decide) (by decide) rfl (by cases e6 <;> first | exact Or.inr ⟨Or.inl rfl, rfl⟩ | exact Or.inr ⟨Or.inr rfl, rfl⟩ | exact Or.inl ⟨rfl, (r_eql (k := .i64) (a := beh a a.start ((toI wl).map Int.toNat)) (b := beh b b.start ((toI wl).map Int.toNat)) rfl rfl).trans (by rw [he7]; try rfl)⟩) ?_
    obtain ⟨e8, he8⟩ : ∃ e, (e6 && e7) = e := ⟨_, rfl⟩
    refine WpL_val rfl rfl (by decide) (r_pick (b := e6) (v := .bool e8) rfl (by rw [← he8]; cases e6 <;> rfl)) ?_
    refine WpL_val rfl rfl (by decide) (r_assign (v := (.bool e8)) rfl) ?_
    refine WpL_nil ?_
    subst he8
    subst he7
    subst he6
    refine Wp_ret ?_
    refine thn_ret ?_
    refine fin_tmp Try.results7 (v := (.bool ((decide ((((wl.length : Nat) : Int) : Int) = 0)) && (decide ((beh a a.start ((toI wl).map Int.toNat) : Int) = beh b b.start ((toI wl).map Int.toNat)))))) rfl ?_
    exact ⟨bool_eq (by obtain ⟨e, h⟩ := hS.yes hokb; rw [toI_nat, h wl hww, e]; simp), E⟩
  · have khokb := hokb
    refine Wp_skip ?_
    refine thn_normal ?_
    refine Wp_seq_region ?_
    refine WpL_val rfl rfl (by decide) (r_move (v := (.int .i64 (beh a a.start ((toI wl).map Int.toNat)))) rfl) ?_
    refine WpL_val rfl rfl (by decide) (r_move (v := (.int .i64 (beh b b.start ((toI wl).map Int.toNat)))) rfl) ?_
    obtain ⟨e9, he9⟩ : ∃ e, (decide ((beh a a.start ((toI wl).map Int.toNat) : Int) ≠ beh b b.start ((toI wl).map Int.toNat))) = e := ⟨_, rfl⟩
    refine WpL_val rfl rfl (by decide) ((r_neq (k := .i64) (a := beh a a.start ((toI wl).map Int.toNat)) (b := beh b b.start ((toI wl).map Int.toNat)) rfl rfl).trans (by rw [he9]; try rfl)) ?_
    refine WpL_val rfl rfl (by decide) (r_move (v := (.bool e9)) rfl) ?_
    refine WpL_guard_any (oj := _) (gv := (.bool e9)) (u := (bif e9 then (.slice wa wl.length wc) else undef)) rfl rfl (by decide) (by decide) rfl (by cases e9 <;> first | exact Or.inr ⟨Or.inl rfl, rfl⟩ | exact Or.inr ⟨Or.inr rfl, rfl⟩ | exact Or.inl ⟨rfl, r_move (v := (.slice wa wl.length wc)) rfl⟩) ?_
    refine WpL_guard_any (oj := _) (gv := (.bool e9)) (u := (bif e9 then (.int .i64 ((wl.length : Nat) : Int)) else undef)) rfl rfl (by decide) (by decide) rfl (by cases e9 <;> first | exact Or.inr ⟨Or.inl rfl, rfl⟩ | exact Or.inr ⟨Or.inr rfl, rfl⟩ | exact Or.inl ⟨rfl, r_lenSlice (ad := wa) (n := wl.length) (cap := wc) Try.underlying22 rfl⟩) ?_
    obtain ⟨e10, he10⟩ : ∃ e, (decide ((((wl.length : Nat) : Int) : Int) = 0)) = e := ⟨_, rfl⟩
    refine WpL_guard_any (oj := _) (gv := (.bool e9)) (u := (bif e9 then (.bool e10) else undef)) rfl rfl (by decide) (by decide) rfl (by cases e9 <;> first | exact Or.inr ⟨Or.inl rfl, rfl⟩ | exact Or.inr ⟨Or.inr rfl, rfl⟩ | exact Or.inl ⟨rfl, (r_eql (k := .i64) (a := ((wl.length : Nat) : Int)) (b := 0) rfl rfl).trans (by rw [he10]; try rfl)⟩) ?_
    refine WpL_guard_any (oj := _) (gv := (.bool e9)) (u := (bif e9 then (.bool e10) else undef)) rfl rfl (by decide) (by decide) rfl (by cases e9 <;> first | exact Or.inr ⟨Or.inl rfl, rfl⟩ | exact Or.inr ⟨Or.inr rfl, rfl⟩ | exact Or.inl ⟨rfl, r_move (v := (.bool e10)) rfl⟩) ?_
    refine WpL_guard_any (oj := _) (gv := (bif e9 then (.bool e10) else undef)) (u := (bif e9 then (bif e10 then undef else (.int .i64 (beh a a.start ((toI u).map Int.toNat)))) else undef)) rfl rfl (by decide) (by decide) rfl (by cases e9 <;> cases e10 <;> first | exact Or.inr ⟨Or.inl rfl, rfl⟩ | exact Or.inr ⟨Or.inr rfl, rfl⟩ | exact Or.inl ⟨rfl, r_move (v := (.int .i64 (beh a a.start ((toI u).map Int.toNat)))) rfl⟩) ?_
    refine WpL_guard_any (oj := _) (gv := (bif e9 then (.bool e10) else undef)) (u := (bif e9 then (bif e10 then undef else (.int .i64 (beh b b.start ((toI u).map Int.toNat)))) else undef)) rfl rfl (by decide) (by decide) rfl (by cases e9 <;> cases e10 <;> first | exact Or.inr ⟨Or.inl rfl, rfl⟩ | exact Or.inr ⟨Or.inr rfl, rfl⟩ | exact Or.inl ⟨rfl, r_move (v := (.int .i64 (beh b b.start ((toI u).map Int.toNat)))) rfl⟩) ?_
    obtain ⟨e11, he11⟩ : ∃ e, (decide ((beh a a.start ((toI u).map Int.toNat) : Int) = beh b b.start ((toI u).map Int.toNat))) = e := ⟨_, rfl⟩
    refine WpL_guard_any (oj := _) (gv := (bif e9 then (.bool e10) else undef)) (u := (bif e9 then (bif e10 then undef else (.bool e11)) else undef)) rfl rfl (by decide) (by decide) rfl (by cases e9 <;> cases e10 <;> first | exact Or.inr ⟨Or.inl rfl, rfl⟩ | exact Or.inr ⟨Or.inr rfl, rfl⟩ | exact Or.inl ⟨rfl, (r_eql (k := .i64) (a := beh a a.start ((toI u).map Int.toNat)) (b := beh b b.start ((toI u).map Int.toNat)) rfl rfl).trans (by rw [he11]; try rfl)⟩) ?_
    obtain ⟨e12, he12⟩ : ∃ e, (e10 || e11) = e := ⟨_, rfl⟩
    refine WpL_guard_any (oj := _) (gv := (.bool e9)) (u := (bif e9 then (.bool e12) else undef)) rfl rfl (by decide) (by decide) rfl (by cases e9 <;> first | exact Or.inr ⟨Or.inl rfl, rfl⟩ | exact Or.inr ⟨Or.inr rfl, rfl⟩ | exact Or.inl ⟨rfl, r_pick (b := e10) (v := .bool e12) rfl (by rw [← he12]; cases e10 <;> rfl)⟩) ?_
    obtain ⟨e13, he13⟩ : ∃ e, (e9 && e12) = e := ⟨_, rfl⟩
    refine WpL_val rfl rfl (by decide) (r_pick (b := e9) (v := .bool e13) rfl (by rw [← he13]; cases e9 <;> rfl)) ?_
    refine WpL_val rfl rfl (by decide) (r_assign (v := (.bool e13)) rfl) ?_
    refine WpL_nil ?_
    subst he13
    subst he12
    subst he11
    subst he10
    subst he9
    refine Wp_ret ?_
    refine fin_tmp Try.results7 (v := (.bool ((decide ((beh a a.start ((toI wl).map Int.toNat) : Int) ≠ beh b b.start ((toI wl).map Int.toNat))) && ((decide ((((wl.length : Nat) : Int) : Int) = 0)) || (decide ((beh a a.start ((toI u).map Int.toNat) : Int) = beh b b.start ((toI u).map Int.toNat))))))) rfl ?_
    exact ⟨bool_eq (by
      obtain ⟨_, h2, h3⟩ := hS.no hokb
      rw [toI_nat, toI_nat, decide_eq_true h2, Bool.true_and]
      rcases Nat.eq_zero_or_pos wl.length with h0 | h0
      · rw [decide_eq_true (by omega), Bool.true_or]
      · rw [decide_eq_true (h3 u huw (by omega)), Bool.or_true]), E⟩
end Go.Proofs
