/- dfa.Count, walked. -/
import Derived.Test.YtncmfkibflogkaaAr
namespace Go.Proofs
open Go Go.Eng Go.Sort
set_option maxRecDepth 100000

set_option maxHeartbeats 8000000 in
theorem dfCount_c (w0 : World) (n c m : Nat) (d : Dfa) (dv : List Value) (ok : OkD n c d) (h : DfaAt w0 d dv) (hn : 1 ≤ n ∧ n ≤ 200) (hc : 1 ≤ c ∧ c ≤ 16) (hm : m ≤ 100) (hcap : c ^ (m + 1) ≤ 1000000000) :
    Ret Try.prog 26 #[.agg dv.toArray, .int .i64 ((m : Nat) : Int)] w0 fun r w => (∃ a cc, r = .tuple #[.slice a (m + 1) cc, .int .i64 0] ∧ IntsAt w (.slice a (m + 1) cc) ((List.range (m + 1)).map fun k => cntF c k (beh d d.start))) ∧ Ext w0 w := by
  have hdfa := h
  obtain ⟨aa, ac, na, nc, rfl, hacc, hnxt⟩ := h
  have hnl := ok.nl
  have hal := ok.al
  have hst := ok.st
  rw [hal, hnl] at hdfa ⊢
  rw [hal] at hacc
  rw [hnl] at hnxt
  obtain ⟨nb, no, rfl, hnx⟩ := intss_cells (n := n) hnxt (by omega)
  obtain ⟨ab, ao, rfl, hax⟩ := ints_cells (n := n) hacc (by omega)
  obtain ⟨s0, hs0⟩ := Int.eq_ofNat_of_zero_le hst.1
  have hrowc : ∀ (s : Nat), s < n → ∃ row ra rc, d.next[s]? = some row ∧ row.length = c ∧ w0.cell? ⟨nb, no + s, none⟩ = some (.slice ra c rc) ∧ IntsAt w0 (.slice ra c rc) row := fun s hs => by
    obtain ⟨row, hrow⟩ := get_of_lt (l := d.next) (i := s) (by omega)
    have hrl := (ok.row row (List.mem_of_getElem? hrow)).1
    obtain ⟨ra, rc, h1, h2⟩ := hnx s row hrow
    rw [hrl] at h1 h2
    exact ⟨row, ra, rc, hrow, hrl, h1, h2⟩
  refine Ret_of Try.func26 rfl Try.ntmps26 (Nat.le_of_ble_eq_true rfl) ?_
  have E : Chg none1 w0 w0 := Chg.refl _ _
  refine Wp_seq_region ?_
  refine s_box (v := (.agg #[(.int .i64 d.start), (.slice (some ⟨ab, ao, none⟩) n ac), (.slice (some ⟨nb, no, none⟩) n nc)])) (c := #[(.int .i64 d.start), (.slice (some ⟨ab, ao, none⟩) n ac), (.slice (some ⟨nb, no, none⟩) n nc)]) (by decide) rfl rfl ?_
  intro bq wq Nq
  have Fq := Nq.ge E
  replace E := E.ext Nq.ext
  have Bq := Nq.blk
  refine WpL_val rfl rfl (by decide) (r_assign (v := (.slice none 0 0)) rfl) ?_
  refine WpL_val rfl rfl (by decide) (r_assign (v := (.int .i64 0)) rfl) ?_
  refine WpL_nil ?_
  refine Wp_seq ?_
  refine Wp_seq_region ?_
  refine WpL_val rfl rfl (by decide) (r_loadAgg (vs := [(.int .i64 d.start), (.slice (some ⟨ab, ao, none⟩) n ac), (.slice (some ⟨nb, no, none⟩) n nc)]) rfl agg25 siz25 rfl (Bq.cells rfl)) ?_
  refine WpL_enter rfl rfl (by decide) (r_callF (vs := [(.agg #[(.int .i64 d.start), (.slice (some ⟨ab, ao, none⟩) n ac), (.slice (some ⟨nb, no, none⟩) n nc)])]) Try.func50 nm50 bd50 rfl) (dcheck_c _ d _ (hdfa.ext E)) ?_
  rintro _ w9 ⟨rfl, X9⟩
  replace Bq := X9.keep Bq
  replace E := E.ext X9
  refine WpL_val rfl rfl (by decide) (r_assign (v := (.int .i64 (checkD d))) rfl) ?_
  refine WpL_nil ?_
  refine Wp_seq_region ?_
  refine WpL_val rfl rfl (by decide) (r_move (v := (.int .i64 (checkD d))) rfl) ?_
  refine WpL_val rfl rfl (by decide) (r_neq (k := .i64) (a := checkD d) (b := 0) rfl rfl) ?_
  refine WpL_nil ?_
  have hc1 : (decide ((checkD d : Int) ≠ 0)) = false := decide_eq_false (by rw [okD_check ok hn hc]; decide)
  refine Wp_cond_false (congrArg Value.bool hc1) ?_
  refine Wp_skip ?_
  refine thn_normal ?_
  refine Wp_seq ?_
  refine Wp_seq_region ?_
  refine WpL_val rfl rfl (by decide) (r_move (v := (.int .i64 ((m : Nat) : Int))) rfl) ?_
  obtain ⟨e2, he2⟩ : ∃ e, (decide ((((m : Nat) : Int) : Int) < 0)) = e := ⟨_, rfl⟩
  refine WpL_val rfl rfl (by decide) ((r_lss (k := .i64) (a := ((m : Nat) : Int)) (b := 0) rfl rfl).trans (by rw [he2]; try rfl)) ?_
  refine WpL_val rfl rfl (by decide) (r_move (v := (.bool e2)) rfl) ?_
  refine WpL_guard_any (oj := _) (gv := (.bool e2)) (u := (bif e2 then undef else (.int .i64 ((m : Nat) : Int)))) rfl rfl (by decide) (by decide) rfl (by cases e2 <;> first | exact Or.inr ⟨Or.inl rfl, rfl⟩ | exact Or.inr ⟨Or.inr rfl, rfl⟩ | exact Or.inl ⟨rfl, r_move (v := (.int .i64 ((m : Nat) : Int))) rfl⟩) ?_
  obtain ⟨e3, he3⟩ : ∃ e, (decide ((100 : Int) < ((m : Nat) : Int))) = e := ⟨_, rfl⟩
  refine WpL_guard_any (oj := _) (gv := (.bool e2)) (u := (bif e2 then undef else (.bool e3))) rfl rfl (by decide) (by decide) rfl (by cases e2 <;> first | exact Or.inr ⟨Or.inl rfl, rfl⟩ | exact Or.inr ⟨Or.inr rfl, rfl⟩ | exact Or.inl ⟨rfl, (r_gtr (k := .i64) (a := ((m : Nat) : Int)) (b := 100) rfl rfl).trans (by rw [he3]; try rfl)⟩) ?_
  obtain ⟨e4, he4⟩ : ∃ e, (e2 || e3) = e := ⟨_, rfl⟩
  refine WpL_val rfl rfl (by decide) (r_pick (b := e2) (v := .bool e4) rfl (by rw [← he4]; cases e2 <;> rfl)) ?_
  refine WpL_nil ?_
  subst he4
  subst he3
  subst he2
  have hc5 : (((decide ((((m : Nat) : Int) : Int) < 0)) || (decide ((100 : Int) < ((m : Nat) : Int))))) = false := Bool.or_eq_false_iff.2 ⟨decide_eq_false (by omega), decide_eq_false (by omega)⟩
  refine Wp_cond_false (congrArg Value.bool hc5) ?_
  refine Wp_skip ?_
  refine thn_normal ?_
  refine Wp_seq_region ?_
  refine WpL_val rfl rfl (by decide) (r_fieldAddr (b := bq) (o := 0) (o' := 2) rfl Try.underlying25 rfl siz23 rfl) ?_
  refine WpL_val rfl rfl (by decide) (r_load (v := (.slice (some ⟨nb, no, none⟩) n nc)) rfl flat23 (Bq.cell rfl)) ?_
  refine WpL_val rfl rfl (by decide) (r_lenSlice (ad := some ⟨nb, no, none⟩) (n := n) (cap := nc) Try.underlying23 rfl) ?_
  refine s_make (n := n) (z := (.int .i64 0)) (bytes := 8) (by decide) Try.underlying22 siz3 byt3 zer3 rfl rfl rfl (by omega) (by omega) ?_
  intro bz wz Nz
  have Fz := Nz.ge E
  have Oz_bq := Nz.lt Bq
  replace Bq := Nz.keep Bq
  replace E := E.ext Nz.ext
  have Bz := Nz.blk
  refine WpL_val rfl rfl (by decide) (r_assign (v := (.slice (some ⟨bz, 0, none⟩) n n)) rfl) ?_
  refine WpL_nil ?_
  refine Wp_seq_region ?_
  refine WpL_val rfl rfl (by decide) (r_move (v := (.slice (some ⟨bz, 0, none⟩) n n)) rfl) ?_
  refine WpL_val rfl rfl (by decide) (r_fieldAddr (b := bq) (o := 0) (o' := 0) rfl Try.underlying25 rfl siz3 rfl) ?_
  refine WpL_val rfl rfl (by decide) (r_load (v := (.int .i64 d.start)) rfl flat3 (Bq.cell rfl)) ?_
  obtain ⟨n1, hn1⟩ : ∃ n1, n1 = bz := ⟨_, rfl⟩
  rw [show List.replicate n (Value.int .i64 0) = (List.replicate n (0 : Int)).map (Value.int .i64) by simp] at Bz
  refine WpL_val rfl rfl (by decide) (r_indexSlice (b := bz) (o := 0) (len := n) (cap := n) (i := s0) (o' := 0 + s0) rfl rfl (by omega) Try.underlying22 siz3 (by omega) (by omega)) ?_
  refine s_store (b := bz) (o := 0 + s0) (c' := (((List.replicate n (0 : Int)).set s0 1).map (Value.int .i64)).toArray) (v := (.int .i64 1)) rfl rfl rfl siz3 Bz (by simp; omega) (ints_setD _) ?_
  intro w6 S6
  replace Bq := S6.keep (by omega) Bq
  replace E := S6.step E (by first | exact Or.inl (by omega) | exact Or.inr rfl | exact Or.inr (by assumption) | exact Or.inr (by simp) | exact Or.inr (by omega) | exact Or.inr (by dsimp only; omega))
  replace Bz := S6.blk
  have hsz0 : n1 ≤ (w6).heap.size := by have := Bz.lt; omega
  have hB0 := Bz
  refine WpL_nil ?_
  refine Wp_seq_region ?_
  refine WpL_val rfl rfl (by decide) (r_assign (v := (.slice none 0 0)) rfl) ?_
  refine WpL_nil ?_
  refine Wp_seq ?_
  refine Wp_seq_region ?_
  refine WpL_val rfl rfl (by decide) (r_move (v := (.int .i64 ((m : Nat) : Int))) rfl) ?_
  refine WpL_val rfl rfl (by decide) (r_add (k := .i64) (a := ((m : Nat) : Int)) (b := 1) (c := ((m : Nat) : Int) + 1) rfl rfl (wI64 (by omega))) ?_
  refine WpL_val rfl rfl (by decide) (r_move (v := (.int .i64 0)) rfl) ?_
  refine WpL_nil ?_
  refine Wp_block ?_
  refine Wp_loop (fun nn_ σ W7 => ∃ (k : Nat) (l out : List Int) (bw : Nat) (oa : Option Addr) (oc : Nat), (∃ jj_, σ = upds jj_ [(2, (.pointer (some ⟨bq, 0, none⟩))), (35, (.int .i64 (((m : Nat) : Int) + 1))), (36, (.int .i64 ((k : Nat) : Int))), (7, (.slice (some ⟨bw, 0, none⟩) n n)), (8, (.slice oa k oc))]) ∧ Chg none1 w0 W7 ∧ Blk W7 bq #[(.int .i64 d.start), (.slice (some ⟨ab, ao, none⟩) n ac), (.slice (some ⟨nb, no, none⟩) n nc)] 25 ∧ (k ≤ m + 1) ∧ (Ways n c d k l) ∧ (out = (List.range k).map fun k => cntF c k (beh d d.start)) ∧ (Blk W7 bw (l.map (Value.int .i64)).toArray TDI) ∧ (W7.ownsRow n1 TDI 1 (.slice oa k oc) k (out.map (Value.int .i64))) ∧ (n1 ≤ W7.heap.size) ∧ nn_ = m + 1 - k) (n := m + 1 - 0) ?_ ?_
  · exact ⟨0, (List.replicate n (0 : Int)).set s0 1, [], bz, none, 0, Fits.out ⟨rfl, rfl, rfl, rfl, rfl, trivial⟩, E, Bq, Nat.zero_le _, Ways.start ok hs0, rfl, hB0, World.ownsRow_nil _ _ _ _, hsz0, rfl⟩
  · clear E Bq
    rintro _ _ W7 ⟨k, l, out, bw, oa, oc, ⟨j7, rfl⟩, E, Bq, hk, hW, hout, hB, hOw, hsz, rfl⟩
    refine Wp_seq_region ?_
    refine WpL_val rfl rfl (by decide) (r_lss (k := .i64) (a := ((k : Nat) : Int)) (b := ((m : Nat) : Int) + 1) rfl rfl) ?_
    refine WpL_nil ?_
    refine Wp_seq ?_
    refine Wp_cond (b := decide ((((k : Nat) : Int) : Int) < ((m : Nat) : Int) + 1)) rfl (fun hlt => ?_) (fun hlt => ?_)
    · have khlt := hlt
      replace hlt := of_decide_eq_true hlt
      obtain ⟨z0, hz0⟩ : ∃ z0, z0 = (W7).heap.size := ⟨_, rfl⟩
      have hOz : ∀ b, (Value.slice oa k oc).ownBlock = some b → b < z0 := fun b hb => by have := (hOw.lt b hb).2; omega
      have hbz : bw < z0 := by rw [hz0]; exact hB.lt
      refine Wp_skip ?_
      refine thn_normal ?_
      refine Wp_seq ?_
      refine Wp_block ?_
      refine Wp_seq_region ?_
      refine WpL_val rfl rfl (by decide) (r_assign (v := (.int .i64 0)) rfl) ?_
      refine WpL_nil ?_
      refine Wp_seq_region ?_
      refine WpL_val rfl rfl (by decide) (r_move (v := (.slice (some ⟨bw, 0, none⟩) n n)) rfl) ?_
      refine WpL_val rfl rfl (by decide) (r_lenSlice (ad := some ⟨bw, 0, none⟩) (n := n) (cap := n) Try.underlying22 rfl) ?_
      refine s_make (n := n) (z := (.int .i64 0)) (bytes := 8) (by decide) Try.underlying22 siz3 byt3 zer3 rfl rfl rfl (by omega) (by omega) ?_
      intro bv wv Nv
      have Fv := Nv.ge E
      have Ov_bq := Nv.lt Bq
      replace Bq := Nv.keep Bq
      replace hB := Ext.keep Nv.ext hB
      replace hOw := own_ext hOw Nv.ext
      replace hsz := Nat.le_trans hsz Nv.ext.size
      replace E := E.ext Nv.ext
      have Bv := Nv.blk
      refine WpL_val rfl rfl (by decide) (r_assign (v := (.slice (some ⟨bv, 0, none⟩) n n)) rfl) ?_
      refine WpL_nil ?_
      refine Wp_seq ?_
      refine Wp_seq_region ?_
      refine WpL_val rfl rfl (by decide) (r_move (v := (.slice (some ⟨bw, 0, none⟩) n n)) rfl) ?_
      refine WpL_val rfl rfl (by decide) (r_lenSlice (ad := some ⟨bw, 0, none⟩) (n := n) (cap := n) Try.underlying22 rfl) ?_
      refine WpL_val rfl rfl (by decide) (r_move (v := (.int .i64 0)) rfl) ?_
      refine WpL_nil ?_
      refine Wp_block ?_
      rw [show List.replicate n (Value.int .i64 0) = (List.replicate n (0 : Int)).map (Value.int .i64) by simp] at Bv
      have hvz : z0 ≤ bv := by have := Nv.eq; omega
      have hbw : bw ≠ bv := by omega
      refine Wp_loop (fun nn_ σ W9 => ∃ (s : Nat) (nx : List Int) (sum : Int), (∃ jj_, σ = upds jj_ [(2, (.pointer (some ⟨bq, 0, none⟩))), (8, (.slice oa k oc)), (10, (.slice (some ⟨bv, 0, none⟩) n n)), (35, (.int .i64 (((m : Nat) : Int) + 1))), (36, (.int .i64 ((k : Nat) : Int))), (41, (.slice (some ⟨bw, 0, none⟩) n n)), (42, (.int .i64 ((n : Nat) : Int))), (43, (.int .i64 ((s : Nat) : Int))), (9, (.int .i64 sum))]) ∧ Chg none1 w0 W9 ∧ Blk W9 bq #[(.int .i64 d.start), (.slice (some ⟨ab, ao, none⟩) n ac), (.slice (some ⟨nb, no, none⟩) n nc)] 25 ∧ Blk W9 bv ((nx.map (Value.int .i64)).toArray) 3 ∧ (s ≤ n) ∧ (Nxt n c d l s 0 nx) ∧ (sum = dotF (wt c d 0) 0 (l.take s)) ∧ (Blk W9 bw (l.map (Value.int .i64)).toArray TDI) ∧ (W9.ownsRow n1 TDI 1 (.slice oa k oc) k (out.map (Value.int .i64))) ∧ (n1 ≤ W9.heap.size) ∧ nn_ = n - s) (n := n - 0) ?_ ?_
      · exact ⟨0, List.replicate n 0, 0, Fits.out ⟨rfl, rfl, rfl, rfl, rfl, rfl, rfl, rfl, rfl, trivial⟩, E, Bq, Bv, Nat.zero_le _, Nxt.start n c d l, rfl, hB, hOw, hsz, rfl⟩
      · clear E Bq Bv
        rintro _ _ W9 ⟨s, nx, sum, ⟨j9, rfl⟩, E, Bq, Bv, hs, hN, hsum, hB, hOw, hsz, rfl⟩
        refine Wp_seq_region ?_
        refine WpL_val rfl rfl (by decide) (r_lss (k := .i64) (a := ((s : Nat) : Int)) (b := ((n : Nat) : Int)) rfl rfl) ?_
        refine WpL_nil ?_
        refine Wp_seq ?_
        refine Wp_cond (b := decide ((((s : Nat) : Int) : Int) < ((n : Nat) : Int))) rfl (fun hlt2 => ?_) (fun hlt2 => ?_)
        · have khlt2 := hlt2
          replace hlt2 := of_decide_eq_true hlt2
          obtain ⟨w, hw⟩ := get_of_lt (l := l) (i := s) (by have := hW.len; omega)
          have hat := acc_at ok (show s < n by omega)
          have hkc : c ^ k ≤ 1000000000 := Nat.le_trans (Nat.pow_le_pow_right hc.1 (by omega)) hcap
          have hkc2 : c ^ (k + 1) ≤ 1000000000 := Nat.le_trans (Nat.pow_le_pow_right hc.1 (by omega)) hcap
          have hWs := hW.sum
          have hs0n := dot_nn c d (l := l.take s) (i := 0) (fun x hx => hW.nn x (List.mem_of_mem_take hx))
          have hs1n := dot_le c d (l := l.take s) (i := 0) (fun x hx => hW.nn x (List.mem_of_mem_take hx))
          have hsl0 := take_sum_le hW.nn s
          rw [← hsum] at hs0n hs1n
          obtain ⟨yv, hyv⟩ : ∃ y, y = atD d ((s : Nat) : Int) := ⟨_, rfl⟩
          rw [← hyv] at hat
          have hwn := hW.nn w (List.mem_of_getElem? hw)
          have hwl := le_sum hW.nn hw
          have hgw : l.getD s 0 = w := by rw [List.getD_eq_getElem?_getD, hw, Option.getD_some]
          have hsu := dot_le c d (l := l.take (s + 1)) (i := 0) (fun x hx => hW.nn x (List.mem_of_mem_take hx))
          have hsl := take_sum_le hW.nn (s + 1)
          have hdt := dotF_take (wt c d 0) hw
          rw [wt_at hat, ← hsum] at hdt
          obtain ⟨row, ra, rc, hrow, hrl, hcell, hri⟩ := hrowc s (by omega)
          refine Wp_skip ?_
          refine thn_normal ?_
          refine Wp_seq ?_
          refine Wp_block ?_
          refine Wp_seq_region ?_
          refine WpL_val rfl rfl (by decide) (r_move (v := (.int .i64 ((s : Nat) : Int))) rfl) ?_
          refine WpL_val rfl rfl (by decide) (r_indexSlice (b := bw) (o := 0) (len := n) (cap := n) (i := s) (o' := 0 + s) rfl rfl rfl Try.underlying22 siz3 (by omega) (by omega)) ?_
          refine WpL_val rfl rfl (by decide) (r_load (v := (.int .i64 w)) rfl flat3 (ints_at_blk hB hw)) ?_
          refine WpL_val rfl rfl (by decide) (r_assign (v := (.int .i64 ((s : Nat) : Int))) rfl) ?_
          refine WpL_val rfl rfl (by decide) (r_assign (v := (.int .i64 w)) rfl) ?_
          refine WpL_nil ?_
          refine Wp_cut (fun σ W11 => ∃ (sum1 : Int), (∃ jj_, σ = upds jj_ [(2, (.pointer (some ⟨bq, 0, none⟩))), (8, (.slice oa k oc)), (10, (.slice (some ⟨bv, 0, none⟩) n n)), (11, (.int .i64 ((s : Nat) : Int))), (12, (.int .i64 w)), (35, (.int .i64 (((m : Nat) : Int) + 1))), (36, (.int .i64 ((k : Nat) : Int))), (41, (.slice (some ⟨bw, 0, none⟩) n n)), (42, (.int .i64 ((n : Nat) : Int))), (43, (.int .i64 ((s : Nat) : Int))), (9, (.int .i64 sum1))]) ∧ Chg none1 w0 W11 ∧ Blk W11 bq #[(.int .i64 d.start), (.slice (some ⟨ab, ao, none⟩) n ac), (.slice (some ⟨nb, no, none⟩) n nc)] 25 ∧ Blk W11 bv ((nx.map (Value.int .i64)).toArray) 3 ∧ (sum1 = dotF (wt c d 0) 0 (l.take (s + 1))) ∧ (Blk W11 bw (l.map (Value.int .i64)).toArray TDI) ∧ (W11.ownsRow n1 TDI 1 (.slice oa k oc) k (out.map (Value.int .i64))) ∧ (n1 ≤ W11.heap.size)) ?_ ?_
          · skip
            refine Wp_seq_region ?_
            refine WpL_val rfl rfl (by decide) (r_fieldAddr (b := bq) (o := 0) (o' := 1) rfl Try.underlying25 rfl siz22 rfl) ?_
            refine WpL_val rfl rfl (by decide) (r_load (v := (.slice (some ⟨ab, ao, none⟩) n ac)) rfl flat22 (Bq.cell rfl)) ?_
            refine WpL_val rfl rfl (by decide) (r_move (v := (.int .i64 ((s : Nat) : Int))) rfl) ?_
            refine WpL_val rfl rfl (by decide) (r_indexSlice (b := ab) (o := ao) (len := n) (cap := ac) (i := s) (o' := ao + s) rfl rfl rfl Try.underlying22 siz3 (by omega) (by omega)) ?_
            refine WpL_val rfl rfl (by decide) (r_load (v := (.int .i64 yv)) rfl flat3 (E.cell (fun f => f) (hax s _ hat))) ?_
            refine WpL_val rfl rfl (by decide) (r_geq (k := .i64) (a := yv) (b := 0) rfl rfl) ?_
            refine WpL_nil ?_
            refine Wp_cond (b := decide ((0 : Int) ≤ yv)) rfl (fun hpos => ?_) (fun hpos => ?_)
            · have khpos := hpos
              replace hpos := of_decide_eq_true hpos
              refine Wp_region ?_
              refine WpL_val rfl rfl (by decide) (r_move (v := (.int .i64 sum)) rfl) ?_
              refine WpL_val rfl rfl (by decide) (r_move (v := (.int .i64 w)) rfl) ?_
              refine WpL_val rfl rfl (by decide) (r_add (k := .i64) (a := sum) (b := w) (c := sum + w) rfl rfl (wI64 (by omega))) ?_
              refine WpL_val rfl rfl (by decide) (r_minI (k := .i64) (a := sum + w) (b := 1000000000) (c := sum + w) rfl rfl (by rw [if_pos hpos] at hdt; omega)) ?_
              refine WpL_val rfl rfl (by decide) (r_assign (v := (.int .i64 (sum + w))) rfl) ?_
              refine WpL_nil ?_
              refine thn_normal ?_
              exact ⟨sum + w, Fits.out ⟨rfl, rfl, rfl, rfl, rfl, rfl, rfl, rfl, rfl, rfl, rfl, trivial⟩, E, Bq, Bv, (by rw [hdt, if_pos hpos]; omega), hB, hOw, hsz⟩
            · have khpos := hpos
              replace hpos := of_decide_eq_false hpos
              refine Wp_skip ?_
              refine thn_normal ?_
              exact ⟨sum, Fits.out ⟨rfl, rfl, rfl, rfl, rfl, rfl, rfl, rfl, rfl, rfl, rfl, trivial⟩, E, Bq, Bv, (by rw [hdt, if_neg hpos]; omega), hB, hOw, hsz⟩
          · clear E Bq Bv
            rintro _ W11 ⟨sum1, ⟨j11, rfl⟩, E, Bq, Bv, hsum1, hB1, hOw1, hsz1⟩
            refine Wp_seq_region ?_
            refine WpL_val rfl rfl (by decide) (r_fieldAddr (b := bq) (o := 0) (o' := 2) rfl Try.underlying25 rfl siz23 rfl) ?_
            refine WpL_val rfl rfl (by decide) (r_load (v := (.slice (some ⟨nb, no, none⟩) n nc)) rfl flat23 (Bq.cell rfl)) ?_
            refine WpL_val rfl rfl (by decide) (r_move (v := (.int .i64 ((s : Nat) : Int))) rfl) ?_
            refine WpL_val rfl rfl (by decide) (r_indexSlice (b := nb) (o := no) (len := n) (cap := nc) (i := s) (o' := no + s) rfl rfl rfl Try.underlying23 siz22 (by omega) (by omega)) ?_
            refine WpL_val rfl rfl (by decide) (r_load (v := (.slice ra c rc)) rfl flat22 (E.cell (fun f => f) hcell)) ?_
            refine WpL_val rfl rfl (by decide) (r_lenSlice (ad := ra) (n := c) (cap := rc) Try.underlying22 rfl) ?_
            refine WpL_val rfl rfl (by decide) (r_move (v := (.int .i64 0)) rfl) ?_
            refine WpL_nil ?_
            refine Wp_block ?_
            refine Wp_loop (fun nn_ σ W13 => ∃ (x : Nat) (nx1 : List Int), (∃ jj_, σ = upds jj_ [(2, (.pointer (some ⟨bq, 0, none⟩))), (8, (.slice oa k oc)), (9, (.int .i64 sum1)), (10, (.slice (some ⟨bv, 0, none⟩) n n)), (12, (.int .i64 w)), (35, (.int .i64 (((m : Nat) : Int) + 1))), (36, (.int .i64 ((k : Nat) : Int))), (41, (.slice (some ⟨bw, 0, none⟩) n n)), (42, (.int .i64 ((n : Nat) : Int))), (43, (.int .i64 ((s : Nat) : Int))), (62, (.slice ra c rc)), (63, (.int .i64 ((c : Nat) : Int))), (64, (.int .i64 ((x : Nat) : Int)))]) ∧ Chg none1 w0 W13 ∧ Blk W13 bq #[(.int .i64 d.start), (.slice (some ⟨ab, ao, none⟩) n ac), (.slice (some ⟨nb, no, none⟩) n nc)] 25 ∧ Blk W13 bv ((nx1.map (Value.int .i64)).toArray) 3 ∧ (x ≤ c) ∧ (Nxt n c d l s x nx1) ∧ (Blk W13 bw (l.map (Value.int .i64)).toArray TDI) ∧ (W13.ownsRow n1 TDI 1 (.slice oa k oc) k (out.map (Value.int .i64))) ∧ (n1 ≤ W13.heap.size) ∧ nn_ = c - x) (n := c - 0) ?_ ?_
            · exact ⟨0, nx, Fits.out ⟨rfl, rfl, rfl, rfl, rfl, rfl, rfl, rfl, rfl, rfl, rfl, rfl, rfl, trivial⟩, E, Bq, Bv, Nat.zero_le _, hN, hB1, hOw1, hsz1, rfl⟩
            · clear E Bq Bv
              rintro _ _ W13 ⟨x, nx1, ⟨j13, rfl⟩, E, Bq, Bv, hx, hN1, hB1, hOw1, hsz1, rfl⟩
              refine Wp_seq_region ?_
              refine WpL_val rfl rfl (by decide) (r_lss (k := .i64) (a := ((x : Nat) : Int)) (b := ((c : Nat) : Int)) rfl rfl) ?_
              refine WpL_nil ?_
              refine Wp_seq ?_
              refine Wp_cond (b := decide ((((x : Nat) : Int) : Int) < ((c : Nat) : Int))) rfl (fun hlt3 => ?_) (fun hlt3 => ?_)
              · have khlt3 := hlt3
                replace hlt3 := of_decide_eq_true hlt3
                obtain ⟨t, ht⟩ := get_of_lt (l := row) (i := x) (by omega)
                obtain ⟨rb, ro, rfl, hrc⟩ := ints_cells (n := c) hri (by omega)
                obtain ⟨htk, _, _, hxl, hxh⟩ := toD_row ok hrow ht
                refine Wp_skip ?_
                refine thn_normal ?_
                refine Wp_seq ?_
                refine Wp_block ?_
                refine Wp_seq_region ?_
                refine WpL_val rfl rfl (by decide) (r_indexSlice (b := rb) (o := ro) (len := c) (cap := rc) (i := x) (o' := ro + x) rfl rfl rfl Try.underlying22 siz3 (by omega) (by omega)) ?_
                refine WpL_val rfl rfl (by decide) (r_load (v := (.int .i64 t)) rfl flat3 (E.cell (fun f => f) (hrc x t ht))) ?_
                refine WpL_val rfl rfl (by decide) (r_assign (v := (.int .i64 t)) rfl) ?_
                refine WpL_nil ?_
                refine Wp_seq_region ?_
                refine WpL_val rfl rfl (by decide) (r_move (v := (.int .i64 t)) rfl) ?_
                refine WpL_val rfl rfl (by decide) (r_geq (k := .i64) (a := t) (b := 0) rfl rfl) ?_
                refine WpL_nil ?_
                refine Wp_cond (b := decide ((0 : Int) ≤ t)) rfl (fun hneg => ?_) (fun hneg => ?_)
                · have khneg := hneg
                  replace hneg := of_decide_eq_true hneg
                  obtain ⟨tN, htN⟩ := Int.eq_ofNat_of_zero_le hneg
                  obtain ⟨y, hy⟩ := get_of_lt (l := nx1) (i := tN) (by have := hN1.len; omega)
                  have hyn := hN1.nn y (List.mem_of_getElem? hy)
                  have hN2 := hN1.put (by rw [hgw]; exact hwn) (htk.trans htN) hy
                  rw [hgw] at hN2
                  have hby := hN2.bound hW (by omega) (x := y + w) (List.mem_of_getElem? (List.getElem?_set_self (lt_of_get hy)))
                  refine Wp_region ?_
                  refine WpL_val rfl rfl (by decide) (r_move (v := (.slice (some ⟨bv, 0, none⟩) n n)) rfl) ?_
                  refine WpL_val rfl rfl (by decide) (r_move (v := (.int .i64 t)) rfl) ?_
                  refine WpL_val rfl rfl (by decide) (r_move (v := (.slice (some ⟨bv, 0, none⟩) n n)) rfl) ?_
                  refine WpL_val rfl rfl (by decide) (r_move (v := (.int .i64 t)) rfl) ?_
                  refine WpL_val rfl rfl (by decide) (r_indexSlice (b := bv) (o := 0) (len := n) (cap := n) (i := tN) (o' := 0 + tN) rfl rfl (by omega) Try.underlying22 siz3 (by omega) (by omega)) ?_
                  refine WpL_val rfl rfl (by decide) (r_load (v := (.int .i64 y)) rfl flat3 (ints_at_blk Bv hy)) ?_
                  refine WpL_val rfl rfl (by decide) (r_move (v := (.int .i64 w)) rfl) ?_
                  refine WpL_val rfl rfl (by decide) (r_add (k := .i64) (a := y) (b := w) (c := y + w) rfl rfl (wI64 (by omega))) ?_
                  refine WpL_val rfl rfl (by decide) (r_minI (k := .i64) (a := y + w) (b := 1000000000) (c := y + w) rfl rfl (by omega)) ?_
                  refine WpL_val rfl rfl (by decide) (r_indexSlice (b := bv) (o := 0) (len := n) (cap := n) (i := tN) (o' := 0 + tN) rfl rfl (by omega) Try.underlying22 siz3 (by omega) (by omega)) ?_
                  refine s_store (b := bv) (o := 0 + tN) (c' := ((nx1.set tN (y + w)).map (Value.int .i64)).toArray) (v := (.int .i64 (y + w))) rfl rfl rfl siz3 Bv (by have := hN1.len; simp; omega) (ints_setD _) ?_
                  intro w16 S16
                  replace hB1 := S16.keep (by omega) hB1
                  replace hOw1 := own_chg hOw1 S16.chg fun b hb h => by have := hOz b hb; have h' : b = bv := h; omega
                  replace hsz1 := Nat.le_trans hsz1 S16.chg.size
                  replace Bq := S16.keep (by omega) Bq
                  replace E := S16.step E (by first | exact Or.inl (by omega) | exact Or.inr rfl | exact Or.inr (by assumption) | exact Or.inr (by simp) | exact Or.inr (by omega) | exact Or.inr (by dsimp only; omega))
                  replace Bv := S16.blk
                  refine WpL_nil ?_
                  refine inB_normal ?_
                  refine thn_normal ?_
                  refine Wp_region ?_
                  refine WpL_val rfl rfl (by decide) (r_add (k := .i64) (a := ((x : Nat) : Int)) (b := 1) (c := ((x : Nat) : Int) + 1) rfl rfl (wI64 (by omega))) ?_
                  refine WpL_val rfl rfl (by decide) (r_move (v := (.int .i64 (((x : Nat) : Int) + 1))) rfl) ?_
                  refine WpL_nil ?_
                  refine thn_normal ?_
                  exact ⟨c - (x + 1), by omega, x + 1, nx1.set tN (y + w), Fits.out ⟨rfl, rfl, rfl, rfl, rfl, rfl, rfl, rfl, rfl, rfl, rfl, rfl, rfl, trivial⟩, E, Bq, Bv, (by omega), hN2, hB1, hOw1, hsz1, rfl⟩
                · have khneg := hneg
                  replace hneg := of_decide_eq_false hneg
                  refine Wp_skip ?_
                  refine inB_normal ?_
                  refine thn_normal ?_
                  refine Wp_region ?_
                  refine WpL_val rfl rfl (by decide) (r_add (k := .i64) (a := ((x : Nat) : Int)) (b := 1) (c := ((x : Nat) : Int) + 1) rfl rfl (wI64 (by omega))) ?_
                  refine WpL_val rfl rfl (by decide) (r_move (v := (.int .i64 (((x : Nat) : Int) + 1))) rfl) ?_
                  refine WpL_nil ?_
                  refine thn_normal ?_
                  exact ⟨c - (x + 1), by omega, x + 1, nx1, Fits.out ⟨rfl, rfl, rfl, rfl, rfl, rfl, rfl, rfl, rfl, rfl, rfl, rfl, rfl, trivial⟩, E, Bq, Bv, (by omega), hN1.skip (by rw [hgw]; exact hwn) (by rw [htk]; omega), hB1, hOw1, hsz1, rfl⟩
              · have khlt3 := hlt3
                replace hlt3 := of_decide_eq_false hlt3
                have hxc : x = c := by omega
                subst hxc
                refine Wp_exit ?_
                refine thn_exit ?_
                refine thn_exit ?_
                refine inB_here ?_
                refine inB_normal ?_
                refine thn_normal ?_
                refine Wp_region ?_
                refine WpL_val rfl rfl (by decide) (r_add (k := .i64) (a := ((s : Nat) : Int)) (b := 1) (c := ((s : Nat) : Int) + 1) rfl rfl (wI64 (by omega))) ?_
                refine WpL_val rfl rfl (by decide) (r_move (v := (.int .i64 (((s : Nat) : Int) + 1))) rfl) ?_
                refine WpL_nil ?_
                refine thn_normal ?_
                exact ⟨n - (s + 1), by omega, s + 1, nx1, sum1, Fits.out ⟨rfl, rfl, rfl, rfl, rfl, rfl, rfl, rfl, rfl, trivial⟩, E, Bq, Bv, (by omega), hN1.row hw, hsum1, hB1, hOw1, hsz1, rfl⟩
        · have khlt2 := hlt2
          replace hlt2 := of_decide_eq_false hlt2
          have hsn : s = l.length := by have := hW.len; omega
          have hsm : sum = cntF c k (beh d d.start) := by rw [hsum, hsn, List.take_length, hW.dot 0, Nat.add_zero]
          refine Wp_exit ?_
          refine thn_exit ?_
          refine thn_exit ?_
          refine inB_here ?_
          refine thn_normal ?_
          refine Wp_seq_region ?_
          refine WpL_val rfl rfl (by decide) (r_move (v := (.slice oa k oc)) rfl) ?_
          refine WpL_val rfl rfl (by decide) (r_move (v := (.int .i64 sum)) rfl) ?_
          refine s_buildSlice (ps := [(0, (.int .i64 sum))]) (c := #[(.int .i64 sum)]) (by decide) rfl Try.underlying22 siz3 zer3 (by decide) (by decide) (by kernel_rfl) ?_
          intro b17 w17 N17
          have F17 := N17.ge E
          have O17_bq := N17.lt Bq
          have O17_bv := N17.lt Bv
          replace Bq := N17.keep Bq
          replace Bv := N17.keep Bv
          replace hOw := own_ext hOw N17.ext
          replace hsz := Nat.le_trans hsz N17.ext.size
          replace E := E.ext N17.ext
          have B17 := N17.blk
          refine s_append (base := n1) (n := k) (m := 1) (xs := (out.map (Value.int .i64))) (news := [(.int .i64 sum)]) (size := 1) (bytes := 8) (v := (.slice oa k oc)) (by decide) Try.underlying22 siz3 byt3 zer3 rfl (by decide) rfl hOw rfl (rfl) (B17.cells rfl) (by simp [Value.oneCell']) (by unfold maxLen; omega) (by omega) (hsz) ?_
          intro v7 w59 Ov7 Cv7 Dv7
          replace Bq := Cv7.keep (fun h => by have := (hOw.lt _ h).1; omega) Bq
          replace Bv := Cv7.keep (fun h => (by have := hOz _ h; omega)) Bv
          replace E := E.step Cv7 (fun x hx h => absurd (hOw.lt x h).1 (by omega))
          obtain ⟨sa3, sc3, rfl⟩ := own_form Ov7
          refine WpL_val rfl rfl (by decide) (r_assign (v := (.slice sa3 (k + 1) sc3)) rfl) ?_
          refine WpL_nil ?_
          refine Wp_region ?_
          refine WpL_val rfl rfl (by decide) (r_move (v := (.slice (some ⟨bv, 0, none⟩) n n)) rfl) ?_
          refine WpL_val rfl rfl (by decide) (r_assign (v := (.slice (some ⟨bv, 0, none⟩) n n)) rfl) ?_
          refine WpL_nil ?_
          refine inB_normal ?_
          refine thn_normal ?_
          refine Wp_region ?_
          refine WpL_val rfl rfl (by decide) (r_add (k := .i64) (a := ((k : Nat) : Int)) (b := 1) (c := ((k : Nat) : Int) + 1) rfl rfl (wI64 (by omega))) ?_
          refine WpL_val rfl rfl (by decide) (r_move (v := (.int .i64 (((k : Nat) : Int) + 1))) rfl) ?_
          refine WpL_nil ?_
          refine thn_normal ?_
          exact ⟨m + 1 - (k + 1), by omega, k + 1, nx, out ++ [sum], bv, sa3, sc3, Fits.out ⟨rfl, rfl, rfl, rfl, rfl, trivial⟩, E, Bq, (by omega), hN.done hsn hW, (by rw [List.range_succ, List.map_append, ← hout, hsm]; rfl), Bv, (by rw [List.map_append]; exact Ov7), Nat.le_trans hsz Cv7.size, rfl⟩
    · have khlt := hlt
      replace hlt := of_decide_eq_false hlt
      have hkm : k = m + 1 := by omega
      refine Wp_exit ?_
      refine thn_exit ?_
      refine thn_exit ?_
      refine inB_here ?_
      refine thn_normal ?_
      refine Wp_seq_region ?_
      refine WpL_val rfl rfl (by decide) (r_move (v := (.slice oa k oc)) rfl) ?_
      refine WpL_val rfl rfl (by decide) (r_assign (v := (.slice oa k oc)) rfl) ?_
      refine WpL_val rfl rfl (by decide) (r_assign (v := (.int .i64 0)) rfl) ?_
      refine WpL_nil ?_
      refine Wp_ret ?_
      refine fin_tmp2 Try.results26 (v := (.slice oa k oc)) (v' := (.int .i64 0)) rfl rfl ?_
      rw [hkm] at hout hOw
      exact ⟨⟨oa, oc, by rw [hkm], by rw [← hout]; exact own_intsD hOw (by rw [hout]; simp)⟩, E⟩
end Go.Proofs
