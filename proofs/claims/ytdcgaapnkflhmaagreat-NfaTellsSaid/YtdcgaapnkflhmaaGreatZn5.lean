/- Contracts and plain lemmas, part 5. -/
import Derived.Tactics
import Derived.Deep.Quiet
import Derived.Laws.AppendOwn
import Derived.KernelRfl
import Derived.Laws.Entries
import Derived.Laws.Build
import Derived.Below
import Derived.RowKit3
import Derived.StillTail
import Derived.Sort.Grow
import Derived.Deep.Draws
import Derived.Test.YtdcgaapnkflhmaaGreatChecked
import Derived.Laws.StructEq
import Derived.MapKept
import Derived.Laws.BytesArg
import Derived.Defers
import Derived.Recover
import Derived.Shelf.SlSortCmp.WholeK
import Derived.Shelf.Sort.Plain
import Derived.Shelf.Slices.CompactI
import Derived.Test.YtdcgaapnkflhmaaGreatProg
import Derived.Shelf.Small.Bits
import Derived.DeepKeys3
import Derived.OpenShut
import Derived.ChangeSlices
import Derived.Test.YtdcgaapnkflhmaaGreatRows
import Derived.SizedLaws
import Derived.Test.YtdcgaapnkflhmaaGreatZn4
namespace Go.Proofs
open Go Go.Eng Go.Sort
set_option maxRecDepth 100000
/-- The marked states among the first k, gathered. -/
structure WkP (M : List Bool) (k : Nat) (work : List Int) : Prop where
 mem : ∀ j : Nat, j < k → M[j]? = some true → (j : Int) ∈ work
 tru : ∀ s ∈ work, ∃ j : Nat, s = (j : Int) ∧ M[j]? = some true
 len : work.length ≤ k
theorem WkP.start (M : List Bool) : WkP M 0 [] := ⟨fun j h => absurd h (Nat.not_lt_zero _), fun s h => (by cases h), Nat.le_refl _⟩
theorem WkP.add {M : List Bool} {k : Nat} {work : List Int} (h : WkP M k work) (hk : M[k]? = some true) : WkP M (k + 1) (work ++ [(k : Int)]) := by
 refine ⟨fun j hj hm => ?_, fun s hs => ?_, by simp; exact h.len⟩
 ·rcases Nat.lt_or_ge j k with h1 | h1
  ·exact List.mem_append_left _ (h.mem j h1 hm)
  ·obtain rfl : j = k := (by omega)
   simp
 ·rcases List.mem_append.1 hs with h1 | h1
  ·exact h.tru s h1
  ·exact ⟨k, List.mem_singleton.1 h1, hk⟩
theorem WkP.skip {M : List Bool} {k : Nat} {work : List Int} (h : WkP M k work) (hk : M[k]? = some false) : WkP M (k + 1) work := by
 refine ⟨fun j hj hm => ?_, h.tru, Nat.le_succ_of_le h.len⟩
 rcases Nat.lt_or_ge j k with h1 | h1
 ·exact h.mem j h1 hm
 ·obtain rfl : j = k := (by omega)
  rw [hk] at hm; cases hm
theorem ep_nat {n : Nf} (ok : OkN n) {N : Nat} (hN : n.states = (N : Int)) {p : Int × Int} (hp : p ∈ n.eps) : ∃ a c : Nat, p = ((a : Int), (c : Int)) ∧ a < N ∧ c < N := by
 have h := ok.ep p hp
 obtain ⟨a, ha⟩ := Int.eq_ofNat_of_zero_le h.1.1
 obtain ⟨c, hc⟩ := Int.eq_ofNat_of_zero_le h.2.1
 exact ⟨a, c, by rw [← ha, ← hc], by omega, by omega⟩
set_option maxHeartbeats 4000000 in
theorem nclose_c (w0 wb : World) (n : Nf) (vs0 : List Value) (bq N : Nat) (M : List Bool) (I : Int → Prop) (ok : OkN n) (hN : n.states = (N : Int)) (h : NfAt wb n vs0) (E1 : Ext wb w0) (hbq : wb.heap.size ≤ bq) (hB : Blk w0 bq (M.map Value.bool).toArray 4) (hMl : M.length = N) (hI : ∀ s, I s → 0 ≤ s ∧ s < n.states) (hm : MarkOf M I) :
  Ret Tryz.prog 36 #[.agg vs0.toArray, .slice (some ⟨bq, 0, none⟩) N N] w0 fun _ w => (∃ M', M'.length = N ∧ MarkOf M' (cloP n.eps I) ∧ Blk w bq (M'.map Value.bool).toArray 4) ∧ Chg (fun y => y = bq) w0 w := by
 obtain ⟨ea, ec, pa, pc, xa, xc, rfl, hen, hep, hed⟩ := h
 have hst := ok.st
 rw [hN]
 have hpl := ok.pl
 have hN5 : N ≤ 500 := by omega
 have hbl := hB.lt
 refine Ret_of Tryz.func36 rfl Tryz.ntmps36 (Nat.le_of_ble_eq_true rfl) ?_
 have E : Chg (fun y => y = bq) w0 w0 := Chg.refl _ _
 refine Wp_seq_region ?_
 refine s_box (v := (.agg #[(I6 (N : Int)), (I6 n.start), (.slice ea n.ends.length ec), (.slice pa n.eps.length pc), (.slice xa n.edges.length xc)])) (c := #[(I6 (N : Int)), (I6 n.start), (.slice ea n.ends.length ec), (.slice pa n.eps.length pc), (.slice xa n.edges.length xc)]) (by decide) rfl rfl ?_
 intro bn wn Nn
 have Fn := Nn.ge E
 have Fn_E1 := Nn.ge E1
 have On_bq := Nn.lt hB
 replace hB := Nn.keep hB
 replace E := E.ext Nn.ext
 have Bn := Nn.blk
 replace E1 := E1.ext Nn.ext
 refine WpL_nil (Wp_seq_region ?_)
 refine qF bn 0 0 rfl Tryz.underlying26 rfl siz3 rfl ?_
 refine qV (r_load (v := (I6 (N : Int))) rfl flat3 (Bn.cell rfl)) ?_
 refine s_make (n := N) (z := (.slice none 0 0)) (bytes := 24) (by decide) Tryz.underlying49 siz22 byt22 zer22 rfl rfl rfl (by omega) (by omega) ?_
 intro bi wi Ni
 have Fi := Ni.ge E
 have Fi_E1 := Ni.ge E1
 have Oi_bq := Ni.lt hB
 have Oi_bn := Ni.lt Bn
 replace hB := Ni.keep hB
 replace Bn := Ni.keep Bn
 replace E := E.ext Ni.ext
 have Bi := Ni.blk
 replace E1 := E1.ext Ni.ext
 refine qA (.slice (some ⟨bi, 0, none⟩) N N) rfl ?_
 refine WpL_nil (Wp_seq (Wp_seq_region ?_))
 refine qF bn 0 3 rfl Tryz.underlying26 rfl siz23 rfl ?_
 refine qV (r_load (v := (.slice pa n.eps.length pc)) rfl flat23 (Bn.cell rfl)) ?_
 refine qV (r_lenSlice (ad := pa) (n := n.eps.length) (cap := pc) Tryz.underlying23 rfl) ?_
 refine qM (I6 0) rfl ?_
 refine WpL_nil (Wp_block ?_)
 obtain ⟨n1, hn1e⟩ : ∃ n1, n1 = wn.heap.size := ⟨_, rfl⟩
 have hw1 : w0.heap.size ≤ n1 ∧ wb.heap.size ≤ n1 := by have := Nn.ext.size; have := E1.size; omega
 have hbi1 : n1 ≤ bi := by have := Ni.eq; omega
 have hbd1 : bn < n1 ∧ bq < n1 := by have := Nn.eq; have := Nn.size; omega
 have hG0 := GSt.made (To := TDIs) (e := TDI) (sz := 1) (base := n1) (n := N) Bi hbi1 (by omega) hbi1
 have hs0 : n1 ≤ wi.heap.size := by have := Ni.ext.size; omega
 refine Wp_loop (fun nn_ σ W1 => ∃ (k : Nat) (into : List (List Int)) (vs : List Value), (∃ jj_, σ = upds jj_ [(1, (.slice (some ⟨bq, 0, none⟩) N N)), (4, (.slice (some ⟨bi, 0, none⟩) N N)), (17, (.slice pa n.eps.length pc)), (18, (I6 (n.eps.length : Int))), (19, (I6 (k : Int)))]) ∧ Chg (fun y => y = bq) w0 W1 ∧ Chg none1 wb W1 ∧ Blk W1 bq ((M.map Value.bool).toArray) 4 ∧ Blk W1 bn #[(I6 (N : Int)), (I6 n.start), (.slice ea n.ends.length ec), (.slice pa n.eps.length pc), (.slice xa n.edges.length xc)] 26 ∧ (k ≤ n.eps.length) ∧ (SucP n.eps N k into) ∧ (GSt TDIs TDI 1 W1 n1 (.slice (some ⟨bi, 0, none⟩) N N) vs (into.map iRow)) ∧ (n1 ≤ W1.heap.size) ∧ nn_ = n.eps.length - k) (n := n.eps.length - 0) ?_ ?_
 ·exact ⟨0, List.replicate N [], List.replicate N (.slice none 0 0), Fits.out ⟨rfl, rfl, rfl, rfl, rfl, trivial⟩, E, E1, hB, Bn, Nat.zero_le _, SucP.start _ _, (by rw [iRow_rep]; exact hG0), hs0, rfl⟩
 ·clear E E1 hB Bn
  rintro _ _ W1 ⟨k, into, vs, ⟨j1, rfl⟩, E, E1, hB, Bn, hk, hS, hG, hsz, rfl⟩
  refine Wp_seq_region ?_
  refine qV (r_lss (k := .i64) (a := (k : Int)) (b := (n.eps.length : Int)) rfl rfl) ?_
  refine WpL_nil (Wp_seq ?_)
  refine Wp_cond (b := decide (((k : Int) : Int) < (n.eps.length : Int))) rfl (fun hlt => ?_) (fun hlt => ?_)
  ·have khlt := hlt
   replace hlt := of_decide_eq_true hlt
   obtain ⟨p, hp⟩ := get_of_lt (l := n.eps) (i := k) (by omega)
   obtain ⟨a, c, hpe, ha, hc⟩ := ep_nat ok hN (List.mem_of_getElem? hp)
   obtain ⟨pb, po, rfl, hpc⟩ := spans_cells hep (by omega)
   have hpc0 := hpc k p hp
   rw [hpe] at hpc0
   obtain ⟨l0, hl0⟩ := get_of_lt (l := into) (i := a) (by have := hS.1; omega)
   have hlen := hS.len hl0
   have hGl : (into.map iRow).length = N := by rw [List.length_map]; exact hS.1
   obtain ⟨v1, hv1⟩ := get_of_lt (l := vs) (i := a) (by have := hG.l.len; omega)
   have hp1 : (into.map iRow)[a]? = some (l0.length, l0.map (Value.int .i64)) := by rw [List.getElem?_map, hl0]; rfl
   have hinn := hG.l.inn a v1 _ hv1 hp1
   have hinl0 := hinn.lt
   obtain ⟨va, vc, rfl⟩ := own_form hinn
   refine Wp_skip (thn_normal (Wp_seq (Wp_block (Wp_seq_region ?_))))
   refine qV (r_indexSlice (b := pb) (o := po) (len := n.eps.length) (cap := pc) (i := k) (o' := po + k * 2) rfl rfl rfl Tryz.underlying23 siz36 (by omega) (by omega)) ?_
   refine qV (r_loadAgg (vs := [(I6 (a : Int)), (I6 (c : Int))]) rfl agg36 siz36 rfl (hpc0.ext E1)) ?_
   refine s_allocStore (v := (.agg #[(I6 (a : Int)), (I6 (c : Int))])) (c := #[(I6 (a : Int)), (I6 (c : Int))]) (n := 2) (by decide) zer36 rfl siz36 rfl rfl rfl (by simp [Value.oneCell']) ?_
   intro bx wx Nx
   have Fx := Nx.ge E
   have Fx_E1 := Nx.ge E1
   have Ox_bq := Nx.lt hB
   have Ox_bn := Nx.lt Bn
   replace hB := Nx.keep hB
   replace Bn := Nx.keep Bn
   replace hG := hG.ext Nx.ext
   replace hinn := own_ext hinn Nx.ext
   replace hsz := Nat.le_trans hsz Nx.ext.size
   replace E := E.ext Nx.ext
   have Bx := Nx.blk
   replace E1 := E1.ext Nx.ext
   refine WpL_nil ?_
   obtain ⟨gg, hgg, _, hg2⟩ := own_cells (hG.l.on hGl.symm) (by omega)
   simp only [Option.some.injEq, Addr.mk.injEq, and_true] at hgg
   subst hgg
   have hbx := Nx.eq
   have hinl := hinn.lt
   obtain ⟨h0, hh0⟩ : ∃ h0, h0 = (wx).heap.size := ⟨_, rfl⟩
   obtain ⟨Fs3, hFs3⟩ : ∃ Fs : List (FactT ((fun y => (Value.slice va l0.length vc).ownBlock = some y))), Fs = [.eq (.slice (some ⟨bi, 0, none⟩) N N), .eq (P6 bx 0), .eq (I6 (a : Int)), .eq (.slice (some ⟨bi, 0, none⟩) N N), .eq (P6 bx 0), .eq (I6 (a : Int)), .eq (.pointer (some ⟨bi, 0 + a, none⟩)), .eq (.slice va l0.length vc), .eq (P6 bx 1), .eq (I6 (c : Int)), .till (litF TDI #[.int .i64 (c : Int)] 0) (litF_ext _ _ _), .own (appF n1 TDI 1 (l0.length + 1) (l0.map (Value.int .i64) ++ [Value.int .i64 (c : Int)]) (.slice va l0.length vc) h0) (appF_ext _ _ _ _ _ _ _)] := ⟨_, rfl⟩
   refine Wp_dagT ((fun y => (Value.slice va l0.length vc).ownBlock = some y)) 12 11 [23, 24, 25, 26, 27, 28, 29, 30, 31, 32, 33, 34] [[], [], [1], [], [], [4], [3, 5], [6], [], [8], [9], [7, 10]] Fs3 hFs3 rfl mixed (by kernel_rfl) (by kernel_rfl) (by kernel_rfl) ?_ ?_
   ·intro wd X0
    refine DagStepsT.cons (fun s' w' X U H => ?_) ?_
    ·exact DoesT_val (r_move (v := (.slice (some ⟨bi, 0, none⟩) N N)) (U 4 rfl)) (Chg.refl _ _) rfl
    refine DagStepsT.cons (fun s' w' X U H => ?_) ?_
    ·exact DoesT_val (r_indexArr (b := bx) (o := 0) (i := 0) (o' := 0) (U 6 rfl) rfl rfl Tryz.underlying36 siz3 (by omega) (by omega)) (Chg.refl _ _) rfl
    refine DagStepsT.cons (fun s' w' X U H => ?_) ?_
    ·have e24 : s' 24 = (.pointer (some ⟨bx, 0, none⟩)) := H 1 rfl 24 (.eq (.pointer (some ⟨bx, 0, none⟩))) rfl (by rw [hFs3]; rfl)
     exact DoesT_val (r_load (v := (I6 (a : Int))) e24 flat3 ((Chg.keep X (fun h => by have := (hinl0 _ h).2; omega) (X0.keep Bx)).cell rfl)) (Chg.refl _ _) rfl
    refine DagStepsT.cons (fun s' w' X U H => ?_) ?_
    ·exact DoesT_val (r_move (v := (.slice (some ⟨bi, 0, none⟩) N N)) (U 4 rfl)) (Chg.refl _ _) rfl
    refine DagStepsT.cons (fun s' w' X U H => ?_) ?_
    ·exact DoesT_val (r_indexArr (b := bx) (o := 0) (i := 0) (o' := 0) (U 6 rfl) rfl rfl Tryz.underlying36 siz3 (by omega) (by omega)) (Chg.refl _ _) rfl
    refine DagStepsT.cons (fun s' w' X U H => ?_) ?_
    ·have e27 : s' 27 = (.pointer (some ⟨bx, 0, none⟩)) := H 4 rfl 27 (.eq (.pointer (some ⟨bx, 0, none⟩))) rfl (by rw [hFs3]; rfl)
     exact DoesT_val (r_load (v := (I6 (a : Int))) e27 flat3 ((Chg.keep X (fun h => by have := (hinl0 _ h).2; omega) (X0.keep Bx)).cell rfl)) (Chg.refl _ _) rfl
    refine DagStepsT.cons (fun s' w' X U H => ?_) ?_
    ·have e26 : s' 26 = (.slice (some ⟨bi, 0, none⟩) N N) := H 3 rfl 26 (.eq (.slice (some ⟨bi, 0, none⟩) N N)) rfl (by rw [hFs3]; rfl)
     have e28 : s' 28 = (.int .i64 ((a : Nat) : Int)) := H 5 rfl 28 (.eq (.int .i64 ((a : Nat) : Int))) rfl (by rw [hFs3]; rfl)
     exact DoesT_val (r_indexSlice (b := bi) (o := 0) (len := N) (cap := N) (i := a) (o' := 0 + a) e26 e28 rfl Tryz.underlying49 siz22 (by omega) (by omega)) (Chg.refl _ _) rfl
    refine DagStepsT.cons (fun s' w' X U H => ?_) ?_
    ·have e29 : s' 29 = (.pointer (some ⟨bi, 0 + a, none⟩)) := H 6 rfl 29 (.eq (.pointer (some ⟨bi, 0 + a, none⟩))) rfl (by rw [hFs3]; rfl)
     exact DoesT_val (r_load (v := (.slice va l0.length vc)) e29 flat22 (by have h1 := hg2 a _ hv1; exact (Ext.cell X (X0.cell h1)))) (Chg.refl _ _) rfl
    refine DagStepsT.cons (fun s' w' X U H => ?_) ?_
    ·exact DoesT_val (r_indexArr (b := bx) (o := 0) (i := 1) (o' := 1) (U 6 rfl) rfl rfl Tryz.underlying36 siz3 (by omega) (by omega)) (Chg.refl _ _) rfl
    refine DagStepsT.cons (fun s' w' X U H => ?_) ?_
    ·have e31 : s' 31 = (.pointer (some ⟨bx, 1, none⟩)) := H 8 rfl 31 (.eq (.pointer (some ⟨bx, 1, none⟩))) rfl (by rw [hFs3]; rfl)
     exact DoesT_val (r_load (v := (I6 (c : Int))) e31 flat3 ((Chg.keep X (fun h => by have := (hinl0 _ h).2; omega) (X0.keep Bx)).cell rfl)) (Chg.refl _ _) rfl
    refine DagStepsT.cons (fun s' w' X U H => ?_) ?_
    ·have e32 : s' 32 = (.int .i64 ((c : Nat) : Int)) := H 9 rfl 32 (.eq (.int .i64 ((c : Nat) : Int))) rfl (by rw [hFs3]; rfl)
     exact DoesT_lit Tryz.underlying22 siz3 zer3 e32 (by decide) (by decide) (by kernel_rfl) (Nat.zero_le _)
    refine DagStepsT.cons (fun s' w' X U H => ?_) ?_
    ·have e30 : s' 30 = (.slice va l0.length vc) := H 7 rfl 30 (.eq (.slice va l0.length vc)) rfl (by rw [hFs3]; rfl)
     obtain ⟨b33, e33, B33, _⟩ := (show (.till (litF TDI #[.int .i64 ((c : Nat) : Int)] 0) (litF_ext _ _ _) : FactT ((fun y => (Value.slice va l0.length vc).ownBlock = some y))).In (s' 33) w' from FactT.at_false (H 10 rfl 33 (.till (litF TDI #[.int .i64 ((c : Nat) : Int)] 0) (litF_ext _ _ _)) rfl (by rw [hFs3]; rfl)))
     exact DoesT_append Tryz.underlying22 siz3 byt3 zer3 rfl (by decide) e30 (own_ext (own_ext hinn X0) X) e33 rfl (B33.cells rfl) (by simp [Value.oneCell']) (by unfold maxLen; omega) (by omega) (by have := X0.size; have := X.size; omega) (fun y h => h) (by have := X0.size; have := X.size; omega)
    exact DagStepsT.nil
   ·intro s' wd3 w3 X0 X3 U H
    have e23 : s' 23 = (.slice (some ⟨bi, 0, none⟩) N N) := H 0 23 (.eq (.slice (some ⟨bi, 0, none⟩) N N)) rfl (by rw [hFs3]; rfl)
    have e25 : s' 25 = (.int .i64 ((a : Nat) : Int)) := H 2 25 (.eq (.int .i64 ((a : Nat) : Int))) rfl (by rw [hFs3]; rfl)
    obtain ⟨⟨a34, c34, e34⟩, O34, D34⟩ := (show (.own (appF n1 TDI 1 (l0.length + 1) (l0.map (Value.int .i64) ++ [Value.int .i64 ((c : Nat) : Int)]) (.slice va l0.length vc) h0) (appF_ext _ _ _ _ _ _ _) : FactT ((fun y => (Value.slice va l0.length vc).ownBlock = some y))).In (s' 34) w3 from H 11 34 (.own (appF n1 TDI 1 (l0.length + 1) (l0.map (Value.int .i64) ++ [Value.int .i64 ((c : Nat) : Int)]) (.slice va l0.length vc) h0) (appF_ext _ _ _ _ _ _ _)) rfl (by rw [hFs3]; rfl))
    obtain ⟨j3, rfl⟩ := Fits.out (σ := s') (l := [(1, (.slice (some ⟨bq, 0, none⟩) N N)), (4, (.slice (some ⟨bi, 0, none⟩) N N)), (17, (.slice (some ⟨pb, po, none⟩) n.eps.length pc)), (18, (.int .i64 ((n.eps.length : Nat) : Int))), (19, (.int .i64 ((k : Nat) : Int))), (23, (.slice (some ⟨bi, 0, none⟩) N N)), (25, (.int .i64 ((a : Nat) : Int))), (34, (.slice a34 (l0.length + 1) c34))]) ⟨U 1 rfl, U 4 rfl, U 17 rfl, U 18 rfl, U 19 rfl, e23, e25, e34, trivial⟩
    clear U H
    replace hB := Chg.keep X3 (fun h => by have := (hinl _ h).1; omega) (X0.keep hB)
    replace Bn := Chg.keep X3 (fun h => by have := (hinl _ h).1; omega) (X0.keep Bn)
    replace Bx := Chg.keep X3 (fun h => by have := (hinl0 _ h).2; omega) (X0.keep Bx)
    have hXm := Chg.trans (Ext.chg X0) X3
    replace E := (E.ext X0).step X3 (fun y hy h => by have := (hinl _ h).1; omega)
    replace E1 := (E1.ext X0).step X3 (fun y hy h => by have := (hinl _ h).1; omega)
    obtain ⟨cur, hBo, hcs⟩ := own_blkG (own_chg (hG.l.on hGl.symm) hXm (fun b hb hm => hG.l.apo a _ _ hv1 hm hb))
    have hs9 := Nat.le_trans hsz hXm.size
    have hPx : True := trivial
    have hBo0 := hBo
    refine qV (r_indexSlice (b := bi) (o := 0) (len := N) (cap := N) (i := a) (o' := 0 + a) rfl rfl rfl Tryz.underlying49 siz22 (by omega) (by omega)) ?_
    refine s_store (b := bi) (o := 0 + a) (c' := cur.setIfInBounds (0 + a) (.slice a34 (l0.length + 1) c34)) (v := (.slice a34 (l0.length + 1) c34)) rfl rfl rfl siz22 hBo (by omega) (rfl) ?_
    intro w4 S4
    replace hPx := S4
    replace hs9 := Nat.le_trans hs9 S4.chg.size
    replace hB := S4.keep (by omega) hB
    replace Bn := S4.keep (by omega) Bn
    replace E := S4.step E (by first | exact Or.inl (by omega) | exact Or.inr rfl | exact Or.inr (by assumption) | exact Or.inr (by simp) | exact Or.inr (by omega) | exact Or.inr (by dsimp only; omega))
    replace E1 := S4.step E1 (Or.inl (by omega))
    replace hBo := S4.blk
    have hG9 := hG.grow hGl.symm hv1 hp1 (m' := l0.length + 1) (xs' := (l0 ++ [((c : Nat) : Int)]).map (Value.int .i64)) (v' := .slice a34 (l0.length + 1) c34) (by rw [e34] at O34; rw [List.map_append]; exact O34) hXm (by rw [e34, hh0] at D34; exact D34) hBo0 (by simpa using hPx)
    refine WpL_nil (inB_normal (thn_normal (Wp_region ?_)))
    refine qV (r_add (k := .i64) (a := (k : Int)) (b := 1) (c := (k : Int) + 1) rfl rfl (wI64 (by omega))) ?_
    refine qM (I6 ((k : Int) + 1)) rfl ?_
    refine WpL_nil (thn_normal ?_)
    exact ⟨n.eps.length - (k + 1), by omega, k + 1, into.set a (l0 ++ [((c : Nat) : Int)]), vs.set a (.slice a34 (l0.length + 1) c34), Fits.out ⟨rfl, rfl, rfl, rfl, rfl, trivial⟩, E, E1, hB, Bn, (by omega), (by have h9 := hS.add hp (a := a) (by rw [hpe]) hl0; rw [hpe] at h9; exact h9), (by rw [List.map_set]; simpa [iRow] using hG9), hs9, rfl⟩
  ·have khlt := hlt
   replace hlt := of_decide_eq_false hlt
   have hSk : n.eps.length ≤ k := by omega
   obtain ⟨n3, hn3e⟩ : ∃ n3, n3 = (W1).heap.size := ⟨_, rfl⟩
   have hn13 : n1 ≤ n3 := by omega
   have hbn3 : bn < n3 ∧ bq < n3 := by omega
   have E9 : Chg none1 W1 W1 := Chg.refl _ _
   refine Wp_exit (thn_exit (thn_exit (inB_here (thn_normal (Wp_seq_region ?_)))))
   refine qA (.slice none 0 0) rfl ?_
   refine WpL_nil (Wp_seq (Wp_seq_region ?_))
   refine qM (.slice (some ⟨bq, 0, none⟩) N N) rfl ?_
   refine qV (r_lenSlice (ad := some ⟨bq, 0, none⟩) (n := N) (cap := N) Tryz.underlying72 rfl) ?_
   refine qM (I6 0) rfl ?_
   refine WpL_nil (Wp_block ?_)
   refine Wp_loop (fun nn_ σ W5 => ∃ (k2 : Nat) (work : List Int) (ka : Option Addr) (kc kn : Nat), (∃ jj_, σ = upds jj_ [(1, (.slice (some ⟨bq, 0, none⟩) N N)), (4, (.slice (some ⟨bi, 0, none⟩) N N)), (37, (.slice (some ⟨bq, 0, none⟩) N N)), (38, (I6 (N : Int))), (39, (I6 (k2 : Int))), (7, (.slice ka kn kc))]) ∧ Chg (fun y => y = bq) w0 W5 ∧ Chg none1 wb W5 ∧ Chg none1 W1 W5 ∧ Blk W5 bq ((M.map Value.bool).toArray) 4 ∧ Blk W5 bn #[(I6 (N : Int)), (I6 n.start), (.slice ea n.ends.length ec), (.slice pa n.eps.length pc), (.slice xa n.edges.length xc)] 26 ∧ (k2 ≤ N) ∧ (WkP M k2 work) ∧ (kn = work.length) ∧ (W5.ownsRow n3 TDI 1 (.slice ka kn kc) kn (work.map (Value.int .i64))) ∧ (n3 ≤ W5.heap.size) ∧ nn_ = N - k2) (n := N - 0) ?_ ?_
   ·exact ⟨0, [], none, 0, 0, Fits.out ⟨rfl, rfl, rfl, rfl, rfl, rfl, trivial⟩, E, E1, E9, hB, Bn, Nat.zero_le _, WkP.start M, rfl, World.ownsRow_nil _ _ _ _, (by omega), rfl⟩
   ·clear E E1 E9 hB Bn
    rintro _ _ W5 ⟨k2, work, ka, kc, kn, ⟨j5, rfl⟩, E, E1, E9, hB, Bn, hk2, hW, hkn, hw, hs3, rfl⟩
    refine Wp_seq_region ?_
    refine qV (r_lss (k := .i64) (a := (k2 : Int)) (b := (N : Int)) rfl rfl) ?_
    refine WpL_nil (Wp_seq ?_)
    refine Wp_cond (b := decide (((k2 : Int) : Int) < (N : Int))) rfl (fun hlt2 => ?_) (fun hlt2 => ?_)
    ·have khlt2 := hlt2
     replace hlt2 := of_decide_eq_true hlt2
     obtain ⟨q, hq⟩ := get_of_lt (l := M) (i := k2) (by omega)
     refine Wp_skip (thn_normal (Wp_seq (Wp_block (Wp_seq_region ?_))))
     refine qM (I6 (k2 : Int)) rfl ?_
     refine qV (r_indexSlice (b := bq) (o := 0) (len := N) (cap := N) (i := k2) (o' := 0 + k2) rfl rfl rfl Tryz.underlying72 siz4 (by omega) (by omega)) ?_
     refine qV (r_load (v := (.bool q)) rfl flat4 (hB.cell (by simp [hq]))) ?_
     refine qA (I6 (k2 : Int)) rfl ?_
     refine qA (.bool q) rfl ?_
     refine WpL_nil (Wp_seq_region ?_)
     refine qM (.bool q) rfl ?_
     refine WpL_nil ?_
     refine Wp_cond (b := q) rfl (fun hqt => ?_) (fun hqt => ?_)
     ·have khqt := hqt
      have hwl := hW.len
      refine Wp_region ?_
      refine qM (.slice ka kn kc) rfl ?_
      refine qM (I6 (k2 : Int)) rfl ?_
      refine s_buildSlice (ps := [(0, (I6 (k2 : Int)))]) (c := #[(I6 (k2 : Int))]) (by decide) rfl Tryz.underlying22 siz3 zer3 (by decide) (by decide) (by kernel_rfl) ?_
      intro b8 w8 N8
      have F8 := N8.ge E
      have F8_E1 := N8.ge E1
      have F8_E9 := N8.ge E9
      have O8_bq := N8.lt hB
      have O8_bn := N8.lt Bn
      replace hB := N8.keep hB
      replace Bn := N8.keep Bn
      replace hw := own_ext hw N8.ext
      replace hs3 := Nat.le_trans hs3 N8.ext.size
      replace E := E.ext N8.ext
      have B8 := N8.blk
      replace E1 := E1.ext N8.ext
      replace E9 := E9.ext N8.ext
      refine s_append (base := n3) (n := kn) (m := 1) (xs := (work.map (Value.int .i64))) (news := [(I6 (k2 : Int))]) (size := 1) (bytes := 8) (v := (.slice ka kn kc)) (by decide) Tryz.underlying22 siz3 byt3 zer3 rfl (by decide) rfl hw rfl (rfl) (B8.cells rfl) (by simp [Value.oneCell']) (by unfold maxLen; omega) (by omega) (hs3) ?_
      intro v7 w59 Ov7 Cv7 Dv7
      replace hB := Cv7.keep (fun h => by have := (hw.lt _ h).1; omega) hB
      replace Bn := Cv7.keep (fun h => by have := (hw.lt _ h).1; omega) Bn
      replace E := E.step Cv7 (fun x hx h => absurd (hw.lt x h).1 (by omega))
      replace E1 := E1.step Cv7 (fun x hx h => absurd (hw.lt x h).1 (by omega))
      replace E9 := E9.step Cv7 (fun x hx h => absurd (hw.lt x h).1 (by omega))
      obtain ⟨ka2, kc2, rfl⟩ := own_form Ov7
      refine qA (.slice ka2 (kn + 1) kc2) rfl ?_
      refine WpL_nil (inB_normal (thn_normal (Wp_region ?_)))
      refine qV (r_add (k := .i64) (a := (k2 : Int)) (b := 1) (c := (k2 : Int) + 1) rfl rfl (wI64 (by omega))) ?_
      refine qM (I6 ((k2 : Int) + 1)) rfl ?_
      refine WpL_nil (thn_normal ?_)
      exact ⟨N - (k2 + 1), by omega, k2 + 1, work ++ [((k2 : Nat) : Int)], ka2, kc2, kn + 1, Fits.out ⟨rfl, rfl, rfl, rfl, rfl, rfl, trivial⟩, E, E1, E9, hB, Bn, (by omega), hW.add (by rw [hq, hqt]), (by simp; omega), (by rw [List.map_append]; exact Ov7), Nat.le_trans hs3 Cv7.size, rfl⟩
     ·have khqt := hqt
      refine Wp_skip (inB_normal (thn_normal (Wp_region ?_)))
      refine qV (r_add (k := .i64) (a := (k2 : Int)) (b := 1) (c := (k2 : Int) + 1) rfl rfl (wI64 (by omega))) ?_
      refine qM (I6 ((k2 : Int) + 1)) rfl ?_
      refine WpL_nil (thn_normal ?_)
      exact ⟨N - (k2 + 1), by omega, k2 + 1, work, ka, kc, kn, Fits.out ⟨rfl, rfl, rfl, rfl, rfl, rfl, trivial⟩, E, E1, E9, hB, Bn, (by omega), hW.skip (by rw [hq, hqt]), hkn, hw, hs3, rfl⟩
    ·have khlt2 := hlt2
     replace hlt2 := of_decide_eq_false hlt2
     have hk2N : k2 = N := by omega
     rw [hk2N] at hW
     have hwl0 := hW.len
     have hcl0 : cntT M ≤ M.length := List.countP_le_length
     have hC9 := Ext.chg (M := fun y => y = bq) E9
     refine Wp_exit (thn_exit (thn_exit (inB_here (thn_normal (Wp_block ?_)))))
     refine Wp_loop (fun nn_ σ W9 => ∃ (M3 : List Bool) (work : List Int) (ka : Option Addr) (kc kn : Nat), (∃ jj_, σ = upds jj_ [(1, (.slice (some ⟨bq, 0, none⟩) N N)), (4, (.slice (some ⟨bi, 0, none⟩) N N)), (7, (.slice ka kn kc))]) ∧ Chg (fun y => y = bq) w0 W9 ∧ Chg none1 wb W9 ∧ Blk W9 bq ((M3.map Value.bool).toArray) 4 ∧ Blk W9 bn #[(I6 (N : Int)), (I6 n.start), (.slice ea n.ends.length ec), (.slice pa n.eps.length pc), (.slice xa n.edges.length xc)] 26 ∧ (CloSt n.eps N I M3 work []) ∧ (work.length + cntT M3 ≤ 1000) ∧ (kn = work.length) ∧ (W9.ownsRow n3 TDI 1 (.slice ka kn kc) kn (work.map (Value.int .i64))) ∧ (n3 ≤ W9.heap.size) ∧ (Chg (fun y => y = bq) W1 W9) ∧ nn_ = 2 * cntT M3 + work.length) (n := 2 * cntT M + work.length) ?_ ?_
     ·exact ⟨M, work, ka, kc, kn, Fits.out ⟨rfl, rfl, rfl, trivial⟩, E, E1, hB, Bn, CloSt.start hMl hm (fun j hj => hW.mem j (by have := lt_of_get hj; omega) hj) hW.tru, (by omega), hkn, hw, hs3, hC9, rfl⟩
     ·clear E E1 hB Bn
      rintro _ _ W9 ⟨M3, work, ka, kc, kn, ⟨j9, rfl⟩, E, E1, hB, Bn, hL, hcn, hkn, hw, hs3, hC9, rfl⟩
      refine Wp_seq (Wp_seq_region ?_)
      refine qM (.slice ka kn kc) rfl ?_
      refine qV (r_lenSlice (ad := ka) (n := kn) (cap := kc) Tryz.underlying22 rfl) ?_
      refine qV (r_gtr (k := .i64) (a := (kn : Int)) (b := 0) rfl rfl) ?_
      refine WpL_nil ?_
      refine Wp_cond (b := decide ((0 : Int) < (kn : Int))) rfl (fun hlt3 => ?_) (fun hlt3 => ?_)
      ·have khlt3 := hlt3
       replace hlt3 := of_decide_eq_true hlt3
       obtain ⟨wl, x, hwx⟩ := snocs (l := work) (by omega)
       have hwl : work.length = wl.length + 1 := by rw [hwx]; simp
       obtain ⟨u, hxu, hMu⟩ := hL.wm x (by rw [hwx]; simp)
       have hMl3 := hL.len
       have hun : u < N := by have := lt_of_get hMu; omega
       obtain ⟨kg, rfl, _, hkc⟩ := own_cells hw (by omega)
       have hle := own_le hw
       obtain ⟨Z, hZ⟩ : ∃ Z, Z = 2 * cntT M3 + work.length := ⟨_, rfl⟩
       refine Wp_skip (thn_normal (Wp_block (Wp_seq_region ?_)))
       refine qM (.slice (some ⟨kg, 0, none⟩) kn kc) rfl ?_
       refine qM (.slice (some ⟨kg, 0, none⟩) kn kc) rfl ?_
       refine qV (r_lenSlice (ad := some ⟨kg, 0, none⟩) (n := kn) (cap := kc) Tryz.underlying22 rfl) ?_
       refine qV (r_sub (k := .i64) (a := (kn : Int)) (b := 1) (c := (kn : Int) - 1) rfl rfl (wI64 (by omega))) ?_
       refine qV (r_indexSlice (b := kg) (o := 0) (len := kn) (cap := kc) (i := kn - 1) (o' := 0 + (kn - 1)) rfl rfl (by omega) Tryz.underlying22 siz3 (by omega) (by omega)) ?_
       refine qV (r_load (v := (I6 x)) rfl flat3 (hkc (kn - 1) _ (by rw [hkn, hwl, Nat.add_sub_cancel, List.getElem?_map, hwx]; simp))) ?_
       refine qA (I6 x) rfl ?_
       refine WpL_nil (Wp_seq_region ?_)
       refine qM (.slice (some ⟨kg, 0, none⟩) kn kc) rfl ?_
       refine qM (.slice (some ⟨kg, 0, none⟩) kn kc) rfl ?_
       refine qV (r_lenSlice (ad := some ⟨kg, 0, none⟩) (n := kn) (cap := kc) Tryz.underlying22 rfl) ?_
       refine qV (r_sub (k := .i64) (a := (kn : Int)) (b := 1) (c := (kn : Int) - 1) rfl rfl (wI64 (by omega))) ?_
       obtain ⟨a2, ha2⟩ : ∃ a' : Option Addr, (if kc = 0 then (some ⟨kg, 0, none⟩) else Option.map (fun q : Addr => q.add (0 * 1)) (some ⟨kg, 0, none⟩)) = a' := ⟨_, rfl⟩
       refine qV (r_sliceHi (a := (some ⟨kg, 0, none⟩)) (len := kn) (cap := kc) (hi := kn - 1) (l := (kn : Int) - 1) Tryz.underlying22 siz3 rfl rfl (by omega) (by omega) ha2) ?_
       refine qA (.slice a2 (kn - 1) kc) rfl ?_
       refine WpL_nil (Wp_seq_region ?_)
       refine qM (.slice (some ⟨bi, 0, none⟩) N N) rfl ?_
       refine qM (I6 x) rfl ?_
       have ha3 : a2 = some ⟨kg, 0, none⟩ := by rw [← ha2, if_neg (by omega)]; simp [Addr.add_lit]
       subst ha3
       have hw2 := own_cut hw (m := kn - 1) (by omega) (by omega)
       rw [show (work.map (Value.int .i64)).take ((kn - 1) * 1) = wl.map (Value.int .i64) by rw [hwx, List.map_append, Nat.mul_one, List.take_append_of_le_length (by simp; omega), List.take_of_length_le (by simp; omega)]] at hw2
       have hL2 : CloSt n.eps N I M3 wl [x] := by rw [hwx] at hL; exact hL.pop
       subst hxu
       obtain ⟨lu, hlu⟩ := get_of_lt (l := into) (i := u) (by have := hS.1; omega)
       have hGl : (into.map iRow).length = N := by rw [List.length_map]; exact hS.1
       obtain ⟨v1, hv1⟩ := get_of_lt (l := vs) (i := u) (by have := hG.l.len; omega)
       have hp1 : (into.map iRow)[u]? = some (lu.length, lu.map (Value.int .i64)) := by rw [List.getElem?_map, hlu]; rfl
       have hinn := hG.l.inn u v1 _ hv1 hp1
       have hinl := hinn.lt
       obtain ⟨va, vc, rfl⟩ := own_form hinn
       obtain ⟨gg, hgg, _, hg2⟩ := own_cells ((hG.chg hC9 (fun b h1 _ h => by have h' : b = bq := h; omega)).l.on hGl.symm) (by omega)
       simp only [Option.some.injEq, Addr.mk.injEq, and_true] at hgg
       subst hgg
       have hlul := hS.len hlu
       refine qV (r_indexSlice (b := bi) (o := 0) (len := N) (cap := N) (i := u) (o' := 0 + u) rfl rfl (by omega) Tryz.underlying49 siz22 (by omega) (by omega)) ?_
       refine qV (r_load (v := (.slice va lu.length vc)) rfl flat22 (hg2 u _ hv1)) ?_
       refine qV (r_lenSlice (ad := va) (n := lu.length) (cap := vc) Tryz.underlying22 rfl) ?_
       refine qM (I6 0) rfl ?_
       refine WpL_nil (Wp_block ?_)
       refine Wp_loop (fun nn_ σ W11 => ∃ (j : Nat) (M4 : List Bool) (work : List Int) (ka : Option Addr) (kc kn : Nat), (∃ jj_, σ = upds jj_ [(1, (.slice (some ⟨bq, 0, none⟩) N N)), (4, (.slice (some ⟨bi, 0, none⟩) N N)), (67, (.slice va lu.length vc)), (68, (I6 (lu.length : Int))), (69, (I6 (j : Int))), (7, (.slice ka kn kc))]) ∧ Chg (fun y => y = bq) w0 W11 ∧ Chg none1 wb W11 ∧ Blk W11 bq ((M4.map Value.bool).toArray) 4 ∧ Blk W11 bn #[(I6 (N : Int)), (I6 n.start), (.slice ea n.ends.length ec), (.slice pa n.eps.length pc), (.slice xa n.edges.length xc)] 26 ∧ (j ≤ lu.length) ∧ (CloSt n.eps N I M4 work [(u : Int)]) ∧ (∀ (i v : Nat), i < j → lu[i]? = some (v : Int) → M4[v]? = some true) ∧ (M4[u]? = some true) ∧ (work.length + cntT M4 ≤ 1000) ∧ (kn = work.length) ∧ (W11.ownsRow n3 TDI 1 (.slice ka kn kc) kn (work.map (Value.int .i64))) ∧ (n3 ≤ W11.heap.size) ∧ (Chg (fun y => y = bq) W1 W11) ∧ (2 * cntT M4 + work.length < Z) ∧ nn_ = lu.length - j) (n := lu.length - 0) ?_ ?_
       ·exact ⟨0, M3, wl, some ⟨kg, 0, none⟩, kc, kn - 1, Fits.out ⟨rfl, rfl, rfl, rfl, rfl, rfl, trivial⟩, E, E1, hB, Bn, Nat.zero_le _, hL2, (fun i v h => absurd h (Nat.not_lt_zero _)), hMu, (by omega), (by omega), hw2, hs3, hC9, (by omega), rfl⟩
       ·clear E E1 hB Bn
        rintro _ _ W11 ⟨j, M4, work, ka, kc, kn, ⟨j11, rfl⟩, E, E1, hB, Bn, hj, hL, hQ, hMu, hcn, hkn, hw, hs3, hC9, hZ, rfl⟩
        refine Wp_seq_region ?_
        refine qV (r_lss (k := .i64) (a := (j : Int)) (b := (lu.length : Int)) rfl rfl) ?_
        refine WpL_nil (Wp_seq ?_)
        refine Wp_cond (b := decide (((j : Int) : Int) < (lu.length : Int))) rfl (fun hlt4 => ?_) (fun hlt4 => ?_)
        ·have khlt4 := hlt4
         replace hlt4 := of_decide_eq_true hlt4
         obtain ⟨t, ht⟩ := get_of_lt (l := lu) (i := j) (by omega)
         have hte := (hS.full hSk hlu t).1 (List.mem_of_getElem? ht)
         have htn := (ok.ep _ hte).2
         obtain ⟨v, hv⟩ := Int.eq_ofNat_of_zero_le htn.1
         have hvN : v < N := by simp only at htn; omega
         subst hv
         have hMl4 := hL.len
         obtain ⟨q, hq⟩ := get_of_lt (l := M4) (i := v) (by omega)
         have hinE := own_intsD (own_chg hinn hC9 (fun b hb h => by have h' : b = bq := h; have := (hinl b hb).1; omega)) rfl
         obtain ⟨ub, uo, rfl, huc⟩ := ints_cells hinE (by omega)
         refine Wp_skip (thn_normal (Wp_seq (Wp_block (Wp_seq_region ?_))))
         refine qV (r_indexSlice (b := ub) (o := uo) (len := lu.length) (cap := vc) (i := j) (o' := uo + j) rfl rfl rfl Tryz.underlying22 siz3 (by omega) (by omega)) ?_
         refine qV (r_load (v := (I6 (v : Int))) rfl flat3 (huc j _ ht)) ?_
         refine qA (I6 (v : Int)) rfl ?_
         refine WpL_nil (Wp_seq_region ?_)
         refine qM (.slice (some ⟨bq, 0, none⟩) N N) rfl ?_
         refine qM (I6 (v : Int)) rfl ?_
         refine qV (r_indexSlice (b := bq) (o := 0) (len := N) (cap := N) (i := v) (o' := 0 + v) rfl rfl (by omega) Tryz.underlying72 siz4 (by omega) (by omega)) ?_
         refine qV (r_load (v := (.bool q)) rfl flat4 (hB.cell (by simp [hq]))) ?_
         refine qV (r_not (b := q) rfl) ?_
         refine WpL_nil ?_
         refine Wp_cond (b := !q) rfl (fun hqf => ?_) (fun hqf => ?_)
         ·have khqf := hqf
          replace hqf := by simpa using hqf
          have hMv : M4[v]? = some false := by rw [hq, hqf]
          have hLk := hL.mark hvN ⟨u, rfl, hMu⟩ hte
          have hcs := cntT_set hMv
          refine Wp_seq_region ?_
          refine qM (.slice (some ⟨bq, 0, none⟩) N N) rfl ?_
          refine qM (I6 (v : Int)) rfl ?_
          refine qV (r_indexSlice (b := bq) (o := 0) (len := N) (cap := N) (i := v) (o' := 0 + v) rfl rfl (by omega) Tryz.underlying72 siz4 (by omega) (by omega)) ?_
          refine s_store (b := bq) (o := 0 + v) (c' := ((M4.set v true).map Value.bool).toArray) (v := (.bool true)) rfl rfl rfl siz4 hB (by simp; omega) (bools_set true) ?_
          intro w14 S14
          replace hw := own_chg hw S14.chg fun b hb h => by subst h; have := (hw.lt _ hb).1; omega
          replace hs3 := Nat.le_trans hs3 S14.chg.size
          replace hC9 := hC9.step S14.chg (fun y _ h => h)
          replace Bn := S14.keep (by omega) Bn
          replace E := S14.step E (by first | exact Or.inl (by omega) | exact Or.inr rfl | exact Or.inr (by assumption) | exact Or.inr (by simp) | exact Or.inr (by omega) | exact Or.inr (by dsimp only; omega))
          replace E1 := S14.step E1 (Or.inl (by omega))
          replace hB := S14.blk
          refine WpL_nil (Wp_region ?_)
          refine qM (.slice ka kn kc) rfl ?_
          refine qM (I6 (v : Int)) rfl ?_
          refine s_buildSlice (ps := [(0, (I6 (v : Int)))]) (c := #[(I6 (v : Int))]) (by decide) rfl Tryz.underlying22 siz3 zer3 (by decide) (by decide) (by kernel_rfl) ?_
          intro b15 w15 N15
          have F15 := N15.ge E
          have F15_E1 := N15.ge E1
          have O15_bq := N15.lt hB
          have O15_bn := N15.lt Bn
          replace hB := N15.keep hB
          replace Bn := N15.keep Bn
          replace hw := own_ext hw N15.ext
          replace hs3 := Nat.le_trans hs3 N15.ext.size
          replace hC9 := hC9.ext N15.ext
          replace E := E.ext N15.ext
          have B15 := N15.blk
          replace E1 := E1.ext N15.ext
          refine s_append (base := n3) (n := kn) (m := 1) (xs := (work.map (Value.int .i64))) (news := [(I6 (v : Int))]) (size := 1) (bytes := 8) (v := (.slice ka kn kc)) (by decide) Tryz.underlying22 siz3 byt3 zer3 rfl (by decide) rfl hw rfl (rfl) (B15.cells rfl) (by simp [Value.oneCell']) (by unfold maxLen; omega) (by omega) (hs3) ?_
          intro v7 w59 Ov7 Cv7 Dv7
          replace hB := Cv7.keep (fun h => by have := (hw.lt _ h).1; omega) hB
          replace Bn := Cv7.keep (fun h => by have := (hw.lt _ h).1; omega) Bn
          replace E := E.step Cv7 (fun x hx h => absurd (hw.lt x h).1 (by omega))
          replace E1 := E1.step Cv7 (fun x hx h => absurd (hw.lt x h).1 (by omega))
          obtain ⟨ka2, kc2, rfl⟩ := own_form Ov7
          replace hC9 := hC9.step Cv7 (fun x hx h => absurd (hw.lt x h).1 (by omega))
          refine qA (.slice ka2 (kn + 1) kc2) rfl ?_
          refine WpL_nil (inB_normal (thn_normal (Wp_region ?_)))
          refine qV (r_add (k := .i64) (a := (j : Int)) (b := 1) (c := (j : Int) + 1) rfl rfl (wI64 (by omega))) ?_
          refine qM (I6 ((j : Int) + 1)) rfl ?_
          refine WpL_nil (thn_normal ?_)
          exact ⟨lu.length - (j + 1), by omega, j + 1, M4.set v true, work ++ [((v : Nat) : Int)], ka2, kc2, kn + 1, Fits.out ⟨rfl, rfl, rfl, rfl, rfl, rfl, trivial⟩, E, E1, hB, Bn, (by omega), hLk, (fun i v2 hi h9 => by rcases Nat.lt_or_ge i j with h1 | h1; exact set_true (hQ i v2 h1 h9); (have h2 : i = j := by omega); rw [h2, ht] at h9; (have h3 : v = v2 := by have := Option.some.inj h9; omega); rw [← h3, List.getElem?_set, if_pos rfl, if_pos (by omega)]), set_true hMu, (by simp; omega), (by simp; omega), (by rw [List.map_append]; exact Ov7), Nat.le_trans hs3 Cv7.size, hC9, (by simp; omega), rfl⟩
         ·have khqf := hqf
          replace hqf := by simpa using hqf
          refine Wp_skip (inB_normal (thn_normal (Wp_region ?_)))
          refine qV (r_add (k := .i64) (a := (j : Int)) (b := 1) (c := (j : Int) + 1) rfl rfl (wI64 (by omega))) ?_
          refine qM (I6 ((j : Int) + 1)) rfl ?_
          refine WpL_nil (thn_normal ?_)
          exact ⟨lu.length - (j + 1), by omega, j + 1, M4, work, ka, kc, kn, Fits.out ⟨rfl, rfl, rfl, rfl, rfl, rfl, trivial⟩, E, E1, hB, Bn, (by omega), hL, (fun i v2 hi h9 => by rcases Nat.lt_or_ge i j with h1 | h1; exact hQ i v2 h1 h9; (have h2 : i = j := by omega); rw [h2, ht] at h9; (have h3 : v = v2 := by have := Option.some.inj h9; omega); rw [← h3, hq, hqf]), hMu, hcn, hkn, hw, hs3, hC9, hZ, rfl⟩
        ·have khlt4 := hlt4
         replace hlt4 := of_decide_eq_false hlt4
         refine Wp_exit (thn_exit (thn_exit (inB_here (inB_normal (thn_normal ?_)))))
         exact ⟨2 * cntT M4 + work.length, by omega, M4, work, ka, kc, kn, Fits.out ⟨rfl, rfl, rfl, trivial⟩, E, E1, hB, Bn, hL.done (fun v h9 => by have h8 := (hS.full hSk hlu ((v : Nat) : Int)).2 h9; obtain ⟨i, hi⟩ := List.getElem?_of_mem h8; exact hQ i v (by have := lt_of_get hi; omega) hi), hcn, hkn, hw, hs3, hC9, rfl⟩
      ·have khlt3 := hlt3
       replace hlt3 := of_decide_eq_false hlt3
       have hw0 : work = [] := List.eq_nil_of_length_eq_zero (by omega)
       rw [hw0] at hL
       refine Wp_exit (thn_exit (thn_exit (inB_here ?_)))
       refine fin_none Tryz.results36 ?_
       exact ⟨⟨M3, hL.len, hL.fin (fun s h9 => by have := hI s h9; omega) (fun p h9 => by have := (ok.ep p h9).2; omega), hB⟩, E⟩
end Go.Proofs
namespace Go.Proofs
open Go Go.Eng Go.Sort
set_option maxRecDepth 100000
theorem MarkOf.congr {M : List Bool} {I J : Int → Prop} (h : MarkOf M I) (hIJ : ∀ s, I s ↔ J s) : MarkOf M J := fun k hk => (h k hk).trans (hIJ _)
theorem MarkOf.set {M : List Bool} {I : Int → Prop} (h : MarkOf M I) (a : Nat) : MarkOf (M.set a true) (fun s => I s ∨ s = (a : Int)) := by
 intro k hk
 rw [List.length_set] at hk
 rw [List.getElem?_set]
 by_cases e : a = k
 ·subst e
  rw [if_pos rfl, if_pos hk]
  simp
 ·rw [if_neg e]
  refine (h k hk).trans ⟨.inl, fun h2 => h2.resolve_right fun h3 => e (by omega)⟩
theorem mark_none (N : Nat) : MarkOf (List.replicate N false) (fun _ => False) := by
 intro k hk
 rw [List.length_replicate] at hk
 rw [List.getElem?_replicate, if_pos hk]; simp
theorem int_nat {x : Int} {N : Nat} (h : 0 ≤ x ∧ x < (N : Int)) : ∃ a : Nat, x = (a : Int) ∧ a < N := by
 obtain ⟨a, ha⟩ := Int.eq_ofNat_of_zero_le h.1
 exact ⟨a, ha, by omega⟩
set_option maxHeartbeats 2000000 in
theorem nclosure_c (w0 : World) (n : Nf) (vs0 : List Value) (N : Nat) (v : Value) (l : List Int) (ok : OkN n) (hN : n.states = (N : Int)) (h : NfAt w0 n vs0) (hl : IntsAt w0 v l) (hln : ∀ s ∈ l, 0 ≤ s ∧ s < (N : Int)) :
  Ret Tryz.prog 33 #[.agg vs0.toArray, v] w0 fun r w => (∃ M b, r = .slice (some ⟨b, 0, none⟩) N N ∧ w0.heap.size ≤ b ∧ M.length = N ∧ MarkOf M (cloP n.eps fun s => s ∈ l) ∧ Blk w b (M.map Value.bool).toArray 4) ∧ Ext w0 w := by
 have h0 := h
 obtain ⟨ea, ec, pa, pc, xa, xc, rfl, hen, hep, hed⟩ := h
 obtain ⟨la, lc, rfl⟩ := SlAt.form hl
 have hlc := SlAt.cap hl
 have hle := SlAt.le hl
 have hst := ok.st
 have hN5 : N ≤ 500 := by omega
 rw [hN] at h0
 rw [hN]
 rw [List.length_map] at hl hlc hle ⊢
 refine Ret_of Tryz.func33 rfl Tryz.ntmps33 (Nat.le_of_ble_eq_true rfl) ?_
 have E : Chg none1 w0 w0 := Chg.refl _ _
 refine Wp_seq_region ?_
 refine s_box (v := (.agg #[(I6 (N : Int)), (I6 n.start), (.slice ea n.ends.length ec), (.slice pa n.eps.length pc), (.slice xa n.edges.length xc)])) (c := #[(I6 (N : Int)), (I6 n.start), (.slice ea n.ends.length ec), (.slice pa n.eps.length pc), (.slice xa n.edges.length xc)]) (by decide) rfl rfl ?_
 intro bn wn Nn
 have Fn := Nn.ge E
 replace E := E.ext Nn.ext
 have Bn := Nn.blk
 refine qA (.slice none 0 0) rfl ?_
 refine WpL_nil (Wp_seq_region ?_)
 refine qF bn 0 0 rfl Tryz.underlying26 rfl siz3 rfl ?_
 refine qV (r_load (v := (I6 (N : Int))) rfl flat3 (Bn.cell rfl)) ?_
 refine s_make (n := N) (z := (.bool false)) (bytes := 1) (by decide) Tryz.underlying72 siz4 byt4 zer4 rfl rfl rfl (by omega) (by omega) ?_
 intro bi wi Ni
 have Fi := Ni.ge E
 have Oi_bn := Ni.lt Bn
 replace Bn := Ni.keep Bn
 replace E := E.ext Ni.ext
 have Bi := Ni.blk
 refine qA (.slice (some ⟨bi, 0, none⟩) N N) rfl ?_
 refine WpL_nil (Wp_seq (Wp_seq_region ?_))
 refine qM (.slice la l.length lc) rfl ?_
 refine qV (r_lenSlice (ad := la) (n := l.length) (cap := lc) Tryz.underlying22 rfl) ?_
 refine qM (I6 0) rfl ?_
 refine WpL_nil (Wp_block ?_)
 have hbi : bn < bi := by have := Ni.eq; have := Bn.lt; omega
 rw [show List.replicate N (Value.bool false) = (List.replicate N false).map Value.bool by simp] at Bi
 refine Wp_loop (fun nn_ σ W1 => ∃ (k : Nat) (M : List Bool), (∃ jj_, σ = upds jj_ [(2, (P6 bn 0)), (5, (.slice (some ⟨bi, 0, none⟩) N N)), (11, (.slice la l.length lc)), (12, (I6 (l.length : Int))), (13, (I6 (k : Int)))]) ∧ Chg none1 w0 W1 ∧ Blk W1 bn #[(I6 (N : Int)), (I6 n.start), (.slice ea n.ends.length ec), (.slice pa n.eps.length pc), (.slice xa n.edges.length xc)] 26 ∧ Blk W1 bi ((M.map Value.bool).toArray) 4 ∧ (k ≤ l.length) ∧ (M.length = N) ∧ (MarkOf M (fun s => s ∈ l.take k)) ∧ nn_ = l.length - k) (n := l.length - 0) ?_ ?_
 ·exact ⟨0, List.replicate N false, Fits.out ⟨rfl, rfl, rfl, rfl, rfl, trivial⟩, E, Bn, Bi, Nat.zero_le _, (by simp), (mark_none N).congr fun s => by simp, rfl⟩
 ·clear E Bn Bi
  rintro _ _ W1 ⟨k, M, ⟨j1, rfl⟩, E, Bn, Bi, hk, hMl, hM, rfl⟩
  refine Wp_seq_region ?_
  refine qV (r_lss (k := .i64) (a := (k : Int)) (b := (l.length : Int)) rfl rfl) ?_
  refine WpL_nil (Wp_seq ?_)
  refine Wp_cond (b := decide (((k : Int) : Int) < (l.length : Int))) rfl (fun hlt => ?_) (fun hlt => ?_)
  ·have khlt := hlt
   replace hlt := of_decide_eq_true hlt
   obtain ⟨x, hx⟩ := get_of_lt (l := l) (i := k) (by omega)
   obtain ⟨a, ha, haN⟩ := int_nat (hln x (List.mem_of_getElem? hx))
   subst ha
   obtain ⟨lb, lo, rfl, hlc2⟩ := ints_cells hl (by omega)
   refine Wp_skip (thn_normal (Wp_seq (Wp_block (Wp_seq_region ?_))))
   refine qV (r_indexSlice (b := lb) (o := lo) (len := l.length) (cap := lc) (i := k) (o' := lo + k) rfl rfl rfl Tryz.underlying22 siz3 (by omega) (by omega)) ?_
   refine qV (r_load (v := (I6 (a : Int))) rfl flat3 (E.cell (fun f => f) (hlc2 k _ hx))) ?_
   refine qA (I6 (a : Int)) rfl ?_
   refine WpL_nil (Wp_region ?_)
   refine qM (.slice (some ⟨bi, 0, none⟩) N N) rfl ?_
   refine qM (I6 (a : Int)) rfl ?_
   refine qV (r_indexSlice (b := bi) (o := 0) (len := N) (cap := N) (i := a) (o' := 0 + a) rfl rfl (by omega) Tryz.underlying72 siz4 (by omega) (by omega)) ?_
   refine s_store (b := bi) (o := 0 + a) (c' := ((M.set a true).map Value.bool).toArray) (v := (.bool true)) rfl rfl rfl siz4 Bi (by simp; omega) (bools_set true) ?_
   intro w3 S3
   replace Bn := S3.keep (by omega) Bn
   replace E := S3.step E (by first | exact Or.inl (by omega) | exact Or.inr rfl | exact Or.inr (by assumption) | exact Or.inr (by simp) | exact Or.inr (by omega) | exact Or.inr (by dsimp only; omega))
   replace Bi := S3.blk
   refine WpL_nil (inB_normal (thn_normal (Wp_region ?_)))
   refine qV (r_add (k := .i64) (a := (k : Int)) (b := 1) (c := (k : Int) + 1) rfl rfl (wI64 (by omega))) ?_
   refine qM (I6 ((k : Int) + 1)) rfl ?_
   refine WpL_nil (thn_normal ?_)
   exact ⟨l.length - (k + 1), by omega, k + 1, M.set a true, Fits.out ⟨rfl, rfl, rfl, rfl, rfl, trivial⟩, E, Bn, Bi, (by omega), (by rw [List.length_set]; exact hMl), (hM.set a).congr fun s => by rw [List.take_add_one, hx]; simp, rfl⟩
  ·have khlt := hlt
   replace hlt := of_decide_eq_false hlt
   have hkk : k = l.length := by omega
   rw [hkk, List.take_length] at hM
   refine Wp_exit (thn_exit (thn_exit (inB_here (thn_normal (Wp_seq_region ?_)))))
   refine qV (r_loadAgg (vs := [(I6 (N : Int)), (I6 n.start), (.slice ea n.ends.length ec), (.slice pa n.eps.length pc), (.slice xa n.edges.length xc)]) rfl agg26 siz26 rfl (Bn.cells rfl)) ?_
   refine qM (.slice (some ⟨bi, 0, none⟩) N N) rfl ?_
   refine WpL_enter rfl rfl (by decide) (r_callF (vs := [(.agg #[(I6 (N : Int)), (I6 n.start), (.slice ea n.ends.length ec), (.slice pa n.eps.length pc), (.slice xa n.edges.length xc)]), (.slice (some ⟨bi, 0, none⟩) N N)]) Tryz.func36 kQ kQ rfl) (nclose_c _ w0 n _ bi N M (fun s => s ∈ l) ok hN h0 E (by omega) Bi hMl (fun s hs => by rw [hN]; exact hln s hs) hM) ?_
   rintro _ w9 ⟨⟨M2, hM2l, hM2, hB2⟩, C9⟩
   replace Bn := C9.keep ((fun h => by have h' : _ = bi := h; omega)) Bn
   replace E := E.step C9 ((fun y hy h => by have h' : y = bi := h; omega))
   refine WpL_nil (Wp_seq_region ?_)
   refine qM (.slice (some ⟨bi, 0, none⟩) N N) rfl ?_
   refine qA (.slice (some ⟨bi, 0, none⟩) N N) rfl ?_
   refine WpL_nil (Wp_ret ?_)
   refine fin_tmp Tryz.results33 (v := (.slice (some ⟨bi, 0, none⟩) N N)) rfl ?_
   exact ⟨⟨M2, bi, rfl, by omega, hM2l, hM2, hB2⟩, E⟩
theorem nrun1_c (w0 : World) (a N g b : Nat) (M : List Bool) (hB : Blk w0 b #[.slice (some ⟨g, 0, none⟩) N N] 72) (hg : Blk w0 g (M.map Value.bool).toArray 4) (hMl : M.length = N) (ha : a < N) (hN : N ≤ 500) : Ret Tryz.prog 37 #[.int .i64 ((a : Nat) : Int), .pointer (some ⟨b, 0, none⟩)] w0 fun r w => r = .bool (M.getD a false) ∧ Ext w0 w := by
 obtain ⟨q, hq⟩ := get_of_lt (l := M) (i := a) (by omega)
 refine Ret_of Tryz.func37 rfl Tryz.ntmps37 (Nat.le_of_ble_eq_true rfl) ?_
 have E : Chg none1 w0 w0 := Chg.refl _ _
 refine Wp_seq_region ?_
 refine qA (.bool false) rfl ?_
 refine WpL_nil (Wp_seq_region ?_)
 refine qV (r_load (v := (.slice (some ⟨g, 0, none⟩) N N)) rfl flat72 (hB.cell rfl)) ?_
 refine qM (I6 (a : Int)) rfl ?_
 refine qV (r_indexSlice (b := g) (o := 0) (len := N) (cap := N) (i := a) (o' := 0 + a) rfl rfl (by omega) Tryz.underlying72 siz4 (by omega) (by omega)) ?_
 refine qV (r_load (v := (.bool q)) rfl flat4 (hg.cell (by simp [hq]))) ?_
 refine qA (.bool q) rfl ?_
 refine WpL_nil (Wp_ret ?_)
 refine fin_tmp Tryz.results37 (v := (.bool q)) rfl ?_
 exact ⟨bool_eq (by rw [List.getD_eq_getElem?_getD, hq]; rfl), E⟩
/-- What Run returns. -/
def RunP (n : Nf) (text : List Int) (b : Bool) (e : Int) : Prop := (chkN n ≠ 0 ∧ b = false ∧ e = chkN n) ∨ (chkN n = 0 ∧ 1000 < text.length ∧ b = false ∧ e = 2) ∨ (chkN n = 0 ∧ text.length ≤ 1000 ∧ (text.any fun r => !runeB r) = true ∧ b = false ∧ e = 1) ∨
 (chkN n = 0 ∧ text.length ≤ 1000 ∧ (text.any fun r => !runeB r) = false ∧ (b = true ↔ Acc n text) ∧ e = 0)
/-- What is marked when the first j edges have been gone through. -/
def stpJ (n : Nf) (I : Int → Prop) (c : Int) (j : Nat) : Int → Prop := fun t => ∃ e ∈ n.edges.take j, I e.1 ∧ inS e.2.2 c = true ∧ e.2.1 = t
theorem stpJ_snoc {n : Nf} {I : Int → Prop} {c : Int} {j : Nat} {e : Ed} (he : n.edges[j]? = some e) (t : Int) : stpJ n I c (j + 1) t ↔ stpJ n I c j t ∨ (I e.1 ∧ inS e.2.2 c = true ∧ e.2.1 = t) := by
 unfold stpJ
 rw [List.take_add_one, he]
 constructor
 ·rintro ⟨f, hf, h⟩
  rcases List.mem_append.1 hf with h1 | h1
  ·exact .inl ⟨f, h1, h⟩
  ·simp at h1; subst h1; exact .inr h
 ·rintro (⟨f, hf, h⟩ | h)
  ·exact ⟨f, List.mem_append_left _ hf, h⟩
  ·exact ⟨e, List.mem_append_right _ (by simp), h⟩
theorem setP_snoc {n : Nf} {I : Int → Prop} {text : List Int} {k : Nat} {c : Int} (h : text[k]? = some c) : setP n I (text.take (k + 1)) = cloP n.eps (stpP n (setP n I (text.take k)) c) := by
 rw [List.take_add_one, h]
 unfold setP
 rw [List.foldl_append]; rfl
set_option maxHeartbeats 4000000 in
theorem nrun_c (w0 : World) (n : Nf) (vs0 : List Value) (v : Value) (text : List Int) (h : NfAt w0 n vs0) (ht : IntsAt w0 v text) :
  Ret Tryz.prog 7 #[.agg vs0.toArray, v] w0 fun r w => (∃ b e, r = .tuple #[.bool b, .int .i64 e] ∧ RunP n text b e) ∧ Ext w0 w := by
 have h0 := h
 obtain ⟨ea, ec, pa, pc, xa, xc, rfl, hen, hep, hed⟩ := h
 obtain ⟨ta, tc, rfl⟩ := SlAt.form ht
 have htc := SlAt.cap ht
 have htl := SlAt.le ht
 rw [List.length_map] at ht htc htl ⊢
 refine Ret_of Tryz.func7 rfl Tryz.ntmps7 (Nat.le_of_ble_eq_true rfl) ?_
 have E : Chg none1 w0 w0 := Chg.refl _ _
 refine Wp_seq_region ?_
 refine s_box (v := (.agg #[(I6 n.states), (I6 n.start), (.slice ea n.ends.length ec), (.slice pa n.eps.length pc), (.slice xa n.edges.length xc)])) (c := #[(I6 n.states), (I6 n.start), (.slice ea n.ends.length ec), (.slice pa n.eps.length pc), (.slice xa n.edges.length xc)]) (by decide) rfl rfl ?_
 intro bn wn Nn
 have Fn := Nn.ge E
 replace E := E.ext Nn.ext
 have Bn := Nn.blk
 refine qA (.bool false) rfl ?_
 refine qA (I6 0) rfl ?_
 refine WpL_nil (Wp_seq (Wp_seq_region ?_))
 refine qV (r_loadAgg (vs := [(I6 n.states), (I6 n.start), (.slice ea n.ends.length ec), (.slice pa n.eps.length pc), (.slice xa n.edges.length xc)]) rfl agg26 siz26 rfl (Bn.cells rfl)) ?_
 refine WpL_enter rfl rfl (by decide) (r_callF (vs := [(.agg #[(I6 n.states), (I6 n.start), (.slice ea n.ends.length ec), (.slice pa n.eps.length pc), (.slice xa n.edges.length xc)])]) Tryz.func11 kQ kQ rfl) (ncheck_c _ n _ (h0.ext E)) ?_
 rintro _ w9 ⟨rfl, X9⟩
 replace Bn := X9.keep Bn
 replace E := E.ext X9
 refine qA (I6 (chkN n)) rfl ?_
 refine WpL_nil (Wp_seq_region ?_)
 refine qM (I6 (chkN n)) rfl ?_
 refine qV (r_neq (k := .i64) (a := chkN n) (b := 0) rfl rfl) ?_
 refine WpL_nil ?_
 refine Wp_cond (b := decide ((chkN n : Int) ≠ 0)) rfl (fun hc0 => ?_) (fun hc0 => ?_)
 ·have khc0 := hc0
  replace hc0 := of_decide_eq_true hc0
  refine Wp_seq_region ?_
  refine qM (I6 (chkN n)) rfl ?_
  refine qA (.bool false) rfl ?_
  refine qA (I6 (chkN n)) rfl ?_
  refine WpL_nil (Wp_ret (thn_ret ?_))
  refine fin_tmp2 Tryz.results7 (v := (.bool false)) (v' := (.int .i64 (chkN n))) rfl rfl ?_
  exact ⟨⟨_, _, rfl, .inl ⟨hc0, rfl, rfl⟩⟩, E⟩
 ·have khc0 := hc0
  replace hc0 := of_decide_eq_false hc0
  have hc1 : chkN n = 0 := by omega
  have ok := chkN_zero.1 hc1
  refine Wp_skip (thn_normal (Wp_seq (Wp_seq_region ?_)))
  refine qM (.slice ta text.length tc) rfl ?_
  refine qV (r_lenSlice (ad := ta) (n := text.length) (cap := tc) Tryz.underlying22 rfl) ?_
  refine qV (r_gtr (k := .i64) (a := (text.length : Int)) (b := 1000) rfl rfl) ?_
  refine WpL_nil ?_
  refine Wp_cond (b := decide ((1000 : Int) < (text.length : Int))) rfl (fun hlen => ?_) (fun hlen => ?_)
  ·have khlen := hlen
   replace hlen := of_decide_eq_true hlen
   refine Wp_seq_region ?_
   refine qA (.bool false) rfl ?_
   refine qA (I6 2) rfl ?_
   refine WpL_nil (Wp_ret (thn_ret ?_))
   refine fin_tmp2 Tryz.results7 (v := (.bool false)) (v' := (.int .i64 2)) rfl rfl ?_
   exact ⟨⟨_, _, rfl, .inr (.inl ⟨hc1, by omega, rfl, rfl⟩)⟩, E⟩
  ·have khlen := hlen
   replace hlen := of_decide_eq_false hlen
   refine Wp_skip (thn_normal (Wp_seq (Wp_seq_region ?_)))
   refine qM (.slice ta text.length tc) rfl ?_
   refine WpL_enter rfl rfl (by decide) (r_callF (vs := [(.slice ta text.length tc)]) Tryz.func34 kQ kQ rfl) (runes_c _ _ text (ht.ext E)) ?_
   rintro _ w19 ⟨rfl, X19⟩
   replace Bn := X19.keep Bn
   replace E := E.ext X19
   refine qV (r_not (b := !(text.any fun r => !runeB r)) rfl) ?_
   refine WpL_nil ?_
   refine Wp_cond (b := !(!(text.any fun r => !runeB r))) rfl (fun hru => ?_) (fun hru => ?_)
   ·have khru := hru
    replace hru := by simpa using hru
    replace hru := by simpa using hru
    refine Wp_seq_region ?_
    refine qA (.bool false) rfl ?_
    refine qA (I6 1) rfl ?_
    refine WpL_nil (Wp_ret (thn_ret ?_))
    refine fin_tmp2 Tryz.results7 (v := (.bool false)) (v' := (.int .i64 1)) rfl rfl ?_
    exact ⟨⟨_, _, rfl, .inr (.inr (.inl ⟨hc1, by omega, by simpa using hru, rfl, rfl⟩))⟩, E⟩
   ·have khru := hru
    replace hru := by simpa using hru
    replace hru := by simpa using hru
    have hru1 : (text.any fun r => !runeB r) = false := by simpa using hru
    obtain ⟨N, hN, _⟩ : ∃ N : Nat, n.states = (N : Int) ∧ True := by have := ok.s0; obtain ⟨a, ha⟩ := Int.eq_ofNat_of_zero_le (show 0 ≤ n.states by omega); exact ⟨a, ha, trivial⟩
    have hst := ok.st
    have hxl := ok.xl
    have hN5 : N ≤ 500 := by omega
    have h0N := h0
    rw [hN] at h0N
    have Bn2 := Bn
    rw [hN] at Bn2
    refine Wp_skip (thn_normal (Wp_seq_region ?_))
    refine qV (r_loadAgg (vs := [(I6 (N : Int)), (I6 n.start), (.slice ea n.ends.length ec), (.slice pa n.eps.length pc), (.slice xa n.edges.length xc)]) rfl agg26 siz26 rfl (Bn2.cells rfl)) ?_
    refine qF bn 0 1 rfl Tryz.underlying26 rfl siz3 rfl ?_
    refine qV (r_load (v := (I6 n.start)) rfl flat3 (Bn2.cell rfl)) ?_
    refine s_buildSlice (ps := [(0, (I6 n.start))]) (c := #[(I6 n.start)]) (by decide) rfl Tryz.underlying22 siz3 zer3 (by decide) (by decide) (by kernel_rfl) ?_
    intro bs ws Ns
    have Fs := Ns.ge E
    have Os_bn := Ns.lt Bn2
    replace Bn2 := Ns.keep Bn2
    replace E := E.ext Ns.ext
    have Bs := Ns.blk
    have hbnl : bn < (ws).heap.size ∧ w0.heap.size ≤ (ws).heap.size := ⟨Bn2.lt, E.size⟩
    refine WpL_enter rfl rfl (by decide) (r_callF (vs := [(.agg #[(I6 (N : Int)), (I6 n.start), (.slice ea n.ends.length ec), (.slice pa n.eps.length pc), (.slice xa n.edges.length xc)]), (.slice (some ⟨bs, 0, none⟩) 1 1)]) Tryz.func33 kQ kQ rfl) (nclosure_c _ n _ N _ [n.start] ok hN (h0N.ext E) (ints_of_blk [n.start] Bs (by simp) (by simp)) (fun s hs => by rw [List.mem_singleton.1 hs]; have := ok.s0; omega)) ?_
    rintro _ w29 ⟨⟨M0, g0, rfl, hg0, hM0l, hM0, hB0⟩, X29⟩
    replace Bn2 := X29.keep Bn2
    replace Bs := X29.keep Bs
    replace E := E.ext X29
    have hg0l := hB0.lt
    have hbn0 : bn < g0 ∧ w0.heap.size ≤ g0 := by omega
    refine s_allocStore (v := (.slice (some ⟨g0, 0, none⟩) N N)) (c := #[(.slice (some ⟨g0, 0, none⟩) N N)]) (n := 1) (by decide) zer72 rfl siz72 rfl rfl rfl (by simp [Value.oneCell']) ?_
    intro bi wi Ni
    have Fi := Ni.ge E
    have Oi_bn := Ni.lt Bn2
    have Oi_g0 := Ni.lt hB0
    replace Bn2 := Ni.keep Bn2
    replace hB0 := Ni.keep hB0
    replace E := E.ext Ni.ext
    have Bi := Ni.blk
    refine WpL_nil (Wp_seq (Wp_seq_region ?_))
    refine qM (.slice ta text.length tc) rfl ?_
    refine qV (r_lenSlice (ad := ta) (n := text.length) (cap := tc) Tryz.underlying22 rfl) ?_
    refine qM (I6 0) rfl ?_
    refine WpL_nil (Wp_block ?_)
    have hgi : g0 < bi := by have := Ni.eq; omega
    refine Wp_loop (fun nn_ σ W4 => ∃ (k : Nat) (M : List Bool) (g : Nat), (∃ jj_, σ = upds jj_ [(2, (P6 bn 0)), (7, (P6 bi 0)), (29, (.slice ta text.length tc)), (30, (I6 (text.length : Int))), (31, (I6 (k : Int)))]) ∧ Chg none1 w0 W4 ∧ Blk W4 bn #[(I6 (N : Int)), (I6 n.start), (.slice ea n.ends.length ec), (.slice pa n.eps.length pc), (.slice xa n.edges.length xc)] 26 ∧ Blk W4 g0 ((M0.map Value.bool).toArray) 4 ∧ Blk W4 bi (#[Value.slice (some ⟨g, 0, none⟩) N N]) 72 ∧ (k ≤ text.length) ∧ (M.length = N) ∧ (MarkOf M (setP n (cloP n.eps fun s => s = n.start) (text.take k))) ∧ (Blk W4 g (M.map Value.bool).toArray 4) ∧ (g ≠ bi ∧ g ≠ bn ∧ w0.heap.size ≤ g) ∧ nn_ = text.length - k) (n := text.length - 0) ?_ ?_
    ·exact ⟨0, M0, g0, Fits.out ⟨rfl, rfl, rfl, rfl, rfl, trivial⟩, E, Bn2, hB0, Bi, Nat.zero_le _, hM0l, hM0.congr (fun s => by rw [List.take_zero]; exact Iff.of_eq (congrArg (fun I => cloP n.eps I s) (by funext t; simp))), hB0, (by omega), rfl⟩
    ·clear E Bn2 hB0 Bi
     rintro _ _ W4 ⟨k, M, g, ⟨j4, rfl⟩, E, Bn2, hB0, Bi, hk, hMl, hM, hg, hgn, rfl⟩
     refine Wp_seq_region ?_
     refine qV (r_lss (k := .i64) (a := (k : Int)) (b := (text.length : Int)) rfl rfl) ?_
     refine WpL_nil (Wp_seq ?_)
     refine Wp_cond (b := decide (((k : Int) : Int) < (text.length : Int))) rfl (fun hlt => ?_) (fun hlt => ?_)
     ·have khlt := hlt
      replace hlt := of_decide_eq_true hlt
      obtain ⟨c, hc⟩ := get_of_lt (l := text) (i := k) (by omega)
      obtain ⟨tb, to, rfl, htcl⟩ := ints_cells ht (by omega)
      refine Wp_skip (thn_normal (Wp_seq (Wp_block (Wp_seq_region ?_))))
      refine qV (r_indexSlice (b := tb) (o := to) (len := text.length) (cap := tc) (i := k) (o' := to + k) rfl rfl rfl Tryz.underlying22 siz3 (by omega) (by omega)) ?_
      refine qV (r_load (v := (I6 c)) rfl flat3 (E.cell (fun f => f) (htcl k c hc))) ?_
      refine qA (I6 c) rfl ?_
      refine WpL_nil (Wp_seq_region ?_)
      refine qF bn 0 0 rfl Tryz.underlying26 rfl siz3 rfl ?_
      refine qV (r_load (v := (I6 (N : Int))) rfl flat3 (Bn2.cell rfl)) ?_
      refine s_make (n := N) (z := (.bool false)) (bytes := 1) (by decide) Tryz.underlying72 siz4 byt4 zer4 rfl rfl rfl (by omega) (by omega) ?_
      intro bx wx Nx
      have Fx := Nx.ge E
      have Ox_bn := Nx.lt Bn2
      have Ox_g0 := Nx.lt hB0
      have Ox_bi := Nx.lt Bi
      have Ox_g := Nx.lt hg
      replace Bn2 := Nx.keep Bn2
      replace hB0 := Nx.keep hB0
      replace Bi := Nx.keep Bi
      replace hg := Nx.keep hg
      replace E := E.ext Nx.ext
      have Bx := Nx.blk
      refine qA (.slice (some ⟨bx, 0, none⟩) N N) rfl ?_
      refine WpL_nil (Wp_seq (Wp_seq_region ?_))
      refine qF bn 0 4 rfl Tryz.underlying26 rfl siz24 rfl ?_
      refine qV (r_load (v := (.slice xa n.edges.length xc)) rfl flat24 (Bn2.cell rfl)) ?_
      refine qV (r_lenSlice (ad := xa) (n := n.edges.length) (cap := xc) Tryz.underlying24 rfl) ?_
      refine qM (I6 0) rfl ?_
      refine WpL_nil (Wp_block ?_)
      rw [show List.replicate N (Value.bool false) = (List.replicate N false).map Value.bool by simp] at Bx
      refine Wp_loop (fun nn_ σ W6 => ∃ (j : Nat) (M2 : List Bool), (∃ jj_, σ = upds jj_ [(2, (P6 bn 0)), (7, (P6 bi 0)), (9, (I6 c)), (10, (.slice (some ⟨bx, 0, none⟩) N N)), (29, (.slice (some ⟨tb, to, none⟩) text.length tc)), (30, (I6 (text.length : Int))), (31, (I6 (k : Int))), (39, (.slice xa n.edges.length xc)), (40, (I6 (n.edges.length : Int))), (41, (I6 (j : Int)))]) ∧ Chg none1 w0 W6 ∧ Blk W6 bn #[(I6 (N : Int)), (I6 n.start), (.slice ea n.ends.length ec), (.slice pa n.eps.length pc), (.slice xa n.edges.length xc)] 26 ∧ Blk W6 g0 ((M0.map Value.bool).toArray) 4 ∧ Blk W6 bi #[(.slice (some ⟨g, 0, none⟩) N N)] 72 ∧ Blk W6 g ((M.map Value.bool).toArray) 4 ∧ Blk W6 bx ((M2.map Value.bool).toArray) 4 ∧ (j ≤ n.edges.length) ∧ (M2.length = N) ∧ (MarkOf M2 (stpJ n (setP n (cloP n.eps fun s => s = n.start) (text.take k)) c j)) ∧ nn_ = n.edges.length - j) (n := n.edges.length - 0) ?_ ?_
      ·exact ⟨0, List.replicate N false, Fits.out ⟨rfl, rfl, rfl, rfl, rfl, rfl, rfl, rfl, rfl, rfl, trivial⟩, E, Bn2, hB0, Bi, hg, Bx, Nat.zero_le _, (by simp), (mark_none N).congr fun t => by simp [stpJ], rfl⟩
      ·clear E Bn2 hB0 Bi hg Bx
       rintro _ _ W6 ⟨j, M2, ⟨j6, rfl⟩, E, Bn2, hB0, Bi, hg, Bx, hj, hM2l, hM2, rfl⟩
       refine Wp_seq_region ?_
       refine qV (r_lss (k := .i64) (a := (j : Int)) (b := (n.edges.length : Int)) rfl rfl) ?_
       refine WpL_nil (Wp_seq ?_)
       refine Wp_cond (b := decide (((j : Int) : Int) < (n.edges.length : Int))) rfl (fun hlt2 => ?_) (fun hlt2 => ?_)
       ·have khlt2 := hlt2
        replace hlt2 := of_decide_eq_true hlt2
        obtain ⟨e, he⟩ := get_of_lt (l := n.edges) (i := j) (by omega)
        have hem := ok.ed e (List.mem_of_getElem? he)
        obtain ⟨a, hea, haN⟩ := int_nat (by rw [← hN]; exact hem.1)
        obtain ⟨d, hde, hdN⟩ := int_nat (by rw [← hN]; exact hem.2.1)
        obtain ⟨xb, xo, rfl, hxc⟩ := edges_cells hed (by omega)
        obtain ⟨ra, rc, hcell, hsp⟩ := hxc j e he
        rw [hea, hde] at hcell
        obtain ⟨q, hq⟩ := get_of_lt (l := M) (i := a) (by omega)
        have hqI := hM a (by omega)
        rw [hq, ← hea] at hqI
        refine Wp_skip (thn_normal (Wp_seq (Wp_block (Wp_seq_region ?_))))
        refine qV (r_indexSlice (b := xb) (o := xo) (len := n.edges.length) (cap := xc) (i := j) (o' := xo + j * 3) rfl rfl rfl Tryz.underlying24 siz39 (by omega) (by omega)) ?_
        refine qV (r_loadAgg (vs := [(I6 (a : Int)), (I6 (d : Int)), (.slice ra e.2.2.length rc)]) rfl agg39 siz39 rfl (hcell.ext E)) ?_
        refine s_allocStore (v := (.agg #[(I6 (a : Int)), (I6 (d : Int)), (.slice ra e.2.2.length rc)])) (c := #[(I6 (a : Int)), (I6 (d : Int)), (.slice ra e.2.2.length rc)]) (n := 3) (by decide) zer39 rfl siz39 rfl rfl rfl (by simp [Value.oneCell']) ?_
        intro bu wu Nu
        have Fu := Nu.ge E
        have Ou_bn := Nu.lt Bn2
        have Ou_g0 := Nu.lt hB0
        have Ou_bi := Nu.lt Bi
        have Ou_g := Nu.lt hg
        have Ou_bx := Nu.lt Bx
        replace Bn2 := Nu.keep Bn2
        replace hB0 := Nu.keep hB0
        replace Bi := Nu.keep Bi
        replace hg := Nu.keep hg
        replace Bx := Nu.keep Bx
        replace E := E.ext Nu.ext
        have Bu := Nu.blk
        refine WpL_nil (Wp_seq_region ?_)
        refine qV (r_load (v := (.slice (some ⟨g, 0, none⟩) N N)) rfl flat72 (Bi.cell rfl)) ?_
        refine qF bu 0 0 rfl Tryz.underlying39 rfl siz3 rfl ?_
        refine qV (r_load (v := (I6 (a : Int))) rfl flat3 (Bu.cell rfl)) ?_
        refine qV (r_indexSlice (b := g) (o := 0) (len := N) (cap := N) (i := a) (o' := 0 + a) rfl rfl (by omega) Tryz.underlying72 siz4 (by omega) (by omega)) ?_
        refine qV (r_load (v := (.bool q)) rfl flat4 (hg.cell (by simp [hq]))) ?_
        refine qM (.bool q) rfl ?_
        rcases Bool.eq_false_or_eq_true (q) with g1 | g1
        ·have kg1 := g1
         refine WpL_guard_yes (oj := _) rfl rfl (by decide) (congrArg Value.bool g1) ?_
         refine qF bu 0 2 rfl Tryz.underlying39 rfl siz37 rfl ?_
         refine WpL_guard_yes (oj := _) rfl rfl (by decide) (congrArg Value.bool g1) ?_
         refine qV (r_load (v := (.slice ra e.2.2.length rc)) rfl flat37 (Bu.cell rfl)) ?_
         refine WpL_guard_yes (oj := _) rfl rfl (by decide) (congrArg Value.bool g1) ?_
         refine qM (I6 c) rfl ?_
         refine WpL_guard_yes (oj := _) rfl rfl (by decide) (congrArg Value.bool g1) ?_
         refine WpL_enter rfl rfl (by decide) (r_callF (vs := [(.slice ra e.2.2.length rc), (I6 c)]) Tryz.func35 kQ kQ rfl) (in_c _ _ e.2.2 c (hsp.ext E)) ?_
         rintro _ w49 ⟨rfl, X49⟩
         replace Bn2 := X49.keep Bn2
         replace hB0 := X49.keep hB0
         replace Bi := X49.keep Bi
         replace hg := X49.keep hg
         replace Bx := X49.keep Bx
         replace Bu := X49.keep Bu
         replace E := E.ext X49
         refine qV (r_pick (b := q) (v := (.bool (inS e.2.2 c))) rfl (by rw [g1]; rfl)) ?_
         refine WpL_nil ?_
         refine Wp_cond (b := inS e.2.2 c) rfl (fun g2 => ?_) (fun g2 => ?_)
         ·have kg2 := g2
          refine Wp_region ?_
          refine qM (.slice (some ⟨bx, 0, none⟩) N N) rfl ?_
          refine qF bu 0 1 rfl Tryz.underlying39 rfl siz3 rfl ?_
          refine qV (r_load (v := (I6 (d : Int))) rfl flat3 (Bu.cell rfl)) ?_
          refine qV (r_indexSlice (b := bx) (o := 0) (len := N) (cap := N) (i := d) (o' := 0 + d) rfl rfl (by omega) Tryz.underlying72 siz4 (by omega) (by omega)) ?_
          refine s_store (b := bx) (o := 0 + d) (c' := ((M2.set d true).map Value.bool).toArray) (v := (.bool true)) rfl rfl rfl siz4 Bx (by simp; omega) (bools_set true) ?_
          intro w10 S10
          replace Bn2 := S10.keep (by omega) Bn2
          replace hB0 := S10.keep (by omega) hB0
          replace Bi := S10.keep (by omega) Bi
          replace hg := S10.keep (by omega) hg
          replace Bu := S10.keep (by omega) Bu
          replace E := S10.step E (by first | exact Or.inl (by omega) | exact Or.inr rfl | exact Or.inr (by assumption) | exact Or.inr (by simp) | exact Or.inr (by omega) | exact Or.inr (by dsimp only; omega))
          replace Bx := S10.blk
          refine WpL_nil (inB_normal (thn_normal (Wp_region ?_)))
          refine qV (r_add (k := .i64) (a := (j : Int)) (b := 1) (c := (j : Int) + 1) rfl rfl (wI64 (by omega))) ?_
          refine qM (I6 ((j : Int) + 1)) rfl ?_
          refine WpL_nil (thn_normal ?_)
          exact ⟨n.edges.length - (j + 1), by omega, j + 1, M2.set d true, Fits.out ⟨rfl, rfl, rfl, rfl, rfl, rfl, rfl, rfl, rfl, rfl, trivial⟩, E, Bn2, hB0, Bi, hg, Bx, (by omega), (by rw [List.length_set]; exact hM2l), (hM2.set d).congr fun t => by rw [stpJ_snoc he, hde]; exact or_congr Iff.rfl ⟨fun h => ⟨hqI.1 (by rw [g1]), g2, h.symm⟩, fun h => h.2.2.symm⟩, rfl⟩
         ·have kg2 := g2
          refine Wp_skip (inB_normal (thn_normal (Wp_region ?_)))
          refine qV (r_add (k := .i64) (a := (j : Int)) (b := 1) (c := (j : Int) + 1) rfl rfl (wI64 (by omega))) ?_
          refine qM (I6 ((j : Int) + 1)) rfl ?_
          refine WpL_nil (thn_normal ?_)
          exact ⟨n.edges.length - (j + 1), by omega, j + 1, M2, Fits.out ⟨rfl, rfl, rfl, rfl, rfl, rfl, rfl, rfl, rfl, rfl, trivial⟩, E, Bn2, hB0, Bi, hg, Bx, (by omega), hM2l, hM2.congr fun t => by rw [stpJ_snoc he, g2]; simp, rfl⟩
        ·have kg1 := g1
         refine WpL_guard_no (oj := _) rfl rfl (by decide) (v := .bool false) (congrArg Value.bool g1) (Or.inl rfl) ?_
         refine WpL_guard_no (oj := _) rfl rfl (by decide) (v := .bool false) (congrArg Value.bool g1) (Or.inl rfl) ?_
         refine WpL_guard_no (oj := _) rfl rfl (by decide) (v := .bool false) (congrArg Value.bool g1) (Or.inl rfl) ?_
         refine WpL_guard_no (oj := _) rfl rfl (by decide) (v := .bool false) (congrArg Value.bool g1) (Or.inl rfl) ?_
         refine qV (r_pick (b := q) (v := (.bool false)) rfl (by rw [g1]; rfl)) ?_
         refine WpL_nil ?_
         refine Wp_cond_false rfl ?_
         refine Wp_skip (inB_normal (thn_normal (Wp_region ?_)))
         refine qV (r_add (k := .i64) (a := (j : Int)) (b := 1) (c := (j : Int) + 1) rfl rfl (wI64 (by omega))) ?_
         refine qM (I6 ((j : Int) + 1)) rfl ?_
         refine WpL_nil (thn_normal ?_)
         exact ⟨n.edges.length - (j + 1), by omega, j + 1, M2, Fits.out ⟨rfl, rfl, rfl, rfl, rfl, rfl, rfl, rfl, rfl, rfl, trivial⟩, E, Bn2, hB0, Bi, hg, Bx, (by omega), hM2l, hM2.congr fun t => by rw [stpJ_snoc he]; exact ⟨.inl, fun h => h.resolve_right fun h2 => by have h3 := hqI.2 h2.1; rw [g1] at h3; cases h3⟩, rfl⟩
       ·have khlt2 := hlt2
        replace hlt2 := of_decide_eq_false hlt2
        have hjj : j = n.edges.length := by omega
        have hM2f : MarkOf M2 (stpP n (setP n (cloP n.eps fun s => s = n.start) (text.take k)) c) := hM2.congr fun t => by rw [hjj]; unfold stpJ stpP; rw [List.take_length]
        refine Wp_exit (thn_exit (thn_exit (inB_here (thn_normal (Wp_seq_region ?_)))))
        refine qM (.slice (some ⟨bx, 0, none⟩) N N) rfl ?_
        refine s_store (b := bi) (o := 0) (c' := #[(.slice (some ⟨bx, 0, none⟩) N N)]) (v := (.slice (some ⟨bx, 0, none⟩) N N)) rfl rfl rfl siz72 Bi (by simp) rfl ?_
        intro w11 S11
        replace Bn2 := S11.keep (by omega) Bn2
        replace hB0 := S11.keep (by omega) hB0
        replace hg := S11.keep (by omega) hg
        replace Bx := S11.keep (by omega) Bx
        replace E := S11.step E (by first | exact Or.inl (by omega) | exact Or.inr rfl | exact Or.inr (by assumption) | exact Or.inr (by simp) | exact Or.inr (by omega) | exact Or.inr (by dsimp only; omega))
        replace Bi := S11.blk
        refine WpL_nil (Wp_region ?_)
        refine qV (r_loadAgg (vs := [(I6 (N : Int)), (I6 n.start), (.slice ea n.ends.length ec), (.slice pa n.eps.length pc), (.slice xa n.edges.length xc)]) rfl agg26 siz26 rfl (Bn2.cells rfl)) ?_
        refine qV (r_load (v := (.slice (some ⟨bx, 0, none⟩) N N)) rfl flat72 (Bi.cell rfl)) ?_
        refine WpL_enter rfl rfl (by decide) (r_callF (vs := [(.agg #[(I6 (N : Int)), (I6 n.start), (.slice ea n.ends.length ec), (.slice pa n.eps.length pc), (.slice xa n.edges.length xc)]), (.slice (some ⟨bx, 0, none⟩) N N)]) Tryz.func36 kQ kQ rfl) (nclose_c _ w0 n _ bx N M2 (stpP n (setP n (cloP n.eps fun s => s = n.start) (text.take k)) c) ok hN h0N E (by omega) Bx hM2l (fun s hs => by obtain ⟨e, he, _, _, h9⟩ := hs; rw [← h9]; exact (ok.ed e he).2.1) hM2f) ?_
        rintro _ w59 ⟨⟨M3, hM3l, hM3, hB3⟩, C9⟩
        replace Bn2 := C9.keep ((fun h => by have h' : _ = bx := h; omega)) Bn2
        replace hB0 := C9.keep ((fun h => by have h' : _ = bx := h; omega)) hB0
        replace Bi := C9.keep ((fun h => by have h' : _ = bx := h; omega)) Bi
        replace hg := C9.keep ((fun h => by have h' : _ = bx := h; omega)) hg
        replace E := E.step C9 ((fun y hy h => by have h' : y = bx := h; omega))
        refine WpL_nil (inB_normal (thn_normal (Wp_region ?_)))
        refine qV (r_add (k := .i64) (a := (k : Int)) (b := 1) (c := (k : Int) + 1) rfl rfl (wI64 (by omega))) ?_
        refine qM (I6 ((k : Int) + 1)) rfl ?_
        refine WpL_nil (thn_normal ?_)
        exact ⟨text.length - (k + 1), by omega, k + 1, M3, bx, Fits.out ⟨rfl, rfl, rfl, rfl, rfl, trivial⟩, E, Bn2, hB0, Bi, (by omega), hM3l, (by rw [setP_snoc hc]; exact hM3), hB3, (by omega), rfl⟩
     ·have khlt := hlt
      replace hlt := of_decide_eq_false hlt
      have hkk : k = text.length := by omega
      rw [hkk, List.take_length] at hM
      refine Wp_exit (thn_exit (thn_exit (inB_here (thn_normal (Wp_seq_region ?_)))))
      refine qF bn 0 2 rfl Tryz.underlying26 rfl siz22 rfl ?_
      refine qV (r_load (v := (.slice ea n.ends.length ec)) rfl flat22 (Bn2.cell rfl)) ?_
      refine qV (r_makeFunc (vs := []) (us := [(P6 bi 0)]) rfl rfl) ?_
      refine WpL_enter rfl rfl (by decide) (r_callF (vs := [(.slice ea n.ends.length ec), (.func (.func 37) #[] #[(P6 bi 0)])]) Tryz.func30 kQ kQ rfl) (ints_has_c _ _ _ n.ends (fun s => M.getD s.toNat false) (hen.ext E) (fun w x hE hx => CallV.mk (first := #[]) (cap := #[.pointer (some ⟨bi, 0, none⟩)]) Tryz.func37 kQ kQ rfl (by obtain ⟨a, ha, haN⟩ := int_nat (x := x) (N := N) (by have := ok.en x hx; omega); rw [ha]; exact nrun1_c w a N g bi M (hE.keep Bi) (hE.keep hg) hMl haN hN5))) ?_
      rintro _ w69 ⟨rfl, X69⟩
      replace Bn2 := X69.keep Bn2
      replace hB0 := X69.keep hB0
      replace Bi := X69.keep Bi
      replace E := E.ext X69
      refine qA (.bool (n.ends.any fun s => M.getD s.toNat false)) rfl ?_
      refine qA (I6 0) rfl ?_
      refine WpL_nil (Wp_ret ?_)
      refine fin_tmp2 Tryz.results7 (v := (.bool (n.ends.any fun s => M.getD s.toNat false))) (v' := (.int .i64 0)) rfl rfl ?_
      refine ⟨⟨_, _, rfl, .inr (.inr (.inr ⟨hc1, by omega, hru1, ?_, rfl⟩))⟩, E⟩
      rw [acc_set, List.any_eq_true]
      have hiff : ∀ e ∈ n.ends, M.getD e.toNat false = true ↔ setP n (cloP n.eps fun s => s = n.start) text e := fun e he => by
       obtain ⟨a, ha, haN⟩ := int_nat (x := e) (N := N) (by have := ok.en e he; omega)
       rw [ha, Int.toNat_natCast, ← hM a (by omega), List.getD_eq_getElem?_getD]
       obtain ⟨q, hq⟩ := get_of_lt (l := M) (i := a) (by omega)
       rw [hq]; simp
      exact ⟨fun ⟨e, he, h⟩ => ⟨e, he, (hiff e he).1 h⟩, fun ⟨e, he, h⟩ => ⟨e, he, (hiff e he).2 h⟩⟩
end Go.Proofs
namespace Go.Proofs
open Go Go.Eng Go.Sort
set_option maxRecDepth 100000
def lstM (M : List Bool) (k : Nat) : List Int := ((List.range k).filter fun i => M.getD i false).map Int.ofNat
theorem lstM_succ (M : List Bool) (k : Nat) : lstM M (k + 1) = lstM M k ++ if M.getD k false then [((k : Nat) : Int)] else [] := by
 unfold lstM
 rw [List.range_succ, List.filter_append, List.map_append]
 congr 1
 rw [List.filter_cons, List.filter_nil]
 generalize M.getD k false = b
 cases b <;> rfl
theorem lstM_mem {M : List Bool} {k : Nat} {s : Int} : s ∈ lstM M k ↔ ∃ i : Nat, s = (i : Int) ∧ i < k ∧ M[i]? = some true := by
  unfold lstM
  simp only [List.mem_map, List.mem_filter, List.mem_range]
  constructor
  · rintro ⟨i, ⟨h1, h2⟩, rfl⟩
    refine ⟨i, rfl, h1, ?_⟩
    rw [List.getD_eq_getElem?_getD] at h2
    cases h : M[i]? with
    | none => rw [h] at h2; cases h2
    | some b => rw [h] at h2; simpa using h2
  · rintro ⟨i, rfl, h1, h2⟩
    exact ⟨i, ⟨h1, by rw [List.getD_eq_getElem?_getD, h2]; rfl⟩, rfl⟩
theorem lstM_lt (M : List Bool) : ∀ k, (lstM M k).Pairwise (· < ·)
  | 0 => List.Pairwise.nil
  | k + 1 => by
    rw [lstM_succ, List.pairwise_append]
    refine ⟨lstM_lt M k, by split <;> simp, fun a ha b hb => ?_⟩
    obtain ⟨i, rfl, h1, _⟩ := lstM_mem.1 ha
    split at hb
    · rw [List.mem_singleton] at hb; omega
    · simp at hb
theorem lstM_len (M : List Bool) (k : Nat) : (lstM M k).length ≤ k := by
 unfold lstM
 rw [List.length_map]
 exact Nat.le_trans (List.length_filter_le _ _) (by simp)
theorem lstM_free {eps : List (Int × Int)} {I : Int → Prop} {M : List Bool} {N : Nat} (hl : M.length = N) (h : MarkOf M (cloP eps I)) (hI : ∀ s, cloP eps I s → 0 ≤ s ∧ s < (N : Int)) : FreeOf eps I (lstM M N) := by
 refine ⟨lstM_lt M N, fun s => ?_⟩
 rw [lstM_mem]
 constructor
 ·rintro ⟨i, rfl, h1, h2⟩
  exact (h i (by omega)).1 h2
 ·intro hs
  have := hI s hs
  obtain ⟨i, rfl⟩ := Int.eq_ofNat_of_zero_le this.1
  exact ⟨i, rfl, by omega, (h i (by omega)).2 hs⟩
theorem cloP_rng {n : Nf} (ok : OkN n) {I : Int → Prop} (hI : ∀ s, I s → 0 ≤ s ∧ s < n.states) {s : Int} (h : cloP n.eps I s) : 0 ≤ s ∧ s < n.states := by
  obtain ⟨a, ha, hr⟩ := h
  induction hr with
  | refl => exact hI _ ha
  | tail _ he _ => exact (ok.ep _ he).2
set_option maxHeartbeats 1000000 in
theorem nlist_c (w0 : World) (b N : Nat) (M : List Bool) (hB : Blk w0 b (M.map Value.bool).toArray TB) (hl : M.length = N) (hN : N ≤ 1000) :
  Ret Tryz.prog 32 #[.slice (some ⟨b, 0, none⟩) N N] w0 fun r w => (∃ a c, r = .slice a (lstM M N).length c ∧ w.ownsRow w0.heap.size TDI 1 r (lstM M N).length ((lstM M N).map (Value.int .i64))) ∧ Ext w0 w := by
 refine Ret_of Tryz.func32 rfl Tryz.ntmps32 (Nat.le_of_ble_eq_true rfl) ?_
 have E : Chg none1 w0 w0 := Chg.refl _ _
 refine Wp_seq_region ?_
 refine qA (.slice none 0 0) rfl ?_
 refine WpL_nil (Wp_seq_region ?_)
 refine qA (.slice none 0 0) rfl ?_
 refine WpL_nil (Wp_seq (Wp_seq_region ?_))
 refine qM (.slice (some ⟨b, 0, none⟩) N N) rfl ?_
 refine qV (r_lenSlice (ad := some ⟨b, 0, none⟩) (n := N) (cap := N) Tryz.underlying72 rfl) ?_
 refine qM (I6 0) rfl ?_
 refine WpL_nil (Wp_block ?_)
 refine Wp_loop (fun nn_ σ W1 => ∃ (k : Nat) (la : Option Addr) (lc m : Nat), (∃ jj_, σ = upds jj_ [(6, (.slice (some ⟨b, 0, none⟩) N N)), (7, (I6 (N : Int))), (8, (I6 (k : Int))), (3, (.slice la m lc))]) ∧ Chg none1 w0 W1 ∧ (k ≤ N) ∧ (m = (lstM M k).length) ∧ (W1.ownsRow w0.heap.size TDI 1 (.slice la m lc) m ((lstM M k).map (Value.int .i64))) ∧ (w0.heap.size ≤ W1.heap.size) ∧ nn_ = N - k) (n := N - 0) ?_ ?_
 ·exact ⟨0, none, 0, 0, Fits.out ⟨rfl, rfl, rfl, rfl, trivial⟩, E, Nat.zero_le _, rfl, World.ownsRow_nil _ _ _ _, Nat.le_refl _, rfl⟩
 ·clear E
  rintro _ _ W1 ⟨k, la, lc, m, ⟨j1, rfl⟩, E, hk, hm, hown, hsz, rfl⟩
  refine Wp_seq_region ?_
  refine qV (r_lss (k := .i64) (a := (k : Int)) (b := (N : Int)) rfl rfl) ?_
  refine WpL_nil (Wp_seq ?_)
  refine Wp_cond (b := decide (((k : Int) : Int) < (N : Int))) rfl (fun hlt => ?_) (fun hlt => ?_)
  ·have khlt := hlt
   replace hlt := of_decide_eq_true hlt
   obtain ⟨x, hx⟩ := get_of_lt (l := M) (i := k) (by omega)
   have hmk := lstM_len M k
   have hsu := lstM_succ M k
   have hgd : M.getD k false = x := by rw [List.getD_eq_getElem?_getD, hx]; rfl
   refine Wp_skip (thn_normal (Wp_seq (Wp_block (Wp_seq_region ?_))))
   refine qM (I6 (k : Int)) rfl ?_
   refine qV (r_indexSlice (b := b) (o := 0) (len := N) (cap := N) (i := k) (o' := 0 + k) rfl rfl rfl Tryz.underlying72 siz4 (by omega) (by omega)) ?_
   refine qV (r_load (v := (.bool x)) rfl flat4 (E.cell (fun f => f) (by rw [Nat.zero_add]; exact hB.cell (by simp [hx])))) ?_
   refine qA (I6 (k : Int)) rfl ?_
   refine qA (.bool x) rfl ?_
   refine WpL_nil (Wp_seq_region ?_)
   refine qM (.bool x) rfl ?_
   refine WpL_nil ?_
   refine Wp_cond (b := x) rfl (fun hx1 => ?_) (fun hx1 => ?_)
   ·have khx1 := hx1
    refine Wp_region ?_
    refine qM (.slice la m lc) rfl ?_
    refine qM (I6 (k : Int)) rfl ?_
    refine s_buildSlice (ps := [(0, (I6 (k : Int)))]) (c := #[(I6 (k : Int))]) (by decide) rfl Tryz.underlying22 siz3 zer3 (by decide) (by decide) (by kernel_rfl) ?_
    intro bq wq Nq
    have Fq := Nq.ge E
    replace hown := own_ext hown Nq.ext
    replace hsz := Nat.le_trans hsz Nq.ext.size
    replace E := E.ext Nq.ext
    have Bq := Nq.blk
    refine s_append (base := w0.heap.size) (n := m) (m := 1) (xs := (lstM M k).map (Value.int .i64)) (news := [(I6 (k : Int))]) (size := 1) (bytes := 8) (v := (.slice la m lc)) (by decide) Tryz.underlying22 siz3 byt3 zer3 rfl (by decide) rfl hown rfl (rfl) (Bq.cells rfl) (by simp [Value.oneCell']) (by unfold maxLen; omega) (by omega) (hsz) ?_
    intro v9 w29 Ov9 Cv9 Dv9
    replace E := E.step Cv9 (fun x hx h => absurd (hown.lt x h).1 (by omega))
    obtain ⟨la2, lc2, rfl⟩ := own_form Ov9
    refine qA (.slice la2 (m + 1) lc2) rfl ?_
    refine WpL_nil (inB_normal (thn_normal (Wp_region ?_)))
    refine qV (r_add (k := .i64) (a := (k : Int)) (b := 1) (c := (k : Int) + 1) rfl rfl (wI64 (by omega))) ?_
    refine qM (I6 ((k : Int) + 1)) rfl ?_
    refine WpL_nil (thn_normal ?_)
    exact ⟨N - (k + 1), by omega, k + 1, la2, lc2, m + 1, Fits.out ⟨rfl, rfl, rfl, rfl, trivial⟩, E, (by omega), (by rw [hsu, hgd, hx1]; simp [hm]), (by rw [hsu, hgd, hx1, if_pos rfl, List.map_append]; exact Ov9), Nat.le_trans hsz Cv9.size, rfl⟩
   ·have khx1 := hx1
    refine Wp_skip (inB_normal (thn_normal (Wp_region ?_)))
    refine qV (r_add (k := .i64) (a := (k : Int)) (b := 1) (c := (k : Int) + 1) rfl rfl (wI64 (by omega))) ?_
    refine qM (I6 ((k : Int) + 1)) rfl ?_
    refine WpL_nil (thn_normal ?_)
    exact ⟨N - (k + 1), by omega, k + 1, la, lc, m, Fits.out ⟨rfl, rfl, rfl, rfl, trivial⟩, E, (by omega), (by rw [hsu, hgd, hx1]; simpa using hm), (by rw [hsu, hgd, hx1]; simpa using hown), hsz, rfl⟩
  ·have khlt := hlt
   replace hlt := of_decide_eq_false hlt
   have hkN : k = N := by omega
   rw [hkN] at hown hm
   refine Wp_exit (thn_exit (thn_exit (inB_here (thn_normal (Wp_seq_region ?_)))))
   refine qM (.slice la m lc) rfl ?_
   refine qA (.slice la m lc) rfl ?_
   refine WpL_nil (Wp_ret ?_)
   refine fin_tmp Tryz.results32 (v := (.slice la m lc)) rfl ?_
   exact ⟨⟨la, lc, by rw [hm], by rw [← hm]; exact hown⟩, E⟩
theorem nclo1_c (w0 : World) (x st : Int) (b : Nat) (v1 v2 v3 v4 : Value) (hB : Blk w0 b #[.int .i64 st, v1, v2, v3, v4] 26) : Ret Tryz.prog 31 #[.int .i64 x, .pointer (some ⟨b, 0, none⟩)] w0 fun r w => r = .bool (badS st x) ∧ Ext w0 w := by
 refine Ret_of Tryz.func31 rfl Tryz.ntmps31 (Nat.le_of_ble_eq_true rfl) ?_
 have E : Chg none1 w0 w0 := Chg.refl _ _
 refine Wp_seq_region ?_
 refine qA (.bool false) rfl ?_
 refine WpL_nil (Wp_seq_region ?_)
 refine qM (I6 x) rfl ?_
 obtain ⟨e1, he1⟩ : ∃ e, (decide ((x : Int) < 0)) = e := ⟨_, rfl⟩
 refine qV ((r_lss (k := .i64) (a := x) (b := 0) rfl rfl).trans (by rw [he1]; try rfl)) ?_
 refine qM (.bool e1) rfl ?_
 refine qG (.bool e1) (nU e1 (I6 x)) (by cases e1 <;> first | exact gA | exact gB | exact .inl ⟨rfl, r_move (v := (I6 x)) rfl⟩) ?_
 refine qG (.bool e1) (nU e1 (P6 b 0)) (by cases e1 <;> first | exact gA | exact gB | exact .inl ⟨rfl, r_fieldAddr (b := b) (o := 0) (o' := 0) rfl Tryz.underlying26 rfl siz3 rfl⟩) ?_
 refine qG (.bool e1) (nU e1 (I6 st)) (by cases e1 <;> first | exact gA | exact gB | exact .inl ⟨rfl, r_load (v := (I6 st)) rfl flat3 (hB.cell rfl)⟩) ?_
 obtain ⟨e2, he2⟩ : ∃ e, (decide ((st : Int) ≤ x)) = e := ⟨_, rfl⟩
 refine qG (.bool e1) (nU e1 (.bool e2)) (by cases e1 <;> first | exact gA | exact gB | exact .inl ⟨rfl, (r_geq (k := .i64) (a := x) (b := st) rfl rfl).trans (by rw [he2]; try rfl)⟩) ?_
 obtain ⟨e3, he3⟩ : ∃ e, (e1 || e2) = e := ⟨_, rfl⟩
 refine qV (r_pick (b := e1) (v := .bool e3) rfl (by rw [← he3]; cases e1 <;> rfl)) ?_
 refine qA (.bool e3) rfl ?_
 refine WpL_nil ?_
 subst he3
 subst he2
 subst he1
 refine Wp_ret ?_
 refine fin_tmp Tryz.results31 (v := (.bool ((decide ((x : Int) < 0)) || (decide ((st : Int) ≤ x))))) rfl ?_
 exact ⟨bool_eq rfl, E⟩
def ClsR (n : Nf) (l : List Int) (q : List Int) (e : Int) : Prop := (chkN n ≠ 0 ∧ q = [] ∧ e = chkN n) ∨ (chkN n = 0 ∧ l.any (badS n.states) = true ∧ q = [] ∧ e = 1) ∨ (chkN n = 0 ∧ l.any (badS n.states) = false ∧ FreeOf n.eps (· ∈ l) q ∧ e = 0)
theorem nClosure_c (w0 : World) (n : Nf) (vs0 : List Value) (v : Value) (l : List Int) (h : NfAt w0 n vs0) (hl : IntsAt w0 v l) :
  Ret Tryz.prog 6 #[.agg vs0.toArray, v] w0 fun r w => (∃ a c q e, r = .tuple #[.slice a q.length c, .int .i64 e] ∧ IntsAt w (.slice a q.length c) q ∧ ClsR n l q e) ∧ Ext w0 w := by
 have h0 := h
 obtain ⟨ea, ec, pa, pc, xa, xc, rfl, hen, hep, hed⟩ := h
 obtain ⟨la, lc, rfl⟩ := SlAt.form hl
 simp only [List.length_map] at hl ⊢
 refine Ret_of Tryz.func6 rfl Tryz.ntmps6 (Nat.le_of_ble_eq_true rfl) ?_
 have E : Chg none1 w0 w0 := Chg.refl _ _
 refine Wp_seq_region ?_
 refine s_box (v := (.agg #[(I6 n.states), (I6 n.start), (.slice ea n.ends.length ec), (.slice pa n.eps.length pc), (.slice xa n.edges.length xc)])) (c := #[(I6 n.states), (I6 n.start), (.slice ea n.ends.length ec), (.slice pa n.eps.length pc), (.slice xa n.edges.length xc)]) (by decide) rfl rfl ?_
 intro bn wn Nn
 have Fn := Nn.ge E
 replace E := E.ext Nn.ext
 have Bn := Nn.blk
 refine qA (.slice none 0 0) rfl ?_
 refine qA (I6 0) rfl ?_
 refine WpL_nil (Wp_seq (Wp_seq_region ?_))
 refine qV (r_loadAgg (vs := [(I6 n.states), (I6 n.start), (.slice ea n.ends.length ec), (.slice pa n.eps.length pc), (.slice xa n.edges.length xc)]) rfl agg26 siz26 rfl (Bn.cells rfl)) ?_
 refine WpL_enter rfl rfl (by decide) (r_callF (vs := [(.agg #[(I6 n.states), (I6 n.start), (.slice ea n.ends.length ec), (.slice pa n.eps.length pc), (.slice xa n.edges.length xc)])]) Tryz.func11 kQ kQ rfl) (ncheck_c _ n _ (h0.ext E)) ?_
 rintro _ w9 ⟨rfl, X9⟩
 replace Bn := X9.keep Bn
 replace E := E.ext X9
 refine qA (I6 (chkN n)) rfl ?_
 refine WpL_nil (Wp_seq_region ?_)
 refine qM (I6 (chkN n)) rfl ?_
 refine qV (r_neq (k := .i64) (a := chkN n) (b := 0) rfl rfl) ?_
 refine WpL_nil ?_
 refine Wp_cond (b := decide ((chkN n : Int) ≠ 0)) rfl (fun hc0 => ?_) (fun hc0 => ?_)
 ·have khc0 := hc0
  replace hc0 := of_decide_eq_true hc0
  refine Wp_seq_region ?_
  refine qM (I6 (chkN n)) rfl ?_
  refine qA (.slice none 0 0) rfl ?_
  refine qA (I6 (chkN n)) rfl ?_
  refine WpL_nil (Wp_ret (thn_ret ?_))
  refine fin_tmp2 Tryz.results6 (v := (.slice none 0 0)) (v' := (.int .i64 (chkN n))) rfl rfl ?_
  exact ⟨⟨none, 0, [], _, rfl, SlAt.nil _ _ _ _, .inl ⟨hc0, rfl, rfl⟩⟩, E⟩
 ·have khc0 := hc0
  replace hc0 := of_decide_eq_false hc0
  have hc1 : chkN n = 0 := by omega
  have ok := chkN_zero.1 hc1
  refine Wp_skip (thn_normal (Wp_seq (Wp_seq_region ?_)))
  refine qM (.slice la l.length lc) rfl ?_
  refine qV (r_makeFunc (vs := []) (us := [(P6 bn 0)]) rfl rfl) ?_
  refine WpL_enter rfl rfl (by decide) (r_callF (vs := [(.slice la l.length lc), (.func (.func 31) #[] #[(P6 bn 0)])]) Tryz.func30 kQ kQ rfl) (ints_has_c _ _ _ l (badS n.states) (hl.ext E) (fun w x hE _ => CallV.mk (first := #[]) (cap := #[.pointer (some ⟨bn, 0, none⟩)]) Tryz.func31 kQ kQ rfl (nclo1_c w x n.states bn _ _ _ _ (hE.keep Bn)))) ?_
  rintro _ w19 ⟨rfl, X19⟩
  replace Bn := X19.keep Bn
  replace E := E.ext X19
  refine WpL_nil ?_
  refine Wp_cond (b := l.any (badS n.states)) rfl (fun hany => ?_) (fun hany => ?_)
  ·have khany := hany
   refine Wp_seq_region ?_
   refine qA (.slice none 0 0) rfl ?_
   refine qA (I6 1) rfl ?_
   refine WpL_nil (Wp_ret (thn_ret ?_))
   refine fin_tmp2 Tryz.results6 (v := (.slice none 0 0)) (v' := (.int .i64 1)) rfl rfl ?_
   exact ⟨⟨none, 0, [], _, rfl, SlAt.nil _ _ _ _, .inr (.inl ⟨hc1, hany, rfl, rfl⟩)⟩, E⟩
  ·have khany := hany
   obtain ⟨N, hN⟩ : ∃ N : Nat, n.states = (N : Int) := by have := ok.s0; obtain ⟨a, ha⟩ := Int.eq_ofNat_of_zero_le (show 0 ≤ n.states by omega); exact ⟨a, ha⟩
   have hst := ok.st
   have hrg := any_bad.1 hany
   refine Wp_skip (thn_normal (Wp_seq_region ?_))
   refine qV (r_loadAgg (vs := [(I6 n.states), (I6 n.start), (.slice ea n.ends.length ec), (.slice pa n.eps.length pc), (.slice xa n.edges.length xc)]) rfl agg26 siz26 rfl (Bn.cells rfl)) ?_
   refine qM (.slice la l.length lc) rfl ?_
   refine WpL_enter rfl rfl (by decide) (r_callF (vs := [(.agg #[(I6 n.states), (I6 n.start), (.slice ea n.ends.length ec), (.slice pa n.eps.length pc), (.slice xa n.edges.length xc)]), (.slice la l.length lc)]) Tryz.func33 kQ kQ rfl) (nclosure_c _ n _ N _ l ok hN (h0.ext E) (hl.ext E) (fun s hs => by have := hrg s hs; omega)) ?_
   rintro _ w29 ⟨⟨M0, g0, rfl, hg0, hM0l, hM0, hB0⟩, X29⟩
   replace Bn := X29.keep Bn
   replace E := E.ext X29
   refine WpL_enter rfl rfl (by decide) (r_callF (vs := [(.slice (some ⟨g0, 0, none⟩) N N)]) Tryz.func32 kQ kQ rfl) (nlist_c _ g0 N M0 hB0 hM0l (by omega)) ?_
   rintro _ w39 ⟨⟨qa, qc, rfl, hQ⟩, X39⟩
   replace Bn := X39.keep Bn
   replace E := E.ext X39
   refine qA (.slice qa ((lstM M0 N).length) qc) rfl ?_
   refine qA (I6 0) rfl ?_
   refine WpL_nil (Wp_ret ?_)
   refine fin_tmp2 Tryz.results6 (v := (.slice qa ((lstM M0 N).length) qc)) (v' := (.int .i64 0)) rfl rfl ?_
   exact ⟨⟨qa, qc, _, _, rfl, own_intsD hQ rfl, .inr (.inr ⟨hc1, hany, lstM_free hM0l hM0 (fun s hs => by have := cloP_rng ok (fun s hs => hrg s hs) hs; omega), rfl⟩)⟩, E⟩
end Go.Proofs
namespace Go.Proofs
open Go Go.Eng Go.Sort
set_option maxRecDepth 100000
abbrev EdR := Ed × List Value
def selZ (Z : List EdR) (s : Nat) : List EdR := Z.filter fun z => z.1.1 == (s : Int)
def SelZ (Z : List EdR) (n k : Nat) (to : List (List EdR)) : Prop := to.length = n ∧ ∀ s : Nat, s < n → to[s]? = some (selZ (Z.take k) s)
def zRow (l : List EdR) : Nat × List Value := (l.length, (l.map (·.2)).flatten)
theorem SelZ.start (Z : List EdR) (n : Nat) : SelZ Z n 0 (List.replicate n []) := by
 refine ⟨by simp, fun s hs => ?_⟩
 rw [List.getElem?_replicate, if_pos hs]; rfl
theorem SelZ.add {Z : List EdR} {n k : Nat} {to : List (List EdR)} (h : SelZ Z n k to) {z : EdR} (hz : Z[k]? = some z) {a : Nat} (ha : z.1.1 = (a : Int)) {l : List EdR} (hl : to[a]? = some l) : SelZ Z n (k + 1) (to.set a (l ++ [z])) := by
 refine ⟨by rw [List.length_set]; exact h.1, fun s hs => ?_⟩
 have hal := lt_of_get hl
 rw [take_snoc hz, selZ, List.filter_append, List.getElem?_set]
 by_cases e : a = s
 ·subst e
  have := h.2 a hs
  rw [hl] at this
  rw [if_pos rfl, if_pos hal, Option.some.inj this]
  simp [selZ, ha]
 ·rw [if_neg e, h.2 s hs]
  have : ¬ (a : Int) = (s : Int) := by omega
  simp [selZ, ha, this]
theorem SelZ.full {Z : List EdR} {n k : Nat} {to : List (List EdR)} (h : SelZ Z n k to) (hk : Z.length ≤ k) {s : Nat} {l : List EdR} (hl : to[s]? = some l) : l = selZ Z s := by
 have := h.2 s (by rw [← h.1]; exact lt_of_get hl)
 rw [hl, List.take_of_length_le hk] at this
 exact Option.some.inj this
theorem SelZ.len {Z : List EdR} {n k : Nat} {to : List (List EdR)} (h : SelZ Z n k to) {s : Nat} {l : List EdR} (hl : to[s]? = some l) : l.length ≤ Z.length := by
 have := h.2 s (by rw [← h.1]; exact lt_of_get hl)
 rw [hl] at this
 rw [Option.some.inj this]
 exact Nat.le_trans (List.length_filter_le _ _) (by rw [List.length_take]; exact Nat.min_le_right _ _)
theorem zrow_rep (n : Nat) : (List.replicate n ([] : List EdR)).map zRow = List.replicate n (0, []) := by rw [List.map_replicate]; rfl
theorem cnt_snoc {Q : List Int} {t : Int} (h : t ∉ Q) : ∀ es : List Ed, es.countP (fun e => (Q ++ [t]).contains e.1) = es.countP (fun e => Q.contains e.1) + es.countP (fun e => e.1 == t)
  | [] => rfl
  | e :: es => by
    rw [List.countP_cons, List.countP_cons, List.countP_cons, cnt_snoc h es]
    by_cases e1 : e.1 = t
    · simp [e1, h]; omega
    · simp [e1]; omega
theorem sel_cnt {Z : List EdR} {es : List Ed} (hZ : Z.map (·.1) = es) (c : Nat) : (selZ Z c).length = es.countP fun e => e.1 == (c : Int) := by
 rw [← hZ, List.countP_map, selZ, ← List.countP_eq_length_filter]; rfl
/-- The edges that state s gets from the states of Q. -/
def GetE (n : Nf) (s : Int) (Q : List Int) (L : List Ed) : Prop := (∀ x, x ∈ L ↔ ∃ e ∈ n.edges, e.1 ∈ Q ∧ x = (s, e.2.1, e.2.2)) ∧ L.length = n.edges.countP fun e => Q.contains e.1
theorem GetE.start (n : Nf) (s : Int) : GetE n s [] [] := ⟨fun x => by simp, by simp⟩
theorem GetE.le {n : Nf} {s : Int} {Q : List Int} {L : List Ed} (h : GetE n s Q L) : L.length ≤ n.edges.length := by rw [h.2]; exact List.countP_le_length
abbrev getE (s : Int) (z : EdR) : Ed := (s, z.1.2.1, z.1.2.2)
theorem GetE.add {n : Nf} {s : Int} {Q : List Int} {L : List Ed} {Z : List EdR} (h : GetE n s Q L) (hZ : Z.map (·.1) = n.edges) {c : Nat} (hc : (c : Int) ∉ Q) : GetE n s (Q ++ [(c : Int)]) (L ++ (selZ Z c).map (getE s)) := by
 refine ⟨fun x => ?_, by rw [List.length_append, List.length_map, h.2, sel_cnt hZ, cnt_snoc hc]⟩
 rw [List.mem_append, h.1, List.mem_map]
 constructor
 ·rintro (⟨e, h1, h2, h3⟩ | ⟨z, h1, h2⟩)
  ·exact ⟨e, h1, List.mem_append_left _ h2, h3⟩
  ·have h4 := List.mem_filter.1 h1
   exact ⟨z.1, by rw [← hZ]; exact List.mem_map.2 ⟨z, h4.1, rfl⟩, List.mem_append_right _ (by simpa using h4.2), h2.symm⟩
 ·rintro ⟨e, h1, h2, h3⟩
  rcases List.mem_append.1 h2 with h4 | h4
  ·exact .inl ⟨e, h1, h4, h3⟩
  ·rw [← hZ] at h1
   obtain ⟨z, h5, rfl⟩ := List.mem_map.1 h1
   exact .inr ⟨z, List.mem_filter.2 ⟨h5, by simpa using h4⟩, h3.symm⟩
theorem GetE.bare {n : Nf} {s : Int} {Q : List Int} {L us : List Ed} (h : GetE n s Q L) (hQ : ∀ t, t ∈ Q ↔ cloP n.eps (fun t => t = s) t) (hp : us.Perm L) (hs : us.Pairwise fun x y => edO x y ≤ 0) : BareS n s (kdE none us) := by
 have h1 := kdE_strict hs
 refine ⟨h1.1, fun x => ?_⟩
 rw [h1.2, hp.mem_iff, h.1]
 exact ⟨fun ⟨e, a, b, c⟩ => ⟨e, a, (hQ _).1 b, c⟩, fun ⟨e, a, b, c⟩ => ⟨e, a, (hQ _).2 b, c⟩⟩
/-- What Bare returns. -/
def BareR (n m : Nf) (e : Int) : Prop := (chkN n ≠ 0 ∧ m = nf0 ∧ e = chkN n) ∨ (chkN n = 0 ∧ e = 2 ∧ m = nf0 ∧ ∃ k es xs, ((k : Nat) : Int) ≤ n.states ∧ BareK n k es xs ∧ 20000 < xs.length) ∨
 (chkN n = 0 ∧ e = 0 ∧ m.states = n.states ∧ m.start = n.start ∧ m.eps = [] ∧ ∃ N : Nat, n.states = (N : Int) ∧ BareK n N m.ends m.edges)
theorem EdB.chgQ {F M : Nat → Prop} {w w' : World} {base : Nat} {xv : Value} {es : List Ed} (h : EdB F w base xv es) (c : Chg M w w') (hF : ∀ y, F y → ¬ M y) (hk : ∀ k, xv.ownBlock = some k → ¬ M k) : EdB F w' base xv es := by
 obtain ⟨⟨rows, h1, h2⟩, h3, h4⟩ := h
 exact ⟨⟨rows, own_chg h1 c hk, h2.chg c hF⟩, h3, fun y hy => ⟨(h4 y hy).1, Nat.lt_of_lt_of_le (h4 y hy).2 c.size⟩⟩
/-- Edges of one's own behind others. -/
theorem EdB.app {F F2 : Nat → Prop} {w w' : World} {base zl : Nat} {xv v : Value} {es fs : List Ed} {rows qs : List (List Value)} (h : w.ownsRow base TEd 3 xv es.length rows.flatten) (hr : EdsF F w es rows) (h3 : ∀ b, xv.ownBlock = some b → ¬ F b) (h4 : ∀ y, F y → base ≤ y ∧ y < w.heap.size) (hu : EdsF F2 w fs qs) (h5 : ∀ y, F2 y → zl ≤ y ∧ y < w.heap.size) (h6 : ∀ b, xv.ownBlock = some b → b < zl) (hz : base ≤ zl)
  (c : Chg (fun q => xv.ownBlock = some q) w w') (ho : w'.ownsRow base TEd 3 v (es.length + fs.length) (rows.flatten ++ qs.flatten)) (hd : ∀ k, v.ownBlock = some k → xv.ownBlock = some k ∨ w.heap.size ≤ k) : EdB (fun y => F y ∨ F2 y) w' base v (es ++ fs) := by
 have hF : ∀ y, F y → ¬ xv.ownBlock = some y := fun y hy e => h3 y e hy
 have hF2 : ∀ y, F2 y → ¬ xv.ownBlock = some y := fun y hy e => by have := h6 y e; have := (h5 y hy).1; omega
 refine ⟨⟨rows ++ qs, by rw [List.length_append, List.flatten_append]; exact ho, ((hr.chg c hF).mono fun _ h => .inl h).app ((hu.chg c hF2).mono fun _ h => .inr h)⟩, fun b hb hf => ?_, fun y hy => ?_⟩
 ·rcases hd b hb with h7 | h7
  ·rcases hf with hf | hf
   ·exact h3 b h7 hf
   ·exact hF2 b hf h7
  ·rcases hf with hf | hf
   ·have := (h4 b hf).2; omega
   ·have := (h5 b hf).2; omega
 ·have := c.size
  rcases hy with hy | hy
  ·have := h4 y hy; omega
  ·have := h5 y hy; omega
end Go.Proofs
namespace Go.Proofs
open Go Go.Eng
set_option maxRecDepth 100000
theorem ieqr_c (w0 : World) (v1 v2 : Value) (l1 l2 : List Int) (h1 : IntsAt w0 v1 l1) (h2 : IntsAt w0 v2 l2) :
  Ret Tryz.prog 13 #[v1, v2] w0 fun v w => v = .bool (decide (l1 = l2)) ∧ Ext w0 w := by
 obtain ⟨a1, c1, rfl⟩ := SlAt.form h1
 obtain ⟨a2, c2, rfl⟩ := SlAt.form h2
 have hb1 : l1.length ≤ 9223372036854775807 := by simpa using SlAt.le h1
 simp only [List.length_map] at h1 h2 ⊢
 refine Ret_of Tryz.func13 rfl Tryz.ntmps13 (Nat.le_of_ble_eq_true rfl) ?_
 have E : Chg none1 w0 w0 := Chg.refl _ _
 refine Wp_seq_region ?_
 refine qA (.bool false) rfl ?_
 refine WpL_nil (Wp_seq (Wp_seq_region ?_))
 refine qM (.slice a1 l1.length c1) rfl ?_
 refine qV (r_lenSlice (ad := a1) (n := l1.length) (cap := c1) Tryz.underlying22 rfl) ?_
 refine qM (.slice a2 l2.length c2) rfl ?_
 refine qV (r_lenSlice (ad := a2) (n := l2.length) (cap := c2) Tryz.underlying22 rfl) ?_
 refine qV (r_neq (k := .i64) (a := (l1.length : Int)) (b := (l2.length : Int)) rfl rfl) ?_
 refine WpL_nil ?_
 refine Wp_cond (b := decide (((l1.length : Int) : Int) ≠ (l2.length : Int))) rfl (fun hl => ?_) (fun hl => ?_)
 ·have khl := hl
  replace hl := of_decide_eq_true hl
  refine Wp_seq_region ?_
  refine qA (.bool false) rfl ?_
  refine WpL_nil (Wp_ret (thn_ret ?_))
  refine fin_tmp Tryz.results13 (v := (.bool false)) rfl ?_
  exact ⟨bool_eq (by symm; rw [decide_eq_false_iff_not]; intro h; rw [h] at hl; exact hl rfl), E⟩
 ·have khl := hl
  replace hl := of_decide_eq_false hl
  refine Wp_skip (thn_normal (Wp_seq (Wp_seq_region ?_)))
  refine qM (.slice a1 l1.length c1) rfl ?_
  refine qV (r_lenSlice (ad := a1) (n := l1.length) (cap := c1) Tryz.underlying22 rfl) ?_
  refine qM (I6 0) rfl ?_
  refine WpL_nil (Wp_block ?_)
  refine Wp_loop (fun nn_ σ W2 => ∃ (k : Nat), (∃ jj_, σ = upds jj_ [(0, (.slice a1 l1.length c1)), (1, (.slice a2 l2.length c2)), (12, (I6 (l1.length : Int))), (13, (I6 (k : Int)))]) ∧ Chg none1 w0 W2 ∧ (k ≤ l1.length) ∧ (∀ (i : Nat), i < k → l1[i]? = l2[i]?) ∧ nn_ = l1.length - k) (n := l1.length - 0) ?_ ?_
  ·exact ⟨0, Fits.out ⟨rfl, rfl, rfl, rfl, trivial⟩, E, Nat.zero_le _, (fun i h => absurd h (Nat.not_lt_zero _)), rfl⟩
  ·clear E
   rintro _ _ W2 ⟨k, ⟨j2, rfl⟩, E, hk, heq, rfl⟩
   refine Wp_seq_region ?_
   refine qV (r_lss (k := .i64) (a := (k : Int)) (b := (l1.length : Int)) rfl rfl) ?_
   refine WpL_nil (Wp_seq ?_)
   refine Wp_cond (b := decide (((k : Int) : Int) < (l1.length : Int))) rfl (fun hlt => ?_) (fun hlt => ?_)
   ·have khlt := hlt
    replace hlt := of_decide_eq_true hlt
    obtain ⟨p, hp⟩ := get_of_lt (l := l1) (i := k) (by omega)
    obtain ⟨q, hq⟩ := get_of_lt (l := l2) (i := k) (by omega)
    obtain ⟨b1, o1, rfl, hc1⟩ := ints_cells h1 (by omega)
    obtain ⟨b2, o2, rfl, hc2⟩ := ints_cells h2 (by omega)
    refine Wp_skip (thn_normal (Wp_seq (Wp_block (Wp_seq_region ?_))))
    refine qM (I6 (k : Int)) rfl ?_
    refine qA (I6 (k : Int)) rfl ?_
    refine WpL_nil ?_
    refine Wp_seq_draw 8 mixed (by kernel_rfl) ?_
    intro w4 X4 _
    replace E := E.ext X4
    refine qT (r_move (v := (.slice (some ⟨b1, o1, none⟩) l1.length c1)) rfl) ?_
    refine qT (r_move (v := (I6 (k : Int))) rfl) ?_
    refine qT (r_indexSlice (b := b1) (o := o1) (len := l1.length) (cap := c1) (i := k) (o' := o1 + k) rfl rfl rfl Tryz.underlying22 siz3 (by omega) (by omega)) ?_
    refine qT (r_load (v := (I6 p)) rfl flat3 (E.cell (fun f => f) (hc1 k p hp))) ?_
    refine qT (r_move (v := (.slice (some ⟨b2, o2, none⟩) l2.length c2)) rfl) ?_
    refine qT (r_move (v := (I6 (k : Int))) rfl) ?_
    refine qT (r_indexSlice (b := b2) (o := o2) (len := l2.length) (cap := c2) (i := k) (o' := o2 + k) rfl rfl rfl Tryz.underlying22 siz3 (by omega) (by omega)) ?_
    refine qT (r_load (v := (I6 q)) rfl flat3 (E.cell (fun f => f) (hc2 k q hq))) ?_
    refine WpT_zero ?_
    refine qV (r_neq (k := .i64) (a := p) (b := q) rfl rfl) ?_
    refine WpL_nil ?_
    refine Wp_cond (b := decide ((p : Int) ≠ q)) rfl (fun hpq => ?_) (fun hpq => ?_)
    ·have khpq := hpq
     replace hpq := of_decide_eq_true hpq
     refine Wp_seq_region ?_
     refine qA (.bool false) rfl ?_
     refine WpL_nil (Wp_ret (inB_ret (thn_ret (thn_ret (inB_ret (thn_ret ?_))))))
     refine fin_tmp Tryz.results13 (v := (.bool false)) rfl ?_
     exact ⟨bool_eq (by symm; rw [decide_eq_false_iff_not]; intro h; subst h; rw [hp] at hq; cases hq; exact hpq rfl), E⟩
    ·have khpq := hpq
     replace hpq := of_decide_eq_false hpq
     have hpq2 : p = q := by omega
     refine Wp_skip (inB_normal (thn_normal (Wp_region ?_)))
     refine qV (r_add (k := .i64) (a := (k : Int)) (b := 1) (c := (k : Int) + 1) rfl rfl (wI64 (by omega))) ?_
     refine qM (I6 ((k : Int) + 1)) rfl ?_
     refine WpL_nil (thn_normal ?_)
     exact ⟨l1.length - (k + 1), by omega, k + 1, Fits.out ⟨rfl, rfl, rfl, rfl, trivial⟩, E, (by omega), (fun i hi => by rcases Nat.lt_or_ge i k with h | h; exact heq i h; obtain rfl : i = k := (by omega); rw [hp, hq, hpq2]), rfl⟩
   ·have khlt := hlt
    replace hlt := of_decide_eq_false hlt
    have hkk : k = l1.length := by omega
    refine Wp_exit (thn_exit (thn_exit (inB_here (thn_normal (Wp_seq_region ?_)))))
    refine qA (.bool true) rfl ?_
    refine WpL_nil (Wp_ret ?_)
    refine fin_tmp Tryz.results13 (v := (.bool true)) rfl ?_
    exact ⟨bool_eq (by symm; rw [decide_eq_true_eq]; apply List.ext_getElem?; intro i; rcases Nat.lt_or_ge i l1.length with h | h; exact heq i (by omega); rw [List.getElem?_eq_none h, List.getElem?_eq_none (by omega)]), E⟩
end Go.Proofs
namespace Go.Proofs
open Go Go.Eng Go.Sort
set_option maxRecDepth 100000
theorem keyR_len (s : List Sp) (h : s.length ≤ 16) : (codeR (keyR s)).length ≤ 40 := by
 have e : codeR (keyR s) = 0 :: (spsC s ++ (-1 :: 0 :: 0 :: ([] ++ [-1]))) := rfl
 rw [e]
 simp only [List.length_cons, List.length_append, List.length_nil, spsC_len]; omega
theorem putKey_c (w0 : World) (x : Ed) (ua : Option Addr) (uc : Nat) (h : SpansAt w0 (.slice ua x.2.2.length uc) x.2.2) (hl : x.2.2.length ≤ 16) :
  Ret Tryz.prog 100 #[.agg #[.int .i64 x.1, .int .i64 x.2.1, .slice ua x.2.2.length uc]] w0 fun v w => ciG (keyE x) v w ∧ Ext w0 w := by
 have hkl := keyR_len x.2.2 hl
 have hk9 : keyE x = [x.2.1] ++ codeR (keyR x.2.2) := rfl
 have hre : ReAt w0 (keyR x.2.2) [.int .i64 0, .slice ua x.2.2.length uc, .slice none 0 0, .int .i64 0, .int .i64 0, .bool false] := ReAt.of (set := x.2.2) (args := []) h (by simp) (.inl rfl)
 obtain ⟨A, hA⟩ : ∃ A, A = codeR (keyR x.2.2) := ⟨_, rfl⟩
 rw [← hA] at hkl hk9
 refine Ret_of Tryz.func100 rfl Tryz.ntmps100 (Nat.le_of_ble_eq_true rfl) ?_
 have E : Chg none1 w0 w0 := Chg.refl _ _
 obtain ⟨z0, hz0⟩ : ∃ z0, z0 = (w0).heap.size := ⟨_, rfl⟩
 have hwz : w0.heap.size ≤ z0 := by rw [hz0]; exact E.size
 refine Wp_seq_region ?_
 refine s_box (v := (.agg #[(I6 x.1), (I6 x.2.1), (.slice ua x.2.2.length uc)])) (c := #[(I6 x.1), (I6 x.2.1), (.slice ua x.2.2.length uc)]) (by decide) rfl rfl ?_
 intro bp wp Np
 have Fp := Np.ge E
 replace E := E.ext Np.ext
 have Bp := Np.blk
 refine qA (.slice none 0 0) rfl ?_
 refine WpL_nil ?_
 have hz_1 : w0.heap.size ≤ wp.heap.size := E.size
 have lz_1_bp : bp < wp.heap.size := Bp.lt
 refine Wp_seq ?_
 obtain ⟨Fs1, hFs1⟩ : ∃ Fs : List FctS, Fs = [(eF (P6 bp 1)), (eF (I6 x.2.1)), (fun _ _ => litF TDI #[.int .i64 x.2.1] z0), (eF (P6 bp 2)), (eF (.slice ua x.2.2.length uc)), (eF (.agg #[(I6 0), (.slice ua x.2.2.length uc), (.slice none 0 0), (I6 0), (I6 0), (.bool false)])), (fun _ _ => ciG A), (eF undef), (eF undef)] := ⟨_, rfl⟩
 refine Wp_dagS (MsL []) [true, true, true, true, true, true, true, false, false] [7, 8] [3, 4, 5, 6, 7, 8, 9, 18, 19] [[], [0], [1], [], [3], [4], [5], [], []] [[], [0], [1, 0], [], [3], [4, 3], [5, 4, 3], [], []] Fs1 hFs1 (by kernel_rfl) mixed (by kernel_rfl) (by kernel_rfl) (by kernel_rfl) (by kernel_rfl) ?_ ?_
 ·intro wd X0
  refine qZ (fun S s' w' hi hN X U V H => ?_) ?_
  ·replace X := xN0 X
   exact DoesT_pure (r_fieldAddr (b := bp) (o := 0) (o' := 1) (U 1 rfl) Tryz.underlying39 rfl siz3 rfl) rfl
  refine qZ (fun S s' w' hi hN X U V H => ?_) ?_
  ·replace X := xN0 X
   have e3 := (H 0 rfl).2 3 _ rfl (by rw [hFs1]; rfl)
   exact DoesT_pure (r_load (v := (I6 x.2.1)) e3 flat3 (((X0.trans X).keep Bp).cell rfl)) rfl
  refine DagStepsS.cons (StabS.chg (U := none1) (litF_ext _ _ _) (fun p y hp hw h => by
     exact h.elim)) (LocS.const) (fun S s' w' hi hN X U V H => Or.inl ⟨Guarded_none rfl, ?_⟩) ?_
  ·replace X := xN0 X
   have e4 := (H 1 rfl).2 4 _ rfl (by rw [hFs1]; rfl)
   exact DoesT_lit (hs := z0) Tryz.underlying22 siz3 zer3 e4 (by decide) (by decide) (by kernel_rfl) (by have := X0.size; have := X.size; omega)
  refine qZ (fun S s' w' hi hN X U V H => ?_) ?_
  ·replace X := xN0 X
   exact DoesT_pure (r_fieldAddr (b := bp) (o := 0) (o' := 2) (U 1 rfl) Tryz.underlying39 rfl siz37 rfl) rfl
  refine qZ (fun S s' w' hi hN X U V H => ?_) ?_
  ·replace X := xN0 X
   have e6 := (H 3 rfl).2 6 _ rfl (by rw [hFs1]; rfl)
   exact DoesT_pure (r_load (v := (.slice ua x.2.2.length uc)) e6 flat37 (((X0.trans X).keep Bp).cell rfl)) rfl
  refine qZ (fun S s' w' hi hN X U V H => ?_) ?_
  ·replace X := xN0 X
   have e7 := (H 4 rfl).2 7 _ rfl (by rw [hFs1]; rfl)
   exact DoesT_pure (r_build (ps := [(1, (.slice ua x.2.2.length uc))]) (v := (.agg #[(I6 0), (.slice ua x.2.2.length uc), (.slice none 0 0), (I6 0), (I6 0), (.bool false)])) (bld1 e7) (by kernel_rfl)) rfl
  refine DagStepsS.cons (StabS.chg (U := none1) (ciG_ext _) (fun p y hp hw h => by
     exact h.elim)) (LocS.const) (fun S s' w' hi hN X U V H => Or.inl ⟨Guarded_none rfl, ?_⟩) ?_
  ·replace X := xN0 X
   have e8 := (H 5 rfl).2 8 _ rfl (by rw [hFs1]; rfl)
   exact DoesT_callE (r_callF (vs := [(.agg #[(I6 0), (.slice ua x.2.2.length uc), (.slice none 0 0), (I6 0), (I6 0), (.bool false)])]) Tryz.func101 kQ kQ (lst1 e8)) ((code_c (keyR x.2.2).size (keyR x.2.2) _ _ (Nat.le_refl _) (by rw [← hA]; omega) (ReAt.ext (Chg.ext E (X0.trans X)) _ hre)).mono (fun v w h => by rw [hA]; exact h))
  refine DagStepsS.tail (DagStepsS.tail ?_)
  exact DagStepsS.nil
 ·intro s' wd1 w1 X0 X1 U H
  replace X1 := X1.mono (M' := none1) (fun y _ h => by
    obtain ⟨j, hj, h⟩ := h
    exact h.elim)
  obtain ⟨b5, e5, B5, g5⟩ := (show ((fun _ _ => litF TDI #[.int .i64 x.2.1] z0) : FctS) (allS [true, true, true, true, true, true, true, false, false]) s' (s' 5) w1 from H 2 rfl 5 (fun _ _ => litF TDI #[.int .i64 x.2.1] z0) rfl (by rw [hFs1]; rfl))
  obtain ⟨a9, c9, e9, i9⟩ := (show ((fun _ _ => ciG A) : FctS) (allS [true, true, true, true, true, true, true, false, false]) s' (s' 9) w1 from H 6 rfl 9 (fun _ _ => ciG A) rfl (by rw [hFs1]; rfl))
  obtain ⟨j1, rfl⟩ := Fits.out (σ := s') (l := [(5, (.slice (some ⟨b5, 0, none⟩) 1 1)), (9, (.slice a9 A.length c9))]) ⟨e5, e9, trivial⟩
  clear U H
  replace Bp := (X0.trans X1).keep Bp
  replace X1 := X0.trans X1
  replace E := E.ext X1
  have hown := own_lit1 (base := z0) B5 (by omega)
  refine s_appendAny (base := z0) (n := 1) (m := A.length) (xs := [Value.int .i64 x.2.1]) (news := (A.map (Value.int .i64))) (size := 1) (bytes := 8) (v := (.slice (some ⟨b5, 0, none⟩) 1 1)) (by decide) Tryz.underlying22 siz3 byt3 zer3 rfl (by decide) rfl hown rfl ((by rw [List.length_map, Nat.mul_one])) (ints_any i9) (ints_one _) (by unfold maxLen; omega) (by omega) ((by have := B5.lt; omega)) ?_
  intro v9 w29 Ov9 Cv9 Dv9
  replace E := E.step Cv9 (fun x hx h => absurd (hown.lt x h).1 (by omega))
  obtain ⟨oa, oc, rfl⟩ := own_form Ov9
  refine qA (.slice oa (1 + A.length) oc) rfl ?_
  refine WpL_nil (thn_normal (Wp_ret ?_))
  refine fin_tmp Tryz.results100 (v := (.slice oa (1 + A.length) oc)) rfl ?_
  exact ⟨⟨oa, oc, by rw [hk9]; simp [Nat.add_comm], by rw [hk9]; exact own_intsD (by simpa using Ov9) (by simp [Nat.add_comm])⟩, E⟩
set_option maxHeartbeats 2000000 in
theorem put_c (w0 : World) (z base : Nat) (x : Ed) (ua : Option Addr) (uc : Nat) (v : Value) (es : List Ed) (h : EdO z w0 base v es) (hz : base ≤ w0.heap.size) (hx : EdF (fun y => y < z) w0 x [.int .i64 x.1, .int .i64 x.2.1, .slice ua x.2.2.length uc]) (hs : ∀ y ∈ es, x.1 = y.1) (hp : ∀ p ∈ x.2.2, 0 ≤ p.1) (hpy : ∀ y ∈ es, ∀ p ∈ y.2.2, 0 ≤ p.1) (hlx : x.2.2.length ≤ 16) (hly : ∀ y ∈ es, y.2.2.length ≤ 16) (hl : es.length ≤ 100000) :
  Ret Tryz.prog 53 #[v, .agg #[.int .i64 x.1, .int .i64 x.2.1, .slice ua x.2.2.length uc]] w0 fun r w => EdO z w base r (putE es x) ∧ Ext w0 w := by
 obtain ⟨rows, hown, hrows⟩ := h
 have hown0 := hown
 obtain ⟨la, lc, rfl⟩ := own_form hown
 have hrl := hrows.1
 have hcap := own_le hown
 have hslx : SpansAt w0 (.slice ua x.2.2.length uc) x.2.2 := by
  obtain ⟨u, h1, h2, _⟩ := hx
  unfold edRow at h1
  simp only [List.cons.injEq, and_true] at h1
  rw [h1.2.2]; exact h2
 refine Ret_of Tryz.func53 rfl Tryz.ntmps53 (Nat.le_of_ble_eq_true rfl) ?_
 have E : Chg none1 w0 w0 := Chg.refl _ _
 refine Wp_seq_region ?_
 refine s_box (v := (.agg #[(I6 x.1), (I6 x.2.1), (.slice ua x.2.2.length uc)])) (c := #[(I6 x.1), (I6 x.2.1), (.slice ua x.2.2.length uc)]) (by decide) rfl rfl ?_
 intro bp wp Np
 have Fp := Np.ge E
 replace E := E.ext Np.ext
 have Bp := Np.blk
 refine qA (.slice none 0 0) rfl ?_
 refine WpL_nil (Wp_seq_region ?_)
 refine qA (.slice none 0 0) rfl ?_
 refine WpL_nil (Wp_seq_region ?_)
 refine qA (.func (.func 100) #[] #[]) rfl ?_
 refine WpL_nil (Wp_seq (Wp_seq_region ?_))
 refine qM (.slice la es.length lc) rfl ?_
 refine qV (r_lenSlice (ad := la) (n := es.length) (cap := lc) Tryz.underlying24 rfl) ?_
 refine qM (I6 0) rfl ?_
 refine WpL_nil (Wp_block ?_)
 have hbp : bp < (wp).heap.size ∧ w0.heap.size ≤ (wp).heap.size := ⟨Bp.lt, E.size⟩
 obtain ⟨z1, hz1⟩ : ∃ z1, z1 = (wp).heap.size := ⟨_, rfl⟩
 refine Wp_loop (fun nn_ σ W1 => ∃ (k : Nat) (oa : Option Addr) (oc : Nat), (∃ jj_, σ = upds jj_ [(0, (.slice la es.length lc)), (3, (P6 bp 0)), (6, (.func (.func 100) #[] #[])), (11, (.slice la es.length lc)), (12, (I6 (es.length : Int))), (13, (I6 (k : Int))), (5, (.slice oa k oc))]) ∧ Chg none1 w0 W1 ∧ Blk W1 bp #[(I6 x.1), (I6 x.2.1), (.slice ua x.2.2.length uc)] 39 ∧ (k ≤ es.length) ∧ (W1.ownsRow z1 TEd 3 (.slice oa k oc) k (rows.take k).flatten) ∧ (z1 ≤ W1.heap.size) ∧ (putE es x = es.take k ++ putE (es.drop k) x) ∧ nn_ = es.length - k) (n := es.length - 0) ?_ ?_
 ·exact ⟨0, none, 0, Fits.out ⟨rfl, rfl, rfl, rfl, rfl, rfl, rfl, trivial⟩, E, Bp, Nat.zero_le _, World.ownsRow_nil _ _ _ _, (by omega), (by simp), rfl⟩
 ·clear E Bp
  rintro _ _ W1 ⟨k, oa, oc, ⟨j1, rfl⟩, E, Bp, hk, hout, hbs, hput, rfl⟩
  refine Wp_seq_region ?_
  refine qV (r_lss (k := .i64) (a := (k : Int)) (b := (es.length : Int)) rfl rfl) ?_
  refine WpL_nil (Wp_seq ?_)
  refine Wp_cond (b := decide (((k : Int) : Int) < (es.length : Int))) rfl (fun hlt => ?_) (fun hlt => ?_)
  ·have khlt := hlt
   replace hlt := of_decide_eq_true hlt
   obtain ⟨y, hy⟩ := get_of_lt (l := es) (i := k) (by omega)
   obtain ⟨r, hr, hry⟩ := hrows.get hy
   have hym := List.mem_of_getElem? hy
   obtain ⟨va, vc, rfl, hsy⟩ := hry.form
   obtain ⟨lb, rfl, _, _⟩ := own_cells hown0 (by omega)
   have hrow := own_row3 hown0 hrows.three (by omega) hr
   have hrest := own_rest hown0 hrows.three (by omega) (i := k) (by omega)
   have hlo := hout.lt
   refine Wp_skip (thn_normal (Wp_seq (Wp_block (Wp_seq_region ?_))))
   refine qM (I6 (k : Int)) rfl ?_
   refine qV (r_indexSlice (b := lb) (o := 0) (len := es.length) (cap := lc) (i := k) (o' := 0 + k * 3) rfl rfl rfl Tryz.underlying24 siz39 (by omega) (by omega)) ?_
   refine qV (r_loadAgg (vs := [(I6 y.1), (I6 y.2.1), (.slice va y.2.2.length vc)]) rfl agg39 siz39 rfl (by rw [Nat.zero_add]; exact hrow.ext E)) ?_
   obtain ⟨A, hA⟩ : ∃ A, A = keyE x := ⟨_, rfl⟩
   obtain ⟨B, hB⟩ : ∃ B, B = keyE y := ⟨_, rfl⟩
   refine s_alloc (c := #[(I6 0), (I6 0), (.slice none 0 0)]) (by decide) zer39 rfl ?_
   intro bq wq Nq
   have Fq := Nq.ge E
   have Oq_bp := Nq.lt Bp
   replace Bp := Nq.keep Bp
   replace hout := own_ext hout Nq.ext
   replace hbs := Nat.le_trans hbs Nq.ext.size
   replace E := E.ext Nq.ext
   have Bq := Nq.blk
   refine qA (I6 (k : Int)) rfl ?_
   refine s_storeAgg (b := bq) (o := 0) (c' := #[(I6 y.1), (I6 y.2.1), (.slice va y.2.2.length vc)]) rfl rfl (by simp [Value.oneCell']) siz39 rfl Bq (by first | (simp; done) | exact Nat.le_of_ble_eq_true rfl) rfl ?_
   intro w3 S3
   replace hout := own_chg hout S3.chg (fun y hy h9 => by have h' : y = _ := h9; have := (hlo _ hy).2; have := Nq.eq; omega)
   replace hbs := Nat.le_trans hbs S3.chg.size
   replace Bp := S3.keep (by omega) Bp
   replace E := S3.step E (by first | exact Or.inl (by omega) | exact Or.inr rfl | exact Or.inr (by assumption) | exact Or.inr (by simp) | exact Or.inr (by omega) | exact Or.inr (by dsimp only; omega))
   replace Bq := S3.blk
   refine WpL_nil (Wp_seq ?_)
   obtain ⟨Fs4, hFs4⟩ : ∃ Fs : List Fact, Fs = [.eq (.func (.func 100) #[] #[]), .eq (.agg #[(I6 x.1), (I6 x.2.1), (.slice ua x.2.2.length uc)]), .gen (ciG A) (ciG_ext _), .eq (.func (.func 100) #[] #[]), .eq (.agg #[(I6 y.1), (I6 y.2.1), (.slice va y.2.2.length vc)]), .gen (ciG B) (ciG_ext _), .gen (ciG A) (ciG_ext _), .gen (ciG B) (ciG_ext _)] := ⟨_, rfl⟩
   refine Wp_dag [18, 19, 20, 21, 22, 23, 9, 10] [[], [], [0, 1], [], [], [2, 3, 4], [0, 1, 2, 5], [0, 1, 2, 3, 4, 5, 6]] Fs4 hFs4 mixed (by kernel_rfl) (by kernel_rfl) ?_ ?_
   ·intro wd X0
    refine DagSteps.cons (fun s' w' X U H => Or.inl ⟨?_, ?_⟩) ?_
    ·exact Guarded_none rfl
    ·exact Does_val (r_move (v := (.func (.func 100) #[] #[])) (U 6 rfl)) (Ext.refl _) rfl
    refine DagSteps.cons (fun s' w' X U H => Or.inl ⟨?_, ?_⟩) ?_
    ·exact Guarded_none rfl
    ·exact Does_val (r_loadAgg (vs := [(I6 x.1), (I6 x.2.1), (.slice ua x.2.2.length uc)]) (U 3 rfl) agg39 siz39 rfl (((X0.trans X).keep Bp).cells rfl)) (Ext.refl _) rfl
    refine DagSteps.cons (fun s' w' X U H => Or.inl ⟨?_, ?_⟩) ?_
    ·exact Guarded_none rfl
    ·have e19 : s' 19 = (.agg #[(.int .i64 x.1), (.int .i64 x.2.1), (.slice ua x.2.2.length uc)]) := H 1 rfl 19 (.eq (.agg #[(.int .i64 x.1), (.int .i64 x.2.1), (.slice ua x.2.2.length uc)])) rfl (by rw [hFs4]; rfl)
     have e18 : s' 18 = (.func (.func 100) #[] #[]) := H 0 rfl 18 (.eq (.func (.func 100) #[] #[])) rfl (by rw [hFs4]; rfl)
     exact Does_enter (r_callV (first := #[]) (cap := #[]) (vs := [(.agg #[(I6 x.1), (I6 x.2.1), (.slice ua x.2.2.length uc)])]) (ws := #[(.agg #[(I6 x.1), (I6 x.2.1), (.slice ua x.2.2.length uc)])]) e18 Tryz.func100 kQ kQ (lst1 e19) rfl) ((putKey_c _ x ua uc (SlAt.ext hslx (Ext.trans E (X0.trans X))) hlx).mono (fun v w h => by rw [hA]; exact h))
    refine DagSteps.cons (fun s' w' X U H => Or.inl ⟨?_, ?_⟩) ?_
    ·exact Guarded_none rfl
    ·exact Does_val (r_move (v := (.func (.func 100) #[] #[])) (U 6 rfl)) (Ext.refl _) rfl
    refine DagSteps.cons (fun s' w' X U H => Or.inl ⟨?_, ?_⟩) ?_
    ·exact Guarded_none rfl
    ·exact Does_val (r_loadAgg (vs := [(I6 y.1), (I6 y.2.1), (.slice va y.2.2.length vc)]) (U 8 rfl) agg39 siz39 rfl (((X0.trans X).keep Bq).cells rfl)) (Ext.refl _) rfl
    refine DagSteps.cons (fun s' w' X U H => Or.inl ⟨?_, ?_⟩) ?_
    ·exact Guarded_none rfl
    ·have e22 : s' 22 = (.agg #[(.int .i64 y.1), (.int .i64 y.2.1), (.slice va y.2.2.length vc)]) := H 4 rfl 22 (.eq (.agg #[(.int .i64 y.1), (.int .i64 y.2.1), (.slice va y.2.2.length vc)])) rfl (by rw [hFs4]; rfl)
     have e21 : s' 21 = (.func (.func 100) #[] #[]) := H 3 rfl 21 (.eq (.func (.func 100) #[] #[])) rfl (by rw [hFs4]; rfl)
     exact Does_enter (r_callV (first := #[]) (cap := #[]) (vs := [(.agg #[(I6 y.1), (I6 y.2.1), (.slice va y.2.2.length vc)])]) (ws := #[(.agg #[(I6 y.1), (I6 y.2.1), (.slice va y.2.2.length vc)])]) e21 Tryz.func100 kQ kQ (lst1 e22) rfl) ((putKey_c _ y va vc (SlAt.ext hsy (Ext.trans E (X0.trans X))) (hly y hym)).mono (fun v w h => by rw [hB]; exact h))
    refine DagSteps.cons (fun s' w' X U H => Or.inl ⟨?_, ?_⟩) ?_
    ·exact Guarded_none rfl
    ·exact Does_val (r_assign (v := s' 20) rfl) (Ext.refl _) (H 2 rfl 20 (.gen (ciG A) (ciG_ext _)) rfl (by rw [hFs4]; rfl))
    refine DagSteps.cons (fun s' w' X U H => Or.inl ⟨?_, ?_⟩) ?_
    ·exact Guarded_none rfl
    ·exact Does_val (r_assign (v := s' 23) rfl) (Ext.refl _) (H 5 rfl 23 (.gen (ciG B) (ciG_ext _)) rfl (by rw [hFs4]; rfl))
    exact DagSteps.nil
   ·intro s' w4 X4 U H
    obtain ⟨a9, c9, e9, i9⟩ := H 6 9 (.gen (ciG A) (ciG_ext _)) rfl (by rw [hFs4]; rfl)
    obtain ⟨a10, c10, e10, i10⟩ := H 7 10 (.gen (ciG B) (ciG_ext _)) rfl (by rw [hFs4]; rfl)
    obtain ⟨j4, rfl⟩ := Fits.out (σ := s') (l := [(0, (.slice (some ⟨lb, 0, none⟩) es.length lc)), (3, (.pointer (some ⟨bp, 0, none⟩))), (5, (.slice oa k oc)), (6, (.func (.func 100) #[] #[])), (7, (.int .i64 ((k : Nat) : Int))), (8, (.pointer (some ⟨bq, 0, none⟩))), (11, (.slice (some ⟨lb, 0, none⟩) es.length lc)), (12, (.int .i64 ((es.length : Nat) : Int))), (13, (.int .i64 ((k : Nat) : Int))), (9, (.slice a9 A.length c9)), (10, (.slice a10 B.length c10))]) ⟨U 0 rfl, U 3 rfl, U 5 rfl, U 6 rfl, U 7 rfl, U 8 rfl, U 11 rfl, U 12 rfl, U 13 rfl, e9, e10, trivial⟩
    clear U H
    replace Bp := X4.keep Bp
    replace Bq := X4.keep Bq
    replace hout := own_ext hout X4
    replace hbs := Nat.le_trans hbs X4.size
    replace E := E.ext X4
    refine thn_normal (Wp_seq (Wp_seq_region ?_))
    refine qM (.slice a9 A.length c9) rfl ?_
    refine qM (.slice a10 B.length c10) rfl ?_
    refine WpL_enter rfl rfl (by decide) (r_callF (vs := [(.slice a9 A.length c9), (.slice a10 B.length c10)]) Tryz.func13 kQ kQ rfl) (ieqr_c _ _ _ A B i9 i10) ?_
    rintro _ w9 ⟨rfl, X9⟩
    replace Bp := X9.keep Bp
    replace Bq := X9.keep Bq
    replace hout := own_ext hout X9
    replace hbs := Nat.le_trans hbs X9.size
    replace E := E.ext X9
    refine WpL_nil ?_
    refine Wp_cond (b := decide (A = B)) rfl (fun heq => ?_) (fun heq => ?_)
    ·have kheq := heq
     replace heq := of_decide_eq_true heq
     have hxy : x = y := (key_eq (hs y hym) hp (hpy y hym)).1 (by rw [← hA, ← hB]; simpa using heq)
     have hpe : putE es x = es := by rw [hput, hxy, dropc hy, putE, if_pos rfl, ← dropc hy, List.take_append_drop]
     refine Wp_seq_region ?_
     refine qM (.slice (some ⟨lb, 0, none⟩) es.length lc) rfl ?_
     refine qA (.slice (some ⟨lb, 0, none⟩) es.length lc) rfl ?_
     refine WpL_nil (Wp_ret (thn_ret (inB_ret (thn_ret (thn_ret (inB_ret (thn_ret ?_)))))))
     refine fin_tmp Tryz.results53 (v := (.slice (some ⟨lb, 0, none⟩) es.length lc)) rfl ?_
     exact ⟨by rw [hpe]; exact ⟨rows, own_ext hown0 E, hrows.chg E fun _ _ f => f⟩, E⟩
    ·have kheq := heq
     replace heq := of_decide_eq_false heq
     have hxy : x ≠ y := fun h9 => by rw [hA, hB, h9] at heq; simp at heq
     refine Wp_skip (thn_normal (Wp_seq (Wp_seq_region ?_)))
     refine qM (.slice a9 A.length c9) rfl ?_
     refine qM (.slice a10 B.length c10) rfl ?_
     refine WpL_enter rfl rfl (by decide) (r_callF (vs := [(.slice a9 A.length c9), (.slice a10 B.length c10)]) Tryz.func102 kQ kQ rfl) (before_c _ _ _ A B (i9.ext X9) (i10.ext X9)) ?_
     rintro _ w19 ⟨rfl, X19⟩
     replace Bp := X19.keep Bp
     replace Bq := X19.keep Bq
     replace hout := own_ext hout X19
     replace hbs := Nat.le_trans hbs X19.size
     replace E := E.ext X19
     refine WpL_nil ?_
     refine Wp_cond (b := decide (cmpC A B < 0)) rfl (fun hbf => ?_) (fun hbf => ?_)
     ·have khbf := hbf
      replace hbf := of_decide_eq_true hbf
      have hlt9 : edO x y < 0 := by rw [← key_cmp (hs y hym) hp (hpy y hym), ← hA, ← hB]; simpa using hbf
      obtain ⟨z2, hz2⟩ : ∃ z2, z2 = (w19).heap.size := ⟨_, rfl⟩
      have hpe : putE es x = es.take k ++ [x] ++ es.drop k := by rw [hput, dropc hy, putE, if_neg hxy, if_pos hlt9]; simp
      have hz_7 : w0.heap.size ≤ w19.heap.size := E.size
      have lz_7_bp : bp < w19.heap.size := Bp.lt
      have lz_7_bq : bq < w19.heap.size := Bq.lt
      refine Wp_seq ?_
      obtain ⟨Fs7, hFs7⟩ : ∃ Fs : List FctS, Fs = [(eF (.slice oa k oc)), (eF (.agg #[(I6 x.1), (I6 x.2.1), (.slice ua x.2.2.length uc)])), (fun _ _ => litF TEd #[.int .i64 x.1, .int .i64 x.2.1, .slice ua x.2.2.length uc] z2), (fun _ _ => appF z1 TEd 3 (k + 1) ((rows.take k).flatten ++ [.int .i64 x.1, .int .i64 x.2.1, .slice ua x.2.2.length uc]) (.slice oa k oc) 0), (eF (.slice (some ⟨lb, 0, none⟩) es.length lc)), (eF (I6 (k : Int))), (eF (.slice (some ⟨lb, k * 3, none⟩) (es.length - k) (lc - k))), (eF undef), (eF undef)] := ⟨_, rfl⟩
      refine Wp_dagS (MsL [(3, (fun q => (Value.slice oa k oc).ownBlock = some q))]) [true, true, true, true, true, true, true, false, false] [7, 8] [31, 32, 33, 34, 35, 36, 37, 55, 56] [[], [], [1], [0, 2], [], [], [4, 5], [], []] [[], [], [1], [0, 2, 1], [], [], [4, 5], [], []] Fs7 hFs7 (by kernel_rfl) mixed (by kernel_rfl) (by kernel_rfl) (by kernel_rfl) (by kernel_rfl) ?_ ?_
      ·intro wd X0
       refine qZ (fun S s' w' hi hN X U V H => ?_) ?_
       ·replace X := xN1 (hN 3 rfl) X
        exact DoesT_pure (r_move (v := (.slice oa k oc)) (U 5 rfl)) rfl
       refine qZ (fun S s' w' hi hN X U V H => ?_) ?_
       ·replace X := xN1 (hN 3 rfl) X
        exact DoesT_pure (r_loadAgg (vs := [(I6 x.1), (I6 x.2.1), (.slice ua x.2.2.length uc)]) (U 3 rfl) agg39 siz39 rfl (((X0.trans X).keep Bp).cells rfl)) rfl
       refine DagStepsS.cons (StabS.chg (U := (fun y => (fun q => (Value.slice oa k oc).ownBlock = some q) y)) (litF_chgQ (fun q h => by have := (hout.lt q h).2; omega)) (fun p y hp hw h => by
          rcases MsL_or h with ⟨rfl, h0⟩ | h0
          ·exact h0
          exact h0.elim)) (LocS.const) (fun S s' w' hi hN X U V H => Or.inl ⟨Guarded_none rfl, ?_⟩) ?_
       ·replace X := xN1 (hN 3 rfl) X
        have e32 := (H 1 rfl).2 32 _ rfl (by rw [hFs7]; rfl)
        exact DoesT_lit (hs := z2) Tryz.underlying24 siz39 zer39 e32 (by decide) (by decide) (by kernel_rfl) (by have := X0.size; have := X.size; omega)
       refine DagStepsS.cons (StabS.chg (U := none1) (appF_ext _ _ _ _ _ _ _) (fun p y hp hw h => by
          rcases MsL_or h with ⟨rfl, h0⟩ | h0
          ·exact absurd rfl hp
          exact h0.elim)) (LocS.const) (fun S s' w' hi hN X U V H => Or.inl ⟨Guarded_none rfl, ?_⟩) ?_
       ·replace X := xN1 hi X
        have e31 := (H 0 rfl).2 31 _ rfl (by rw [hFs7]; rfl)
        obtain ⟨b33, e33, B33, _⟩ := (show ((fun _ _ => litF TEd #[.int .i64 x.1, .int .i64 x.2.1, .slice ua x.2.2.length uc] z2) : FctS) S s' (s' 33) w' from (H 2 rfl).2 33 (fun _ _ => litF TEd #[.int .i64 x.1, .int .i64 x.2.1, .slice ua x.2.2.length uc] z2) rfl (by rw [hFs7]; rfl))
        exact DoesT_append (hs := 0) Tryz.underlying24 siz39 byt39 zer39 rfl (by decide) e31 (own_ext (own_ext hout X0) X) e33 rfl (B33.cells rfl) (by simp [Value.oneCell']) (by unfold maxLen; omega) (by omega) (by have := X0.size; have := X.size; omega) (fun y h => .inl ⟨rfl, h⟩) (Nat.zero_le _)
       refine qZ (fun S s' w' hi hN X U V H => ?_) ?_
       ·replace X := xM1 X
        exact DoesT_pure (r_move (v := (.slice (some ⟨lb, 0, none⟩) es.length lc)) (U 0 rfl)) rfl
       refine qZ (fun S s' w' hi hN X U V H => ?_) ?_
       ·replace X := xM1 X
        exact DoesT_pure (r_move (v := (I6 (k : Int))) (U 7 rfl)) rfl
       refine qZ (fun S s' w' hi hN X U V H => ?_) ?_
       ·replace X := xM1 X
        have e35 := (H 4 rfl).2 35 _ rfl (by rw [hFs7]; rfl)
        have e36 := (H 5 rfl).2 36 _ rfl (by rw [hFs7]; rfl)
        exact DoesT_pure (r_sliceLo (a := some ⟨lb, 0, none⟩) (len := es.length) (cap := lc) (lo := k) (n' := es.length - k) (c' := lc - k) Tryz.underlying24 siz39 e35 e36 rfl (by omega) (by rw [if_neg (by omega)]; show some (Addr.add ⟨lb, 0, none⟩ (k * 3)) = _; rw [Addr.add_lit, Nat.zero_add]) rfl rfl) rfl
       refine DagStepsS.tail (DagStepsS.tail ?_)
       exact DagStepsS.nil
      ·intro s' wd7 w7 X0 X7 U H
       replace X7 := X7.mono (M' := (fun y => (fun q => (Value.slice oa k oc).ownBlock = some q) y)) (fun y _ h => by
         obtain ⟨j, hj, h⟩ := h
         rcases MsL_or h with ⟨rfl, h0⟩ | h0
         ·exact h0
         exact h0.elim)
       obtain ⟨⟨a34, c34, e34⟩, O34, D34⟩ := (show ((fun _ _ => appF z1 TEd 3 (k + 1) ((rows.take k).flatten ++ [.int .i64 x.1, .int .i64 x.2.1, .slice ua x.2.2.length uc]) (.slice oa k oc) 0) : FctS) (allS [true, true, true, true, true, true, true, false, false]) s' (s' 34) w7 from H 3 rfl 34 (fun _ _ => appF z1 TEd 3 (k + 1) ((rows.take k).flatten ++ [.int .i64 x.1, .int .i64 x.2.1, .slice ua x.2.2.length uc]) (.slice oa k oc) 0) rfl (by rw [hFs7]; rfl))
       have e37 := H 6 rfl 37 _ rfl (by rw [hFs7]; rfl)
       obtain ⟨j7, rfl⟩ := Fits.out (σ := s') (l := [(34, (.slice a34 (k + 1) c34)), (37, (.slice (some ⟨lb, k * 3, none⟩) (es.length - k) (lc - k)))]) ⟨e34, e37, trivial⟩
       clear U H
       replace Bp := Chg.keep X7 (fun h => by have := (hout.lt _ h).1; omega) (X0.keep Bp)
       replace Bq := Chg.keep X7 (fun h => by have := (hlo _ h).2; have := Nq.eq; omega) (X0.keep Bq)
       replace hout := own_ext hout X0
       replace hbs := Nat.le_trans hbs X0.size
       have hXs := Chg.size X7
       replace E := (E.ext X0).step X7 (fun q hq h => by have := (hout.lt q h).1; omega)
       rw [e34] at O34
       have hEk : EdsF (fun y => y < z) w0 (es.take k ++ [x] ++ es.drop k) (rows.take k ++ [[.int .i64 x.1, .int .i64 x.2.1, .slice ua x.2.2.length uc]] ++ rows.drop k) := ((hrows.take k).snoc hx).app (hrows.drop k)
       refine s_append (base := z1) (n := (k + 1)) (m := (es.length - k)) (xs := ((rows.take k).flatten ++ [.int .i64 x.1, .int .i64 x.2.1, .slice ua x.2.2.length uc])) (news := (rows.drop k).flatten) (size := 3) (bytes := 40) (v := (.slice a34 (k + 1) c34)) (by decide) Tryz.underlying24 siz39 byt39 zer39 rfl (by decide) rfl O34 rfl ((by rw [rows_len (fun r hr => hrows.three r (List.mem_of_mem_drop hr)), List.length_drop, hrl])) (hrest.ext E) (rows_one hrows k) (by unfold maxLen; omega) (by omega) ((Nat.le_trans hbs hXs)) ?_
       intro v9 w49 Ov9 Cv9 Dv9
       replace E := E.step Cv9 (fun x hx h => absurd (O34.lt x h).1 (by omega))
       obtain ⟨pa2, pc2, rfl⟩ := own_form Ov9
       have hpl : (putE es x).length = k + 1 + (es.length - k) := by rw [hpe]; simp; omega
       refine qA (.slice pa2 (k + 1 + (es.length - k)) pc2) rfl ?_
       refine WpL_nil (thn_normal (Wp_ret (thn_ret (inB_ret (thn_ret (thn_ret (inB_ret (thn_ret ?_))))))))
       refine fin_tmp Tryz.results53 (v := (.slice pa2 (k + 1 + (es.length - k)) pc2)) rfl ?_
       exact ⟨⟨rows.take k ++ [[.int .i64 x.1, .int .i64 x.2.1, .slice ua x.2.2.length uc]] ++ rows.drop k, by rw [hpl]; exact own_low (by simpa using Ov9) (by omega), by rw [hpe]; exact hEk.chg E fun _ _ f => f⟩, E⟩
     ·have khbf := hbf
      replace hbf := of_decide_eq_false hbf
      refine Wp_skip (thn_normal (Wp_region ?_))
      refine qM (.slice oa k oc) rfl ?_
      refine qV (r_loadAgg (vs := [(I6 y.1), (I6 y.2.1), (.slice va y.2.2.length vc)]) rfl agg39 siz39 rfl (Bq.cells rfl)) ?_
      refine s_buildSlice (ps := [(0, (.agg #[(I6 y.1), (I6 y.2.1), (.slice va y.2.2.length vc)]))]) (c := #[(I6 y.1), (I6 y.2.1), (.slice va y.2.2.length vc)]) (by decide) rfl Tryz.underlying24 siz39 zer39 (by decide) (by decide) (by kernel_rfl) ?_
      intro b8 w8 N8
      have F8 := N8.ge E
      have O8_bp := N8.lt Bp
      have O8_bq := N8.lt Bq
      replace Bp := N8.keep Bp
      replace Bq := N8.keep Bq
      replace hout := own_ext hout N8.ext
      replace hbs := Nat.le_trans hbs N8.ext.size
      replace E := E.ext N8.ext
      have B8 := N8.blk
      refine s_append (base := z1) (n := k) (m := 1) (xs := (rows.take k).flatten) (news := [(I6 y.1), (I6 y.2.1), (.slice va y.2.2.length vc)]) (size := 3) (bytes := 40) (v := (.slice oa k oc)) (by decide) Tryz.underlying24 siz39 byt39 zer39 rfl (by decide) rfl hout rfl (rfl) (B8.cells rfl) (by simp [Value.oneCell']) (by unfold maxLen; omega) (by omega) (hbs) ?_
      intro v8 w59 Ov8 Cv8 Dv8
      replace Bp := Cv8.keep (fun h => by have := (hout.lt _ h).1; omega) Bp
      replace E := E.step Cv8 (fun x hx h => absurd (hout.lt x h).1 (by omega))
      obtain ⟨oa2, oc2, rfl⟩ := own_form Ov8
      refine qA (.slice oa2 (k + 1) oc2) rfl ?_
      refine WpL_nil (inB_normal (thn_normal (Wp_region ?_)))
      refine qV (r_add (k := .i64) (a := (k : Int)) (b := 1) (c := (k : Int) + 1) rfl rfl (wI64 (by omega))) ?_
      refine qM (I6 ((k : Int) + 1)) rfl ?_
      refine WpL_nil (thn_normal ?_)
      exact ⟨es.length - (k + 1), by omega, k + 1, oa2, oc2, Fits.out ⟨rfl, rfl, rfl, rfl, rfl, rfl, rfl, trivial⟩, E, Bp, (by omega), (by rw [take_snoc hr, List.flatten_append]; simpa using Ov8), Nat.le_trans hbs Cv8.size, putE_at hy hput hxy (fun h9 => by rw [← key_cmp (hs y hym) hp (hpy y hym), ← hA, ← hB] at h9; simp [h9] at hbf), rfl⟩
  ·have khlt := hlt
   replace hlt := of_decide_eq_false hlt
   have hkk : k = es.length := by omega
   rw [hkk, List.take_length, List.drop_length] at hput
   rw [List.take_of_length_le (by omega)] at hout
   refine Wp_exit (thn_exit (thn_exit (inB_here (thn_normal (Wp_seq_region ?_)))))
   refine qM (.slice oa k oc) rfl ?_
   refine qV (r_loadAgg (vs := [(I6 x.1), (I6 x.2.1), (.slice ua x.2.2.length uc)]) rfl agg39 siz39 rfl (Bp.cells rfl)) ?_
   refine s_buildSlice (ps := [(0, (.agg #[(I6 x.1), (I6 x.2.1), (.slice ua x.2.2.length uc)]))]) (c := #[(I6 x.1), (I6 x.2.1), (.slice ua x.2.2.length uc)]) (by decide) rfl Tryz.underlying24 siz39 zer39 (by decide) (by decide) (by kernel_rfl) ?_
   intro b9 w9 N9
   have F9 := N9.ge E
   have O9_bp := N9.lt Bp
   replace Bp := N9.keep Bp
   replace hout := own_ext hout N9.ext
   replace hbs := Nat.le_trans hbs N9.ext.size
   replace E := E.ext N9.ext
   have B9 := N9.blk
   refine s_append (base := z1) (n := k) (m := 1) (xs := rows.flatten) (news := [(I6 x.1), (I6 x.2.1), (.slice ua x.2.2.length uc)]) (size := 3) (bytes := 40) (v := (.slice oa k oc)) (by decide) Tryz.underlying24 siz39 byt39 zer39 rfl (by decide) rfl hout rfl (rfl) (B9.cells rfl) (by simp [Value.oneCell']) (by unfold maxLen; omega) (by omega) (hbs) ?_
   intro v7 w69 Ov7 Cv7 Dv7
   replace E := E.step Cv7 (fun x hx h => absurd (hout.lt x h).1 (by omega))
   obtain ⟨oa3, oc3, rfl⟩ := own_form Ov7
   have hpl : (putE es x).length = k + 1 := by rw [hput, hkk]; simp [putE]
   refine qA (.slice oa3 (k + 1) oc3) rfl ?_
   refine WpL_nil (Wp_ret ?_)
   refine fin_tmp Tryz.results53 (v := (.slice oa3 (k + 1) oc3)) rfl ?_
   exact ⟨⟨rows ++ [[.int .i64 x.1, .int .i64 x.2.1, .slice ua x.2.2.length uc]], by rw [hpl]; exact own_low (by simpa using Ov7) (by omega), by rw [hput]; exact (hrows.snoc hx).chg E fun _ _ f => f⟩, E⟩
end Go.Proofs
namespace Go.Proofs
open Go Go.Eng Go.Sort
set_option maxRecDepth 100000
theorem sortIntsW_c (w0 : World) (base n : Nat) (a : Option Addr) (c : Nat) (l : List Int) (hn : n = l.length) (h : l = [] ∨ w0.ownsRow base TDI 1 (.slice a n c) n (l.map (Value.int .i64))) (hl : n ≤ 17592186044416) :
  Ret Tryz.prog 51 #[.slice a n c] w0 fun r w => r = .tuple #[] ∧ SrtAt base w (.slice a n c) (l.mergeSort leB) ∧ Chg (fun x => l ≠ [] ∧ (Value.slice a n c).ownBlock = some x) w0 w := by
 refine Ret_of Tryz.func51 rfl Tryz.ntmps51 (Nat.le_of_ble_eq_true rfl) ?_
 have E : Chg (fun x => l ≠ [] ∧ (Value.slice a n c).ownBlock = some x) w0 w0 := Chg.refl _ _
 refine Wp_region ?_
 refine qM (.slice a n c) rfl ?_
 refine WpL_enter rfl rfl (by decide) (r_callF (vs := [(.slice a n c)]) Tryz.func94 kQ kQ rfl) (sortW_c _ base n a c l hn h hl) ?_
 rintro _ w9 ⟨rfl, I9, C9⟩
 replace E := E.step C9 (fun x hx hm => hm)
 refine WpL_nil ?_
 refine fin_none Tryz.results51 ?_
 exact ⟨rfl, I9, E⟩
theorem SrtAt.ints {base : Nat} {w : World} {v : Value} {l : List Int} (h : SrtAt base w v l) : IntsAt w v l := by
 obtain ⟨a, c, rfl, h⟩ := h
 rcases h with rfl | ⟨g, rfl, _, _, hH, hc, h9⟩
 ·exact SlAt.nil _ _ _ _
 ·exact holds_ints hH rfl hc (by omega)
theorem FrK.len {eps : List (Int × Int)} {N : Nat} {I : Int → Prop} {K : List Int} (h : FrK eps N I K) : K.length ≤ N := by
 have h1 : (K.map Int.toNat).Nodup := by
  rw [List.nodup_iff_pairwise_ne, List.pairwise_map]
  have h2 := h.nd
  rw [List.nodup_iff_pairwise_ne] at h2
  exact h2.imp_of_mem fun {a b} ha hb hne e => hne (by have := h.sub a ha; have := h.sub b hb; omega)
 have h3 := seen_len (n := N) h1 fun i hi => by
  obtain ⟨a, ha, rfl⟩ := List.mem_map.1 hi
  have := h.sub a ha; omega
 simpa using h3
theorem FrK.one {eps : List (Int × Int)} {N k : Nat} {l K : List Int} {s : Int} (h : FrK eps N (· ∈ l.take k) K) (hs : l[k]? = some s) (hr : 0 ≤ s ∧ s < (N : Int)) : FrK eps N (· ∈ l.take (k + 1)) (addK K s) where
 nd := addK_nd h.nd
 sub := fun x hx => (mem_addK.1 hx).elim (h.sub x) fun e => e ▸ hr
 ini := fun x hx => by
  rw [take_snoc hs, List.mem_append, List.mem_singleton] at hx
  exact mem_addK.2 (hx.elim (fun h1 => .inl (h.ini x h1)) .inr)
 clo := fun x hx => by
  rw [take_snoc hs]
  rcases mem_addK.1 hx with h1 | h1
  ·obtain ⟨a, ha, hr⟩ := h.clo x h1
   exact ⟨a, List.mem_append.2 (.inl ha), hr⟩
  ·rw [h1]
   exact cloP_self (List.mem_append.2 (.inr (List.mem_singleton.2 rfl)))
set_option maxHeartbeats 4000000 in
theorem free_c (w0 : World) (n : Nf) (vs0 : List Value) (N : Nat) (v : Value) (l : List Int) (ok : OkN n) (hN : n.states = (N : Int)) (h : NfAt w0 n vs0) (hl : IntsAt w0 v l) (hln : ∀ s ∈ l, 0 ≤ s ∧ s < (N : Int)) :
  Ret Tryz.prog 14 #[.agg vs0.toArray, v] w0 fun r w => (∃ a c q, r = .slice a q.length c ∧ FreeOf n.eps (· ∈ l) q ∧ q.length ≤ 500 ∧ IntsAt w (.slice a q.length c) q ∧ ∀ k, (Value.slice a q.length c).ownBlock = some k → w0.heap.size ≤ k) ∧ Ext w0 w := by
 obtain ⟨ea, ec, pa, pc, xa, xc, rfl, hen, hep, hed⟩ := h
 have hst := ok.st
 rw [hN]
 have hpl := ok.pl
 have hN5 : N ≤ 500 := by omega
 obtain ⟨va, vc, rfl⟩ := SlAt.form hl
 have hl9 : l.length ≤ 9223372036854775807 := by simpa using SlAt.le hl
 simp only [List.length_map] at hl ⊢
 refine Ret_of Tryz.func14 rfl Tryz.ntmps14 (Nat.le_of_ble_eq_true rfl) ?_
 have E : Chg none1 w0 w0 := Chg.refl _ _
 refine Wp_seq_region ?_
 refine s_box (v := (.agg #[(I6 (N : Int)), (I6 n.start), (.slice ea n.ends.length ec), (.slice pa n.eps.length pc), (.slice xa n.edges.length xc)])) (c := #[(I6 (N : Int)), (I6 n.start), (.slice ea n.ends.length ec), (.slice pa n.eps.length pc), (.slice xa n.edges.length xc)]) (by decide) rfl rfl ?_
 intro bn wn Nn
 have Fn := Nn.ge E
 replace E := E.ext Nn.ext
 have Bn := Nn.blk
 refine qA (.slice none 0 0) rfl ?_
 refine WpL_nil (Wp_seq_region ?_)
 refine s_makeMap kInt kBool (by decide) ?_
 intro bm wm Nm
 have Fm := Nm.ge E
 have Om_bn := Nm.lt Bn
 replace Bn := Nm.keep Bn
 replace E := E.ext Nm.ext
 intro Mm
 refine qA (.map (some bm)) rfl ?_
 refine WpL_nil (Wp_seq (Wp_seq_region ?_))
 refine qM (.slice va l.length vc) rfl ?_
 refine qV (r_lenSlice (ad := va) (n := l.length) (cap := vc) Tryz.underlying22 rfl) ?_
 refine qM (I6 0) rfl ?_
 refine WpL_nil (Wp_block ?_)
 refine Wp_loop (fun nn_ σ W1 => ∃ (k : Nat) (es : List (Int × Bool)), (∃ jj_, σ = upds jj_ [(2, (P6 bn 0)), (5, (.map (some bm))), (13, (.slice va l.length vc)), (14, (I6 (l.length : Int))), (15, (I6 (k : Int)))]) ∧ Chg none1 w0 W1 ∧ Blk W1 bn #[(I6 (N : Int)), (I6 n.start), (.slice ea n.ends.length ec), (.slice pa n.eps.length pc), (.slice xa n.edges.length xc)] 26 ∧ MapAt W1 bm kInt kBool es ∧ (k ≤ l.length) ∧ (AllT es) ∧ (FrK n.eps N (· ∈ l.take k) (es.map (·.1))) ∧ nn_ = l.length - k) (n := l.length - 0) ?_ ?_
 ·exact ⟨0, [], Fits.out ⟨rfl, rfl, rfl, rfl, rfl, trivial⟩, E, Bn, Mm, Nat.zero_le _, (fun q hq => absurd hq List.not_mem_nil), ⟨List.nodup_nil, fun s hs => absurd hs List.not_mem_nil, fun s hs => by simp at hs, fun s hs => absurd hs List.not_mem_nil⟩, rfl⟩
 ·clear E Bn Mm
  rintro _ _ W1 ⟨k, es, ⟨j1, rfl⟩, E, Bn, Mm, hk, hT, hK, rfl⟩
  refine Wp_seq_region ?_
  refine qV (r_lss (k := .i64) (a := (k : Int)) (b := (l.length : Int)) rfl rfl) ?_
  refine WpL_nil (Wp_seq ?_)
  refine Wp_cond (b := decide (((k : Int) : Int) < (l.length : Int))) rfl (fun hlt => ?_) (fun hlt => ?_)
  ·have khlt := hlt
   replace hlt := of_decide_eq_true hlt
   obtain ⟨s, hs⟩ := get_of_lt (l := l) (i := k) (by omega)
   obtain ⟨vb, vo, rfl, hvx⟩ := ints_cells hl (by omega)
   refine Wp_skip (thn_normal (Wp_seq (Wp_block (Wp_seq_region ?_))))
   refine qV (r_indexSlice (b := vb) (o := vo) (len := l.length) (cap := vc) (i := k) (o' := vo + k) rfl rfl rfl Tryz.underlying22 siz3 (by omega) (by omega)) ?_
   refine qV (r_load (v := (I6 s)) rfl flat3 (E.cell (fun f => f) (hvx k s hs))) ?_
   refine qA (I6 s) rfl ?_
   refine WpL_nil (Wp_region ?_)
   refine qM (.map (some bm)) rfl ?_
   refine qM (I6 s) rfl ?_
   refine s_mapUpdate (k := s) (v := true) Tryz.underlying90 (keyInt Tryz.underlying3) Mm rfl rfl rfl ?_
   intro w3 S3 H3
   replace Bn := S3.keep (by omega) Bn
   replace E := S3.step E (by first | exact Or.inl (by omega) | exact Or.inr rfl | exact Or.inr (by assumption) | exact Or.inr (by simp) | exact Or.inr (by omega) | exact Or.inr (by dsimp only; omega))
   replace Mm := H3
   refine WpL_nil (inB_normal (thn_normal (Wp_region ?_)))
   refine qV (r_add (k := .i64) (a := (k : Int)) (b := 1) (c := (k : Int) + 1) rfl rfl (wI64 (by omega))) ?_
   refine qM (I6 ((k : Int) + 1)) rfl ?_
   refine WpL_nil (thn_normal ?_)
   exact ⟨l.length - (k + 1), by omega, k + 1, putM es s true, Fits.out ⟨rfl, rfl, rfl, rfl, rfl, trivial⟩, E, Bn, Mm, (by omega), hT.put _, (by rw [keys_put]; exact hK.one hs (hln s (List.mem_of_getElem? hs))), rfl⟩
  ·have khlt := hlt
   replace hlt := of_decide_eq_false hlt
   have hkk : k = l.length := by omega
   rw [hkk, List.take_length] at hK
   refine Wp_exit (thn_exit (thn_exit (inB_here (thn_normal (Wp_seq (Wp_seq_region ?_))))))
   refine qF bn 0 0 rfl Tryz.underlying26 rfl siz3 rfl ?_
   refine qV (r_load (v := (I6 (N : Int))) rfl flat3 (Bn.cell rfl)) ?_
   refine qM (I6 0) rfl ?_
   refine WpL_nil (Wp_block ?_)
   refine Wp_loop (fun nn_ σ W4 => ∃ (r : Nat) (e1 : List (Int × Bool)), (∃ jj_, σ = upds jj_ [(2, (P6 bn 0)), (5, (.map (some bm))), (23, (I6 (N : Int))), (24, (I6 (r : Int)))]) ∧ Chg none1 w0 W4 ∧ Blk W4 bn #[(I6 (N : Int)), (I6 n.start), (.slice ea n.ends.length ec), (.slice pa n.eps.length pc), (.slice xa n.edges.length xc)] 26 ∧ MapAt W4 bm kInt kBool e1 ∧ (r ≤ N) ∧ (AllT e1) ∧ (FrK n.eps N (· ∈ l) (e1.map (·.1))) ∧ (ClosedE n.eps (e1.map (·.1)) ∨ r ≤ (e1.map (·.1)).length) ∧ nn_ = N - r) (n := N - 0) ?_ ?_
   ·exact ⟨0, es, Fits.out ⟨rfl, rfl, rfl, rfl, trivial⟩, E, Bn, Mm, Nat.zero_le _, hT, hK, .inr (Nat.zero_le _), rfl⟩
   ·clear E Bn Mm
    rintro _ _ W4 ⟨r, e1, ⟨j4, rfl⟩, E, Bn, Mm, hr, hT1, hK1, hc1, rfl⟩
    refine Wp_seq_region ?_
    refine qV (r_lss (k := .i64) (a := (r : Int)) (b := (N : Int)) rfl rfl) ?_
    refine WpL_nil (Wp_seq ?_)
    refine Wp_cond (b := decide (((r : Int) : Int) < (N : Int))) rfl (fun hlr => ?_) (fun hlr => ?_)
    ·have khlr := hlr
     replace hlr := of_decide_eq_true hlr
     refine Wp_skip (thn_normal (Wp_seq (Wp_block (Wp_seq_region ?_))))
     refine qF bn 0 3 rfl Tryz.underlying26 rfl siz23 rfl ?_
     refine qV (r_load (v := (.slice pa n.eps.length pc)) rfl flat23 (Bn.cell rfl)) ?_
     refine qV (r_lenSlice (ad := pa) (n := n.eps.length) (cap := pc) Tryz.underlying23 rfl) ?_
     refine qM (I6 0) rfl ?_
     refine WpL_nil (Wp_block ?_)
     refine Wp_loop (fun nn_ σ W6 => ∃ (j : Nat) (e2 : List (Int × Bool)), (∃ jj_, σ = upds jj_ [(2, (P6 bn 0)), (5, (.map (some bm))), (23, (I6 (N : Int))), (24, (I6 (r : Int))), (27, (.slice pa n.eps.length pc)), (28, (I6 (n.eps.length : Int))), (29, (I6 (j : Int)))]) ∧ Chg none1 w0 W6 ∧ Blk W6 bn #[(I6 (N : Int)), (I6 n.start), (.slice ea n.ends.length ec), (.slice pa n.eps.length pc), (.slice xa n.edges.length xc)] 26 ∧ MapAt W6 bm kInt kBool e2 ∧ (j ≤ n.eps.length) ∧ (AllT e2) ∧ (FrK n.eps N (· ∈ l) (e2.map (·.1))) ∧ (InK n.eps (e1.map (·.1)) (e2.map (·.1)) j) ∧ nn_ = n.eps.length - j) (n := n.eps.length - 0) ?_ ?_
     ·exact ⟨0, e1, Fits.out ⟨rfl, rfl, rfl, rfl, rfl, rfl, rfl, trivial⟩, E, Bn, Mm, Nat.zero_le _, hT1, hK1, InK.start _ _, rfl⟩
     ·clear E Bn Mm
      rintro _ _ W6 ⟨j, e2, ⟨j6, rfl⟩, E, Bn, Mm, hj, hT2, hK2, hQ, rfl⟩
      refine Wp_seq_region ?_
      refine qV (r_lss (k := .i64) (a := (j : Int)) (b := (n.eps.length : Int)) rfl rfl) ?_
      refine WpL_nil (Wp_seq ?_)
      refine Wp_cond (b := decide (((j : Int) : Int) < (n.eps.length : Int))) rfl (fun hlj => ?_) (fun hlj => ?_)
      ·have khlj := hlj
       replace hlj := of_decide_eq_true hlj
       obtain ⟨p, hp⟩ := get_of_lt (l := n.eps) (i := j) (by omega)
       obtain ⟨pb, po, rfl, hpc⟩ := spans_cells hep (by omega)
       have hpc0 := hpc j p hp
       have hget := hT2.get p.1
       refine Wp_skip (thn_normal (Wp_seq (Wp_block (Wp_seq_region ?_))))
       refine qV (r_indexSlice (b := pb) (o := po) (len := n.eps.length) (cap := pc) (i := j) (o' := po + j * 2) rfl rfl rfl Tryz.underlying23 siz36 (by omega) (by omega)) ?_
       refine qV (r_loadAgg (vs := [(I6 p.1), (I6 p.2)]) rfl agg36 siz36 rfl (hpc0.ext E)) ?_
       refine s_allocStore (v := (.agg #[(I6 p.1), (I6 p.2)])) (c := #[(I6 p.1), (I6 p.2)]) (n := 2) (by decide) zer36 rfl siz36 rfl rfl rfl (by simp [Value.oneCell']) ?_
       intro bp wp Np
       have Fp := Np.ge E
       have Op_bn := Np.lt Bn
       have Op_bm := Np.ltM Mm
       replace Bn := Np.keep Bn
       replace Mm := Np.keepM Mm
       replace E := E.ext Np.ext
       have Bp := Np.blk
       refine WpL_nil (Wp_seq_region ?_)
       refine qM (.map (some bm)) rfl ?_
       refine qV (r_indexArr (b := bp) (o := 0) (i := 0) (o' := 0) rfl rfl rfl Tryz.underlying36 siz3 (by omega) (by omega)) ?_
       refine qV (r_load (v := (I6 p.1)) rfl flat3 (Bp.cell rfl)) ?_
       refine WpL_val (v := (.bool ((getM e2 p.1).getD false))) rfl rfl (by decide) (r_lookup (k := p.1) (z := false) Tryz.underlying90 (keyInt Tryz.underlying3) zer4 Mm rfl rfl) ?_
       refine WpL_nil ?_
       refine Wp_cond (b := (getM e2 p.1).getD false) rfl (fun hin => ?_) (fun hin => ?_)
       ·have khin := hin
        have hin2 : p.1 ∈ e2.map (·.1) := by rw [hget] at hin; simpa using hin
        refine Wp_region ?_
        refine qM (.map (some bm)) rfl ?_
        refine qV (r_indexArr (b := bp) (o := 0) (i := 1) (o' := 1) rfl rfl rfl Tryz.underlying36 siz3 (by omega) (by omega)) ?_
        refine qV (r_load (v := (I6 p.2)) rfl flat3 (Bp.cell rfl)) ?_
        refine s_mapUpdate (k := p.2) (v := true) Tryz.underlying90 (keyInt Tryz.underlying3) Mm rfl rfl rfl ?_
        intro w9 S9 H9
        replace Bn := S9.keep (by omega) Bn
        replace Bp := S9.keep (by omega) Bp
        replace E := S9.step E (by first | exact Or.inl (by omega) | exact Or.inr rfl | exact Or.inr (by assumption) | exact Or.inr (by simp) | exact Or.inr (by omega) | exact Or.inr (by dsimp only; omega))
        replace Mm := H9
        refine WpL_nil (inB_normal (thn_normal (Wp_region ?_)))
        refine qV (r_add (k := .i64) (a := (j : Int)) (b := 1) (c := (j : Int) + 1) rfl rfl (wI64 (by omega))) ?_
        refine qM (I6 ((j : Int) + 1)) rfl ?_
        refine WpL_nil (thn_normal ?_)
        exact ⟨n.eps.length - (j + 1), by omega, j + 1, putM e2 p.2 true, Fits.out ⟨rfl, rfl, rfl, rfl, rfl, rfl, rfl, trivial⟩, E, Bn, Mm, (by omega), hT2.put _, (by rw [keys_put]; exact hK2.add (List.mem_of_getElem? hp) hin2 (by have := (ok.ep p (List.mem_of_getElem? hp)).2; omega)), (by rw [keys_put]; exact hQ.put hp hin2), rfl⟩
       ·have khin := hin
        have hin2 : p.1 ∉ e2.map (·.1) := by rw [hget] at hin; simpa using hin
        refine Wp_skip (inB_normal (thn_normal (Wp_region ?_)))
        refine qV (r_add (k := .i64) (a := (j : Int)) (b := 1) (c := (j : Int) + 1) rfl rfl (wI64 (by omega))) ?_
        refine qM (I6 ((j : Int) + 1)) rfl ?_
        refine WpL_nil (thn_normal ?_)
        exact ⟨n.eps.length - (j + 1), by omega, j + 1, e2, Fits.out ⟨rfl, rfl, rfl, rfl, rfl, rfl, rfl, trivial⟩, E, Bn, Mm, (by omega), hT2, hK2, hQ.skip hp hin2, rfl⟩
      ·have khlj := hlj
       replace hlj := of_decide_eq_false hlj
       have hjj : j = n.eps.length := by omega
       refine Wp_exit (thn_exit (thn_exit (inB_here (inB_normal (thn_normal (Wp_region ?_))))))
       refine qV (r_add (k := .i64) (a := (r : Int)) (b := 1) (c := (r : Int) + 1) rfl rfl (wI64 (by omega))) ?_
       refine qM (I6 ((r : Int) + 1)) rfl ?_
       refine WpL_nil (thn_normal ?_)
       exact ⟨N - (r + 1), by omega, r + 1, e2, Fits.out ⟨rfl, rfl, rfl, rfl, trivial⟩, E, Bn, Mm, (by omega), hT2, hK2, hQ.done (by omega) hc1, rfl⟩
    ·have khlr := hlr
     replace hlr := of_decide_eq_false hlr
     have hrr : r = N := by omega
     rw [hrr] at hc1
     have hfin := hK1.fin hc1 (fun p hp => by have := (ok.ep p hp).2; omega)
     have hel := hK1.len
     have hel2 : e1.length ≤ 500 := by rw [List.length_map] at hel; omega
     refine Wp_exit (thn_exit (thn_exit (inB_here (thn_normal (Wp_seq_region ?_)))))
     refine qA (.slice none 0 0) rfl ?_
     refine WpL_nil (Wp_seq (Wp_seq_region ?_))
     refine qM (.map (some bm)) rfl ?_
     refine s_range (by decide) Tryz.underlying90 Mm rfl ?_
     intro br wr Nr
     have Fr := Nr.ge E
     have Or_bn := Nr.lt Bn
     have Or_bm := Nr.ltM Mm
     replace Bn := Nr.keep Bn
     replace Mm := Nr.keepM Mm
     replace E := E.ext Nr.ext
     have Ir : IterAt wr br bm e1.length [] := Nr.at'
     refine WpL_nil (Wp_block ?_)
     have hbr : br < wr.heap.size := Ir.lt
     have hwr : w0.heap.size ≤ wr.heap.size := E.size
     refine Wp_loop (fun nn_ σ W10 => ∃ (seen : List Nat) (la : Option Addr) (lc : Nat) (n9 : Nat), (∃ jj_, σ = upds jj_ [(43, (P6 br 0)), (10, (.slice la n9 lc))]) ∧ Chg none1 w0 W10 ∧ Blk W10 bn #[(I6 (N : Int)), (I6 n.start), (.slice ea n.ends.length ec), (.slice pa n.eps.length pc), (.slice xa n.edges.length xc)] 26 ∧ MapAt W10 bm kInt kBool e1 ∧ IterAt W10 br bm e1.length seen ∧ (seen.Nodup) ∧ (∀ j ∈ seen, j < e1.length) ∧ (n9 = seen.length) ∧ (W10.ownsRow wr.heap.size TDI 1 (.slice la n9 lc) n9 ((seen.map (kAt e1)).map (Value.int .i64))) ∧ (wr.heap.size ≤ W10.heap.size) ∧ nn_ = e1.length - seen.length) (n := e1.length - ([] : List Nat).length) ?_ ?_
     ·exact ⟨([] : List Nat), none, 0, 0, Fits.out ⟨rfl, rfl, trivial⟩, E, Bn, Mm, Ir, List.nodup_nil, (fun j hj => absurd hj List.not_mem_nil), rfl, World.ownsRow_nil _ _ _ _, Nat.le_refl _, rfl⟩
     ·clear E Bn Mm Ir
      rintro _ _ W10 ⟨seen, la, lc, n9, ⟨j10, rfl⟩, E, Bn, Mm, Ir, hnd, hsl, hn9, hown, hbs, rfl⟩
      refine Wp_seq_region ?_
      refine s_next (by decide) Mm Ir rfl (fun hall => ?_) ?_
      ·skip
       have hperm := keys_perm (es := e1) hnd hsl hall
       have hKd : (seen.map (kAt e1)).Nodup := hperm.nodup_iff.2 hK1.nd
       have hsn := seen_len hnd hsl
       have hsorted : FreeOf n.eps (· ∈ l) ((seen.map (kAt e1)).mergeSort leB) := ⟨mergeSort_lt hKd, fun x => by rw [List.mem_mergeSort, hperm.mem_iff, hfin]⟩
       have hlen9 : ((seen.map (kAt e1)).mergeSort leB).length = n9 := by rw [List.length_mergeSort, List.length_map, hn9]
       refine qV (r_extract (vs := #[(.bool false)]) (v := (.bool false)) rfl rfl) ?_
       refine WpL_nil (Wp_seq ?_)
       refine Wp_cond_false rfl ?_
       refine Wp_exit (thn_exit (thn_exit (inB_here (thn_normal (Wp_seq_region ?_)))))
       refine qM (.slice la n9 lc) rfl ?_
       refine WpL_enter rfl rfl (by decide) (r_callF (vs := [(.slice la n9 lc)]) Tryz.func51 kQ kQ rfl) (sortIntsW_c _ wr.heap.size n9 la lc (seen.map (kAt e1)) (by simp [hn9]) (.inr hown) (by omega)) ?_
       rintro _ w19 ⟨rfl, I19, C19⟩
       replace E := E.step C19 (fun x hx hy => absurd (hown.lt x hy.2).1 (by omega))
       refine WpL_nil (Wp_seq_region ?_)
       refine qM (.slice la n9 lc) rfl ?_
       refine qA (.slice la n9 lc) rfl ?_
       refine WpL_nil (Wp_ret ?_)
       refine fin_tmp Tryz.results14 (v := (.slice la n9 lc)) rfl ?_
       exact ⟨⟨la, lc, _, by rw [hlen9], hsorted, by omega, by have h9 := SrtAt.ints I19; rw [hlen9]; exact h9, fun k hk => by rw [hlen9] at hk; have := (hown.lt k hk).1; omega⟩, E⟩
      ·intro i p w11 hp hns S11
       replace hown := own_chg hown S11.chg (fun x hx h9 => by have := (hown.lt x hx).1; omega)
       replace hbs := Nat.le_trans hbs (Nat.le_of_eq S11.size.symm)
       replace Bn := S11.keep (by omega) Bn
       replace Mm := S11.keepM (by omega) Mm
       replace E := S11.step E (by first | exact Or.inl (by omega) | exact Or.inr rfl | exact Or.inr (by omega))
       replace Ir : IterAt w11 br bm e1.length (seen ++ [i]) := S11.at'
       have hnd2 : (seen ++ [i]).Nodup := List.nodup_append.2 ⟨hnd, by simp, fun x hx z hz => by simp at hz; subst hz; exact fun h9 => hns (h9 ▸ hx)⟩
       have hsl2 : ∀ j ∈ seen ++ [i], j < e1.length := fun j hj => by rcases List.mem_append.1 hj with h9 | h9; exact hsl j h9; rw [List.mem_singleton] at h9; subst h9; exact lt_of_get hp
       have hl2 := seen_len hnd2 hsl2
       have hl3 : (seen ++ [i]).length = seen.length + 1 := by simp
       have hka : kAt e1 i = p.1 := by unfold kAt; rw [hp]; rfl
       refine qV (r_extract (vs := #[(.bool true), (I6 p.1), (.bool p.2)]) (v := (.bool true)) rfl rfl) ?_
       refine WpL_nil (Wp_seq ?_)
       refine Wp_cond_true rfl ?_
       refine Wp_skip (thn_normal (Wp_block (Wp_seq_region ?_)))
       refine WpL_val (v := (.tuple #[(I6 p.1), (.bool p.2)])) rfl rfl (by decide) (r_entry Mm Ir hp rfl) ?_
       refine qV (r_extract (vs := #[(I6 p.1), (.bool p.2)]) (v := (I6 p.1)) rfl rfl) ?_
       refine qA (I6 p.1) rfl ?_
       refine WpL_nil (Wp_region ?_)
       refine qM (.slice la n9 lc) rfl ?_
       refine qM (I6 p.1) rfl ?_
       refine s_buildSlice (ps := [(0, (I6 p.1))]) (c := #[(I6 p.1)]) (by decide) rfl Tryz.underlying22 siz3 zer3 (by decide) (by decide) (by kernel_rfl) ?_
       intro bq wq Nq
       have Fq := Nq.ge E
       have Oq_bn := Nq.lt Bn
       have Oq_bm := Nq.ltM Mm
       have Oq_br := New.ltI Ir Nq
       replace Bn := Nq.keep Bn
       replace Mm := Nq.keepM Mm
       replace Ir := New.keepI Ir Nq
       replace hown := own_ext hown Nq.ext
       replace hbs := Nat.le_trans hbs Nq.ext.size
       replace E := E.ext Nq.ext
       have Bq := Nq.blk
       refine s_append (base := wr.heap.size) (n := n9) (m := 1) (xs := (seen.map (kAt e1)).map (Value.int .i64)) (news := [(I6 p.1)]) (size := 1) (bytes := 8) (v := (.slice la n9 lc)) (by decide) Tryz.underlying22 siz3 byt3 zer3 rfl (by decide) rfl hown rfl (rfl) (Bq.cells rfl) (by simp [Value.oneCell']) (by unfold maxLen; omega) (by omega) (hbs) ?_
       intro v9 w29 Ov9 Cv9 Dv9
       replace Bn := Cv9.keep (fun h => by have := (hown.lt _ h).1; omega) Bn
       replace Mm := Cv9.keepM (fun h => by have := (hown.lt _ h).1; omega) Mm
       replace Ir := Chg.keepI Ir Cv9 (fun h => by have := (hown.lt _ h).1; omega)
       replace E := E.step Cv9 (fun x hx h => absurd (hown.lt x h).1 (by omega))
       obtain ⟨la2, lc2, rfl⟩ := own_form Ov9
       refine qA (.slice la2 (n9 + 1) lc2) rfl ?_
       refine WpL_nil (inB_normal (thn_normal ?_))
       exact ⟨e1.length - (seen ++ [i]).length, by omega, seen ++ [i], la2, lc2, n9 + 1, Fits.out ⟨rfl, rfl, trivial⟩, E, Bn, Mm, Ir, hnd2, hsl2, (by rw [hl3, hn9]), (by rw [List.map_append, List.map_append, List.map_singleton, List.map_singleton, hka]; exact Ov9), Nat.le_trans hbs Cv9.size, rfl⟩
end Go.Proofs
namespace Go.Proofs
open Go Go.Eng
set_option maxRecDepth 100000
theorem gspan_c (s : Int × Int) (w0 : World) :
  Ret Tryz.prog 80 #[.agg #[.int .i64 s.1, .int .i64 s.2]] w0 fun v w => v = .bool (validB s) ∧ Ext w0 w := by
 refine Ret_of Tryz.func80 rfl Tryz.ntmps80 (Nat.le_of_ble_eq_true rfl) ?_
 have E : Chg none1 w0 w0 := Chg.refl _ _
 refine Wp_seq_region ?_
 refine s_box (v := (.agg #[(I6 s.1), (I6 s.2)])) (c := #[(I6 s.1), (I6 s.2)]) (by decide) rfl rfl ?_
 intro b1 w1 N1
 have F1 := N1.ge E
 replace E := E.ext N1.ext
 have B1 := N1.blk
 refine qA (.bool false) rfl ?_
 refine WpL_nil (Wp_seq_region ?_)
 refine qF b1 0 0 rfl Tryz.underlying80 rfl siz3 rfl ?_
 refine qV (r_load (v := (I6 s.1)) rfl flat3 (B1.cell rfl)) ?_
 obtain ⟨e2, he2⟩ : ∃ e, (decide ((0 : Int) ≤ s.1)) = e := ⟨_, rfl⟩
 refine qV ((r_leq (k := .i64) (a := 0) (b := s.1) rfl rfl).trans (by rw [he2]; try rfl)) ?_
 refine qM (.bool e2) rfl ?_
 refine qG (.bool e2) (yU e2 (P6 b1 0)) (by cases e2 <;> first | exact gA | exact gB | exact .inl ⟨rfl, r_fieldAddr (b := b1) (o := 0) (o' := 0) rfl Tryz.underlying80 rfl siz3 rfl⟩) ?_
 refine qG (.bool e2) (yU e2 (I6 s.1)) (by cases e2 <;> first | exact gA | exact gB | exact .inl ⟨rfl, r_load (v := (I6 s.1)) rfl flat3 (B1.cell rfl)⟩) ?_
 refine qG (.bool e2) (yU e2 (P6 b1 1)) (by cases e2 <;> first | exact gA | exact gB | exact .inl ⟨rfl, r_fieldAddr (b := b1) (o := 0) (o' := 1) rfl Tryz.underlying80 rfl siz3 rfl⟩) ?_
 refine qG (.bool e2) (yU e2 (I6 s.2)) (by cases e2 <;> first | exact gA | exact gB | exact .inl ⟨rfl, r_load (v := (I6 s.2)) rfl flat3 (B1.cell rfl)⟩) ?_
 obtain ⟨e3, he3⟩ : ∃ e, (decide ((s.1 : Int) ≤ s.2)) = e := ⟨_, rfl⟩
 refine qG (.bool e2) (yU e2 (.bool e3)) (by cases e2 <;> first | exact gA | exact gB | exact .inl ⟨rfl, (r_leq (k := .i64) (a := s.1) (b := s.2) rfl rfl).trans (by rw [he3]; try rfl)⟩) ?_
 obtain ⟨e4, he4⟩ : ∃ e, (e2 && e3) = e := ⟨_, rfl⟩
 refine qV (r_pick (b := e2) (v := .bool e4) rfl (by rw [← he4]; cases e2 <;> rfl)) ?_
 refine qM (.bool e4) rfl ?_
 refine qG (.bool e4) (yU e4 (P6 b1 1)) (by cases e4 <;> first | exact gA | exact gB | exact .inl ⟨rfl, r_fieldAddr (b := b1) (o := 0) (o' := 1) rfl Tryz.underlying80 rfl siz3 rfl⟩) ?_
 refine qG (.bool e4) (yU e4 (I6 s.2)) (by cases e4 <;> first | exact gA | exact gB | exact .inl ⟨rfl, r_load (v := (I6 s.2)) rfl flat3 (B1.cell rfl)⟩) ?_
 obtain ⟨e5, he5⟩ : ∃ e, (decide ((s.2 : Int) ≤ 1114111)) = e := ⟨_, rfl⟩
 refine qG (.bool e4) (yU e4 (.bool e5)) (by cases e4 <;> first | exact gA | exact gB | exact .inl ⟨rfl, (r_leq (k := .i64) (a := s.2) (b := 1114111) rfl rfl).trans (by rw [he5]; try rfl)⟩) ?_
 obtain ⟨e6, he6⟩ : ∃ e, (e4 && e5) = e := ⟨_, rfl⟩
 refine qV (r_pick (b := e4) (v := .bool e6) rfl (by rw [← he6]; cases e4 <;> rfl)) ?_
 refine qA (.bool e6) rfl ?_
 refine WpL_nil ?_
 subst he6
 subst he5
 subst he4
 subst he3
 subst he2
 refine Wp_ret ?_
 refine fin_tmp Tryz.results80 (v := (.bool (((decide ((0 : Int) ≤ s.1)) && (decide ((s.1 : Int) ≤ s.2))) && (decide ((s.2 : Int) ≤ 1114111))))) rfl ?_
 exact ⟨bool_eq (by unfold validB; rfl), E⟩
theorem first_c : ∀ (l : List (Int × Int)), checkL none l = checkL (some (-2)) (l.drop 0)
  | [] => rfl
  | s :: r => by
    simp only [List.drop]
    rw [checkL_cons, checkL_cons]
    by_cases hv : validB s = false
    · rw [if_pos hv, if_pos hv]
    · rw [if_neg hv, if_neg hv]
      have : ¬ s.1 < 0 := by simp [validB] at hv; omega
      simp [this]
theorem cset_c (w0 : World) (v : Value) (l : List (Int × Int)) (hs : SpansAt w0 v l) :
  Ret Tryz.prog 29 #[v] w0 fun v w => v = .int .i64 (checkE l) ∧ Ext w0 w := by
 obtain ⟨a, c, rfl⟩ := SlAt.form hs
 simp only [List.length_map] at hs ⊢
 refine Ret_of Tryz.func29 rfl Tryz.ntmps29 (Nat.le_of_ble_eq_true rfl) ?_
 have E : Chg none1 w0 w0 := Chg.refl _ _
 refine Wp_seq_region ?_
 refine qA (I6 0) rfl ?_
 refine WpL_nil (Wp_seq (Wp_seq_region ?_))
 refine qM (.slice a l.length c) rfl ?_
 refine qV (r_lenSlice (ad := a) (n := l.length) (cap := c) Tryz.underlying37 rfl) ?_
 refine qV (r_gtr (k := .i64) (a := (l.length : Int)) (b := 16) rfl rfl) ?_
 refine WpL_nil ?_
 refine Wp_cond (b := decide ((16 : Int) < (l.length : Int))) rfl (fun h16 => ?_) (fun h16 => ?_)
 ·have kh16 := h16
  replace h16 := of_decide_eq_true h16
  refine Wp_seq_region ?_
  refine qA (I6 2) rfl ?_
  refine WpL_nil (Wp_ret (thn_ret ?_))
  refine fin_tmp Tryz.results29 (v := (.int .i64 2)) rfl ?_
  exact ⟨int_eq (by unfold checkE; rw [if_pos (by omega)]), E⟩
 ·have kh16 := h16
  replace h16 := of_decide_eq_false h16
  have hE16 : checkE l = checkL none l := by unfold checkE; rw [if_neg (by omega)]
  rw [hE16]
  refine Wp_skip (thn_normal (Wp_seq_region ?_))
  refine qA (I6 (-2)) rfl ?_
  refine WpL_nil (Wp_seq (Wp_seq_region ?_))
  refine qM (.slice a l.length c) rfl ?_
  refine qV (r_lenSlice (ad := a) (n := l.length) (cap := c) Tryz.underlying37 rfl) ?_
  refine qM (I6 0) rfl ?_
  refine WpL_nil (Wp_block ?_)
  refine Wp_loop (fun nn_ σ W2 => ∃ (k : Nat) (p : Int), (∃ jj_, σ = upds jj_ [(9, (.slice a l.length c)), (10, (I6 (l.length : Int))), (11, (I6 (k : Int))), (3, (I6 p))]) ∧ Chg none1 w0 W2 ∧ (k ≤ l.length) ∧ (-2 ≤ p ∧ p ≤ 1114111 ∧ (checkL none l = checkL (some p) (l.drop k))) ∧ nn_ = l.length - k) (n := l.length - 0) ?_ ?_
  ·exact ⟨0, -2, Fits.out ⟨rfl, rfl, rfl, rfl, trivial⟩, E, Nat.zero_le _, ⟨by omega, by omega, first_c l⟩, rfl⟩
  ·clear E
   rintro _ _ W2 ⟨k, p, ⟨j2, rfl⟩, E, hk, hp, rfl⟩
   refine Wp_seq_region ?_
   refine qV (r_lss (k := .i64) (a := (k : Int)) (b := (l.length : Int)) rfl rfl) ?_
   refine WpL_nil (Wp_seq ?_)
   refine Wp_cond (b := decide (((k : Int) : Int) < (l.length : Int))) rfl (fun hlt => ?_) (fun hlt => ?_)
   ·have khlt := hlt
    replace hlt := of_decide_eq_true hlt
    obtain ⟨s, hx⟩ := get_of_lt (l := l) (i := k) (by omega)
    obtain ⟨b, o, rfl, hcl⟩ := spans_cells hs (by omega)
    have hd := drop_cons hx
    refine Wp_skip (thn_normal (Wp_seq (Wp_block (Wp_seq_region ?_))))
    refine qV (r_indexSlice (b := b) (o := o) (len := l.length) (cap := c) (i := k) (o' := o + k * 2) rfl rfl rfl Tryz.underlying37 siz80 (by omega) (by omega)) ?_
    refine qV (r_loadAgg (vs := [(I6 s.1), (I6 s.2)]) rfl agg80 siz80 rfl ((hcl k s hx).ext E)) ?_
    refine s_allocStore (v := (.agg #[(I6 s.1), (I6 s.2)])) (c := #[(I6 s.1), (I6 s.2)]) (n := 2) (by decide) zer80 rfl siz80 rfl rfl rfl (by simp [Value.oneCell']) ?_
    intro b4 w4 N4
    have F4 := N4.ge E
    replace E := E.ext N4.ext
    have B4 := N4.blk
    refine WpL_nil (Wp_seq (Wp_seq_region ?_))
    refine qV (r_loadAgg (vs := [(I6 s.1), (I6 s.2)]) rfl agg80 siz80 rfl (B4.cells rfl)) ?_
    refine WpL_enter rfl rfl (by decide) (r_callF (vs := [(.agg #[(I6 s.1), (I6 s.2)])]) Tryz.func80 kQ kQ rfl) (gspan_c s _) ?_
    rintro _ w9 ⟨rfl, X9⟩
    replace B4 := X9.keep B4
    replace E := E.ext X9
    refine qV (r_not (b := validB s) rfl) ?_
    refine WpL_nil ?_
    refine Wp_cond (b := !(validB s)) rfl (fun hv => ?_) (fun hv => ?_)
    ·have khv := hv
     replace hv := by simpa using hv
     refine Wp_seq_region ?_
     refine qA (I6 1) rfl ?_
     refine WpL_nil (Wp_ret (thn_ret (inB_ret (thn_ret (thn_ret (inB_ret (thn_ret ?_)))))))
     refine fin_tmp Tryz.results29 (v := (.int .i64 1)) rfl ?_
     exact ⟨int_eq (by rw [hp.2.2, hd, checkL_cons, if_pos hv]), E⟩
    ·have khv := hv
     replace hv := by simpa using hv
     have hv2 : 0 ≤ s.1 ∧ s.1 ≤ s.2 ∧ s.2 ≤ 1114111 := by simp [validB] at hv; omega
     refine Wp_skip (thn_normal (Wp_seq (Wp_seq_region ?_)))
     refine qF b4 0 0 rfl Tryz.underlying80 rfl siz3 rfl ?_
     refine qV (r_load (v := (I6 s.1)) rfl flat3 (B4.cell rfl)) ?_
     refine qM (I6 p) rfl ?_
     refine qV (r_add (k := .i64) (a := p) (b := 2) (c := p + 2) rfl rfl (wI64 (by omega))) ?_
     refine qV (r_lss (k := .i64) (a := s.1) (b := p + 2) rfl rfl) ?_
     refine WpL_nil ?_
     refine Wp_cond (b := decide ((s.1 : Int) < p + 2)) rfl (fun ho => ?_) (fun ho => ?_)
     ·have kho := ho
      replace ho := of_decide_eq_true ho
      refine Wp_seq_region ?_
      refine qA (I6 3) rfl ?_
      refine WpL_nil (Wp_ret (thn_ret (inB_ret (thn_ret (thn_ret (inB_ret (thn_ret ?_)))))))
      refine fin_tmp Tryz.results29 (v := (.int .i64 3)) rfl ?_
      exact ⟨int_eq (by rw [hp.2.2, hd, checkL_cons, if_neg (by simp [hv]), if_pos (by simpa using ho)]), E⟩
     ·have kho := ho
      replace ho := of_decide_eq_false ho
      refine Wp_skip (thn_normal (Wp_region ?_))
      refine qF b4 0 1 rfl Tryz.underlying80 rfl siz3 rfl ?_
      refine qV (r_load (v := (I6 s.2)) rfl flat3 (B4.cell rfl)) ?_
      refine qA (I6 s.2) rfl ?_
      refine WpL_nil (inB_normal (thn_normal (Wp_region ?_)))
      refine qV (r_add (k := .i64) (a := (k : Int)) (b := 1) (c := (k : Int) + 1) rfl rfl (wI64 (by omega))) ?_
      refine qM (I6 ((k : Int) + 1)) rfl ?_
      refine WpL_nil (thn_normal ?_)
      exact ⟨l.length - (k + 1), by omega, k + 1, s.2, Fits.out ⟨rfl, rfl, rfl, rfl, trivial⟩, E, (by omega), ⟨by omega, by omega, by rw [hp.2.2, hd, checkL_cons, if_neg (by simp [hv]), if_neg (by simpa using ho)]⟩, rfl⟩
   ·have khlt := hlt
    replace hlt := of_decide_eq_false hlt
    have hkl : l.drop k = [] := List.drop_eq_nil_of_le (by omega)
    refine Wp_exit (thn_exit (thn_exit (inB_here (thn_normal (Wp_seq_region ?_)))))
    refine qA (I6 0) rfl ?_
    refine WpL_nil (Wp_ret ?_)
    refine fin_tmp Tryz.results29 (v := (.int .i64 0)) rfl ?_
    exact ⟨int_eq (by rw [hp.2.2, hkl]; rfl), E⟩
theorem inset_c (w0 : World) (v : Value) (l : List (Int × Int)) (r : Int) (hs : SpansAt w0 v l) :
  Ret Tryz.prog 54 #[v, .int .i64 r] w0 fun v w => v = .bool (inS l r) ∧ Ext w0 w := by
 obtain ⟨a, c, rfl⟩ := SlAt.form hs
 have hle : l.length ≤ 9223372036854775807 := by simpa using SlAt.le hs
 simp only [List.length_map] at hs ⊢
 refine Ret_of Tryz.func54 rfl Tryz.ntmps54 (Nat.le_of_ble_eq_true rfl) ?_
 have E : Chg none1 w0 w0 := Chg.refl _ _
 refine Wp_seq_region ?_
 refine qA (.bool false) rfl ?_
 refine WpL_nil (Wp_seq (Wp_seq_region ?_))
 refine qM (.slice a l.length c) rfl ?_
 refine qV (r_lenSlice (ad := a) (n := l.length) (cap := c) Tryz.underlying37 rfl) ?_
 refine qM (I6 0) rfl ?_
 refine WpL_nil (Wp_block ?_)
 refine Wp_loop (fun nn_ σ W1 => ∃ (k : Nat), (∃ jj_, σ = upds jj_ [(1, (I6 r)), (7, (.slice a l.length c)), (8, (I6 (l.length : Int))), (9, (I6 (k : Int)))]) ∧ Chg none1 w0 W1 ∧ (k ≤ l.length) ∧ (inS l r = inS (l.drop k) r) ∧ nn_ = l.length - k) (n := l.length - 0) ?_ ?_
 ·exact ⟨0, Fits.out ⟨rfl, rfl, rfl, rfl, trivial⟩, E, Nat.zero_le _, rfl, rfl⟩
 ·clear E
  rintro _ _ W1 ⟨k, ⟨j1, rfl⟩, E, hk, hp, rfl⟩
  refine Wp_seq_region ?_
  refine qV (r_lss (k := .i64) (a := (k : Int)) (b := (l.length : Int)) rfl rfl) ?_
  refine WpL_nil (Wp_seq ?_)
  refine Wp_cond (b := decide (((k : Int) : Int) < (l.length : Int))) rfl (fun hlt => ?_) (fun hlt => ?_)
  ·have khlt := hlt
   replace hlt := of_decide_eq_true hlt
   obtain ⟨s, hx⟩ := get_of_lt (l := l) (i := k) (by omega)
   obtain ⟨b, o, rfl, hcl⟩ := spans_cells hs (by omega)
   have hd := drop_cons hx
   refine Wp_skip (thn_normal (Wp_seq (Wp_block (Wp_seq_region ?_))))
   refine qV (r_indexSlice (b := b) (o := o) (len := l.length) (cap := c) (i := k) (o' := o + k * 2) rfl rfl rfl Tryz.underlying37 siz80 (by omega) (by omega)) ?_
   refine qV (r_loadAgg (vs := [(I6 s.1), (I6 s.2)]) rfl agg80 siz80 rfl ((hcl k s hx).ext E)) ?_
   refine s_allocStore (v := (.agg #[(I6 s.1), (I6 s.2)])) (c := #[(I6 s.1), (I6 s.2)]) (n := 2) (by decide) zer80 rfl siz80 rfl rfl rfl (by simp [Value.oneCell']) ?_
   intro b3 w3 N3
   have F3 := N3.ge E
   replace E := E.ext N3.ext
   have B3 := N3.blk
   refine WpL_nil (Wp_seq_region ?_)
   refine qF b3 0 0 rfl Tryz.underlying80 rfl siz3 rfl ?_
   refine qV (r_load (v := (I6 s.1)) rfl flat3 (B3.cell rfl)) ?_
   refine qM (I6 r) rfl ?_
   obtain ⟨e4, he4⟩ : ∃ e, (decide ((s.1 : Int) ≤ r)) = e := ⟨_, rfl⟩
   refine qV ((r_leq (k := .i64) (a := s.1) (b := r) rfl rfl).trans (by rw [he4]; try rfl)) ?_
   refine qM (.bool e4) rfl ?_
   refine qG (.bool e4) (yU e4 (I6 r)) (by cases e4 <;> first | exact gA | exact gB | exact .inl ⟨rfl, r_move (v := (I6 r)) rfl⟩) ?_
   refine qG (.bool e4) (yU e4 (P6 b3 1)) (by cases e4 <;> first | exact gA | exact gB | exact .inl ⟨rfl, r_fieldAddr (b := b3) (o := 0) (o' := 1) rfl Tryz.underlying80 rfl siz3 rfl⟩) ?_
   refine qG (.bool e4) (yU e4 (I6 s.2)) (by cases e4 <;> first | exact gA | exact gB | exact .inl ⟨rfl, r_load (v := (I6 s.2)) rfl flat3 (B3.cell rfl)⟩) ?_
   obtain ⟨e5, he5⟩ : ∃ e, (decide ((r : Int) ≤ s.2)) = e := ⟨_, rfl⟩
   refine qG (.bool e4) (yU e4 (.bool e5)) (by cases e4 <;> first | exact gA | exact gB | exact .inl ⟨rfl, (r_leq (k := .i64) (a := r) (b := s.2) rfl rfl).trans (by rw [he5]; try rfl)⟩) ?_
   obtain ⟨e6, he6⟩ : ∃ e, (e4 && e5) = e := ⟨_, rfl⟩
   refine qV (r_pick (b := e4) (v := .bool e6) rfl (by rw [← he6]; cases e4 <;> rfl)) ?_
   refine WpL_nil ?_
   subst he6
   subst he5
   subst he4
   refine Wp_cond (b := ((decide ((s.1 : Int) ≤ r)) && (decide ((r : Int) ≤ s.2)))) rfl (fun hv => ?_) (fun hv => ?_)
   ·have khv := hv
    refine Wp_seq_region ?_
    refine qA (.bool true) rfl ?_
    refine WpL_nil (Wp_ret (inB_ret (thn_ret (thn_ret (inB_ret (thn_ret ?_))))))
    refine fin_tmp Tryz.results54 (v := (.bool true)) rfl ?_
    exact ⟨bool_eq (by rw [hp, hd]; unfold inS; rw [List.any_cons, hv]; rfl), E⟩
   ·have khv := hv
    refine Wp_skip (inB_normal (thn_normal (Wp_region ?_)))
    refine qV (r_add (k := .i64) (a := (k : Int)) (b := 1) (c := (k : Int) + 1) rfl rfl (wI64 (by omega))) ?_
    refine qM (I6 ((k : Int) + 1)) rfl ?_
    refine WpL_nil (thn_normal ?_)
    exact ⟨l.length - (k + 1), by omega, k + 1, Fits.out ⟨rfl, rfl, rfl, rfl, trivial⟩, E, (by omega), (by rw [hp, hd]; unfold inS; rw [List.any_cons, hv]; rfl), rfl⟩
  ·have khlt := hlt
   replace hlt := of_decide_eq_false hlt
   have hkl : l.drop k = [] := List.drop_eq_nil_of_le (by omega)
   refine Wp_exit (thn_exit (thn_exit (inB_here (thn_normal (Wp_seq_region ?_)))))
   refine qA (.bool false) rfl ?_
   refine WpL_nil (Wp_ret ?_)
   refine fin_tmp Tryz.results54 (v := (.bool false)) rfl ?_
   exact ⟨bool_eq (by rw [hp, hkl]; rfl), E⟩
set_option maxHeartbeats 400000 in
theorem rspeq_c (w0 : World) (v1 v2 : Value) (l1 l2 : List (Int × Int)) (h1 : SpansAt w0 v1 l1) (h2 : SpansAt w0 v2 l2) :
  Ret Tryz.prog 50 #[v1, v2] w0 fun v w => v = .bool (decide (l1 = l2)) ∧ Ext w0 w := by
 obtain ⟨a1, c1, rfl⟩ := SlAt.form h1
 obtain ⟨a2, c2, rfl⟩ := SlAt.form h2
 have hb1 : l1.length ≤ 9223372036854775807 := by simpa using SlAt.le h1
 simp only [List.length_map] at h1 h2 ⊢
 refine Ret_of Tryz.func50 rfl Tryz.ntmps50 (Nat.le_of_ble_eq_true rfl) ?_
 have E : Chg none1 w0 w0 := Chg.refl _ _
 refine Wp_seq_region ?_
 refine qA (.bool false) rfl ?_
 refine WpL_nil (Wp_seq (Wp_seq_region ?_))
 refine qM (.slice a1 l1.length c1) rfl ?_
 refine qV (r_lenSlice (ad := a1) (n := l1.length) (cap := c1) Tryz.underlying37 rfl) ?_
 refine qM (.slice a2 l2.length c2) rfl ?_
 refine qV (r_lenSlice (ad := a2) (n := l2.length) (cap := c2) Tryz.underlying37 rfl) ?_
 refine qV (r_neq (k := .i64) (a := (l1.length : Int)) (b := (l2.length : Int)) rfl rfl) ?_
 refine WpL_nil ?_
 refine Wp_cond (b := decide (((l1.length : Int) : Int) ≠ (l2.length : Int))) rfl (fun hl => ?_) (fun hl => ?_)
 ·have khl := hl
  replace hl := of_decide_eq_true hl
  refine Wp_seq_region ?_
  refine qA (.bool false) rfl ?_
  refine WpL_nil (Wp_ret (thn_ret ?_))
  refine fin_tmp Tryz.results50 (v := (.bool false)) rfl ?_
  exact ⟨bool_eq (by symm; rw [decide_eq_false_iff_not]; intro h; rw [h] at hl; exact hl rfl), E⟩
 ·have khl := hl
  replace hl := of_decide_eq_false hl
  refine Wp_skip (thn_normal (Wp_seq (Wp_seq_region ?_)))
  refine qM (.slice a1 l1.length c1) rfl ?_
  refine qV (r_lenSlice (ad := a1) (n := l1.length) (cap := c1) Tryz.underlying37 rfl) ?_
  refine qM (I6 0) rfl ?_
  refine WpL_nil (Wp_block ?_)
  refine Wp_loop (fun nn_ σ W2 => ∃ (k : Nat), (∃ jj_, σ = upds jj_ [(0, (.slice a1 l1.length c1)), (1, (.slice a2 l2.length c2)), (12, (I6 (l1.length : Int))), (13, (I6 (k : Int)))]) ∧ Chg none1 w0 W2 ∧ (k ≤ l1.length) ∧ (∀ (i : Nat), i < k → l1[i]? = l2[i]?) ∧ nn_ = l1.length - k) (n := l1.length - 0) ?_ ?_
  ·exact ⟨0, Fits.out ⟨rfl, rfl, rfl, rfl, trivial⟩, E, Nat.zero_le _, (fun i h => absurd h (Nat.not_lt_zero _)), rfl⟩
  ·clear E
   rintro _ _ W2 ⟨k, ⟨j2, rfl⟩, E, hk, heq, rfl⟩
   refine Wp_seq_region ?_
   refine qV (r_lss (k := .i64) (a := (k : Int)) (b := (l1.length : Int)) rfl rfl) ?_
   refine WpL_nil (Wp_seq ?_)
   refine Wp_cond (b := decide (((k : Int) : Int) < (l1.length : Int))) rfl (fun hlt => ?_) (fun hlt => ?_)
   ·have khlt := hlt
    replace hlt := of_decide_eq_true hlt
    obtain ⟨p, hp⟩ := get_of_lt (l := l1) (i := k) (by omega)
    obtain ⟨q, hq⟩ := get_of_lt (l := l2) (i := k) (by omega)
    obtain ⟨b1, o1, rfl, hc1⟩ := spans_cells h1 (by omega)
    obtain ⟨b2, o2, rfl, hc2⟩ := spans_cells h2 (by omega)
    refine Wp_skip (thn_normal (Wp_seq (Wp_block (Wp_seq_region ?_))))
    refine qM (I6 (k : Int)) rfl ?_
    refine qA (I6 (k : Int)) rfl ?_
    refine WpL_nil ?_
    refine Wp_seq_draw 8 mixed (by kernel_rfl) ?_
    intro w4 X4 _
    replace E := E.ext X4
    refine qT (r_move (v := (.slice (some ⟨b1, o1, none⟩) l1.length c1)) rfl) ?_
    refine qT (r_move (v := (I6 (k : Int))) rfl) ?_
    refine qT (r_indexSlice (b := b1) (o := o1) (len := l1.length) (cap := c1) (i := k) (o' := o1 + k * 2) rfl rfl rfl Tryz.underlying37 siz80 (by omega) (by omega)) ?_
    refine qT (r_loadAgg (vs := [(I6 p.1), (I6 p.2)]) rfl agg80 siz80 rfl ((hc1 k p hp).ext E)) ?_
    refine qT (r_move (v := (.slice (some ⟨b2, o2, none⟩) l2.length c2)) rfl) ?_
    refine qT (r_move (v := (I6 (k : Int))) rfl) ?_
    refine qT (r_indexSlice (b := b2) (o := o2) (len := l2.length) (cap := c2) (i := k) (o' := o2 + k * 2) rfl rfl rfl Tryz.underlying37 siz80 (by omega) (by omega)) ?_
    refine qT (r_loadAgg (vs := [(I6 q.1), (I6 q.2)]) rfl agg80 siz80 rfl ((hc2 k q hq).ext E)) ?_
    refine WpT_zero ?_
    refine WpL_val (v := (.bool (!(decide (p.1 = q.1) && decide (p.2 = q.2))))) rfl rfl (by decide) (r_neqSpan stoodSpan Tryz.underlying80 (by decide) (by decide) rfl rfl rfl rfl Tryz.underlying3 flat3 eqgSpan rfl rfl) ?_
    refine WpL_nil ?_
    refine Wp_cond (b := !(decide (p.1 = q.1) && decide (p.2 = q.2))) rfl (fun hpq => ?_) (fun hpq => ?_)
    ·have khpq := hpq
     replace hpq := by simpa using hpq
     refine Wp_seq_region ?_
     refine qA (.bool false) rfl ?_
     refine WpL_nil (Wp_ret (inB_ret (thn_ret (thn_ret (inB_ret (thn_ret ?_))))))
     refine fin_tmp Tryz.results50 (v := (.bool false)) rfl ?_
     exact ⟨bool_eq (by symm; rw [decide_eq_false_iff_not]; intro h; subst h; rw [hp] at hq; cases hq; simp at hpq), E⟩
    ·have khpq := hpq
     replace hpq := by simpa using hpq
     have hpq2 : p = q := by obtain ⟨p1, p2⟩ := p; obtain ⟨q1, q2⟩ := q; simp at hpq; simp; exact hpq
     refine Wp_skip (inB_normal (thn_normal (Wp_region ?_)))
     refine qV (r_add (k := .i64) (a := (k : Int)) (b := 1) (c := (k : Int) + 1) rfl rfl (wI64 (by omega))) ?_
     refine qM (I6 ((k : Int) + 1)) rfl ?_
     refine WpL_nil (thn_normal ?_)
     exact ⟨l1.length - (k + 1), by omega, k + 1, Fits.out ⟨rfl, rfl, rfl, rfl, trivial⟩, E, (by omega), (fun i hi => by rcases Nat.lt_or_ge i k with h | h; exact heq i h; obtain rfl : i = k := (by omega); rw [hp, hq, hpq2]), rfl⟩
   ·have khlt := hlt
    replace hlt := of_decide_eq_false hlt
    have hkk : k = l1.length := by omega
    refine Wp_exit (thn_exit (thn_exit (inB_here (thn_normal (Wp_seq_region ?_)))))
    refine qA (.bool true) rfl ?_
    refine WpL_nil (Wp_ret ?_)
    refine fin_tmp Tryz.results50 (v := (.bool true)) rfl ?_
    exact ⟨bool_eq (by symm; rw [decide_eq_true_eq]; exact get_ext (by omega) (fun i hi => heq i (by omega))), E⟩
end Go.Proofs
namespace Go.Proofs
open Go Go.Eng
instance (k : Int) : Decidable (isL k) := by unfold isL; infer_instance
end Go.Proofs
namespace Go.Eng
open Go
def kPair (p : Int × Int) : Value := .agg #[.int .i64 p.1, .int .i64 p.2]
theorem eqArr2 {P : Program} {t e : TypeId} {i : TypeInfo} (hu : P.underlying t = some (.array 2 e)) (he : P.underlying e = some (.int .i64)) (hi : P.info? e = some i) (hc : P.cellsOf e = 1) (w : World) (a b : Int × Int) : (Op.equal t (kPair a) (kPair b)).run P w = .ok (decide (a = b)) w := by
 have hp : P.plainKey e = true := by simp [Program.plainKey, he]
 have hq0 : ∀ (d : Nat) (x y : Int), (Op.equalIn (d + 1) e (.int .i64 x) (.int .i64 y)).run P w = .ok (x == y) w := fun d x y => by
  simp [Op.equalIn, run_underlying he]
 have hq : ∀ x y : Int, (Op.equalIn 9999 e (.int .i64 x) (.int .i64 y)).run P w = .ok (x == y) w := hq0 9998
 show (Op.equalIn (9999 + 1) t (.agg #[.int .i64 a.1, .int .i64 a.2]) (.agg #[.int .i64 b.1, .int .i64 b.2])).run P w = _
 rw [run_equalIn_array w 9999 _ _ hu hi, hc, show List.range 2 = [0, 1] from rfl]
 obtain ⟨a1, a2⟩ := a
 obtain ⟨b1, b2⟩ := b
 have p1 : ∀ (x y : Int), (part e #[.int .i64 x, .int .i64 y] 0).run P w = .ok (.int .i64 x) w := fun x y => run_part_plain w hp rfl
 have p2 : ∀ (x y : Int), (part e #[.int .i64 x, .int .i64 y] 1).run P w = .ok (.int .i64 y) w := fun x y => run_part_plain w hp rfl
 simp only [Op.eqItems, Sem.run_bind, Nat.zero_mul, Nat.one_mul, p1, p2, Result.andThen_ok, hq, Prod.mk.injEq]
 by_cases h1 : a1 = b1
 ·by_cases h2 : a2 = b2
  ·simp [h1, h2, p2, hq]
  ·simp [h1, h2, p2, hq, show (a2 == b2) = false by simpa using h2]
 ·simp [h1, show (a1 == b1) = false by simpa using h1]
end Go.Eng
namespace Go.Proofs
open Go Go.Eng
set_option maxRecDepth 100000
theorem info_int : ∃ i, Tryz.prog.info? 3 = some i := info_of_underlying Tryz.underlying3
theorem cells_int : Tryz.prog.cellsOf 3 = 1 := by kernel_rfl
end Go.Proofs
namespace Go.Eng
open Go
theorem r_neqArr2 {P : Program} {σ : Env} {w : World} {dst : Option Tmp} {ty : TypeId} {pos : String} {af : Array Edge} {g : Option (Nat × Bool)} {t t' e : TypeId} {x y : Operand} {i : TypeInfo} {a b c f : Int} (hu : P.underlying t = some (.array 2 e)) (he : P.underlying e = some (.int .i64)) (hi : P.info? e = some i) (hc : P.cellsOf e = 1) (hm : P.eqGuardType P.depth t = false)
  (hx : ev σ x = .agg #[.int .i64 a, .int .i64 b]) (hy : ev σ y = .agg #[.int .i64 c, .int .i64 f]) :
  (execOp (ev σ) ⟨dst, .binOp .neq t x y t', ty, pos, af, g⟩).run P w = .ok (.value (.bool (!decide ((a, b) = (c, f))))) w := by
 have h : (Op.equalIn 10000 t (.agg #[.int .i64 a, .int .i64 b]) (.agg #[.int .i64 c, .int .i64 f])).run P w = .ok (decide ((a, b) = (c, f))) w := eqArr2 hu he hi hc w (a, b) (c, f)
 simp only [execOp, hx, hy, Sem.run_bind, run_eqGuard_agg w .neq t x y _ _ hm, Result.andThen_ok, run_neq_struct, h]
 rfl
end Go.Eng
namespace Go.Proofs
open Go Go.Eng
set_option maxRecDepth 100000
theorem eqgArr : Tryz.prog.eqGuardType Tryz.prog.depth 36 = false := by kernel_rfl
/-- A store into one of two new variables. -/
def twoF (sa sb n k : Nat) (T : TypeId) (vs : Array Value) : FctS := fun _ s _ w => ∃ b q, s sa = .pointer (some ⟨b, 0, none⟩) ∧ s sb = .pointer (some ⟨q, 0, none⟩) ∧ n ≤ b ∧ n ≤ q ∧ Blk w b vs T ∧ ∃ c : Array Value, Blk w q c T ∧ c.size = k
theorem StabS.two {Ms : Nat → Nat → Prop} {i : Nat} {ws : List Nat} {sa sb n k : Nat} {T : TypeId} {vs : Array Value} (hM : ∀ p y, p ≠ i → ws.contains p = false → Ms p y → False) : StabS Ms i ws (twoF sa sb n k T vs) :=
 fun p h1 h2 _ _ v w w' _ _ x h => by
  obtain ⟨b, q, h3, h4, h5, h6, h7, c, h8, h9⟩ := h
  have hx : Ext w w' := x.mono fun y _ hy => (hM p y h1 h2 hy).elim
  exact ⟨b, q, h3, h4, h5, h6, Ext.keep hx h7, c, Ext.keep hx h8, h9⟩
theorem LocS.two {ds ws : List Nat} {sa sb n k j1 j2 : Nat} {T : TypeId} {vs : Array Value} (hj : ws.contains j1 = true) (hd : ds[j1]? = some sa) (hj2 : ws.contains j2 = true) (hd2 : ds[j2]? = some sb) : LocS ds ws (twoF sa sb n k T vs) :=
 fun _ σ1 σ2 hs v w h => by
  obtain ⟨b, q, h3, h4, h5⟩ := h
  exact ⟨b, q, by rw [hs j1 sa hj hd]; exact h3, by rw [hs j2 sb hj2 hd2]; exact h4, h5⟩
theorem two_back {w w' : World} {b q : Nat} {xs ys : Array Value} {T : TypeId} (h : Blk w b xs T) (p : Put w w' q ys T) : Blk w' b xs T ∨ Blk w' b ys T := by
 by_cases e : b = q
 ·subst e; exact .inr p.blk
 ·exact .inl (p.keep e h)
theorem size3 {c : Array Value} (h : c.size = 3) : ∃ c1 c2 c3, c = #[c1, c2, c3] := by
  obtain ⟨l⟩ := c
  match l, h with
  | [a, b, d], _ => exact ⟨a, b, d, rfl⟩
theorem DoesT_two {M : Nat → Prop} {P : Program} {N : Nat} {σ : Env} {w : World} {ty : TypeId} {pos : String} {af : Array Edge} {g : Option (Nat × Bool)} {T : TypeId} {x y : Operand} {b q k : Nat} {vs c c2 : Array Value} {R : Value → World → Prop} (hx : ev σ x = .pointer (some ⟨b, 0, none⟩)) (hy : ev σ y = .agg vs) (hB : Blk w b c T) (hQ : Blk w q c2 T) (hc : c.size = k) (h2 : c2.size = k) (hs : Siz P T k) (hv : vs.size = k) (h1 : ∀ v ∈ vs.toList, v.oneCell' = true) (hM : M b)
  (hR : ∀ w', Blk w' b vs T → (∃ c : Array Value, Blk w' q c T ∧ c.size = k) → R undef w') : DoesT M P N ⟨none, .store T x y, ty, pos, af, g⟩ R σ w := by
 refine DoesT_storeAgg hx hy h1 hs hv hB (by omega) hM fun w' h => ?_
 have h3 := h.blk
 rw [List.take_zero, List.nil_append, Nat.zero_add, List.drop_of_length_le (by simp; omega), List.append_nil] at h3
 have h4 : Blk w' b vs T := by simpa using h3
 refine hR w' h4 ?_
 by_cases e : q = b
 ·subst e; exact ⟨vs, h4, hv⟩
 ·exact ⟨c2, h.keep e hQ, h2⟩
set_option maxHeartbeats 1000000 in
theorem nfeq_c (w0 : World) (n m : Nf) (vs us : List Value) (hnm : n = m) (h1 : NfAt w0 n vs) (h2 : NfAt w0 m us) :
  Ret Tryz.prog 12 #[.agg vs.toArray, .agg us.toArray] w0 fun v w => v = .bool true ∧ Ext w0 w := by
 obtain ⟨ea, ec, pa, pc, xa, xc, rfl, hen, hep, hed⟩ := h1
 obtain ⟨fa, fc, qa, qc, ya, yc, rfl, hfn, hfp, hfd⟩ := h2
 have hl1 : n.eps.length ≤ 9223372036854775807 := by simpa using SlAt.le hep
 obtain ⟨_, _, _, _, hl2⟩ := hed.form
 refine Ret_of Tryz.func12 rfl Tryz.ntmps12 (Nat.le_of_ble_eq_true rfl) ?_
 have E : Chg none1 w0 w0 := Chg.refl _ _
 refine Wp_seq_region ?_
 refine s_box (v := (.agg #[(I6 n.states), (I6 n.start), (.slice ea n.ends.length ec), (.slice pa n.eps.length pc), (.slice xa n.edges.length xc)])) (c := #[(I6 n.states), (I6 n.start), (.slice ea n.ends.length ec), (.slice pa n.eps.length pc), (.slice xa n.edges.length xc)]) (by decide) rfl rfl ?_
 intro bp wp Np
 have Fp := Np.ge E
 replace E := E.ext Np.ext
 have Bp := Np.blk
 refine s_box (v := (.agg #[(I6 m.states), (I6 m.start), (.slice fa m.ends.length fc), (.slice qa m.eps.length qc), (.slice ya m.edges.length yc)])) (c := #[(I6 m.states), (I6 m.start), (.slice fa m.ends.length fc), (.slice qa m.eps.length qc), (.slice ya m.edges.length yc)]) (by decide) rfl rfl ?_
 intro bq wq Nq
 have Fq := Nq.ge E
 have Oq_bp := Nq.lt Bp
 replace Bp := Nq.keep Bp
 replace E := E.ext Nq.ext
 have Bq := Nq.blk
 refine qA (.bool false) rfl ?_
 refine WpL_nil (Wp_seq (Wp_seq_region ?_))
 refine qF bp 0 0 rfl Tryz.underlying26 rfl siz3 rfl ?_
 refine qV (r_load (v := (I6 n.states)) rfl flat3 (Bp.cell rfl)) ?_
 refine qF bq 0 0 rfl Tryz.underlying26 rfl siz3 rfl ?_
 refine qV (r_load (v := (I6 m.states)) rfl flat3 (Bq.cell rfl)) ?_
 refine qV (r_neq (k := .i64) (a := n.states) (b := m.states) rfl rfl) ?_
 refine qM (.bool (decide ((n.states : Int) ≠ m.states))) rfl ?_
 rcases Bool.eq_false_or_eq_true (decide ((n.states : Int) ≠ m.states)) with g1 | g1
 ·have kg1 := g1
  replace kg1 := of_decide_eq_true kg1
  refine WpL_guard_no (oj := _) rfl rfl (by decide) (v := .bool true) (congrArg Value.bool g1) (Or.inl rfl) ?_
  refine WpL_guard_no (oj := _) rfl rfl (by decide) (v := .bool true) (congrArg Value.bool g1) (Or.inl rfl) ?_
  refine WpL_guard_no (oj := _) rfl rfl (by decide) (v := .bool true) (congrArg Value.bool g1) (Or.inl rfl) ?_
  refine WpL_guard_no (oj := _) rfl rfl (by decide) (v := .bool true) (congrArg Value.bool g1) (Or.inl rfl) ?_
  refine WpL_guard_no (oj := _) rfl rfl (by decide) (v := .bool true) (congrArg Value.bool g1) (Or.inl rfl) ?_
  refine qV (r_pick (b := decide ((n.states : Int) ≠ m.states)) (v := (.bool true)) rfl (by rw [g1]; rfl)) ?_
  refine qM (.bool true) rfl ?_
  refine WpL_guard_no (oj := _) rfl rfl (by decide) (v := .bool true) rfl (Or.inl rfl) ?_
  refine WpL_guard_no (oj := _) rfl rfl (by decide) (v := .bool true) rfl (Or.inl rfl) ?_
  refine WpL_guard_no (oj := _) rfl rfl (by decide) (v := .bool true) rfl (Or.inl rfl) ?_
  refine WpL_guard_no (oj := _) rfl rfl (by decide) (v := .bool true) rfl (Or.inl rfl) ?_
  refine WpL_guard_no (oj := _) rfl rfl (by decide) (v := .bool true) rfl (Or.inl rfl) ?_
  refine WpL_guard_no (oj := _) rfl rfl (by decide) (v := .bool true) rfl (Or.inl rfl) ?_
  refine qV (r_pick (b := true) (v := (.bool true)) rfl rfl) ?_
  refine qM (.bool true) rfl ?_
  refine WpL_guard_no (oj := _) rfl rfl (by decide) (v := .bool true) rfl (Or.inl rfl) ?_
  refine WpL_guard_no (oj := _) rfl rfl (by decide) (v := .bool true) rfl (Or.inl rfl) ?_
  refine WpL_guard_no (oj := _) rfl rfl (by decide) (v := .bool true) rfl (Or.inl rfl) ?_
  refine WpL_guard_no (oj := _) rfl rfl (by decide) (v := .bool true) rfl (Or.inl rfl) ?_
  refine WpL_guard_no (oj := _) rfl rfl (by decide) (v := .bool true) rfl (Or.inl rfl) ?_
  refine WpL_guard_no (oj := _) rfl rfl (by decide) (v := .bool true) rfl (Or.inl rfl) ?_
  refine WpL_guard_no (oj := _) rfl rfl (by decide) (v := .bool true) rfl (Or.inl rfl) ?_
  refine qV (r_pick (b := true) (v := (.bool true)) rfl rfl) ?_
  refine qM (.bool true) rfl ?_
  refine WpL_guard_no (oj := _) rfl rfl (by decide) (v := .bool true) rfl (Or.inl rfl) ?_
  refine WpL_guard_no (oj := _) rfl rfl (by decide) (v := .bool true) rfl (Or.inl rfl) ?_
  refine WpL_guard_no (oj := _) rfl rfl (by decide) (v := .bool true) rfl (Or.inl rfl) ?_
  refine WpL_guard_no (oj := _) rfl rfl (by decide) (v := .bool true) rfl (Or.inl rfl) ?_
  refine WpL_guard_no (oj := _) rfl rfl (by decide) (v := .bool true) rfl (Or.inl rfl) ?_
  refine WpL_guard_no (oj := _) rfl rfl (by decide) (v := .bool true) rfl (Or.inl rfl) ?_
  refine WpL_guard_no (oj := _) rfl rfl (by decide) (v := .bool true) rfl (Or.inl rfl) ?_
  refine qV (r_pick (b := true) (v := (.bool true)) rfl rfl) ?_
  refine WpL_nil ?_
  refine Wp_cond_true rfl ?_
  refine Wp_seq_region ?_
  refine qA (.bool false) rfl ?_
  refine WpL_nil (Wp_ret (thn_ret ?_))
  refine fin_tmp Tryz.results12 (v := (.bool false)) rfl ?_
  exact absurd (congrArg Nf.states hnm) kg1
 ·have kg1 := g1
  replace kg1 := of_decide_eq_false kg1
  refine WpL_guard_yes (oj := _) rfl rfl (by decide) (congrArg Value.bool g1) ?_
  refine qF bp 0 1 rfl Tryz.underlying26 rfl siz3 rfl ?_
  refine WpL_guard_yes (oj := _) rfl rfl (by decide) (congrArg Value.bool g1) ?_
  refine qV (r_load (v := (I6 n.start)) rfl flat3 (Bp.cell rfl)) ?_
  refine WpL_guard_yes (oj := _) rfl rfl (by decide) (congrArg Value.bool g1) ?_
  refine qF bq 0 1 rfl Tryz.underlying26 rfl siz3 rfl ?_
  refine WpL_guard_yes (oj := _) rfl rfl (by decide) (congrArg Value.bool g1) ?_
  refine qV (r_load (v := (I6 m.start)) rfl flat3 (Bq.cell rfl)) ?_
  refine WpL_guard_yes (oj := _) rfl rfl (by decide) (congrArg Value.bool g1) ?_
  refine qV (r_neq (k := .i64) (a := n.start) (b := m.start) rfl rfl) ?_
  refine qV (r_pick (b := decide ((n.states : Int) ≠ m.states)) (v := (.bool (decide ((n.start : Int) ≠ m.start)))) rfl (by rw [g1]; rfl)) ?_
  refine qM (.bool (decide ((n.start : Int) ≠ m.start))) rfl ?_
  rcases Bool.eq_false_or_eq_true (decide ((n.start : Int) ≠ m.start)) with g2 | g2
  ·have kg2 := g2
   replace kg2 := of_decide_eq_true kg2
   refine WpL_guard_no (oj := _) rfl rfl (by decide) (v := .bool true) (congrArg Value.bool g2) (Or.inl rfl) ?_
   refine WpL_guard_no (oj := _) rfl rfl (by decide) (v := .bool true) (congrArg Value.bool g2) (Or.inl rfl) ?_
   refine WpL_guard_no (oj := _) rfl rfl (by decide) (v := .bool true) (congrArg Value.bool g2) (Or.inl rfl) ?_
   refine WpL_guard_no (oj := _) rfl rfl (by decide) (v := .bool true) (congrArg Value.bool g2) (Or.inl rfl) ?_
   refine WpL_guard_no (oj := _) rfl rfl (by decide) (v := .bool true) (congrArg Value.bool g2) (Or.inl rfl) ?_
   refine WpL_guard_no (oj := _) rfl rfl (by decide) (v := .bool true) (congrArg Value.bool g2) (Or.inl rfl) ?_
   refine qV (r_pick (b := decide ((n.start : Int) ≠ m.start)) (v := (.bool true)) rfl (by rw [g2]; rfl)) ?_
   refine qM (.bool true) rfl ?_
   refine WpL_guard_no (oj := _) rfl rfl (by decide) (v := .bool true) rfl (Or.inl rfl) ?_
   refine WpL_guard_no (oj := _) rfl rfl (by decide) (v := .bool true) rfl (Or.inl rfl) ?_
   refine WpL_guard_no (oj := _) rfl rfl (by decide) (v := .bool true) rfl (Or.inl rfl) ?_
   refine WpL_guard_no (oj := _) rfl rfl (by decide) (v := .bool true) rfl (Or.inl rfl) ?_
   refine WpL_guard_no (oj := _) rfl rfl (by decide) (v := .bool true) rfl (Or.inl rfl) ?_
   refine WpL_guard_no (oj := _) rfl rfl (by decide) (v := .bool true) rfl (Or.inl rfl) ?_
   refine WpL_guard_no (oj := _) rfl rfl (by decide) (v := .bool true) rfl (Or.inl rfl) ?_
   refine qV (r_pick (b := true) (v := (.bool true)) rfl rfl) ?_
   refine qM (.bool true) rfl ?_
   refine WpL_guard_no (oj := _) rfl rfl (by decide) (v := .bool true) rfl (Or.inl rfl) ?_
   refine WpL_guard_no (oj := _) rfl rfl (by decide) (v := .bool true) rfl (Or.inl rfl) ?_
   refine WpL_guard_no (oj := _) rfl rfl (by decide) (v := .bool true) rfl (Or.inl rfl) ?_
   refine WpL_guard_no (oj := _) rfl rfl (by decide) (v := .bool true) rfl (Or.inl rfl) ?_
   refine WpL_guard_no (oj := _) rfl rfl (by decide) (v := .bool true) rfl (Or.inl rfl) ?_
   refine WpL_guard_no (oj := _) rfl rfl (by decide) (v := .bool true) rfl (Or.inl rfl) ?_
   refine WpL_guard_no (oj := _) rfl rfl (by decide) (v := .bool true) rfl (Or.inl rfl) ?_
   refine qV (r_pick (b := true) (v := (.bool true)) rfl rfl) ?_
   refine WpL_nil ?_
   refine Wp_cond_true rfl ?_
   refine Wp_seq_region ?_
   refine qA (.bool false) rfl ?_
   refine WpL_nil (Wp_ret (thn_ret ?_))
   refine fin_tmp Tryz.results12 (v := (.bool false)) rfl ?_
   exact absurd (congrArg Nf.start hnm) kg2
  ·have kg2 := g2
   replace kg2 := of_decide_eq_false kg2
   refine WpL_guard_yes (oj := _) rfl rfl (by decide) (congrArg Value.bool g2) ?_
   refine qF bp 0 2 rfl Tryz.underlying26 rfl siz22 rfl ?_
   refine WpL_guard_yes (oj := _) rfl rfl (by decide) (congrArg Value.bool g2) ?_
   refine qV (r_load (v := (.slice ea n.ends.length ec)) rfl flat22 (Bp.cell rfl)) ?_
   refine WpL_guard_yes (oj := _) rfl rfl (by decide) (congrArg Value.bool g2) ?_
   refine qF bq 0 2 rfl Tryz.underlying26 rfl siz22 rfl ?_
   refine WpL_guard_yes (oj := _) rfl rfl (by decide) (congrArg Value.bool g2) ?_
   refine qV (r_load (v := (.slice fa m.ends.length fc)) rfl flat22 (Bq.cell rfl)) ?_
   refine WpL_guard_yes (oj := _) rfl rfl (by decide) (congrArg Value.bool g2) ?_
   refine WpL_enter rfl rfl (by decide) (r_callF (vs := [(.slice ea n.ends.length ec), (.slice fa m.ends.length fc)]) Tryz.func13 kQ kQ rfl) (ieqr_c _ _ _ _ _ (hen.ext E) (hfn.ext E)) ?_
   rintro _ w9 ⟨rfl, X9⟩
   replace Bp := X9.keep Bp
   replace Bq := X9.keep Bq
   replace E := E.ext X9
   refine WpL_guard_yes (oj := _) rfl rfl (by decide) (congrArg Value.bool g2) ?_
   refine qV (r_not (b := decide (n.ends = m.ends)) rfl) ?_
   refine qV (r_pick (b := decide ((n.start : Int) ≠ m.start)) (v := (.bool (!(decide (n.ends = m.ends))))) rfl (by rw [g2]; rfl)) ?_
   refine qM (.bool (!(decide (n.ends = m.ends)))) rfl ?_
   rcases Bool.eq_false_or_eq_true (!(decide (n.ends = m.ends))) with g3 | g3
   ·have kg3 := g3
    refine WpL_guard_no (oj := _) rfl rfl (by decide) (v := .bool true) (congrArg Value.bool g3) (Or.inl rfl) ?_
    refine WpL_guard_no (oj := _) rfl rfl (by decide) (v := .bool true) (congrArg Value.bool g3) (Or.inl rfl) ?_
    refine WpL_guard_no (oj := _) rfl rfl (by decide) (v := .bool true) (congrArg Value.bool g3) (Or.inl rfl) ?_
    refine WpL_guard_no (oj := _) rfl rfl (by decide) (v := .bool true) (congrArg Value.bool g3) (Or.inl rfl) ?_
    refine WpL_guard_no (oj := _) rfl rfl (by decide) (v := .bool true) (congrArg Value.bool g3) (Or.inl rfl) ?_
    refine WpL_guard_no (oj := _) rfl rfl (by decide) (v := .bool true) (congrArg Value.bool g3) (Or.inl rfl) ?_
    refine WpL_guard_no (oj := _) rfl rfl (by decide) (v := .bool true) (congrArg Value.bool g3) (Or.inl rfl) ?_
    refine qV (r_pick (b := !(decide (n.ends = m.ends))) (v := (.bool true)) rfl (by rw [g3]; rfl)) ?_
    refine qM (.bool true) rfl ?_
    refine WpL_guard_no (oj := _) rfl rfl (by decide) (v := .bool true) rfl (Or.inl rfl) ?_
    refine WpL_guard_no (oj := _) rfl rfl (by decide) (v := .bool true) rfl (Or.inl rfl) ?_
    refine WpL_guard_no (oj := _) rfl rfl (by decide) (v := .bool true) rfl (Or.inl rfl) ?_
    refine WpL_guard_no (oj := _) rfl rfl (by decide) (v := .bool true) rfl (Or.inl rfl) ?_
    refine WpL_guard_no (oj := _) rfl rfl (by decide) (v := .bool true) rfl (Or.inl rfl) ?_
    refine WpL_guard_no (oj := _) rfl rfl (by decide) (v := .bool true) rfl (Or.inl rfl) ?_
    refine WpL_guard_no (oj := _) rfl rfl (by decide) (v := .bool true) rfl (Or.inl rfl) ?_
    refine qV (r_pick (b := true) (v := (.bool true)) rfl rfl) ?_
    refine WpL_nil ?_
    refine Wp_cond_true rfl ?_
    refine Wp_seq_region ?_
    refine qA (.bool false) rfl ?_
    refine WpL_nil (Wp_ret (thn_ret ?_))
    refine fin_tmp Tryz.results12 (v := (.bool false)) rfl ?_
    exact absurd (congrArg Nf.ends hnm) (by simpa using kg3)
   ·have kg3 := g3
    refine WpL_guard_yes (oj := _) rfl rfl (by decide) (congrArg Value.bool g3) ?_
    refine qF bp 0 3 rfl Tryz.underlying26 rfl siz23 rfl ?_
    refine WpL_guard_yes (oj := _) rfl rfl (by decide) (congrArg Value.bool g3) ?_
    refine qV (r_load (v := (.slice pa n.eps.length pc)) rfl flat23 (Bp.cell rfl)) ?_
    refine WpL_guard_yes (oj := _) rfl rfl (by decide) (congrArg Value.bool g3) ?_
    refine qV (r_lenSlice (ad := pa) (n := n.eps.length) (cap := pc) Tryz.underlying23 rfl) ?_
    refine WpL_guard_yes (oj := _) rfl rfl (by decide) (congrArg Value.bool g3) ?_
    refine qF bq 0 3 rfl Tryz.underlying26 rfl siz23 rfl ?_
    refine WpL_guard_yes (oj := _) rfl rfl (by decide) (congrArg Value.bool g3) ?_
    refine qV (r_load (v := (.slice qa m.eps.length qc)) rfl flat23 (Bq.cell rfl)) ?_
    refine WpL_guard_yes (oj := _) rfl rfl (by decide) (congrArg Value.bool g3) ?_
    refine qV (r_lenSlice (ad := qa) (n := m.eps.length) (cap := qc) Tryz.underlying23 rfl) ?_
    refine WpL_guard_yes (oj := _) rfl rfl (by decide) (congrArg Value.bool g3) ?_
    refine qV (r_neq (k := .i64) (a := (n.eps.length : Int)) (b := (m.eps.length : Int)) rfl rfl) ?_
    refine qV (r_pick (b := !(decide (n.ends = m.ends))) (v := (.bool (decide (((n.eps.length : Int) : Int) ≠ (m.eps.length : Int))))) rfl (by rw [g3]; rfl)) ?_
    refine qM (.bool (decide (((n.eps.length : Int) : Int) ≠ (m.eps.length : Int)))) rfl ?_
    rcases Bool.eq_false_or_eq_true (decide ((((n.eps.length : Nat) : Int) : Int) ≠ ((m.eps.length : Nat) : Int))) with g4 | g4
    ·have kg4 := g4
     replace kg4 := of_decide_eq_true kg4
     refine WpL_guard_no (oj := _) rfl rfl (by decide) (v := .bool true) (congrArg Value.bool g4) (Or.inl rfl) ?_
     refine WpL_guard_no (oj := _) rfl rfl (by decide) (v := .bool true) (congrArg Value.bool g4) (Or.inl rfl) ?_
     refine WpL_guard_no (oj := _) rfl rfl (by decide) (v := .bool true) (congrArg Value.bool g4) (Or.inl rfl) ?_
     refine WpL_guard_no (oj := _) rfl rfl (by decide) (v := .bool true) (congrArg Value.bool g4) (Or.inl rfl) ?_
     refine WpL_guard_no (oj := _) rfl rfl (by decide) (v := .bool true) (congrArg Value.bool g4) (Or.inl rfl) ?_
     refine WpL_guard_no (oj := _) rfl rfl (by decide) (v := .bool true) (congrArg Value.bool g4) (Or.inl rfl) ?_
     refine WpL_guard_no (oj := _) rfl rfl (by decide) (v := .bool true) (congrArg Value.bool g4) (Or.inl rfl) ?_
     refine qV (r_pick (b := decide (((n.eps.length : Int) : Int) ≠ (m.eps.length : Int))) (v := (.bool true)) rfl (by rw [g4]; rfl)) ?_
     refine WpL_nil ?_
     refine Wp_cond_true rfl ?_
     refine Wp_seq_region ?_
     refine qA (.bool false) rfl ?_
     refine WpL_nil (Wp_ret (thn_ret ?_))
     refine fin_tmp Tryz.results12 (v := (.bool false)) rfl ?_
     exact absurd (congrArg (fun x => ((x.eps.length : Nat) : Int)) hnm) kg4
    ·have kg4 := g4
     replace kg4 := of_decide_eq_false kg4
     refine WpL_guard_yes (oj := _) rfl rfl (by decide) (congrArg Value.bool g4) ?_
     refine qF bp 0 4 rfl Tryz.underlying26 rfl siz24 rfl ?_
     refine WpL_guard_yes (oj := _) rfl rfl (by decide) (congrArg Value.bool g4) ?_
     refine qV (r_load (v := (.slice xa n.edges.length xc)) rfl flat24 (Bp.cell rfl)) ?_
     refine WpL_guard_yes (oj := _) rfl rfl (by decide) (congrArg Value.bool g4) ?_
     refine qV (r_lenSlice (ad := xa) (n := n.edges.length) (cap := xc) Tryz.underlying24 rfl) ?_
     refine WpL_guard_yes (oj := _) rfl rfl (by decide) (congrArg Value.bool g4) ?_
     refine qF bq 0 4 rfl Tryz.underlying26 rfl siz24 rfl ?_
     refine WpL_guard_yes (oj := _) rfl rfl (by decide) (congrArg Value.bool g4) ?_
     refine qV (r_load (v := (.slice ya m.edges.length yc)) rfl flat24 (Bq.cell rfl)) ?_
     refine WpL_guard_yes (oj := _) rfl rfl (by decide) (congrArg Value.bool g4) ?_
     refine qV (r_lenSlice (ad := ya) (n := m.edges.length) (cap := yc) Tryz.underlying24 rfl) ?_
     refine WpL_guard_yes (oj := _) rfl rfl (by decide) (congrArg Value.bool g4) ?_
     refine qV (r_neq (k := .i64) (a := (n.edges.length : Int)) (b := (m.edges.length : Int)) rfl rfl) ?_
     refine qV (r_pick (b := decide (((n.eps.length : Int) : Int) ≠ (m.eps.length : Int))) (v := (.bool (decide (((n.edges.length : Int) : Int) ≠ (m.edges.length : Int))))) rfl (by rw [g4]; rfl)) ?_
     refine WpL_nil ?_
     refine Wp_cond (b := decide (((n.edges.length : Int) : Int) ≠ (m.edges.length : Int))) rfl (fun g5 => ?_) (fun g5 => ?_)
     ·have kg5 := g5
      replace g5 := of_decide_eq_true g5
      refine Wp_seq_region ?_
      refine qA (.bool false) rfl ?_
      refine WpL_nil (Wp_ret (thn_ret ?_))
      refine fin_tmp Tryz.results12 (v := (.bool false)) rfl ?_
      exact absurd (congrArg (fun x => ((x.edges.length : Nat) : Int)) hnm) g5
     ·have kg5 := g5
      replace g5 := of_decide_eq_false g5
      refine Wp_skip (thn_normal (Wp_seq (Wp_seq_region ?_)))
      refine qF bp 0 3 rfl Tryz.underlying26 rfl siz23 rfl ?_
      refine qV (r_load (v := (.slice pa n.eps.length pc)) rfl flat23 (Bp.cell rfl)) ?_
      refine qV (r_lenSlice (ad := pa) (n := n.eps.length) (cap := pc) Tryz.underlying23 rfl) ?_
      refine qM (I6 0) rfl ?_
      refine WpL_nil (Wp_block ?_)
      refine Wp_loop (fun nn_ σ W6 => ∃ (k : Nat), (∃ jj_, σ = upds jj_ [(2, (P6 bp 0)), (3, (P6 bq 0)), (49, (I6 (n.eps.length : Int))), (50, (I6 (k : Int)))]) ∧ Chg none1 w0 W6 ∧ Blk W6 bp #[(I6 n.states), (I6 n.start), (.slice ea n.ends.length ec), (.slice pa n.eps.length pc), (.slice xa n.edges.length xc)] 26 ∧ Blk W6 bq #[(I6 m.states), (I6 m.start), (.slice fa m.ends.length fc), (.slice qa m.eps.length qc), (.slice ya m.edges.length yc)] 26 ∧ (k ≤ n.eps.length) ∧ nn_ = n.eps.length - k) (n := n.eps.length - 0) ?_ ?_
      ·exact ⟨0, Fits.out ⟨rfl, rfl, rfl, rfl, trivial⟩, E, Bp, Bq, Nat.zero_le _, rfl⟩
      ·clear E Bp Bq
       rintro _ _ W6 ⟨k, ⟨j6, rfl⟩, E, Bp, Bq, hk, rfl⟩
       refine Wp_seq_region ?_
       refine qV (r_lss (k := .i64) (a := (k : Int)) (b := (n.eps.length : Int)) rfl rfl) ?_
       refine WpL_nil (Wp_seq ?_)
       refine Wp_cond (b := decide (((k : Int) : Int) < (n.eps.length : Int))) rfl (fun hlt => ?_) (fun hlt => ?_)
       ·have khlt := hlt
        replace hlt := of_decide_eq_true hlt
        obtain ⟨x, hx⟩ := get_of_lt (l := n.eps) (i := k) (by omega)
        obtain ⟨y, hy⟩ := get_of_lt (l := m.eps) (i := k) (by omega)
        have hxy : x = y := by rw [hnm, hy] at hx; exact (Option.some.inj hx).symm
        obtain ⟨b1, o1, rfl, hc1⟩ := spans_cells hep (by omega)
        obtain ⟨b2, o2, rfl, hc2⟩ := spans_cells hfp (by omega)
        refine Wp_skip (thn_normal (Wp_seq (Wp_block (Wp_seq_region ?_))))
        refine qM (I6 (k : Int)) rfl ?_
        refine qA (I6 (k : Int)) rfl ?_
        refine WpL_nil ?_
        have hz_8 : w0.heap.size ≤ W6.heap.size := E.size
        have lz_8_bp : bp < W6.heap.size := Bp.lt
        have lz_8_bq : bq < W6.heap.size := Bq.lt
        refine Wp_seq ?_
        obtain ⟨Fs8, hFs8⟩ : ∃ Fs : List FctS, Fs = [(eF (P6 bp 3)), (eF (.slice (some ⟨b1, o1, none⟩) n.eps.length pc)), (eF (I6 (k : Int))), (eF (.pointer (some ⟨b1, o1 + k * 2, none⟩))), (eF (.agg #[(I6 x.1), (I6 x.2)])), (eF (P6 bq 3)), (eF (.slice (some ⟨b2, o2, none⟩) m.eps.length qc)), (eF (I6 (k : Int))), (eF (.pointer (some ⟨b2, o2 + k * 2, none⟩))), (eF (.agg #[(I6 y.1), (I6 y.2)])), (eF undef)] := ⟨_, rfl⟩
        refine Wp_dagS (MsL []) [true, true, true, true, true, true, true, true, true, true, false] [10] [53, 54, 55, 56, 57, 58, 59, 60, 61, 62, 112] [[], [0], [], [1, 2], [3], [], [5], [], [6, 7], [8], []] [[], [0], [], [1, 0, 2], [3, 1, 0, 2], [], [5], [], [6, 5, 7], [8, 6, 5, 7], []] Fs8 hFs8 (by kernel_rfl) mixed (by kernel_rfl) (by kernel_rfl) (by kernel_rfl) (by kernel_rfl) ?_ ?_
        ·intro wd X0
         refine qZ (fun S s' w' hi hN X U V H => ?_) ?_
         ·replace X := xN0 X
          exact DoesT_pure (r_fieldAddr (b := bp) (o := 0) (o' := 3) (U 2 rfl) Tryz.underlying26 rfl siz23 rfl) rfl
         refine qZ (fun S s' w' hi hN X U V H => ?_) ?_
         ·replace X := xN0 X
          have e53 := (H 0 rfl).2 53 _ rfl (by rw [hFs8]; rfl)
          exact DoesT_pure (r_load (v := (.slice (some ⟨b1, o1, none⟩) n.eps.length pc)) e53 flat23 (((X0.trans X).keep Bp).cell rfl)) rfl
         refine qZ (fun S s' w' hi hN X U V H => ?_) ?_
         ·replace X := xN0 X
          exact DoesT_pure (r_move (v := (I6 (k : Int))) (U 5 rfl)) rfl
         refine qZ (fun S s' w' hi hN X U V H => ?_) ?_
         ·replace X := xN0 X
          have e54 := (H 1 rfl).2 54 _ rfl (by rw [hFs8]; rfl)
          have e55 := (H 2 rfl).2 55 _ rfl (by rw [hFs8]; rfl)
          exact DoesT_pure (r_indexSlice (b := b1) (o := o1) (len := n.eps.length) (cap := pc) (i := k) (o' := o1 + k * 2) e54 e55 rfl Tryz.underlying23 siz36 (by omega) (by omega)) rfl
         refine qZ (fun S s' w' hi hN X U V H => ?_) ?_
         ·replace X := xN0 X
          have e56 := (H 3 rfl).2 56 _ rfl (by rw [hFs8]; rfl)
          exact DoesT_pure (r_loadAgg (vs := [(I6 x.1), (I6 x.2)]) e56 agg36 siz36 rfl ((hc1 k x hx).ext (Chg.ext E (X0.trans X)))) rfl
         refine qZ (fun S s' w' hi hN X U V H => ?_) ?_
         ·replace X := xN0 X
          exact DoesT_pure (r_fieldAddr (b := bq) (o := 0) (o' := 3) (U 3 rfl) Tryz.underlying26 rfl siz23 rfl) rfl
         refine qZ (fun S s' w' hi hN X U V H => ?_) ?_
         ·replace X := xN0 X
          have e58 := (H 5 rfl).2 58 _ rfl (by rw [hFs8]; rfl)
          exact DoesT_pure (r_load (v := (.slice (some ⟨b2, o2, none⟩) m.eps.length qc)) e58 flat23 (((X0.trans X).keep Bq).cell rfl)) rfl
         refine qZ (fun S s' w' hi hN X U V H => ?_) ?_
         ·replace X := xN0 X
          exact DoesT_pure (r_move (v := (I6 (k : Int))) (U 5 rfl)) rfl
         refine qZ (fun S s' w' hi hN X U V H => ?_) ?_
         ·replace X := xN0 X
          have e59 := (H 6 rfl).2 59 _ rfl (by rw [hFs8]; rfl)
          have e60 := (H 7 rfl).2 60 _ rfl (by rw [hFs8]; rfl)
          exact DoesT_pure (r_indexSlice (b := b2) (o := o2) (len := m.eps.length) (cap := qc) (i := k) (o' := o2 + k * 2) e59 e60 rfl Tryz.underlying23 siz36 (by omega) (by omega)) rfl
         refine qZ (fun S s' w' hi hN X U V H => ?_) ?_
         ·replace X := xN0 X
          have e61 := (H 8 rfl).2 61 _ rfl (by rw [hFs8]; rfl)
          exact DoesT_pure (r_loadAgg (vs := [(I6 y.1), (I6 y.2)]) e61 agg36 siz36 rfl ((hc2 k y hy).ext (Chg.ext E (X0.trans X)))) rfl
         refine DagStepsS.tail ?_
         exact DagStepsS.nil
        ·intro s' wd8 w8 X0 X8 U H
         replace X8 := X8.mono (M' := none1) (fun y _ h => by
           obtain ⟨j, hj, h⟩ := h
           exact h.elim)
         have e57 := H 4 rfl 57 _ rfl (by rw [hFs8]; rfl)
         have e62 := H 9 rfl 62 _ rfl (by rw [hFs8]; rfl)
         obtain ⟨j8, rfl⟩ := Fits.out (σ := s') (l := [(2, (.pointer (some ⟨bp, 0, none⟩))), (3, (.pointer (some ⟨bq, 0, none⟩))), (49, (.int .i64 ((n.eps.length : Nat) : Int))), (50, (.int .i64 ((k : Nat) : Int))), (57, (.agg #[(.int .i64 x.1), (.int .i64 x.2)])), (62, (.agg #[(.int .i64 y.1), (.int .i64 y.2)]))]) ⟨U 2 rfl, U 3 rfl, U 49 rfl, U 50 rfl, e57, e62, trivial⟩
         clear U H
         replace Bp := (X0.trans X8).keep Bp
         replace Bq := (X0.trans X8).keep Bq
         replace X8 := X0.trans X8
         replace E := E.ext X8
         obtain ⟨i9, hi9⟩ := info_int
         refine WpL_val (v := (.bool (!decide ((x.1, x.2) = (y.1, y.2))))) rfl rfl (by decide) (r_neqArr2 Tryz.underlying36 Tryz.underlying3 hi9 cells_int eqgArr rfl rfl) ?_
         refine WpL_nil (thn_normal ?_)
         refine Wp_cond (b := !decide ((x.1, x.2) = (y.1, y.2))) rfl (fun hne => ?_) (fun hne => ?_)
         ·have khne := hne
          replace hne := by simpa using hne
          refine Wp_seq_region ?_
          refine qA (.bool false) rfl ?_
          refine WpL_nil (Wp_ret (inB_ret (thn_ret (thn_ret (inB_ret (thn_ret ?_))))))
          refine fin_tmp Tryz.results12 (v := (.bool false)) rfl ?_
          exact absurd hne (by rw [hxy]; simp)
         ·have khne := hne
          replace hne := by simpa using hne
          refine Wp_skip (inB_normal (thn_normal (Wp_region ?_)))
          refine qV (r_add (k := .i64) (a := (k : Int)) (b := 1) (c := (k : Int) + 1) rfl rfl (wI64 (by omega))) ?_
          refine qM (I6 ((k : Int) + 1)) rfl ?_
          refine WpL_nil (thn_normal ?_)
          exact ⟨n.eps.length - (k + 1), by omega, k + 1, Fits.out ⟨rfl, rfl, rfl, rfl, trivial⟩, E, Bp, Bq, (by omega), rfl⟩
       ·have khlt := hlt
        replace hlt := of_decide_eq_false hlt
        refine Wp_exit (thn_exit (thn_exit (inB_here (thn_normal (Wp_seq (Wp_seq_region ?_))))))
        refine qF bp 0 4 rfl Tryz.underlying26 rfl siz24 rfl ?_
        refine qV (r_load (v := (.slice xa n.edges.length xc)) rfl flat24 (Bp.cell rfl)) ?_
        refine qV (r_lenSlice (ad := xa) (n := n.edges.length) (cap := xc) Tryz.underlying24 rfl) ?_
        refine qM (I6 0) rfl ?_
        refine WpL_nil (Wp_block ?_)
        refine Wp_loop (fun nn_ σ W10 => ∃ (j : Nat), (∃ jj_, σ = upds jj_ [(2, (P6 bp 0)), (3, (P6 bq 0)), (67, (I6 (n.edges.length : Int))), (68, (I6 (j : Int)))]) ∧ Chg none1 w0 W10 ∧ Blk W10 bp #[(I6 n.states), (I6 n.start), (.slice ea n.ends.length ec), (.slice pa n.eps.length pc), (.slice xa n.edges.length xc)] 26 ∧ Blk W10 bq #[(I6 m.states), (I6 m.start), (.slice fa m.ends.length fc), (.slice qa m.eps.length qc), (.slice ya m.edges.length yc)] 26 ∧ (j ≤ n.edges.length) ∧ nn_ = n.edges.length - j) (n := n.edges.length - 0) ?_ ?_
        ·exact ⟨0, Fits.out ⟨rfl, rfl, rfl, rfl, trivial⟩, E, Bp, Bq, Nat.zero_le _, rfl⟩
        ·clear E Bp Bq
         rintro _ _ W10 ⟨j, ⟨j10, rfl⟩, E, Bp, Bq, hj, rfl⟩
         refine Wp_seq_region ?_
         refine qV (r_lss (k := .i64) (a := (j : Int)) (b := (n.edges.length : Int)) rfl rfl) ?_
         refine WpL_nil (Wp_seq ?_)
         refine Wp_cond (b := decide (((j : Int) : Int) < (n.edges.length : Int))) rfl (fun hlt2 => ?_) (fun hlt2 => ?_)
         ·have khlt2 := hlt2
          replace hlt2 := of_decide_eq_true hlt2
          obtain ⟨x, hx⟩ := get_of_lt (l := n.edges) (i := j) (by omega)
          obtain ⟨y, hy⟩ := get_of_lt (l := m.edges) (i := j) (by omega)
          obtain rfl : x = y := by rw [hnm, hy] at hx; exact (Option.some.inj hx).symm
          obtain ⟨b1, o1, rfl, hc1⟩ := edges_cells hed (by omega)
          obtain ⟨b2, o2, rfl, hc2⟩ := edges_cells hfd (by omega)
          obtain ⟨ra, rc, hr1, hr2⟩ := hc1 j x hx
          obtain ⟨ta, tc, ht1, ht2⟩ := hc2 j x hy
          refine Wp_skip (thn_normal (Wp_seq (Wp_block (Wp_seq_region ?_))))
          refine qM (I6 (j : Int)) rfl ?_
          refine qA (I6 (j : Int)) rfl ?_
          refine WpL_nil ?_
          obtain ⟨z9, hz9⟩ : ∃ z9, z9 = (W10).heap.size := ⟨_, rfl⟩
          have hz_12 : w0.heap.size ≤ W10.heap.size := E.size
          have lz_12_bp : bp < W10.heap.size := Bp.lt
          have lz_12_bq : bq < W10.heap.size := Bq.lt
          refine Wp_seq ?_
          obtain ⟨Fs12, hFs12⟩ : ∃ Fs : List FctS, Fs = [(eF (P6 bp 4)), (eF (.slice (some ⟨b1, o1, none⟩) n.edges.length xc)), (eF (I6 (j : Int))), (eF (.pointer (some ⟨b1, o1 + j * 3, none⟩))), (eF (.agg #[(I6 x.1), (I6 x.2.1), (.slice ra x.2.2.length rc)])), (eF (P6 bq 4)), (eF (.slice (some ⟨b2, o2, none⟩) m.edges.length yc)), (eF (I6 (j : Int))), (eF (.pointer (some ⟨b2, o2 + j * 3, none⟩))), (eF (.agg #[(I6 x.1), (I6 x.2.1), (.slice ta x.2.2.length tc)])), (fun S _ v w => S 12 = false → ((alF 39 #[(I6 0), (I6 0), (.slice none 0 0)] W10.heap.size)) v w), (fun S _ v w => S 12 = false → ((alF 39 #[(I6 0), (I6 0), (.slice none 0 0)] W10.heap.size)) v w), (fun S s v w => twoF 7 8 z9 3 TEd #[.int .i64 x.1, .int .i64 x.2.1, .slice ra x.2.2.length rc] S s v w), (eF undef)] := ⟨_, rfl⟩
          refine Wp_dagS (MsL [(12, (fun y => z9 ≤ y))]) [true, true, true, true, true, true, true, true, true, true, true, true, true, false] [13] [71, 72, 73, 74, 75, 76, 77, 78, 79, 80, 7, 8, 114, 115] [[], [0], [], [1, 2], [3], [], [5], [], [6, 7], [8], [], [], [0, 1, 2, 3, 4, 10, 11], []] [[], [0], [], [1, 0, 2], [3, 1, 0, 2], [], [5], [], [6, 5, 7], [8, 6, 5, 7], [], [], [0, 1, 2, 3, 4, 10, 11], []] Fs12 hFs12 (by kernel_rfl) mixed (by kernel_rfl) (by kernel_rfl) (by kernel_rfl) (by kernel_rfl) ?_ ?_
          ·intro wd X0
           refine qZ (fun S s' w' hi hN X U V H => ?_) ?_
           ·replace X := xN1 (hN 12 rfl) X
            exact DoesT_pure (r_fieldAddr (b := bp) (o := 0) (o' := 4) (U 2 rfl) Tryz.underlying26 rfl siz24 rfl) rfl
           refine qZ (fun S s' w' hi hN X U V H => ?_) ?_
           ·replace X := xN1 (hN 12 rfl) X
            have e71 := (H 0 rfl).2 71 _ rfl (by rw [hFs12]; rfl)
            exact DoesT_pure (r_load (v := (.slice (some ⟨b1, o1, none⟩) n.edges.length xc)) e71 flat24 (((X0.trans X).keep Bp).cell rfl)) rfl
           refine qZ (fun S s' w' hi hN X U V H => ?_) ?_
           ·replace X := xN1 (hN 12 rfl) X
            exact DoesT_pure (r_move (v := (I6 (j : Int))) (U 6 rfl)) rfl
           refine qZ (fun S s' w' hi hN X U V H => ?_) ?_
           ·replace X := xN1 (hN 12 rfl) X
            have e72 := (H 1 rfl).2 72 _ rfl (by rw [hFs12]; rfl)
            have e73 := (H 2 rfl).2 73 _ rfl (by rw [hFs12]; rfl)
            exact DoesT_pure (r_indexSlice (b := b1) (o := o1) (len := n.edges.length) (cap := xc) (i := j) (o' := o1 + j * 3) e72 e73 rfl Tryz.underlying24 siz39 (by omega) (by omega)) rfl
           refine qZ (fun S s' w' hi hN X U V H => ?_) ?_
           ·replace X := xN1 (hN 12 rfl) X
            have e74 := (H 3 rfl).2 74 _ rfl (by rw [hFs12]; rfl)
            exact DoesT_pure (r_loadAgg (vs := [(I6 x.1), (I6 x.2.1), (.slice ra x.2.2.length rc)]) e74 agg39 siz39 rfl (hr1.ext (Chg.ext E (X0.trans X)))) rfl
           refine qZ (fun S s' w' hi hN X U V H => ?_) ?_
           ·replace X := xM1 X
            exact DoesT_pure (r_fieldAddr (b := bq) (o := 0) (o' := 4) (U 3 rfl) Tryz.underlying26 rfl siz24 rfl) rfl
           refine qZ (fun S s' w' hi hN X U V H => ?_) ?_
           ·replace X := xM1 X
            have e76 := (H 5 rfl).2 76 _ rfl (by rw [hFs12]; rfl)
            exact DoesT_pure (r_load (v := (.slice (some ⟨b2, o2, none⟩) m.edges.length yc)) e76 flat24 ((Chg.keep X kH (X0.keep Bq)).cell rfl)) rfl
           refine qZ (fun S s' w' hi hN X U V H => ?_) ?_
           ·replace X := xM1 X
            exact DoesT_pure (r_move (v := (I6 (j : Int))) (U 6 rfl)) rfl
           refine qZ (fun S s' w' hi hN X U V H => ?_) ?_
           ·replace X := xM1 X
            have e77 := (H 6 rfl).2 77 _ rfl (by rw [hFs12]; rfl)
            have e78 := (H 7 rfl).2 78 _ rfl (by rw [hFs12]; rfl)
            exact DoesT_pure (r_indexSlice (b := b2) (o := o2) (len := m.edges.length) (cap := yc) (i := j) (o' := o2 + j * 3) e77 e78 rfl Tryz.underlying24 siz39 (by omega) (by omega)) rfl
           refine qZ (fun S s' w' hi hN X U V H => ?_) ?_
           ·replace X := xM1 X
            have e79 := (H 8 rfl).2 79 _ rfl (by rw [hFs12]; rfl)
            exact DoesT_pure (r_loadAgg (vs := [(I6 x.1), (I6 x.2.1), (.slice ta x.2.2.length tc)]) e79 agg39 siz39 rfl (ht1.ext (Chg.step (Chg.ext E X0) X (fun q hq h => by have h' : z9 ≤ q := h; have := Chg.size E; omega)))) rfl
           refine DagStepsS.cons (StabS.till (U := none1) (fun v w w' x h => alF_ext _ _ _ v w w' x h) (fun p y hp hw hpc h => by
              rcases MsL_or h with ⟨rfl, h0⟩ | h0
              ·exact absurd rfl hpc
              exact h0.elim)) (LocS.const) (fun S s' w' hi hN X U V H => Or.inl ⟨Guarded_none rfl, ?_⟩) ?_
           ·replace X := xN1 (hN 12 rfl) X
            exact DoesT_weakT (DoesT_alloc (c := #[(I6 0), (I6 0), (.slice none 0 0)]) (hs := W10.heap.size) zer39 rfl (by have := X0.size; have := X.size; omega)) (R' := fun v w => insS S 10 12 = false → (alF 39 #[(I6 0), (I6 0), (.slice none 0 0)] W10.heap.size) v w) (fun _ _ h _ => h)
           refine DagStepsS.cons (StabS.till (U := none1) (fun v w w' x h => alF_ext _ _ _ v w w' x h) (fun p y hp hw hpc h => by
              rcases MsL_or h with ⟨rfl, h0⟩ | h0
              ·exact absurd rfl hpc
              exact h0.elim)) (LocS.const) (fun S s' w' hi hN X U V H => Or.inl ⟨Guarded_none rfl, ?_⟩) ?_
           ·replace X := xN1 (hN 12 rfl) X
            exact DoesT_weakT (DoesT_alloc (c := #[(I6 0), (I6 0), (.slice none 0 0)]) (hs := W10.heap.size) zer39 rfl (by have := X0.size; have := X.size; omega)) (R' := fun v w => insS S 11 12 = false → (alF 39 #[(I6 0), (I6 0), (.slice none 0 0)] W10.heap.size) v w) (fun _ _ h _ => h)
           refine DagStepsS.cons (StabS.two (fun p y hp hw h => by rcases MsL_or h with ⟨h1, h0⟩ | h0; exact absurd h1 hp; exact h0.elim)) (LocS.two (j1 := 10) (j2 := 11) rfl rfl rfl rfl) (fun S s' w' hi hN X U V H => Or.inl ⟨Guarded_none rfl, ?_⟩) ?_
           ·replace X := xN1 hi X
            obtain ⟨b7, e7, B7, g7⟩ := (show ((alF 39 #[(.int .i64 0), (.int .i64 0), (.slice none 0 0)] W10.heap.size)) (s' 7) w' from ((H 10 rfl).2 7 (fun S _ v w => S 12 = false → ((alF 39 #[(.int .i64 0), (.int .i64 0), (.slice none 0 0)] W10.heap.size)) v w) rfl (by rw [hFs12]; rfl)) hi)
            have e75 := (H 4 rfl).2 75 _ rfl (by rw [hFs12]; rfl)
            exact (by obtain ⟨q1, eq1, Bq1, lq1⟩ := ((H 11 rfl).2 8 (fun S _ v w => S 12 = false → ((alF 39 #[(.int .i64 0), (.int .i64 0), (.slice none 0 0)] W10.heap.size)) v w) rfl (by rw [hFs12]; rfl)) hi; exact DoesT_two e7 e75 B7 Bq1 rfl rfl siz39 rfl (by simp [Value.oneCell']) (.inl ⟨rfl, by show z9 ≤ _; omega⟩) (fun w' h1 h2 => ⟨b7, q1, e7, eq1, by omega, by omega, h1, h2⟩))
           refine DagStepsS.tail ?_
           exact DagStepsS.nil
          ·intro s' wd12 w12 X0 X12 U H
           replace X12 := X12.mono (M' := (fun y => (fun y => z9 ≤ y) y)) (fun y _ h => by
             obtain ⟨j, hj, h⟩ := h
             rcases MsL_or h with ⟨rfl, h0⟩ | h0
             ·exact h0
             exact h0.elim)
           obtain ⟨b9, q9, e9b, e9q, l9b, l9q, h9, c9, B9q, hc9⟩ := (show ((fun S s v w => twoF 7 8 z9 3 TEd #[.int .i64 x.1, .int .i64 x.2.1, .slice ra x.2.2.length rc] S s v w) : FctS) (allS [true, true, true, true, true, true, true, true, true, true, true, true, true, false]) s' (s' 114) w12 from H 12 rfl 114 (fun S s v w => twoF 7 8 z9 3 TEd #[.int .i64 x.1, .int .i64 x.2.1, .slice ra x.2.2.length rc] S s v w) rfl (by rw [hFs12]; rfl))
           have e80 := H 9 rfl 80 _ rfl (by rw [hFs12]; rfl)
           obtain ⟨j12, rfl⟩ := Fits.out (σ := s') (l := [(2, (.pointer (some ⟨bp, 0, none⟩))), (3, (.pointer (some ⟨bq, 0, none⟩))), (67, (.int .i64 ((n.edges.length : Nat) : Int))), (68, (.int .i64 ((j : Nat) : Int))), (80, (.agg #[(.int .i64 x.1), (.int .i64 x.2.1), (.slice ta x.2.2.length tc)])), (7, (.pointer (some ⟨b9, 0, none⟩))), (8, (.pointer (some ⟨q9, 0, none⟩)))]) ⟨U 2 rfl, U 3 rfl, U 67 rfl, U 68 rfl, e80, e9b, e9q, trivial⟩
           clear U H
           replace Bp := Chg.keep X12 kH (X0.keep Bp)
           replace Bq := Chg.keep X12 kH (X0.keep Bq)
           replace E := (E.ext X0).step X12 (fun y hy h => by have h' : z9 ≤ y := h; have := E.size; omega)
           obtain ⟨c1, c2, c3, rfl⟩ := size3 hc9
           refine s_storeAgg (b := q9) (o := 0) (c' := #[(I6 x.1), (I6 x.2.1), (.slice ta x.2.2.length tc)]) rfl rfl (by simp [Value.oneCell']) siz39 rfl B9q (by first | (simp; done) | exact Nat.le_of_ble_eq_true rfl) rfl ?_
           intro w13 S13
           replace h9 := two_back h9 S13
           replace Bp := S13.keep (by omega) Bp
           replace Bq := S13.keep (by omega) Bq
           replace E := S13.step E (by first | exact Or.inl (by omega) | exact Or.inr rfl | exact Or.inr (by assumption) | exact Or.inr (by simp) | exact Or.inr (by omega) | exact Or.inr (by dsimp only; omega))
           replace B9q := S13.blk
           refine WpL_nil (thn_normal (Wp_seq_region ?_))
           refine qF b9 0 0 rfl Tryz.underlying39 rfl siz3 rfl ?_
           obtain ⟨r9, d9, h9b, h9s⟩ : ∃ r d, Blk (w13) b9 #[.int .i64 x.1, .int .i64 x.2.1, .slice r x.2.2.length d] TEd ∧ SpansAt w0 (.slice r x.2.2.length d) x.2.2 := by rcases h9 with h | h; exact ⟨ra, rc, h, hr2⟩; exact ⟨ta, tc, h, ht2⟩
           refine qV (r_load (v := (I6 x.1)) rfl flat3 (h9b.cell rfl)) ?_
           refine qF q9 0 0 rfl Tryz.underlying39 rfl siz3 rfl ?_
           refine qV (r_load (v := (I6 x.1)) rfl flat3 (B9q.cell rfl)) ?_
           refine qV (r_neq (k := .i64) (a := x.1) (b := x.1) rfl rfl) ?_
           refine qM (.bool (decide ((x.1 : Int) ≠ x.1))) rfl ?_
           rcases Bool.eq_false_or_eq_true (decide ((x.1 : Int) ≠ x.1)) with g6 | g6
           ·have kg6 := g6
            replace kg6 := of_decide_eq_true kg6
            refine WpL_guard_no (oj := _) rfl rfl (by decide) (v := .bool true) (congrArg Value.bool g6) (Or.inl rfl) ?_
            refine WpL_guard_no (oj := _) rfl rfl (by decide) (v := .bool true) (congrArg Value.bool g6) (Or.inl rfl) ?_
            refine WpL_guard_no (oj := _) rfl rfl (by decide) (v := .bool true) (congrArg Value.bool g6) (Or.inl rfl) ?_
            refine WpL_guard_no (oj := _) rfl rfl (by decide) (v := .bool true) (congrArg Value.bool g6) (Or.inl rfl) ?_
            refine WpL_guard_no (oj := _) rfl rfl (by decide) (v := .bool true) (congrArg Value.bool g6) (Or.inl rfl) ?_
            refine qV (r_pick (b := decide ((x.1 : Int) ≠ x.1)) (v := (.bool true)) rfl (by rw [g6]; rfl)) ?_
            refine qM (.bool true) rfl ?_
            refine WpL_guard_no (oj := _) rfl rfl (by decide) (v := .bool true) rfl (Or.inl rfl) ?_
            refine WpL_guard_no (oj := _) rfl rfl (by decide) (v := .bool true) rfl (Or.inl rfl) ?_
            refine WpL_guard_no (oj := _) rfl rfl (by decide) (v := .bool true) rfl (Or.inl rfl) ?_
            refine WpL_guard_no (oj := _) rfl rfl (by decide) (v := .bool true) rfl (Or.inl rfl) ?_
            refine WpL_guard_no (oj := _) rfl rfl (by decide) (v := .bool true) rfl (Or.inl rfl) ?_
            refine WpL_guard_no (oj := _) rfl rfl (by decide) (v := .bool true) rfl (Or.inl rfl) ?_
            refine qV (r_pick (b := true) (v := (.bool true)) rfl rfl) ?_
            refine WpL_nil ?_
            refine Wp_cond_true rfl ?_
            refine Wp_seq_region ?_
            refine qA (.bool false) rfl ?_
            refine WpL_nil (Wp_ret (inB_ret (thn_ret (thn_ret (inB_ret (thn_ret ?_))))))
            refine fin_tmp Tryz.results12 (v := (.bool false)) rfl ?_
            exact absurd rfl kg6
           ·have kg6 := g6
            replace kg6 := of_decide_eq_false kg6
            refine WpL_guard_yes (oj := _) rfl rfl (by decide) (congrArg Value.bool g6) ?_
            refine qF b9 0 1 rfl Tryz.underlying39 rfl siz3 rfl ?_
            refine WpL_guard_yes (oj := _) rfl rfl (by decide) (congrArg Value.bool g6) ?_
            refine qV (r_load (v := (I6 x.2.1)) rfl flat3 (h9b.cell rfl)) ?_
            refine WpL_guard_yes (oj := _) rfl rfl (by decide) (congrArg Value.bool g6) ?_
            refine qF q9 0 1 rfl Tryz.underlying39 rfl siz3 rfl ?_
            refine WpL_guard_yes (oj := _) rfl rfl (by decide) (congrArg Value.bool g6) ?_
            refine qV (r_load (v := (I6 x.2.1)) rfl flat3 (B9q.cell rfl)) ?_
            refine WpL_guard_yes (oj := _) rfl rfl (by decide) (congrArg Value.bool g6) ?_
            refine qV (r_neq (k := .i64) (a := x.2.1) (b := x.2.1) rfl rfl) ?_
            refine qV (r_pick (b := decide ((x.1 : Int) ≠ x.1)) (v := (.bool (decide ((x.2.1 : Int) ≠ x.2.1)))) rfl (by rw [g6]; rfl)) ?_
            refine qM (.bool (decide ((x.2.1 : Int) ≠ x.2.1))) rfl ?_
            rcases Bool.eq_false_or_eq_true (decide ((x.2.1 : Int) ≠ x.2.1)) with g7 | g7
            ·have kg7 := g7
             replace kg7 := of_decide_eq_true kg7
             refine WpL_guard_no (oj := _) rfl rfl (by decide) (v := .bool true) (congrArg Value.bool g7) (Or.inl rfl) ?_
             refine WpL_guard_no (oj := _) rfl rfl (by decide) (v := .bool true) (congrArg Value.bool g7) (Or.inl rfl) ?_
             refine WpL_guard_no (oj := _) rfl rfl (by decide) (v := .bool true) (congrArg Value.bool g7) (Or.inl rfl) ?_
             refine WpL_guard_no (oj := _) rfl rfl (by decide) (v := .bool true) (congrArg Value.bool g7) (Or.inl rfl) ?_
             refine WpL_guard_no (oj := _) rfl rfl (by decide) (v := .bool true) (congrArg Value.bool g7) (Or.inl rfl) ?_
             refine WpL_guard_no (oj := _) rfl rfl (by decide) (v := .bool true) (congrArg Value.bool g7) (Or.inl rfl) ?_
             refine qV (r_pick (b := decide ((x.2.1 : Int) ≠ x.2.1)) (v := (.bool true)) rfl (by rw [g7]; rfl)) ?_
             refine WpL_nil ?_
             refine Wp_cond_true rfl ?_
             refine Wp_seq_region ?_
             refine qA (.bool false) rfl ?_
             refine WpL_nil (Wp_ret (inB_ret (thn_ret (thn_ret (inB_ret (thn_ret ?_))))))
             refine fin_tmp Tryz.results12 (v := (.bool false)) rfl ?_
             exact absurd rfl kg7
            ·have kg7 := g7
             replace kg7 := of_decide_eq_false kg7
             refine WpL_guard_yes (oj := _) rfl rfl (by decide) (congrArg Value.bool g7) ?_
             refine qF b9 0 2 rfl Tryz.underlying39 rfl siz37 rfl ?_
             refine WpL_guard_yes (oj := _) rfl rfl (by decide) (congrArg Value.bool g7) ?_
             refine qV (r_load (v := (.slice r9 x.2.2.length d9)) rfl flat37 (h9b.cell rfl)) ?_
             refine WpL_guard_yes (oj := _) rfl rfl (by decide) (congrArg Value.bool g7) ?_
             refine qF q9 0 2 rfl Tryz.underlying39 rfl siz37 rfl ?_
             refine WpL_guard_yes (oj := _) rfl rfl (by decide) (congrArg Value.bool g7) ?_
             refine qV (r_load (v := (.slice ta x.2.2.length tc)) rfl flat37 (B9q.cell rfl)) ?_
             refine WpL_guard_yes (oj := _) rfl rfl (by decide) (congrArg Value.bool g7) ?_
             refine WpL_enter rfl rfl (by decide) (r_callF (vs := [(.slice r9 x.2.2.length d9), (.slice ta x.2.2.length tc)]) Tryz.func50 kQ kQ rfl) (rspeq_c _ _ _ x.2.2 x.2.2 (SlAt.ext h9s E) (SlAt.ext ht2 E)) ?_
             rintro _ w19 ⟨rfl, X19⟩
             replace Bp := X19.keep Bp
             replace Bq := X19.keep Bq
             replace B9q := X19.keep B9q
             replace h9b := X19.keep h9b
             replace E := E.ext X19
             refine WpL_guard_yes (oj := _) rfl rfl (by decide) (congrArg Value.bool g7) ?_
             refine qV (r_not (b := decide (x.2.2 = x.2.2)) rfl) ?_
             refine qV (r_pick (b := decide ((x.2.1 : Int) ≠ x.2.1)) (v := (.bool (!(decide (x.2.2 = x.2.2))))) rfl (by rw [g7]; rfl)) ?_
             refine WpL_nil ?_
             have hc16 : (!(decide (x.2.2 = x.2.2))) = false := by simp
             refine Wp_cond_false (congrArg Value.bool hc16) ?_
             refine Wp_skip (inB_normal (thn_normal (Wp_region ?_)))
             refine qV (r_add (k := .i64) (a := (j : Int)) (b := 1) (c := (j : Int) + 1) rfl rfl (wI64 (by omega))) ?_
             refine qM (I6 ((j : Int) + 1)) rfl ?_
             refine WpL_nil (thn_normal ?_)
             exact ⟨n.edges.length - (j + 1), by omega, j + 1, Fits.out ⟨rfl, rfl, rfl, rfl, trivial⟩, E, Bp, Bq, (by omega), rfl⟩
         ·have khlt2 := hlt2
          replace hlt2 := of_decide_eq_false hlt2
          refine Wp_exit (thn_exit (thn_exit (inB_here (thn_normal (Wp_seq_region ?_)))))
          refine qA (.bool true) rfl ?_
          refine WpL_nil (Wp_ret ?_)
          refine fin_tmp Tryz.results12 (v := (.bool true)) rfl ?_
          exact ⟨rfl, E⟩
end Go.Proofs
