/- Contracts and plain lemmas, part 5. -/
import Derived.Tactics
import Derived.Deep.Quiet
import Derived.Laws.AppendOwn
import Derived.KernelRfl
import Derived.Laws.Entries
import Derived.Laws.Build
import Derived.Below
import Derived.RowKit3
import Derived.StillTail
import Derived.Sort.Grow
import Derived.Deep.Draws
import Derived.Test.YtmgnaaonmhaflaaGreatChecked
import Derived.Laws.StructEq
import Derived.MapKept
import Derived.Laws.BytesArg
import Derived.DeepKeys3
import Derived.Shelf.SlSortCmp.WholeK
import Derived.Shelf.Sort.Plain
import Derived.Shelf.Slices.CompactI
import Derived.Test.YtmgnaaonmhaflaaGreatProg
import Derived.Defers
import Derived.Recover
import Derived.OpenShut
import Derived.ChangeSlices
import Derived.Test.YtmgnaaonmhaflaaGreatRows
import Derived.SizedLaws
import Derived.Test.YtmgnaaonmhaflaaGreatZt4
namespace Go.Proofs
open Go Go.Eng Go.Sort
set_option maxRecDepth 100000
set_option linter.unusedVariables false
theorem sfits_n (S : Nat → Prop) (w0 : World) (a : Option Addr) (c : Nat) (j : List Sp) (h : SlIn S w0 2 (.slice a j.length c) (j.map spanV)) : Ret Tryz.prog 151 #[.slice a j.length c] w0 fun r w => (∃ out e, fitsP j out e ∧ ∃ a c, r = .tuple #[.slice a out.length c, .int .i64 e] ∧ SlIn S w 2 (.slice a out.length c) (out.map spanV)) ∧ Ext w0 w := by
 refine Ret_of Tryz.func151 rfl Tryz.ntmps151 (Nat.le_of_ble_eq_true rfl) ?_
 have E : Chg none1 w0 w0 := Chg.refl _ _
 refine Wp_seq_region ?_
 refine qA _ rfl ?_
 refine qA _ rfl ?_
 refine WpL_nil (Wp_seq (Wp_seq_region ?_))
 refine qM _ rfl ?_
 refine qV (r_lenSlice Tryz.underlying22 rfl) ?_
 refine qV (r_gtr rfl rfl) ?_
 refine WpL_nil ?_
 refine Wp_cond rfl (fun hl => ?_) (fun hl => ?_)
 ·have khl := hl
  replace hl := of_decide_eq_true hl
  refine Wp_seq_region ?_
  refine qA _ rfl ?_
  refine qA _ rfl ?_
  refine WpL_nil (Wp_ret (thn_ret ?_))
  refine fin_tmp2 Tryz.results151 (v := (.slice none 0 0)) (v' := (.int .i64 2)) rfl rfl ?_
  exact ⟨⟨[], 2, by unfold fitsP; rw [if_pos (by omega)]; exact ⟨rfl, rfl⟩, none, 0, rfl, sin_nil _ _⟩, E⟩
 ·have khl := hl
  replace hl := of_decide_eq_false hl
  refine Wp_skip (thn_normal (Wp_seq_region ?_))
  refine qM _ rfl ?_
  refine qA _ rfl ?_
  refine qA _ rfl ?_
  refine WpL_nil (Wp_ret ?_)
  refine fin_tmp2 Tryz.results151 (v := (.slice a j.length c)) (v' := (.int .i64 0)) rfl rfl ?_
  exact ⟨⟨j, 0, by unfold fitsP; rw [if_neg (by omega)]; exact ⟨rfl, rfl⟩, a, c, rfl, h⟩, E⟩
theorem norm_n (w0 : World) (u : Value) (a : List Sp) (ha : SpansAt w0 u a) (hl : a.length ≤ 8796093022208) : Ret Tryz.prog 121 #[u] w0 fun r w => (∃ out e, normP a out e ∧ SetRN w0.heap.size w r out e) ∧ Ext w0 w := by
 refine Ret_of Tryz.func121 rfl Tryz.ntmps121 (Nat.le_of_ble_eq_true rfl) ?_
 have E : Chg none1 w0 w0 := Chg.refl _ _
 refine Wp_seq_region ?_
 refine qA _ rfl ?_
 refine qA _ rfl ?_
 refine WpL_nil (Wp_seq (Wp_seq_region ?_))
 refine qM u rfl ?_
 refine WpL_enter rfl rfl (by decide) (r_callF Tryz.func100 nm100 bd100 rfl) (spans_has_c _ u _ a (fun s => !validB s) ha (fun w x hE _ => CallV.mk (first := #[]) (cap := #[]) Tryz.func150 nm150 bd150 rfl (norm1_c x w))) ?_
 rintro _ w9 ⟨rfl, X9⟩
 replace E := E.ext X9
 refine WpL_nil ?_
 refine Wp_cond rfl (fun h0 => ?_) (fun h0 => ?_)
 ·have kh0 := h0
  obtain ⟨s, hs, hb⟩ := List.any_eq_true.1 h0
  refine Wp_seq_region ?_
  refine qA _ rfl ?_
  refine qA _ rfl ?_
  refine WpL_nil (Wp_ret (thn_ret ?_))
  refine fin_tmp2 Tryz.results121 (v := (.slice none 0 0)) (v' := (.int .i64 1)) rfl rfl ?_
  exact ⟨⟨[], 1, .inl ⟨⟨s, hs, fun h => by rw [validB_iff.2 h] at hb; cases hb⟩, rfl, rfl⟩, none, 0, rfl, sin_nil _ _⟩, E⟩
 ·have kh0 := h0
  have hv : ∀ s ∈ a, vSp s := fun s hs => validB_iff.1 (by have := List.any_eq_false.1 h0 s hs; simpa using this)
  have hs9 : w0.heap.size ≤ w9.heap.size := E.size
  refine Wp_skip (thn_normal (Wp_seq_region ?_))
  refine qM u rfl ?_
  refine WpL_enter rfl rfl (by decide) (r_callF Tryz.func152 nm152 bd152 rfl) (join_c _ _ a (ha.ext E) hl hv) ?_
  rintro _ w7 ⟨⟨j, hj, ⟨⟨ka, kc, rfl⟩, O7⟩⟩, X7⟩
  replace E := E.ext X7
  have hK : OwnS w7 w9.heap.size (.slice ka j.length kc) j := ⟨⟨_, _, rfl⟩, O7⟩
  refine WpL_enter rfl rfl (by decide) (r_callF Tryz.func151 nm151 bd151 rfl) (sfits_n _ _ _ _ j (own_sin hK)) ?_
  rintro _ w6 ⟨⟨out, e, hf, fa, fc, rfl, hsp⟩, X6⟩
  replace E := E.ext X6
  obtain ⟨hj1, hj2⟩ := IsSet.join hj hv
  refine qV (r_extract rfl rfl) ?_
  refine qV (r_extract rfl rfl) ?_
  refine qA _ rfl ?_
  refine qA _ rfl ?_
  refine WpL_nil (Wp_ret ?_)
  refine fin_tmp2 Tryz.results121 (v := (.slice fa out.length fc)) (v' := (.int .i64 e)) rfl rfl ?_
  exact ⟨⟨out, e, .inr ⟨hv, j, hj1, hj2, hf⟩, fa, fc, rfl, hsp.mono fun y hy => by have h3 : _ ≤ y := hy; omega⟩, E⟩
set_option maxHeartbeats 2000000 in
theorem close_n (w0 : World) (u : Value) (a : List Sp) (ha : SpansAt w0 u a) : Ret Tryz.prog 91 #[u] w0 fun r w => (∃ out e, closeP a out e ∧ SetRN w0.heap.size w r out e) ∧ Ext w0 w := by
 obtain ⟨base, hbase⟩ : ∃ base, base = w0.heap.size := ⟨_, rfl⟩
 refine Ret_of Tryz.func91 rfl Tryz.ntmps91 (Nat.le_of_ble_eq_true rfl) ?_
 have E : Chg none1 w0 w0 := Chg.refl _ _
 refine Wp_seq_region ?_
 refine qA _ rfl ?_
 refine qA _ rfl ?_
 refine WpL_nil (Wp_seq (Wp_seq_region ?_))
 refine qM u rfl ?_
 refine WpL_enter rfl rfl (by decide) (r_callF Tryz.func78 nm78 bd78 rfl) (rcheck_c _ _ a ha) ?_
 rintro _ w9 ⟨rfl, X9⟩
 replace E := E.ext X9
 refine qA _ rfl ?_
 refine WpL_nil (Wp_seq_region ?_)
 refine qM _ rfl ?_
 refine qV (r_neq rfl rfl) ?_
 refine WpL_nil ?_
 refine Wp_cond rfl (fun hc0 => ?_) (fun hc0 => ?_)
 ·have khc0 := hc0
  replace hc0 := of_decide_eq_true hc0
  refine Wp_seq_region ?_
  refine qM _ rfl ?_
  refine qA _ rfl ?_
  refine qA _ rfl ?_
  refine WpL_nil (Wp_ret (thn_ret ?_))
  refine fin_tmp2 Tryz.results91 (v := (.slice none 0 0)) (v' := (.int .i64 (checkE a))) rfl rfl ?_
  exact ⟨⟨[], _, .inl ⟨hc0, rfl, rfl⟩, none, 0, rfl, sin_nil _ _⟩, E⟩
 ·have khc0 := hc0
  replace hc0 := of_decide_eq_false hc0
  have hc1 : checkE a = 0 := by omega
  obtain ⟨ca, la⟩ := checkE_canon hc1
  have hs0 := E.size
  refine Wp_skip (thn_normal (Wp_seq_region ?_))
  refine qM u rfl ?_
  refine WpL_enter rfl rfl (by decide) (r_callF Tryz.func48 nm48 bd48 rfl) (clones_c _ _ a (ha.ext E) (by omega)) ?_
  rintro _ w8 ⟨⟨⟨xa, xc, rfl⟩, O8⟩, X8⟩
  replace E := E.ext X8
  have O8' := own_low (base' := base) O8 (by omega)
  refine qA _ rfl ?_
  refine WpL_nil (Wp_seq (Wp_seq_region ?_))
  refine qM _ rfl ?_
  refine WpL_nil (Wp_block ?_)
  refine Wp_loop (fun nn_ σ W2 => ∃ (k : Nat) (la1 : Option Addr) (lc1 : Nat) (m1 : Nat), (∃ jj_, σ = upds jj_ [(0, u), (16, (I6 (k : Int))), (5, (.slice la1 m1 lc1))]) ∧ Chg none1 w0 W2 ∧ (k ≤ 1000) ∧ (m1 = (a ++ clo a k).length) ∧ (W2.ownsRow base TSp 2 (.slice la1 m1 lc1) m1 ((a ++ clo a k).map spanV).flatten) ∧ (base ≤ W2.heap.size) ∧ nn_ = 1000 - k) (n := 1000 - 0) ?_ ?_
  ·exact ⟨0, xa, xc, a.length, Fits.out ⟨rfl, rfl, rfl, trivial⟩, E, (by omega), (by simp [clo]), (by simpa [clo] using O8'), (by have := E.size; omega), rfl⟩
  ·clear E
   rintro _ _ W2 ⟨k, la1, lc1, m1, ⟨j2, rfl⟩, E, hk, hm1, hown, hbs, rfl⟩
   refine Wp_seq_region ?_
   refine qV (r_lss rfl rfl) ?_
   refine WpL_nil (Wp_seq ?_)
   refine Wp_cond rfl (fun hlt => ?_) (fun hlt => ?_)
   ·have khlt := hlt
    replace hlt := of_decide_eq_true hlt
    have hcs := clo_succ a k
    have hcl := clo_len a k
    rw [List.length_append] at hm1
    refine Wp_skip (thn_normal (Wp_seq (Wp_block (Wp_seq_region ?_))))
    refine qM _ rfl ?_
    refine qA _ rfl ?_
    refine WpL_nil (Wp_seq (Wp_seq_region ?_))
    refine qM u rfl ?_
    refine qM _ rfl ?_
    refine WpL_enter rfl rfl (by decide) (r_callF Tryz.func65 nm65 bd65 rfl) (in_c _ u a (k : Int) (ha.ext E)) ?_
    rintro _ w7 ⟨rfl, X7⟩
    replace hown := own_ext hown X7
    replace hbs := Nat.le_trans hbs X7.size
    replace E := E.ext X7
    refine qV (r_not rfl) ?_
    refine WpL_nil ?_
    refine Wp_cond rfl (fun hin => ?_) (fun hin => ?_)
    ·have khin := hin
     replace hin := by simpa using hin
     refine Wp_exit (thn_exit (inB_here (thn_normal (Wp_region ?_))))
     refine qV (r_add rfl rfl (wI64 (by omega))) ?_
     refine qM _ rfl ?_
     refine WpL_nil (thn_normal ?_)
     exact ⟨1000 - (k + 1), by omega, k + 1, la1, lc1, m1, Fits.out ⟨rfl, rfl, rfl, trivial⟩, E, (by omega), (by rw [hcs, hin]; simpa using hm1), (by rw [hcs, hin]; simpa using hown), hbs, rfl⟩
    ·have khin := hin
     replace hin := by simpa using hin
     have hown7 := hown
     refine Wp_skip (thn_normal (Wp_seq_region ?_))
     refine qM _ rfl ?_
     refine WpL_enter rfl rfl (by decide) (r_callF Tryz.func120 nm120 bd120 rfl) (orbit_c _ (k : Int) (by omega)) ?_
     rintro _ w6 ⟨⟨⟨oa, oc, rfl⟩, hor⟩, X6⟩
     replace hown := own_ext hown X6
     replace hbs := Nat.le_trans hbs X6.size
     replace E := E.ext X6
     obtain ⟨ob, hob⟩ : ∃ ob, ob = orbitL ((k : Nat) : Int) := ⟨_, rfl⟩
     have hol := orb_len ((k : Nat) : Int)
     rw [← hob] at hor hol
     rw [← hob, hin, if_pos rfl] at hcs
     obtain ⟨n6, hn6⟩ : ∃ n, n = w7.heap.size := ⟨_, rfl⟩
     obtain ⟨n7, hn7⟩ : ∃ n, n = w6.heap.size := ⟨_, rfl⟩
     rw [← hn6, ← hn7] at hor
     rw [← hob]
     refine qV (r_lenSlice Tryz.underlying46 rfl) ?_
     refine qM _ rfl ?_
     refine WpL_nil (Wp_block ?_)
     refine Wp_loop (fun nn_ σ W5 => ∃ (i : Nat) (la2 : Option Addr) (lc2 : Nat) (m2 : Nat), (∃ jj_, σ = upds jj_ [(0, u), (16, (I6 (k : Int))), (24, (.slice oa ob.length oc)), (25, (I6 (ob.length : Int))), (26, (I6 (i : Int))), (5, (.slice la2 m2 lc2))]) ∧ Chg none1 w0 W5 ∧ (i ≤ ob.length) ∧ (m2 = (a ++ clo a k ++ pts (ob.take i)).length) ∧ (W5.ownsRow base TSp 2 (.slice la2 m2 lc2) m2 ((a ++ clo a k ++ pts (ob.take i)).map spanV).flatten) ∧ (base ≤ W5.heap.size) ∧ (SlIn (fun b => n6 ≤ b ∧ b < n7) W5 1 (.slice oa ob.length oc) (ob.map intV)) ∧ (∀ x, (Value.slice la2 m2 lc2).ownBlock = some x → x < n6 ∨ n7 ≤ x) ∧ (n7 ≤ W5.heap.size) ∧ nn_ = ob.length - i) (n := ob.length - 0) ?_ ?_
     ·exact ⟨0, la1, lc1, m1, Fits.out ⟨rfl, rfl, rfl, rfl, rfl, rfl, trivial⟩, E, Nat.zero_le _, (by simpa [pts] using hm1), (by simpa [pts] using hown), hbs, hor, (fun x hx => .inl (by rw [hn6]; exact (hown7.lt x hx).2)), (by omega), rfl⟩
     ·clear E
      rintro _ _ W5 ⟨i, la2, lc2, m2, ⟨j5, rfl⟩, E, hi, hm2, hown2, hbs2, hor2, hap, hn72, rfl⟩
      refine Wp_seq_region ?_
      refine qV (r_lss rfl rfl) ?_
      refine WpL_nil (Wp_seq ?_)
      refine Wp_cond rfl (fun hlt2 => ?_) (fun hlt2 => ?_)
      ·have khlt2 := hlt2
       replace hlt2 := of_decide_eq_true hlt2
       rw [List.length_append, List.length_append] at hm2
       have hpl : (pts (ob.take i)).length = i := by unfold pts; simp; omega
       obtain ⟨x, hx⟩ := get_of_lt (l := ob) (i := i) (by omega)
       have hpt := pts_take hx
       have hatI : IntsAt _ (.slice oa ob.length oc) ob := SlIn.at hor2
       obtain ⟨b, o, hab, hcc⟩ := ints_cells hatI (by omega)
       subst hab
       refine Wp_skip (thn_normal (Wp_seq (Wp_block (Wp_seq_region ?_))))
       refine qV (r_indexSlice (b := b) (o := o) (len := ob.length) (cap := oc) (i := i) (o' := o + i) rfl rfl rfl Tryz.underlying46 siz3 (by omega) (by omega)) ?_
       refine qV (r_load rfl flat3 (hcc i x hx)) ?_
       refine qA _ rfl ?_
       refine WpL_nil (Wp_region ?_)
       refine qM _ rfl ?_
       refine qM _ rfl ?_
       refine qM _ rfl ?_
       refine qV (r_build (ps := [(0, (I6 x)), (1, (I6 x))]) (v := (.agg #[(I6 x), (I6 x)])) rfl (by kernel_rfl)) ?_
       refine s_buildSlice (ps := [(0, (.agg #[(I6 x), (I6 x)]))]) (c := #[(I6 x), (I6 x)]) (by decide) rfl Tryz.underlying22 siz67 zer67 (by decide) (by decide) (by kernel_rfl) ?_
       intro bq wq Nq
       have Fq := Nq.ge E
       replace hown2 := own_ext hown2 Nq.ext
       replace hbs2 := Nat.le_trans hbs2 Nq.ext.size
       replace hn72 := Nat.le_trans hn72 Nq.ext.size
       replace hor2 := hor2.chg Nq.ext (fun _ _ f => f)
       replace E := E.ext Nq.ext
       have Bq := Nq.blk
       refine s_append (base := base) (n := m2) (m := 1) (xs := ((a ++ clo a k ++ pts (ob.take i)).map spanV).flatten) (news := [(I6 x), (I6 x)]) (size := 2) (bytes := 16) (v := (.slice la2 m2 lc2)) (by decide) Tryz.underlying22 siz67 byt67 zer67 rfl (by decide) rfl hown2 rfl (rfl) (Bq.cells rfl) (by simp [Value.oneCell']) (by unfold maxLen; omega) (by omega) (hbs2) ?_
       intro v9 w29 Ov9 Cv9 Dv9
       replace E := E.step Cv9 (fun x hx h => absurd (hown2.lt x h).1 (by omega))
       obtain ⟨la3, lc3, rfl⟩ := own_form Ov9
       refine qA _ rfl ?_
       refine WpL_nil (inB_normal (thn_normal (Wp_region ?_)))
       refine qV (r_add rfl rfl (wI64 (by omega))) ?_
       refine qM _ rfl ?_
       refine WpL_nil (thn_normal ?_)
       exact ⟨ob.length - (i + 1), by omega, i + 1, la3, lc3, m2 + 1, Fits.out ⟨rfl, rfl, rfl, rfl, rfl, rfl, trivial⟩, E, (by omega), (by rw [hpt]; simp only [List.length_append, hpl, List.length_singleton]; omega), (by rw [hpt, ← List.append_assoc, spanV_snoc]; exact Ov9), Nat.le_trans hbs2 Cv9.size, hor2.chg Cv9 (fun b hb h => by have := hap b h; omega), (fun x hx => by rcases Dv9 x hx with h | h; exact hap x h; exact .inr (by omega)), Nat.le_trans hn72 Cv9.size, rfl⟩
      ·have khlt2 := hlt2
       replace hlt2 := of_decide_eq_false hlt2
       have hii : i = ob.length := by omega
       rw [hii, List.take_length, List.append_assoc, ← hcs] at hm2 hown2
       refine Wp_exit (thn_exit (thn_exit (inB_here (inB_normal (thn_normal (Wp_region ?_))))))
       refine qV (r_add rfl rfl (wI64 (by omega))) ?_
       refine qM _ rfl ?_
       refine WpL_nil (thn_normal ?_)
       exact ⟨1000 - (k + 1), by omega, k + 1, la2, lc2, m2, Fits.out ⟨rfl, rfl, rfl, trivial⟩, E, (by omega), hm2, hown2, hbs2, rfl⟩
   ·have khlt := hlt
    replace hlt := of_decide_eq_false hlt
    have hk2 : k = 1000 := by omega
    rw [hk2] at hm1 hown
    have hcl2 := clo_len a 1000
    have hS : OwnS W2 base (.slice la1 m1 lc1) (closeAll a) := ⟨⟨la1, lc1, by rw [hm1]; rfl⟩, by have h9 := hown; rw [hm1] at h9 ⊢; exact h9⟩
    have hlen : (closeAll a).length ≤ 4000 := by unfold closeAll; rw [List.length_append]; omega
    have hsz9 : w0.heap.size ≤ (W2).heap.size := E.size
    refine Wp_exit (thn_exit (thn_exit (inB_here (thn_normal (Wp_seq_region ?_)))))
    refine qM _ rfl ?_
    refine WpL_enter rfl rfl (by decide) (r_callF Tryz.func121 nm121 bd121 rfl) (norm_n _ _ (closeAll a) hS.at (by omega)) ?_
    rintro _ w5 ⟨⟨out, e, hn, fa, fc, rfl, hsp⟩, X5⟩
    replace E := E.ext X5
    refine qV (r_extract rfl rfl) ?_
    refine qV (r_extract rfl rfl) ?_
    refine qA _ rfl ?_
    refine qA _ rfl ?_
    refine WpL_nil (Wp_ret ?_)
    refine fin_tmp2 Tryz.results91 (v := (.slice fa out.length fc)) (v' := (.int .i64 e)) rfl rfl ?_
    refine ⟨⟨out, e, .inr ⟨hc1, ?_⟩, fa, fc, rfl, hsp.mono fun y hy => by have h3 : _ ≤ y := hy; have := hsz9; omega⟩, E⟩
    rcases hn with ⟨⟨s, hs, hv⟩, _⟩ | ⟨_, j, hj, _, hf⟩
    ·exact absurd (close_ok ca s hs) hv
    ·exact ⟨j, hj, hf⟩
end Go.Proofs
namespace Go.Proofs
open Go Go.Eng
def revA (k : Int) (l : List Re) : List Re := if k = 3 then l.reverse else l
theorem revA_3 (l : List Re) : revA 3 l = l.reverse := rfl
theorem revA_ne {k : Int} (h : k ≠ 3) (l : List Re) : revA k l = l := if_neg h
mutual
def revT : Re → Re
  | .mk k set args mn mx ng => .mk k set (revA k (revTs args)) mn mx ng
def revTs : List Re → List Re
  | [] => []
  | t :: ts => revT t :: revTs ts
end
theorem revTs_map (ts : List Re) : revTs ts = ts.map revT := by
  induction ts with
  | nil => rfl
  | cons t ts ih => simp [revTs, ih]
theorem revT_mk (k : Int) (set : List (Int × Int)) (args : List Re) (mn mx : Int) (ng : Bool) : revT (.mk k set args mn mx ng) = .mk k set (revA k (args.map revT)) mn mx ng := by
 simp only [revT, revTs_map]
theorem revT_eq (t : Re) : revT t = .mk t.kind t.set (revA t.kind (t.args.map revT)) t.mn t.mx t.neg := by
 cases t; exact revT_mk _ _ _ _ _ _
end Go.Proofs
namespace Go.Proofs
open Go Go.Eng
set_option maxRecDepth 100000
set_option maxHeartbeats 1000000 in
theorem revr_c (w0 : World) (b c n : Nat) (l : List (List Value)) (rest : List Value) (hB : Blk w0 b (l.flatten ++ rest).toArray TRe) (hl : l.length ≤ 1000000000) (h6 : ∀ r ∈ l, r.length = 6) (h1 : ∀ r ∈ l, ∀ u ∈ r, u.oneCell' = true) (hn : l.length = n) :
  Ret Tryz.prog 90 #[.slice (some ⟨b, 0, none⟩) n c] w0 fun _ w => Blk w b (l.reverse.flatten ++ rest).toArray TRe ∧ Chg (fun x => x = b) w0 w := by
 subst hn
 refine Ret_of Tryz.func90 rfl Tryz.ntmps90 (Nat.le_of_ble_eq_true rfl) ?_
 have E : Chg (fun x => x = b) w0 w0 := Chg.refl _ _
 refine Wp_seq_region ?_
 refine qM _ rfl ?_
 refine qV (r_lenSlice Tryz.underlying23 rfl) ?_
 refine qV (r_sub rfl rfl (wI64 (by omega))) ?_
 refine qA _ rfl ?_
 refine qA _ rfl ?_
 refine WpL_nil (Wp_block ?_)
 refine Wp_loop (fun nn_ σ W1 => ∃ (i : Nat) (j : Int) (cur : List (List Value)), (∃ jj_, σ = upds jj_ [(0, (.slice (some ⟨b, 0, none⟩) l.length c)), (2, (I6 (i : Int))), (3, (I6 j))]) ∧ Chg (fun x => x = b) w0 W1 ∧ Blk W1 b ((cur.flatten ++ rest).toArray) TRe ∧ (j = (l.length : Int) - 1 - (i : Int)) ∧ (cur.length = l.length) ∧ (∀ k, k < l.length → cur[k]? = if k < i ∨ l.length - i ≤ k then l[l.length - 1 - k]? else l[k]?) ∧ (i ≤ l.length) ∧ (∀ r ∈ cur, r.length = 6 ∧ ∀ u ∈ r, u.oneCell' = true) ∧ nn_ = l.length - i) (n := l.length - 0) ?_ ?_
 ·exact ⟨0, ((l.length : Nat) : Int) - 1, l, Fits.out ⟨rfl, rfl, rfl, trivial⟩, E, hB, (by omega), rfl, (fun k hk => by rw [if_neg (by omega)]), Nat.zero_le _, (fun r hr => ⟨h6 r hr, h1 r hr⟩), rfl⟩
 ·clear E hB
  rintro _ _ W1 ⟨i, j, cur, ⟨j1, rfl⟩, E, hB, hj, hcl, hget, hi, hc6, rfl⟩
  refine Wp_seq (Wp_seq_region ?_)
  refine qM _ rfl ?_
  refine qM _ rfl ?_
  refine qV (r_lss rfl rfl) ?_
  refine WpL_nil ?_
  refine Wp_cond rfl (fun hlt => ?_) (fun hlt => ?_)
  ·have khlt := hlt
   replace hlt := of_decide_eq_true hlt
   obtain ⟨x, hx⟩ := get_of_lt (l := cur) (i := i) (by omega)
   obtain ⟨y, hy⟩ := get_of_lt (l := cur) (i := l.length - 1 - i) (by omega)
   have hx6 := hc6 x (List.mem_of_getElem? hx)
   have hy6 := hc6 y (List.mem_of_getElem? hy)
   have hcc : ∀ r ∈ cur, r.length = 6 := fun r hr => (hc6 r hr).1
   have hcc2 : ∀ r ∈ cur.set i y, r.length = 6 := fun r hr => by rcases List.mem_or_eq_of_mem_set hr with h | h; exact hcc r h; rw [h]; exact hy6.1
   refine Wp_skip (thn_normal (Wp_seq (Wp_block ?_)))
   obtain ⟨Fs3, hFs3⟩ : ∃ Fs : List (FactT ((fun x => x = b))), Fs = [.eq (.slice (some ⟨b, 0, none⟩) l.length c), .eq (I6 (i : Int)), .eq (.slice (some ⟨b, 0, none⟩) l.length c), .eq (I6 j), .eq (.slice (some ⟨b, 0, none⟩) l.length c), .eq (I6 j), .eq (.pointer (some ⟨b, 0 + (l.length - 1 - i) * 6, none⟩)), .eq (.agg y.toArray), .eq (.slice (some ⟨b, 0, none⟩) l.length c), .eq (I6 (i : Int)), .eq (.pointer (some ⟨b, 0 + i * 6, none⟩)), .eq (.agg x.toArray), .eq (.pointer (some ⟨b, 0 + i * 6, none⟩)), .own (fun _ w => Blk w b ((cur.set i y).flatten ++ rest).toArray TRe) (fun _ _ _ e h => Ext.keep e h)] := ⟨_, rfl⟩
   refine Wp_dagT ((fun x => x = b)) 14 13 [14, 15, 16, 17, 18, 19, 20, 21, 22, 23, 24, 25, 26, 41] [[], [], [], [], [], [], [4, 5], [6], [], [], [8, 9], [10], [0, 1, 4, 5, 6, 7, 11], [0, 1, 4, 5, 6, 7, 11, 12]] Fs3 hFs3 rfl mixed (by kernel_rfl) (by kernel_rfl) (by kernel_rfl) ?_ ?_
   ·intro wd X0
    refine DagStepsT.cons (fun s' w' X U H => ?_) ?_
    ·exact DoesT_val (r_move (U 0 rfl)) (Chg.refl _ _) rfl
    refine DagStepsT.cons (fun s' w' X U H => ?_) ?_
    ·exact DoesT_val (r_move (U 2 rfl)) (Chg.refl _ _) rfl
    refine DagStepsT.cons (fun s' w' X U H => ?_) ?_
    ·exact DoesT_val (r_move (U 0 rfl)) (Chg.refl _ _) rfl
    refine DagStepsT.cons (fun s' w' X U H => ?_) ?_
    ·exact DoesT_val (r_move (U 3 rfl)) (Chg.refl _ _) rfl
    refine DagStepsT.cons (fun s' w' X U H => ?_) ?_
    ·exact DoesT_val (r_move (U 0 rfl)) (Chg.refl _ _) rfl
    refine DagStepsT.cons (fun s' w' X U H => ?_) ?_
    ·exact DoesT_val (r_move (U 3 rfl)) (Chg.refl _ _) rfl
    refine DagStepsT.cons (fun s' w' X U H => ?_) ?_
    ·have e18 : s' 18 = (.slice (some ⟨b, 0, none⟩) l.length c) := H 4 rfl 18 (.eq (.slice (some ⟨b, 0, none⟩) l.length c)) rfl (by rw [hFs3]; rfl)
     have e19 : s' 19 = (.int .i64 j) := H 5 rfl 19 (.eq (.int .i64 j)) rfl (by rw [hFs3]; rfl)
     exact DoesT_val (r_indexSlice (i := l.length - 1 - i) e18 e19 (by omega) Tryz.underlying23 siz25 (by omega) (by omega)) (Chg.refl _ _) rfl
    refine DagStepsT.cons (fun s' w' X U H => ?_) ?_
    ·have e20 : s' 20 = (.pointer (some ⟨b, 0 + (l.length - 1 - i) * 6, none⟩)) := H 6 rfl 20 (.eq (.pointer (some ⟨b, 0 + (l.length - 1 - i) * 6, none⟩))) rfl (by rw [hFs3]; rfl)
     exact DoesT_val (r_loadAgg e20 agg25 siz25 (hy6.1) (by rw [Nat.zero_add]; exact (Chg.keep X (fun f => f) (X0.keep hB) |> fun h => rows_at h hcc hy))) (Chg.refl _ _) rfl
    refine DagStepsT.cons (fun s' w' X U H => ?_) ?_
    ·exact DoesT_val (r_move (U 0 rfl)) (Chg.refl _ _) rfl
    refine DagStepsT.cons (fun s' w' X U H => ?_) ?_
    ·exact DoesT_val (r_move (U 2 rfl)) (Chg.refl _ _) rfl
    refine DagStepsT.cons (fun s' w' X U H => ?_) ?_
    ·have e22 : s' 22 = (.slice (some ⟨b, 0, none⟩) l.length c) := H 8 rfl 22 (.eq (.slice (some ⟨b, 0, none⟩) l.length c)) rfl (by rw [hFs3]; rfl)
     have e23 : s' 23 = (.int .i64 ((i : Nat) : Int)) := H 9 rfl 23 (.eq (.int .i64 ((i : Nat) : Int))) rfl (by rw [hFs3]; rfl)
     exact DoesT_val (r_indexSlice (i := i) e22 e23 (by omega) Tryz.underlying23 siz25 (by omega) (by omega)) (Chg.refl _ _) rfl
    refine DagStepsT.cons (fun s' w' X U H => ?_) ?_
    ·have e24 : s' 24 = (.pointer (some ⟨b, 0 + i * 6, none⟩)) := H 10 rfl 24 (.eq (.pointer (some ⟨b, 0 + i * 6, none⟩))) rfl (by rw [hFs3]; rfl)
     exact DoesT_val (r_loadAgg e24 agg25 siz25 (hx6.1) (by rw [Nat.zero_add]; exact (Chg.keep X (fun f => f) (X0.keep hB) |> fun h => rows_at h hcc hx))) (Chg.refl _ _) rfl
    refine DagStepsT.cons (fun s' w' X U H => ?_) ?_
    ·have e14 : s' 14 = (.slice (some ⟨b, 0, none⟩) l.length c) := H 0 rfl 14 (.eq (.slice (some ⟨b, 0, none⟩) l.length c)) rfl (by rw [hFs3]; rfl)
     have e15 : s' 15 = (.int .i64 ((i : Nat) : Int)) := H 1 rfl 15 (.eq (.int .i64 ((i : Nat) : Int))) rfl (by rw [hFs3]; rfl)
     exact DoesT_val (r_indexSlice (i := i) e14 e15 (by omega) Tryz.underlying23 siz25 (by omega) (by omega)) (Chg.refl _ _) rfl
    refine DagStepsT.cons (fun s' w' X U H => ?_) ?_
    ·have e26 : s' 26 = (.pointer (some ⟨b, 0 + i * 6, none⟩)) := H 12 rfl 26 (.eq (.pointer (some ⟨b, 0 + i * 6, none⟩))) rfl (by rw [hFs3]; rfl)
     have e21 : s' 21 = (.agg y.toArray) := H 7 rfl 21 (.eq (.agg y.toArray)) rfl (by rw [hFs3]; rfl)
     exact DoesT_storeAgg e26 e21 (by simpa using hy6.2) siz25 (by simpa using hy6.1) (Chg.keep X (fun f => f) (X0.keep hB)) (by have := rows_len hcc; simp only [List.size_toArray, List.length_append]; omega) rfl (fun w9 h => by have h2 := h.blk; rw [Nat.zero_add] at h2; rw [show (List.take (i * 6) (cur.flatten ++ rest).toArray.toList ++ y.toArray.toList ++ List.drop (i * 6 + 6) (cur.flatten ++ rest).toArray.toList) = (cur.set i y).flatten ++ rest from rows_set hy6.1 hcc (by omega)] at h2; exact h2)
    exact DagStepsT.nil
   ·intro s' wd3 w3 X0 X3 U H
    have e16 : s' 16 = (.slice (some ⟨b, 0, none⟩) l.length c) := H 2 16 (.eq (.slice (some ⟨b, 0, none⟩) l.length c)) rfl (by rw [hFs3]; rfl)
    have e17 : s' 17 = (.int .i64 j) := H 3 17 (.eq (.int .i64 j)) rfl (by rw [hFs3]; rfl)
    have e25 : s' 25 = (.agg x.toArray) := H 11 25 (.eq (.agg x.toArray)) rfl (by rw [hFs3]; rfl)
    obtain hB := (show (.own (fun _ w => Blk w b ((cur.set i y).flatten ++ rest).toArray TRe) (fun _ _ _ e h => Ext.keep e h) : FactT ((fun x => x = b))).In (s' 41) w3 from H 13 41 (.own (fun _ w => Blk w b ((cur.set i y).flatten ++ rest).toArray TRe) (fun _ _ _ e h => Ext.keep e h)) rfl (by rw [hFs3]; rfl))
    obtain ⟨j3, rfl⟩ := Fits.out (σ := s') (l := [(0, (.slice (some ⟨b, 0, none⟩) l.length c)), (2, (.int .i64 ((i : Nat) : Int))), (3, (.int .i64 j)), (16, (.slice (some ⟨b, 0, none⟩) l.length c)), (17, (.int .i64 j)), (25, (.agg x.toArray))]) ⟨U 0 rfl, U 2 rfl, U 3 rfl, e16, e17, e25, trivial⟩
    clear U H
    replace E := (E.ext X0).step X3 (fun x _ h => h)
    refine qV (r_indexSlice (b := b) (o := 0) (len := l.length) (cap := c) (i := l.length - 1 - i) (o' := 0 + (l.length - 1 - i) * 6) rfl rfl (by omega) Tryz.underlying23 siz25 (by omega) (by omega)) ?_
    refine s_storeAgg (b := b) (o := 0 + (l.length - 1 - i) * 6) (n := 6) (c' := (((cur.set i y).set (l.length - 1 - i) x).flatten ++ rest).toArray) (vs := x.toArray) rfl rfl (by simpa using hx6.2) siz25 (by simpa using hx6.1) hB (by have := rows_len hcc2; simp only [List.length_set] at this; simp only [List.size_toArray, List.length_append]; omega) (by rw [Nat.zero_add]; exact congrArg List.toArray (rows_set (k := 6) (v := x) (rows := cur.set i y) (i := l.length - 1 - i) (rest := rest) hx6.1 hcc2 (by simp; omega))) ?_
    intro w4 S4
    replace E := S4.step E (by first | exact Or.inl (by omega) | exact Or.inr rfl | exact Or.inr (by assumption) | exact Or.inr (by simp) | exact Or.inr (by omega) | exact Or.inr (by dsimp only; omega))
    replace hB := S4.blk
    refine WpL_nil (inB_normal (thn_normal (Wp_region ?_)))
    refine qM _ rfl ?_
    refine qV (r_add rfl rfl (wI64 (by omega))) ?_
    refine qM _ rfl ?_
    refine qV (r_sub rfl rfl (wI64 (by omega))) ?_
    refine qA _ rfl ?_
    refine qA _ rfl ?_
    refine WpL_nil (thn_normal ?_)
    exact ⟨l.length - (i + 1), by omega, i + 1, j - 1, (cur.set i y).set (l.length - 1 - i) x, Fits.out ⟨rfl, rfl, rfl, trivial⟩, E, hB, (by omega), (by simpa using hcl), rev_step hcl (by omega) hget hx hy, (by omega), (fun r hr => by rcases List.mem_or_eq_of_mem_set hr with h | h; rcases List.mem_or_eq_of_mem_set h with h | h; exact hc6 r h; rw [h]; exact hy6; rw [h]; exact hx6), rfl⟩
  ·have khlt := hlt
   replace hlt := of_decide_eq_false hlt
   refine Wp_exit (thn_exit (thn_exit (inB_here ?_)))
   refine fin_none Tryz.results90 ?_
   rw [← rev_done rfl hcl (by omega) hget]; exact ⟨hB, E⟩
theorem revr0_c (w0 : World) (a : Option Addr) (c n : Nat) (hn : n = 0) :
  Ret Tryz.prog 90 #[.slice a n c] w0 fun _ w => Ext w0 w := by
 subst hn
 refine Ret_of Tryz.func90 rfl Tryz.ntmps90 (Nat.le_of_ble_eq_true rfl) ?_
 have E : Chg none1 w0 w0 := Chg.refl _ _
 refine Wp_seq_region ?_
 refine qM _ rfl ?_
 refine qV (r_lenSlice Tryz.underlying23 rfl) ?_
 refine qV (r_sub (c := (-1)) rfl rfl (by decide)) ?_
 refine qA _ rfl ?_
 refine qA _ rfl ?_
 refine WpL_nil (Wp_block ?_)
 refine Wp_loop (fun nn_ σ W1 => (∃ jj_, σ = upds jj_ [(0, (.slice a 0 c)), (2, (I6 0)), (3, (I6 (-1)))]) ∧ Chg none1 w0 W1 ∧ nn_ = 0) (n := 0) ?_ ?_
 ·exact ⟨Fits.out ⟨rfl, rfl, rfl, trivial⟩, E, rfl⟩
 ·clear E
  rintro _ _ W1 ⟨⟨j1, rfl⟩, E, rfl⟩
  refine Wp_seq (Wp_seq_region ?_)
  refine qM _ rfl ?_
  refine qM _ rfl ?_
  refine qV (r_lss rfl rfl) ?_
  refine WpL_nil ?_
  refine Wp_cond_false rfl ?_
  refine Wp_exit (thn_exit (thn_exit (inB_here ?_)))
  refine fin_none Tryz.results90 ?_
  exact E
theorem RowsIn.reverse {S : Nat → Prop} {w : World} : ∀ {ts : List Re} {rows : List (List Value)}, RowsIn S w ts rows → RowsIn S w ts.reverse rows.reverse
  | [], _, h => by simp only [RowsIn] at h; subst h; rfl
  | t :: ts, rows, h => by
    obtain ⟨r, rs, rfl, h2, h3⟩ := h
    rw [List.reverse_cons, List.reverse_cons]
    exact RowsIn.append (RowsIn.single h2) (RowsIn.reverse h3)
set_option maxHeartbeats 4000000 in
theorem rev_c : ∀ (n : Nat) (t : Re) (w0 : World) (vs : List Value) (Z L : Nat → Prop), t.size ≤ n → t.size ≤ 1000000 → Tree Z w0 t vs L → (∀ y, Z y → ¬ L y) → (∀ y, Z y ∨ L y → y < w0.heap.size) →
    Ret Tryz.prog 53 #[.agg vs.toArray] w0 fun v w => normF (fun y => Z y ∨ L y ∨ w0.heap.size ≤ y) (revT t) v w ∧ Chg L w0 w := by
  intro n
  induction n with
  | zero => intro t w0 vs Z L hn; have := t.size_pos; omega
  | succ n ih =>
  intro t w0 vs Z L hn hM hT hz hb
  obtain ⟨sa, sc, aa, ac, rfl, hset, hac, hta⟩ := hT.form
  have hal := len_sizes t.args
  have hsze := t.size_eq
  refine Ret_of Tryz.func53 rfl Tryz.ntmps53 (Nat.le_of_ble_eq_true rfl) ?_
  have E : Chg L w0 w0 := Chg.refl _ _
  have E5 : Chg none1 w0 w0 := Chg.refl _ _
  refine Wp_seq_region ?_
  refine s_box (v := (.agg (R6 t sa sc aa ac))) (c := (R6 t sa sc aa ac)) (by decide) rfl rfl ?_
  intro br wr Nr
  have Fr := Nr.ge E
  have Fr_E5 := Nr.ge E5
  replace E := E.ext Nr.ext
  have Br := Nr.blk
  replace E5 := E5.ext Nr.ext
  refine s_alloc (c := #[(I6 0), (.slice none 0 0), (.slice none 0 0), (I6 0), (I6 0), (.bool false)]) (by decide) zer25 rfl ?_
  intro bo wo No
  have Fo := No.ge E
  have Fo_E5 := No.ge E5
  have Oo_br := No.lt Br
  replace Br := No.keep Br
  replace E := E.ext No.ext
  have Bo := No.blk
  replace E5 := E5.ext No.ext
  refine WpL_nil (Wp_seq (Wp_seq_region ?_))
  refine qF br 0 2 rfl Tryz.underlying25 rfl siz23 rfl ?_
  refine qV (r_load rfl flat23 (Br.cell rfl)) ?_
  refine qV (r_lenSlice Tryz.underlying23 rfl) ?_
  refine qM _ rfl ?_
  refine WpL_nil (Wp_block ?_)
  obtain ⟨n1, hn1⟩ : ∃ n1, n1 = wo.heap.size := ⟨_, rfl⟩
  have hbo : bo < n1 := by rw [hn1]; exact Bo.lt
  have hbr : br < n1 := by omega
  have hst : NSt revT Z L n1 wo aa t.args 0 := NSt.ext (nst_start hta) E5
  have hb1 : ∀ y, Z y ∨ L y → y < n1 := fun y hy => by have := hb y hy; omega
  have hne : ∀ y, Z y ∨ L y ∨ n1 ≤ y → ¬ y = bo := by
    rintro y (h | h | h) he
    · have := hb y (.inl h); omega
    · have := hb y (.inr h); omega
    · omega
  have hmo : ∀ y, Z y ∨ L y ∨ n1 ≤ y → Z y ∨ L y ∨ w0.heap.size ≤ y := by
    rintro y (h | h | h)
    · exact .inl h
    · exact .inr (.inl h)
    · exact .inr (.inr (by omega))
  refine Wp_loop (fun nn_ σ W1 => ∃ (k : Nat), (∃ jj_, σ = upds jj_ [(1, (P6 br 0)), (2, (P6 bo 0)), (6, (.slice aa t.args.length ac)), (7, (I6 (t.args.length : Int))), (8, (I6 (k : Int)))]) ∧ Chg L w0 W1 ∧ Blk W1 br (R6 t sa sc aa ac) 25 ∧ Blk W1 bo #[(I6 0), (.slice none 0 0), (.slice none 0 0), (I6 0), (I6 0), (.bool false)] 25 ∧ (k ≤ t.args.length) ∧ (NSt revT Z L n1 W1 aa t.args k) ∧ (n1 ≤ W1.heap.size) ∧ nn_ = t.args.length - k) (n := t.args.length - 0) ?_ ?_
  · exact ⟨0, Fits.out ⟨rfl, rfl, rfl, rfl, rfl, trivial⟩, E, Br, Bo, Nat.zero_le _, hst, (by omega), rfl⟩
  · clear E Br Bo
    rintro _ _ W1 ⟨k, ⟨j1, rfl⟩, E, Br, Bo, hk, hst, hsz1, rfl⟩
    refine Wp_seq_region ?_
    refine qV (r_lss rfl rfl) ?_
    refine WpL_nil (Wp_seq ?_)
    refine Wp_cond rfl (fun hlt => ?_) (fun hlt => ?_)
    · have khlt := hlt
      replace hlt := of_decide_eq_true hlt
      obtain ⟨x, hx⟩ := get_of_lt (l := t.args) (i := k) (by omega)
      obtain ⟨b, rows, rest, D, K, rfl, hLb, hB, hR, hT, hl, h6, hD, hK⟩ := hst.resolve_left (fun h => by rw [h] at hx; simp at hx)
      have hbb := hb b (.inr hLb)
      rw [drop_cons hx] at hT
      simp only [Trees] at hT
      obtain ⟨xs, rs2, L1, K2, hrows, hTx, hT2, h1, h2⟩ := hT
      obtain ⟨hrx, rfl⟩ := drop_head hrows
      have hTx0 := hTx
      obtain ⟨sa2, sc2, aa2, ac2, rfl, _, _, _⟩ := hTx.form
      have hLL : ∀ y, L1 y → L y := fun y hy => (hK y (h1 y hy).1).1
      have E4 : Chg none1 W1 W1 := Chg.refl _ _
      refine Wp_skip (thn_normal (Wp_seq (Wp_block (Wp_seq_region ?_))))
      refine qM _ rfl ?_
      refine qV (r_indexSlice (b := b) (o := 0) (len := t.args.length) (cap := ac) (i := k) (o' := 0 + k * 6) rfl rfl rfl Tryz.underlying23 siz25 (by omega) (by omega)) ?_
      refine qV (r_loadAgg rfl agg25 siz25 rfl (by rw [Nat.zero_add]; exact rows_at hB h6 hrx)) ?_
      refine s_alloc (c := #[(I6 0), (.slice none 0 0), (.slice none 0 0), (I6 0), (I6 0), (.bool false)]) (by decide) zer25 rfl ?_
      intro bs ws Ns
      have Fs := Ns.ge E
      have Fs_E4 := Ns.ge E4
      have Os_br := Ns.lt Br
      have Os_bo := Ns.lt Bo
      have Os_b := Ns.lt hB
      replace Br := Ns.keep Br
      replace Bo := Ns.keep Bo
      replace hB := Ns.keep hB
      replace E := E.ext Ns.ext
      have Bs := Ns.blk
      replace E4 := E4.ext Ns.ext
      refine qA _ rfl ?_
      refine s_storeAgg (b := bs) (o := 0) (c' := (R6 x sa2 sc2 aa2 ac2)) rfl rfl (by simp [Value.oneCell']) siz25 rfl Bs (by first | (simp; done) | exact Nat.le_of_ble_eq_true rfl) rfl ?_
      intro w3 S3
      replace Br := S3.keep (by omega) Br
      replace Bo := S3.keep (by omega) Bo
      replace hB := S3.keep (by omega) hB
      replace E := S3.step E (by first | exact Or.inl (by omega) | exact Or.inr rfl | exact Or.inr (by assumption) | exact Or.inr (by simp) | exact Or.inr (by omega) | exact Or.inr (by dsimp only; omega))
      replace E4 := S3.step E4 (Or.inl (by omega))
      replace Bs := S3.blk
      refine WpL_nil ?_
      obtain ⟨Fs4, hFs4⟩ : ∃ Fs : List (FactT (L1)), Fs = [.eq (P6 br 2), .eq (.slice (some ⟨b, 0, none⟩) t.args.length ac), .eq (I6 (k : Int)), .eq (.agg (R6 x sa2 sc2 aa2 ac2)), .own (normF (fun y => Z y ∨ L1 y ∨ n1 ≤ y) (revT x)) (normF_ext _ _)] := ⟨_, rfl⟩
      refine Wp_dagT (L1) 5 4 [13, 14, 15, 16, 17] [[], [0], [], [], [3]] Fs4 hFs4 rfl mixed (by kernel_rfl) (by kernel_rfl) (by kernel_rfl) ?_ ?_
      · intro wd X0
        refine DagStepsT.cons (fun s' w' X U H => ?_) ?_
        · exact DoesT_val (r_fieldAddr (U 1 rfl) Tryz.underlying25 rfl siz23 rfl) (Chg.refl _ _) rfl
        refine DagStepsT.cons (fun s' w' X U H => ?_) ?_
        · have e13 : s' 13 = (.pointer (some ⟨br, 2, none⟩)) := H 0 rfl 13 (.eq (.pointer (some ⟨br, 2, none⟩))) rfl (by rw [hFs4]; rfl)
          exact DoesT_val (r_load e13 flat23 ((Chg.keep X (fun h => by have := hb br (.inr (hLL _ h)); omega) (X0.keep Br)).cell rfl)) (Chg.refl _ _) rfl
        refine DagStepsT.cons (fun s' w' X U H => ?_) ?_
        · exact DoesT_val (r_move (U 3 rfl)) (Chg.refl _ _) rfl
        refine DagStepsT.cons (fun s' w' X U H => ?_) ?_
        · exact DoesT_val (r_loadAgg (U 4 rfl) agg25 siz25 rfl ((Chg.keep X (fun f => f) (X0.keep Bs)).cells rfl)) (Chg.refl _ _) rfl
        refine DagStepsT.cons (fun s' w' X U H => ?_) ?_
        · have e16 : s' 16 = (.agg #[(.int .i64 x.kind), (.slice sa2 x.set.length sc2), (.slice aa2 x.args.length ac2), (.int .i64 x.mn), (.int .i64 x.mx), (.bool x.neg)]) := H 3 rfl 16 (.eq (.agg #[(.int .i64 x.kind), (.slice sa2 x.set.length sc2), (.slice aa2 x.args.length ac2), (.int .i64 x.mn), (.int .i64 x.mx), (.bool x.neg)])) rfl (by rw [hFs4]; rfl)
          exact DoesT_enter (r_callF Tryz.func53 nm53 bd53 (lst1 e16)) ((ih x _ _ Z L1 (by have := Re.size_arg hx; omega) (by have := Re.size_arg hx; omega) (Tree.ext ((Ext.trans E4 X0).trans X) x hTx0) (fun y hy h => hz y hy (hLL y h)) (fun y hy => by have := hb1 y (hy.imp id (hLL y)); have := E4.size; have := X0.size; have := X.size; omega)).mono (fun v w2 h => ⟨normF_mono (by rintro y (h | h | h); exact .inl h; exact .inr (.inl h); exact .inr (.inr (by have := E4.size; have := X0.size; have := X.size; omega))) h.1, h.2⟩))
        exact DagStepsT.nil
      · intro s' wd4 w4 X0 X4 U H
        have e14 : s' 14 = (.slice (some ⟨b, 0, none⟩) t.args.length ac) := H 1 14 (.eq (.slice (some ⟨b, 0, none⟩) t.args.length ac)) rfl (by rw [hFs4]; rfl)
        have e15 : s' 15 = (.int .i64 ((k : Nat) : Int)) := H 2 15 (.eq (.int .i64 ((k : Nat) : Int))) rfl (by rw [hFs4]; rfl)
        obtain ⟨v17, e17, r17⟩ := (show (.own (normF (fun y => Z y ∨ L1 y ∨ n1 ≤ y) (revT x)) (normF_ext _ _) : FactT (L1)).In (s' 17) w4 from H 4 17 (.own (normF (fun y => Z y ∨ L1 y ∨ n1 ≤ y) (revT x)) (normF_ext _ _)) rfl (by rw [hFs4]; rfl))
        obtain ⟨j4, rfl⟩ := Fits.out (σ := s') (l := [(1, (.pointer (some ⟨br, 0, none⟩))), (2, (.pointer (some ⟨bo, 0, none⟩))), (6, (.slice (some ⟨b, 0, none⟩) t.args.length ac)), (7, (.int .i64 ((t.args.length : Nat) : Int))), (8, (.int .i64 ((k : Nat) : Int))), (14, (.slice (some ⟨b, 0, none⟩) t.args.length ac)), (15, (.int .i64 ((k : Nat) : Int))), (17, (.agg v17.toArray))]) ⟨U 1 rfl, U 2 rfl, U 6 rfl, U 7 rfl, U 8 rfl, e14, e15, e17, trivial⟩
        clear U H
        replace Br := Chg.keep X4 (fun h => by have := hb br (.inr (hLL _ h)); omega) (X0.keep Br)
        replace Bo := Chg.keep X4 (fun h => by have := hb bo (.inr (hLL _ h)); omega) (X0.keep Bo)
        replace hB := Chg.keep X4 (fun h => (hK b (h1 b h).1).2 rfl) (X0.keep hB)
        replace Bs := Chg.keep X4 (fun h => by have := hb bs (.inr (hLL _ h)); omega) (X0.keep Bs)
        have C12 := X4
        replace E := (E.ext X0).step X4 (fun y _ hy => hLL y hy)
        have hP3 : True := trivial
        refine qV (r_indexSlice (b := b) (o := 0) (len := t.args.length) (cap := ac) (i := k) (o' := 0 + k * 6) rfl rfl rfl Tryz.underlying23 siz25 (by omega) (by omega)) ?_
        refine s_storeAgg (b := b) (o := 0 + k * 6) (n := 6) (c' := ((rows.set k v17).flatten ++ rest).toArray) (vs := v17.toArray) rfl rfl (by simpa using ReAt.one (ReIn.at _ r17)) siz25 (by simpa using r17.len) hB (by have := rows_len h6; simp only [List.size_toArray, List.length_append]; omega) (by rw [Nat.zero_add]; exact congrArg List.toArray (rows_set (k := 6) (v := v17) (rows := rows) (i := k) (rest := rest) r17.len h6 (by omega))) ?_
        intro w5 S5
        replace hP3 := S5
        replace Br := S5.keep (by omega) Br
        replace Bo := S5.keep (by omega) Bo
        replace Bs := S5.keep (by omega) Bs
        replace E := S5.step E (by first | exact Or.inl (by omega) | exact Or.inr rfl | exact Or.inr (by assumption) | exact Or.inr (by simp) | exact Or.inr (by omega) | exact Or.inr (by dsimp only; omega))
        replace hB := S5.blk
        refine WpL_nil (inB_normal (thn_normal (Wp_region ?_)))
        refine qV (r_add rfl rfl (wI64 (by omega))) ?_
        refine qM _ rfl ?_
        refine WpL_nil (thn_normal ?_)
        exact ⟨t.args.length - (k + 1), by omega, k + 1, Fits.out ⟨rfl, rfl, rfl, rfl, rfl, trivial⟩, E, Br, Bo, (by omega), nst_step hz hb1 hLb hx (RowsIn.ext (Ext.trans E4 X0) hR) (Trees.ext (Ext.trans E4 X0) _ hT2) hl h6 hD hK h1 h2 C12 r17 hP3, (by have := hP3.size; have := C12.size; have := X0.size; have := E4.size; omega), rfl⟩
    · have khlt := hlt
      replace hlt := of_decide_eq_false hlt
      have hkk : k = t.args.length := by omega
      subst hkk
      refine Wp_exit (thn_exit (thn_exit (inB_here (thn_normal ?_))))
      refine Wp_cut (fun σ W6 => (∃ jj_, σ = upds jj_ [(1, (P6 br 0)), (2, (P6 bo 0))]) ∧ Chg L w0 W6 ∧ Blk W6 br (R6 t sa sc aa ac) 25 ∧ Blk W6 bo #[(I6 0), (.slice none 0 0), (.slice none 0 0), (I6 0), (I6 0), (.bool false)] 25 ∧ (RsIn (fun y => Z y ∨ L y ∨ n1 ≤ y) W6 (.slice aa t.args.length ac) (revA t.kind (t.args.map revT)))) ?_ ?_
      · skip
        refine Wp_seq_region ?_
        refine qF br 0 0 rfl Tryz.underlying25 rfl siz3 rfl ?_
        refine qV (r_load rfl flat3 (Br.cell rfl)) ?_
        refine qV (r_eql rfl rfl) ?_
        refine WpL_nil ?_
        refine Wp_cond rfl (fun h3 => ?_) (fun h3 => ?_)
        · have kh3 := h3
          replace h3 := of_decide_eq_true h3
          have hfin : t.args = [] ∨ t.args ≠ [] := Classical.em _
          rcases Bool.eq_false_or_eq_true (decide (t.args = [])) with hnil | hnil
          · have khnil := hnil
            replace khnil := of_decide_eq_true khnil
            have hrs0 : RsIn (fun y => Z y ∨ L y ∨ n1 ≤ y) (W1) (.slice aa t.args.length ac) (revA t.kind (t.args.map revT)) := ⟨aa, ac, by rw [khnil, show revA t.kind ([].map revT) = [] from by unfold revA; split <;> rfl], by rw [khnil, show revA t.kind ([].map revT) = [] from by unfold revA; split <;> rfl]; exact ⟨Nat.zero_le _, hac.2⟩, .inl (by rw [khnil, show revA t.kind ([].map revT) = [] from by unfold revA; split <;> rfl])⟩
            refine Wp_region ?_
            refine qF br 0 2 rfl Tryz.underlying25 rfl siz23 rfl ?_
            refine qV (r_load rfl flat23 (Br.cell rfl)) ?_
            refine WpL_enter rfl rfl (by decide) (r_callF Tryz.func90 nm90 bd90 rfl) ((revr0_c _ aa ac _ (by rw [khnil]; rfl))) ?_
            rintro _ w9 X9
            replace Br := X9.keep Br
            replace Bo := X9.keep Bo
            replace E := E.ext X9
            refine WpL_nil (thn_normal ?_)
            exact ⟨Fits.out ⟨rfl, rfl, trivial⟩, E, Br, Bo, RsIn.ext hrs0 X9⟩
          · have khnil := hnil
            replace khnil := of_decide_eq_false khnil
            obtain ⟨b, rows, rest, D, K, rfl, hLb, hB, hR, hT, hl, h6, hD, hK⟩ := hst.resolve_left khnil
            have hbb := hb b (.inr hLb)
            rw [List.take_length, List.take_of_length_le (by omega)] at hR
            refine Wp_region ?_
            refine qF br 0 2 rfl Tryz.underlying25 rfl siz23 rfl ?_
            refine qV (r_load rfl flat23 (Br.cell rfl)) ?_
            refine WpL_enter rfl rfl (by decide) (r_callF Tryz.func90 nm90 bd90 rfl) (revr_c _ b ac _ rows rest hB (by omega) h6 (fun r hr u hu => hR.one u (List.mem_flatten.2 ⟨r, hr, hu⟩)) hl) ?_
            rintro _ w9 ⟨hB9, C9⟩
            replace Br := C9.keep (by omega) Br
            replace Bo := C9.keep (by omega) Bo
            replace E := E.step C9 (fun y _ hy => by rw [hy]; exact hLb)
            refine WpL_nil (thn_normal ?_)
            exact ⟨Fits.out ⟨rfl, rfl, trivial⟩, E, Br, Bo, ⟨some ⟨b, 0, none⟩, ac, by rw [show t.kind = 3 from h3, revA_3]; simp, by rw [show t.kind = 3 from h3, revA_3]; simpa using hac, .inr ⟨b, 0, .inr (.inl hLb), rfl, by rw [show t.kind = 3 from h3, revA_3]; refine resin_of fun i u hu => ?_; obtain ⟨r, h10, h11⟩ := (RowsIn.reverse (RowsIn.chg C9 (fun y hy he => by have he' : y = b := he; subst he'; rcases hy with h | h | h; exact hz y h hLb; exact (hD y h).2.1 rfl; omega) hR)).get hu; exact ⟨r, by rw [Nat.zero_add]; exact rows_at hB9 (fun r hr => h6 r (List.mem_reverse.1 hr)) h10, ReIn.mono (fun y hy => by rcases hy with h | h | h; exact .inl h; exact .inr (.inl (hD y h).1); exact .inr (.inr h)) u h11⟩⟩⟩⟩
        · have kh3 := h3
          replace h3 := of_decide_eq_false h3
          refine Wp_skip (thn_normal ?_)
          exact ⟨Fits.out ⟨rfl, rfl, trivial⟩, E, Br, Bo, (by have h := nst_end hst hac; rw [revA_ne h3]; exact h)⟩
      · clear E Br Bo
        rintro _ W6 ⟨⟨j6, rfl⟩, E, Br, Bo, hrs⟩
        have hC9 : Chg (fun y => y = bo) (W6) (W6) := Chg.refl _ _
        have hset9 := SlIn.chg hset E (fun y hy => hz y hy)
        refine Wp_seq_region ?_
        refine qV (r_loadAgg (vs := [(I6 t.kind), (.slice sa t.set.length sc), (.slice aa t.args.length ac), (I6 t.mn), (I6 t.mx), (.bool t.neg)]) rfl agg25 siz25 rfl (Br.cells rfl)) ?_
        refine s_storeAgg (b := bo) (o := 0) (c' := (R6 t sa sc aa ac)) rfl rfl (by simp [Value.oneCell']) siz25 rfl Bo (by first | (simp; done) | exact Nat.le_of_ble_eq_true rfl) rfl ?_
        intro w8 S8
        replace hC9 := S8.chg
        replace Br := S8.keep (by omega) Br
        replace E := S8.step E (by first | exact Or.inl (by omega) | exact Or.inr rfl | exact Or.inr (by assumption) | exact Or.inr (by simp) | exact Or.inr (by omega) | exact Or.inr (by dsimp only; omega))
        replace Bo := S8.blk
        refine WpL_nil (Wp_ret ?_)
        refine fin_agg Tryz.results53 (vs := [(.int .i64 t.kind), (.slice sa t.set.length sc), (.slice aa t.args.length ac), (.int .i64 t.mn), (.int .i64 t.mx), (.bool t.neg)]) (b := bo) rfl agg25 siz25 rfl (Bo.cells rfl) ?_
        refine ⟨⟨_, rfl, ?_⟩, E⟩
        rw [revT_eq]
        exact re_ret hset9 (fun y hy => .inl hy) hrs hC9 hne hmo
end Go.Proofs
namespace Go.Proofs
open Go Go.Eng
set_option maxRecDepth 100000
mutual
theorem ok_sets : ∀ (t : Re), okRe t → setsOk t
  | .mk k set args mn mx ng, h => by
    have h1 := okRe_node h
    have h2 := okRe_form h
    have h3 := okRe_args h
    simp only [setsOk]
    refine ⟨?_, oks_sets args h3⟩
    obtain ⟨ha, hb, hf⟩ := h2
    by_cases hk : k = 2
    · unfold nodeE at h1
      simp only [Re.kind] at ha hb
      rw [if_neg (by simp only [Re.kind]; omega), if_neg (by simp [hf]), if_pos (by simp only [Re.kind]; exact hk)] at h1
      split at h1
      · omega
      · rename_i hc
        simp only [Re.set] at hc
        unfold checkE at hc
        split at hc
        · omega
        · omega
    · simp only [formB, Bool.and_eq_true, Bool.or_eq_true, decide_eq_true_eq, Re.kind, Re.set] at hf
      have := hf.1.1.1.2.resolve_left (by simp [hk])
      simp at this
      rw [this]; simp
theorem oks_sets : ∀ (ts : List Re), okRes ts → setsOks ts
  | [], _ => by simp only [setsOks]
  | t :: ts, h => by simp only [okRes] at h; simp only [setsOks]; exact ⟨ok_sets t h.1, oks_sets ts h.2⟩
end
set_option maxHeartbeats 1000000 in
theorem normal_c (w0 : World) (t : Re) (vs : List Value) (ht : ReAt w0 t vs) :
  Ret Tryz.prog 39 #[.agg vs.toArray] w0 fun v w => ∃ us, v = .tuple #[.agg us.toArray, .int .i64 (fitsE t 40)] ∧ ReAt w (if fitsE t 40 = 0 then normT t else noneT) us ∧ Ext w0 w := by
 have ht0 := ht
 obtain ⟨sa, sc, aa, ac, rfl, _, _, _⟩ := ht.form
 refine Ret_of Tryz.func39 rfl Tryz.ntmps39 (Nat.le_of_ble_eq_true rfl) ?_
 have E : Chg none1 w0 w0 := Chg.refl _ _
 refine Wp_seq_region ?_
 refine s_box (v := (.agg (R6 t sa sc aa ac))) (c := (R6 t sa sc aa ac)) (by decide) rfl rfl ?_
 intro br wr Nr
 have Fr := Nr.ge E
 replace E := E.ext Nr.ext
 have Br := Nr.blk
 refine s_alloc (c := #[(I6 0), (.slice none 0 0), (.slice none 0 0), (I6 0), (I6 0), (.bool false)]) (by decide) zer25 rfl ?_
 intro bo wo No
 have Fo := No.ge E
 have Oo_br := No.lt Br
 replace Br := No.keep Br
 replace E := E.ext No.ext
 have Bo := No.blk
 refine qA _ rfl ?_
 refine WpL_nil (Wp_seq (Wp_seq_region ?_))
 refine qV (r_loadAgg (vs := [(I6 t.kind), (.slice sa t.set.length sc), (.slice aa t.args.length ac), (I6 t.mn), (I6 t.mx), (.bool t.neg)]) rfl agg25 siz25 rfl (Br.cells rfl)) ?_
 refine WpL_enter rfl rfl (by decide) (r_callF Tryz.func8 nm8 bd8 rfl) (check_c _ t _ (ReAt.ext E t ht0)) ?_
 rintro _ w9 ⟨rfl, X9⟩
 replace Br := X9.keep Br
 replace Bo := X9.keep Bo
 replace E := E.ext X9
 refine qA _ rfl ?_
 refine WpL_nil (Wp_seq_region ?_)
 refine qM _ rfl ?_
 refine qV (r_neq rfl rfl) ?_
 refine WpL_nil ?_
 refine Wp_cond rfl (fun hf => ?_) (fun hf => ?_)
 ·have khf := hf
  replace hf := of_decide_eq_true hf
  refine Wp_seq_region ?_
  refine qV (r_build (ps := []) (v := (.agg #[(I6 0), (.slice none 0 0), (.slice none 0 0), (I6 0), (I6 0), (.bool false)])) rfl (by kernel_rfl)) ?_
  refine qM _ rfl ?_
  refine s_storeAgg (b := bo) (o := 0) (c' := #[(I6 0), (.slice none 0 0), (.slice none 0 0), (I6 0), (I6 0), (.bool false)]) rfl rfl (by simp [Value.oneCell']) siz25 rfl Bo (by first | (simp; done) | exact Nat.le_of_ble_eq_true rfl) rfl ?_
  intro w2 S2
  replace Br := S2.keep (by omega) Br
  replace E := S2.step E (by first | exact Or.inl (by omega) | exact Or.inr rfl | exact Or.inr (by assumption) | exact Or.inr (by simp) | exact Or.inr (by omega) | exact Or.inr (by dsimp only; omega))
  replace Bo := S2.blk
  refine qA _ rfl ?_
  refine WpL_nil (Wp_ret (thn_ret ?_))
  refine fin_agg_tmp Tryz.results39 (vs := [(.int .i64 0), (.slice none 0 0), (.slice none 0 0), (.int .i64 0), (.int .i64 0), (.bool false)]) (b := bo) (v' := (.int .i64 (fitsE t 40))) rfl agg25 siz25 rfl (Bo.cells rfl) rfl ?_
  refine ⟨_, rfl, ?_, E⟩
  rw [if_neg hf]
  exact ReIn.at _ (re_empty (fun _ => True) _ 0)
 ·have khf := hf
  replace hf := of_decide_eq_false hf
  have hf0 : fitsE t 40 = 0 := by omega
  obtain ⟨hok, hsz⟩ := (fitsE_zero (by decide) (by decide)).1 hf0
  refine Wp_skip (thn_normal (Wp_seq_region ?_))
  refine qV (r_loadAgg (vs := [(I6 t.kind), (.slice sa t.set.length sc), (.slice aa t.args.length ac), (I6 t.mn), (I6 t.mx), (.bool t.neg)]) rfl agg25 siz25 rfl (Br.cells rfl)) ?_
  obtain ⟨n1, hn1⟩ : ∃ n1, n1 = w9.heap.size := ⟨_, rfl⟩
  have hbo := Bo.lt
  refine WpL_enter rfl rfl (by decide) (r_callF Tryz.func14 nm14 bd14 rfl) (copy_c t.size t _ _ (Nat.le_refl _) (by omega) (ok_sets t hok) (ReAt.ext E t ht0)) ?_
  rintro _ w19 ⟨⟨us, Z, L, rfl, hTr, hZL, hnew⟩, X19⟩
  replace Br := X19.keep Br
  replace Bo := X19.keep Bo
  replace E := E.ext X19
  have hs19 := X19.size
  rw [← hn1] at hnew
  refine WpL_enter rfl rfl (by decide) (r_callF Tryz.func83 nm83 bd83 rfl) (norm_c t.size t _ _ Z L (Nat.le_refl _) (by omega) hok hTr hZL (fun y hy => (hnew y hy).2)) ?_
  rintro _ w29 ⟨⟨us2, rfl, hre⟩, C29⟩
  replace Br := C29.keep (fun h => by have := hnew _ (.inr h); omega) Br
  replace Bo := C29.keep (fun h => by have := hnew _ (.inr h); omega) Bo
  replace E := E.step C29 (fun y hy h => by have := hnew y (.inr h); omega)
  have hre0 := hre
  obtain ⟨zsa, zsc, zaa, zac, rfl, _, _, _⟩ := hre.form
  have hC9 : Chg (fun y => y = bo) (w29) (w29) := Chg.refl _ _
  refine s_storeAgg (b := bo) (o := 0) (c' := #[(I6 ((normT t).kind)), (.slice zsa ((normT t).set.length) zsc), (.slice zaa ((normT t).args.length) zac), (I6 ((normT t).mn)), (I6 ((normT t).mx)), (.bool ((normT t).neg))]) rfl rfl (by simp [Value.oneCell']) siz25 rfl Bo (by first | (simp; done) | exact Nat.le_of_ble_eq_true rfl) rfl ?_
  intro w3 S3
  replace hC9 := S3.chg
  replace Br := S3.keep (by omega) Br
  replace E := S3.step E (by first | exact Or.inl (by omega) | exact Or.inr rfl | exact Or.inr (by assumption) | exact Or.inr (by simp) | exact Or.inr (by omega) | exact Or.inr (by dsimp only; omega))
  replace Bo := S3.blk
  refine qA _ rfl ?_
  refine WpL_nil (Wp_ret ?_)
  refine fin_agg_tmp Tryz.results39 (vs := [(.int .i64 ((normT t).kind)), (.slice zsa ((normT t).set.length) zsc), (.slice zaa ((normT t).args.length) zac), (.int .i64 ((normT t).mn)), (.int .i64 ((normT t).mx)), (.bool ((normT t).neg))]) (b := bo) (v' := (.int .i64 0)) rfl agg25 siz25 rfl (Bo.cells rfl) rfl ?_
  refine ⟨_, by rw [hf0], ?_, E⟩
  rw [if_pos hf0]
  refine ReIn.at _ (ReIn.chg hC9 ?_ _ hre0)
  rintro y (h | h | h) he
  ·have he' : y = bo := he
   have := hnew y (.inl h); omega
  ·have he' : y = bo := he
   have := hnew y (.inr h); omega
  ·have he' : y = bo := he
   omega
end Go.Proofs
namespace Go.Proofs
open Go Go.Eng
set_option maxRecDepth 100000
set_option maxHeartbeats 1000000 in
theorem reversed_c (w0 : World) (t : Re) (vs : List Value) (ht : ReAt w0 t vs) (hf0 : fitsE t 40 = 0) (hu : usesB [10] t = false) :
  Ret Tryz.prog 19 #[.agg vs.toArray] w0 fun v w => ∃ us, v = .tuple #[.agg us.toArray, .int .i64 0] ∧ ReAt w (revT t) us ∧ Ext w0 w := by
 have ht0 := ht
 obtain ⟨sa, sc, aa, ac, rfl, _, _, _⟩ := ht.form
 obtain ⟨hok, hsz⟩ := (fitsE_zero (by decide) (by decide)).1 hf0
 refine Ret_of Tryz.func19 rfl Tryz.ntmps19 (Nat.le_of_ble_eq_true rfl) ?_
 have E : Chg none1 w0 w0 := Chg.refl _ _
 refine Wp_seq_region ?_
 refine s_box (v := (.agg (R6 t sa sc aa ac))) (c := (R6 t sa sc aa ac)) (by decide) rfl rfl ?_
 intro br wr Nr
 have Fr := Nr.ge E
 replace E := E.ext Nr.ext
 have Br := Nr.blk
 refine s_alloc (c := #[(I6 0), (.slice none 0 0), (.slice none 0 0), (I6 0), (I6 0), (.bool false)]) (by decide) zer25 rfl ?_
 intro bo wo No
 have Fo := No.ge E
 have Oo_br := No.lt Br
 replace Br := No.keep Br
 replace E := E.ext No.ext
 have Bo := No.blk
 refine qA _ rfl ?_
 refine WpL_nil (Wp_seq (Wp_seq_region ?_))
 refine qV (r_loadAgg (vs := [(I6 t.kind), (.slice sa t.set.length sc), (.slice aa t.args.length ac), (I6 t.mn), (I6 t.mx), (.bool t.neg)]) rfl agg25 siz25 rfl (Br.cells rfl)) ?_
 refine WpL_enter rfl rfl (by decide) (r_callF Tryz.func8 nm8 bd8 rfl) ((check_c _ t _ (ReAt.ext E t ht0)).mono (R' := fun v w => v = .int .i64 0 ∧ Ext wo w) (fun v w h => ⟨by rw [h.1, hf0], h.2⟩)) ?_
 rintro _ w9 ⟨rfl, X9⟩
 replace Br := X9.keep Br
 replace Bo := X9.keep Bo
 replace E := E.ext X9
 refine qA _ rfl ?_
 refine WpL_nil (Wp_seq_region ?_)
 refine qM _ rfl ?_
 refine qV (r_neq rfl rfl) ?_
 refine WpL_nil ?_
 refine Wp_cond_false rfl ?_
 refine Wp_skip (thn_normal (Wp_seq (Wp_seq_region ?_)))
 refine qV (r_loadAgg (vs := [(I6 t.kind), (.slice sa t.set.length sc), (.slice aa t.args.length ac), (I6 t.mn), (I6 t.mx), (.bool t.neg)]) rfl agg25 siz25 rfl (Br.cells rfl)) ?_
 refine s_buildSlice (ps := [(0, (I6 10))]) (c := #[(I6 10)]) (by decide) rfl Tryz.underlying46 siz3 zer3 (by decide) (by decide) (by kernel_rfl) ?_
 intro bk wk Nk
 have Fk := Nk.ge E
 have Ok_br := Nk.lt Br
 have Ok_bo := Nk.lt Bo
 replace Br := Nk.keep Br
 replace Bo := Nk.keep Bo
 replace E := E.ext Nk.ext
 have Bk := Nk.blk
 refine WpL_enter rfl rfl (by decide) (r_callF Tryz.func15 nm15 bd15 rfl) ((uses_c _ t _ [10] _ (ReAt.ext E t ht0) (ints_of_blk [10] Bk (by simp) (by simp))).mono (R' := fun v w => v = .bool false ∧ Ext wk w) (fun v w h => ⟨by rw [h.1, hu], h.2⟩)) ?_
 rintro _ w19 ⟨rfl, X19⟩
 replace Br := X19.keep Br
 replace Bo := X19.keep Bo
 replace Bk := X19.keep Bk
 replace E := E.ext X19
 refine WpL_nil ?_
 refine Wp_cond_false rfl ?_
 refine Wp_skip (thn_normal (Wp_seq_region ?_))
 refine qV (r_loadAgg (vs := [(I6 t.kind), (.slice sa t.set.length sc), (.slice aa t.args.length ac), (I6 t.mn), (I6 t.mx), (.bool t.neg)]) rfl agg25 siz25 rfl (Br.cells rfl)) ?_
 obtain ⟨n1, hn1⟩ : ∃ n1, n1 = w19.heap.size := ⟨_, rfl⟩
 have hbo := Bo.lt
 refine WpL_enter rfl rfl (by decide) (r_callF Tryz.func14 nm14 bd14 rfl) (copy_c t.size t _ _ (Nat.le_refl _) (by omega) (ok_sets t hok) (ReAt.ext E t ht0)) ?_
 rintro _ w29 ⟨⟨us, Z, L, rfl, hTr, hZL, hnew⟩, X29⟩
 replace Br := X29.keep Br
 replace Bo := X29.keep Bo
 replace Bk := X29.keep Bk
 replace E := E.ext X29
 have hs29 := X29.size
 rw [← hn1] at hnew
 have hbk := Bk.lt
 refine WpL_enter rfl rfl (by decide) (r_callF Tryz.func53 nm53 bd53 rfl) (rev_c t.size t _ _ Z L (Nat.le_refl _) (by omega) hTr hZL (fun y hy => (hnew y hy).2)) ?_
 rintro _ w39 ⟨⟨us2, rfl, hre⟩, C39⟩
 replace Br := C39.keep (fun h => by have := hnew _ (.inr h); omega) Br
 replace Bo := C39.keep (fun h => by have := hnew _ (.inr h); omega) Bo
 replace E := E.step C39 (fun y hy h => by have := hnew y (.inr h); omega)
 have hre0 := hre
 obtain ⟨zsa, zsc, zaa, zac, rfl, _, _, _⟩ := hre.form
 have hC9 : Chg (fun y => y = bo) (w39) (w39) := Chg.refl _ _
 refine s_storeAgg (b := bo) (o := 0) (c' := #[(I6 ((revT t).kind)), (.slice zsa ((revT t).set.length) zsc), (.slice zaa ((revT t).args.length) zac), (I6 ((revT t).mn)), (I6 ((revT t).mx)), (.bool ((revT t).neg))]) rfl rfl (by simp [Value.oneCell']) siz25 rfl Bo (by first | (simp; done) | exact Nat.le_of_ble_eq_true rfl) rfl ?_
 intro w1 S1
 replace hC9 := S1.chg
 replace Br := S1.keep (by omega) Br
 replace E := S1.step E (by first | exact Or.inl (by omega) | exact Or.inr rfl | exact Or.inr (by assumption) | exact Or.inr (by simp) | exact Or.inr (by omega) | exact Or.inr (by dsimp only; omega))
 replace Bo := S1.blk
 refine qA _ rfl ?_
 refine WpL_nil (Wp_ret ?_)
 refine fin_agg_tmp Tryz.results19 (vs := [(.int .i64 ((revT t).kind)), (.slice zsa ((revT t).set.length) zsc), (.slice zaa ((revT t).args.length) zac), (.int .i64 ((revT t).mn)), (.int .i64 ((revT t).mx)), (.bool ((revT t).neg))]) (b := bo) (v' := (.int .i64 0)) rfl agg25 siz25 rfl (Bo.cells rfl) rfl ?_
 refine ⟨_, rfl, ?_, E⟩
 refine ReIn.at _ (ReIn.chg hC9 ?_ _ hre0)
 rintro y (h | h | h) he
 ·have he' : y = bo := he
  have := hnew y (.inl h); omega
 ·have he' : y = bo := he
  have := hnew y (.inr h); omega
 ·have he' : y = bo := he
  omega
end Go.Proofs
namespace Go.Proofs
open Go Go.Eng Go.Sort
set_option maxRecDepth 100000
mutual
/-- No node is marked as the opposite. -/
def noNeg : Re → Bool
  | .mk _ _ a _ _ g => !g && noNegs a
def noNegs : List Re → Bool
  | [] => true
  | t :: ts => noNeg t && noNegs ts
end
mutual
/-- Whether an expression matches the empty text. -/
def emptR : Re → Bool
  | .mk k _ a m _ g => if k = 1 ∨ k = 5 then true else if k = 3 ∨ k = 7 ∨ k = 9 then emptRs a else if k = 4 then emptAny a else if k = 6 then (decide (m = 0) || emptRs a) else if k = 8 then !emptRs a else if k = 10 then (emptRs a != g) else false
def emptRs : List Re → Bool
  | [] => true
  | t :: ts => emptR t && emptRs ts
def emptAny : List Re → Bool
  | [] => false
  | t :: ts => emptR t || emptAny ts
end
end Go.Proofs
namespace Go.Proofs
open Go Go.Eng Go.Sort
set_option maxRecDepth 100000
/-- What is asked of a node whose arguments are in similar form: it is valid, but for flattening. -/
structure PreN (k : Int) (s : List (Int × Int)) (a : List Re) (m x : Int) (g : Bool) : Prop where
 ks : k = 0 ∨ k = 1 ∨ k = 2 ∨ k = 3 ∨ k = 4 ∨ k = 5 ∨ k = 6 ∨ k = 7 ∨ k = 8
 ng : g = false
 st : k ≠ 2 → s = []
 mm : k ≠ 6 → m = 0 ∧ x = 0
 k2 : k = 2 → s ≠ [] ∧ checkE s = 0
 none : k = 0 ∨ k = 1 ∨ k = 2 → a = []
 one : k = 5 ∨ k = 6 ∨ k = 8 → a.length = 1
 rep : k = 6 → 0 ≤ m ∧ m ≤ x ∧ x ≤ 8
end Go.Proofs
namespace Go.Proofs
open Go Go.Eng Go.Sort
set_option maxRecDepth 100000
theorem pre_of {t : Re} (h : okRe t) (h9 : t.kind ≠ 9) (h10 : t.kind ≠ 10) {a : List Re} (ha : a.length = t.args.length) : PreN t.kind t.set a t.mn t.mx t.neg := by
 have hn := okRe_node h
 have hN := node_inv hn
 have hf := (okRe_form h).2.2
 simp only [formB, Bool.and_eq_true, Bool.or_eq_true, decide_eq_true_eq, Bool.not_eq_true'] at hf
 obtain ⟨⟨⟨⟨f1, f2⟩, f3⟩, f4⟩, f5⟩ := hf
 have hk := hN.k
 refine ⟨by omega, ?_, fun h2 => ?_, fun h6 => ⟨by omega, by omega⟩, fun h2 => ⟨hN.sett h2, ?_⟩, fun h0 => ?_, fun h1 => by rw [ha]; exact hN.one (by omega), fun h6 => hN.rep h6⟩
 ·rcases f5 with h | h
  ·exact absurd h h10
  ·exact h
 ·rcases f2 with h | h
  ·exact absurd h h2
  ·exact List.eq_nil_of_length_eq_zero (by omega)
 ·unfold nodeE at hn
  split at hn
  ·cases hn
  split at hn
  ·cases hn
  first | rw [if_pos h2] at hn | skip
  by_cases hc : checkE t.set = 0
  ·exact hc
  ·rw [if_pos hc] at hn; exact hn
 ·unfold okB at f1
  rw [if_neg (by omega), if_neg (by omega)] at f1
  have := of_decide_eq_true f1
  exact List.eq_nil_of_length_eq_zero (by omega)
end Go.Proofs
namespace Go.Proofs
open Go Go.Eng Go.Sort
set_option maxRecDepth 100000
mutual
/-- All sets of an expression have a property. -/
def AllS (P : List (Int × Int) → Prop) : Re → Prop
  | .mk k s a _ _ _ => (k = 2 → P s) ∧ AllSs P a
def AllSs (P : List (Int × Int) → Prop) : List Re → Prop
  | [] => True
  | t :: ts => AllS P t ∧ AllSs P ts
end
section
variable {P : List (Int × Int) → Prop}
theorem allSs_iff {ts : List Re} : AllSs P ts ↔ ∀ t ∈ ts, AllS P t := by
  induction ts with
  | nil => simp [AllSs]
  | cons t ts ih => simp only [AllSs, ih, List.mem_cons, forall_eq_or_imp]
theorem AllS.s {t : Re} (h : AllS P t) : t.kind = 2 → P t.set := by cases t; exact h.1
theorem AllS.a {t : Re} (h : AllS P t) : ∀ x ∈ t.args, AllS P x := by cases t; exact allSs_iff.1 h.2
end
end Go.Proofs
namespace Go.Proofs
open Go Go.Eng Go.Sort
set_option maxRecDepth 100000
abbrev TInt : Nat := 3
def OwnI (w : World) (base : Nat) (r : Value) (l : List Int) : Prop := (∃ a c, r = .slice a l.length c) ∧ w.ownsRow base TInt 1 r l.length (l.map (Value.int .i64))
theorem ownI_holds {w : World} {base g n c : Nat} {l : List Int} (h : w.ownsRow base TInt 1 (.slice (some ⟨g, 0, none⟩) n c) n (l.map (Value.int .i64))) : Sort.Holds (Value.int .i64) w g 0 l.toArray := by
 intro j hj
 simp only [List.size_toArray] at hj
 have hx : l[j]? = some l[j] := List.getElem?_eq_getElem hj
 have h1 := h.cells (g := g) rfl j (.int .i64 l[j]) (by simp [hx])
 rw [Addr.add_lit] at h1
 have he : l.toArray[j]! = l[j] := by rw [getElem!_pos l.toArray j (by simpa using hj)]; simp
 rw [he]
 refine ⟨h1, ?_⟩
 rcases h.2 with ⟨h1, _⟩ | ⟨g', cap, cur, hv, _, hg, _⟩
 ·simp at h1
 ·simp only [Value.slice.injEq, Option.some.injEq, Addr.mk.injEq, and_true] at hv
  obtain ⟨rfl, _⟩ := hv
  simp [World.frozen?, hg]
theorem holds_ints {w : World} {g n c : Nat} {l : List Int} (h : Sort.Holds (Value.int .i64) w g 0 l.toArray) (hn : l.length = n) (hc : n ≤ c) (hl : n ≤ 9223372036854775807) : IntsAt w (.slice (some ⟨g, 0, none⟩) n c) l := by
 refine ⟨_, c, by simp [hn], by simp; omega, by simp; omega, .inr ⟨g, 0, rfl, fun i r hr j u hu => ?_⟩⟩
 simp only [List.getElem?_map, Option.map_eq_some_iff] at hr
 obtain ⟨x, hx, rfl⟩ := hr
 have hi := lt_of_get hx
 have hj : j < 1 := by have := lt_of_get hu; simpa [intV] using this
 obtain rfl : j = 0 := by omega
 have h1 := (h i (by simpa using hi)).1
 have he : l.toArray[i]! = x := by
  rw [getElem!_pos l.toArray i (by simpa using hi)]
  rw [List.getElem?_eq_getElem hi] at hx
  simpa using hx
 rw [he] at h1
 simp [intV] at hu
 subst hu
 simpa using h1
theorem putRowS_chg {α : Type} [Inhabited α] (enc : α → Value) (w : World) (g off m : Nat) (dk : Array α) (os : Array Obj) : Chg (fun x => x = g) w (grow (putRow enc (Sort.ahead w m) g off dk) os) := by
 refine ⟨rfl, rfl, rfl, Nat.le_add_right _ _, ?_, fun b hb hne => ?_⟩
 ·simp [grow, putRow, mapBlock, Sort.ahead]
 ·simp only [grow, putRow, mapBlock, Sort.ahead]
  rw [Array.getElem?_append_left (by simpa using hb), Array.getElem?_modify, if_neg (fun h => hne h.symm)]
def leB (x y : Int) : Bool := decide (x ≤ y)
theorem sorti_c (w0 : World) (base : Nat) (v : Value) (l : List Int) (h : OwnI w0 base v l) (hne : l ≠ []) (hl : l.length ≤ 17592186044416) :
  Ret Tryz.prog 110 #[v] w0 fun r w => r = .tuple #[] ∧ IntsAt w v (l.mergeSort leB) ∧ Chg (fun x => v.ownBlock = some x) w0 w := by
 obtain ⟨⟨a, c, rfl⟩, h⟩ := h
 rcases h.2 with ⟨h1, h0⟩ | ⟨g, cap, cur, hv, hbg, hg, hnc, hcm, hcs, htake⟩
 ·exact absurd (List.eq_nil_of_length_eq_zero h0) hne
 ·simp only [Value.slice.injEq] at hv
  obtain ⟨rfl, _, rfl⟩ := hv
  have hH := ownI_holds h
  have hblk : g < w0.heap.size := (Array.getElem?_eq_some_iff.1 hg).1
  refine Calls.mono (Any.slices_Sort_int Tryz.sortI g 0 c l w0 hH hblk (by omega)) ?_
  rintro e w' ⟨rfl, n, os, rfl⟩
  refine ⟨_, rfl, rfl, ?_, (putRowS_chg _ w0 g 0 n _ os).mono fun x _ hx => by subst hx; rfl⟩
  have hh : Sort.Holds (Value.int .i64) (grow (putRow (Value.int .i64) (Sort.ahead w0 n) g 0 (l.mergeSort fun x y => decide (x ≤ y)).toArray) os) g 0 (l.mergeSort fun x y => decide (x ≤ y)).toArray :=
   holds_grow _ _ os g 0 _ (by simpa [putRow, mapBlock, Sort.ahead] using hblk) (holds_putRow _ (Sort.ahead w0 n) g 0 l.toArray _ hH (by simp))
  exact holds_ints (l := l.mergeSort leB) hh (by simp) hnc (by omega)
theorem sortInts_c (w0 : World) (base : Nat) (v : Value) (l : List Int) (h : OwnI w0 base v l) (hne : l ≠ []) (hl : l.length ≤ 17592186044416) :
  Ret Tryz.prog 79 #[v] w0 fun r w => r = .tuple #[] ∧ IntsAt w v (l.mergeSort leB) ∧ Chg (fun x => v.ownBlock = some x) w0 w := by
 refine Ret_of Tryz.func79 rfl Tryz.ntmps79 (Nat.le_of_ble_eq_true rfl) ?_
 have E : Chg (fun x => v.ownBlock = some x) w0 w0 := Chg.refl _ _
 refine Wp_region ?_
 refine qM v rfl ?_
 refine WpL_enter rfl rfl (by decide) (r_callF Tryz.func110 nm110 bd110 rfl) (sorti_c _ base v l h hne hl) ?_
 rintro _ w9 ⟨rfl, I9, C9⟩
 replace E := E.step C9 (fun x hx hm => hm)
 refine WpL_nil ?_
 refine fin_none Tryz.results79 ?_
 exact ⟨rfl, I9, E⟩
theorem mergeSort_lt {l : List Int} (hd : l.Nodup) : (l.mergeSort leB).Pairwise (· < ·) := by
 have h1 : (l.mergeSort leB).Pairwise (fun a b => leB a b = true) := List.pairwise_mergeSort (fun a b c h1 h2 => by simp [leB] at *; omega) (fun a b => by simp [leB]; omega) l
 have h2 : (l.mergeSort leB).Nodup := (List.mergeSort_perm l leB).nodup_iff.2 hd
 have h3 := h1.and h2
 exact h3.imp fun {a b} ⟨h4, h5⟩ => by simp [leB] at h4; omega
def PieceP (l : List Sp) (k : Int) : Prop := k = 0 ∨ ∃ s ∈ l, k = s.1 ∨ (s.2 < 1114111 ∧ k = s.2 + 1)
def KP (es : List (Int × Bool)) (l : List Sp) : Prop := KeysOk es ∧ ∀ k, k ∈ es.map (·.1) ↔ PieceP l k
theorem mem_putM {κ ν : Type} [DecidableEq κ] {es : List (κ × ν)} {k q : κ} {v : ν} : q ∈ (putM es k v).map (·.1) ↔ q = k ∨ q ∈ es.map (·.1) := by
 rw [← getM_isSome, getM_put]
 by_cases h : k = q
 ·simp [h]
 ·rw [if_neg h, getM_isSome]; simp [Ne.symm h]
theorem putM_len {κ ν : Type} [DecidableEq κ] (es : List (κ × ν)) (k : κ) (v : ν) : (putM es k v).length ≤ es.length + 1 ∧ es.length ≤ (putM es k v).length := by
  induction es with
  | nil => simp [putM]
  | cons p r ih => unfold putM; split <;> simp <;> omega
theorem KP.start : KP (putM [] 0 true) [] := by
 refine ⟨KeysOk.nil.put _ _, fun k => ?_⟩
 simp [putM, PieceP]
theorem KP.lo {es : List (Int × Bool)} {l : List Sp} (h : KP es l) (s : Sp) (hs : ¬ s.2 < 1114111) : KP (putM es s.1 true) (l ++ [s]) := by
 refine ⟨h.1.put _ _, fun k => ?_⟩
 rw [mem_putM, h.2 k]
 unfold PieceP
 constructor
 ·rintro (h1 | h1 | ⟨t, ht, h1⟩)
  ·exact .inr ⟨s, by simp, .inl h1⟩
  ·exact .inl h1
  ·exact .inr ⟨t, by simp [ht], h1⟩
 ·rintro (h1 | ⟨t, ht, h1⟩)
  ·exact .inr (.inl h1)
  ·rcases List.mem_append.1 ht with ht | ht
   ·exact .inr (.inr ⟨t, ht, h1⟩)
   ·rw [List.mem_singleton] at ht; subst ht
    rcases h1 with h1 | ⟨h1, _⟩
    ·exact .inl h1
    ·exact absurd h1 hs
theorem KP.both {es : List (Int × Bool)} {l : List Sp} (h : KP es l) (s : Sp) (hs : s.2 < 1114111) : KP (putM (putM es s.1 true) (s.2 + 1) true) (l ++ [s]) := by
 refine ⟨(h.1.put _ _).put _ _, fun k => ?_⟩
 rw [mem_putM, mem_putM, h.2 k]
 unfold PieceP
 constructor
 ·rintro (h1 | h1 | h1 | ⟨t, ht, h1⟩)
  ·exact .inr ⟨s, by simp, .inr ⟨hs, h1⟩⟩
  ·exact .inr ⟨s, by simp, .inl h1⟩
  ·exact .inl h1
  ·exact .inr ⟨t, by simp [ht], h1⟩
 ·rintro (h1 | ⟨t, ht, h1⟩)
  ·exact .inr (.inr (.inl h1))
  ·rcases List.mem_append.1 ht with ht | ht
   ·exact .inr (.inr (.inr ⟨t, ht, h1⟩))
   ·rw [List.mem_singleton] at ht; subst ht
    rcases h1 with h1 | ⟨_, h1⟩
    ·exact .inr (.inl h1)
    ·exact .inl h1
theorem take_snoc {α : Type} {l : List α} {k : Nat} {x : α} (h : l[k]? = some x) : l.take (k + 1) = l.take k ++ [x] := by rw [List.take_add_one, h]; rfl
def kAt (es : List (Int × Bool)) (i : Nat) : Int := ((es[i]?).map (·.1)).getD 0
theorem keys_perm {es : List (Int × Bool)} {seen : List Nat} (hd : seen.Nodup) (hl : ∀ i ∈ seen, i < es.length) (ha : ∀ i, i < es.length → i ∈ seen) : (seen.map (kAt es)).Perm (es.map (·.1)) := by
 have h1 := (seen_perm hd hl ha).map (kAt es)
 have h2 : (List.range es.length).map (kAt es) = es.map (·.1) := by
  apply List.ext_getElem?
  intro i
  rw [List.getElem?_map, List.getElem?_map]
  by_cases hi : i < es.length
  ·rw [List.getElem?_range hi, List.getElem?_eq_getElem hi]
   simp [kAt, List.getElem?_eq_getElem hi]
  ·rw [List.getElem?_eq_none (by simpa using hi), List.getElem?_eq_none (by omega)]; rfl
 rw [h2] at h1; exact h1
def PcsOf (l : List Sp) (p : List Int) : Prop := p.Pairwise (· < ·) ∧ ∀ k, k ∈ p ↔ PieceP l k
set_option maxHeartbeats 4000000 in
theorem pieces_c (w0 : World) (v : Value) (ll : List (List Sp)) (h : SpssAt w0 v ll) (hl : ll.flatten.length ≤ 8796093022200) (hok : ∀ s ∈ ll.flatten, vSp s) :
  Ret Tryz.prog 153 #[v] w0 fun r w => (∃ p, PcsOf ll.flatten p ∧ (∃ a c, r = .slice a p.length c) ∧ IntsAt w r p) ∧ Ext w0 w := by
 obtain ⟨a, c, rfl, _, hle⟩ := h.form
 obtain ⟨base, hbase⟩ : ∃ base, base = w0.heap.size := ⟨_, rfl⟩
 refine Ret_of Tryz.func153 rfl Tryz.ntmps153 (Nat.le_of_ble_eq_true rfl) ?_
 have E : Chg none1 w0 w0 := Chg.refl _ _
 refine Wp_seq_region ?_
 refine qA _ rfl ?_
 refine WpL_nil (Wp_seq_region ?_)
 refine s_makeMap kInt kBool (by decide) ?_
 intro bm wm Nm
 have Fm := Nm.ge E
 replace E := E.ext Nm.ext
 intro Mm
 refine s_insert (k := 0) (v := true) Tryz.underlying97 (keyInt Tryz.underlying3) Mm rfl rfl rfl ?_
 intro w1 S1 H1
 replace E := S1.step E (by first | exact Or.inl (by omega) | exact Or.inr rfl | exact Or.inr (by assumption) | exact Or.inr (by simp) | exact Or.inr (by omega) | exact Or.inr (by dsimp only; omega))
 replace Mm := H1
 refine qM _ rfl ?_
 refine qA _ rfl ?_
 refine WpL_nil (Wp_seq (Wp_seq_region ?_))
 refine qM _ rfl ?_
 refine qV (r_lenSlice Tryz.underlying38 rfl) ?_
 refine qM _ rfl ?_
 refine WpL_nil (Wp_block ?_)
 refine Wp_loop (fun nn_ σ W2 => ∃ (k : Nat) (es : List (Int × Bool)), (∃ jj_, σ = upds jj_ [(3, (.map (some bm))), (12, (.slice a ll.length c)), (13, (I6 (ll.length : Int))), (14, (I6 (k : Int)))]) ∧ Chg none1 w0 W2 ∧ MapAt W2 bm kInt kBool es ∧ (k ≤ ll.length) ∧ (KP es (ll.take k).flatten) ∧ (es.length ≤ 1 + 2 * (ll.take k).flatten.length) ∧ nn_ = ll.length - k) (n := ll.length - 0) ?_ ?_
 ·exact ⟨0, putM [] 0 true, Fits.out ⟨rfl, rfl, rfl, rfl, trivial⟩, E, Mm, Nat.zero_le _, KP.start, (by simp [putM]), rfl⟩
 ·clear E Mm
  rintro _ _ W2 ⟨k, es, ⟨j2, rfl⟩, E, Mm, hk, hKP, hel, rfl⟩
  refine Wp_seq_region ?_
  refine qV (r_lss rfl rfl) ?_
  refine WpL_nil (Wp_seq ?_)
  refine Wp_cond rfl (fun hlt => ?_) (fun hlt => ?_)
  ·have khlt := hlt
   replace hlt := of_decide_eq_true hlt
   obtain ⟨l, hx⟩ := get_of_lt (l := ll) (i := k) (by omega)
   obtain ⟨b, o, hab, hcl⟩ := spss_cells h (by omega)
   subst hab
   obtain ⟨ra, rc, hcell, hsp⟩ := hcl k l hx
   have hlt1 := lens_take hx
   have hll : l.length ≤ 9223372036854775807 := by simpa using SlAt.le hsp
   refine Wp_skip (thn_normal (Wp_seq (Wp_block (Wp_seq_region ?_))))
   refine qV (r_indexSlice (b := b) (o := o) (len := ll.length) (cap := c) (i := k) (o' := o + k) rfl rfl rfl Tryz.underlying38 siz22 (by omega) (by omega)) ?_
   refine qV (r_load rfl flat22 (E.cell (fun f => f) hcell)) ?_
   refine qA _ rfl ?_
   refine WpL_nil (Wp_seq_region ?_)
   refine qM _ rfl ?_
   refine qV (r_lenSlice Tryz.underlying22 rfl) ?_
   refine qM _ rfl ?_
   refine WpL_nil (Wp_block ?_)
   refine Wp_loop (fun nn_ σ W4 => ∃ (i : Nat) (es2 : List (Int × Bool)), (∃ jj_, σ = upds jj_ [(3, (.map (some bm))), (12, (.slice (some ⟨b, o, none⟩) ll.length c)), (13, (I6 (ll.length : Int))), (14, (I6 (k : Int))), (18, (.slice ra l.length rc)), (19, (I6 (l.length : Int))), (20, (I6 (i : Int)))]) ∧ Chg none1 w0 W4 ∧ MapAt W4 bm kInt kBool es2 ∧ (i ≤ l.length) ∧ (KP es2 ((ll.take k).flatten ++ l.take i)) ∧ (es2.length ≤ 1 + 2 * (ll.take k).flatten.length + 2 * i) ∧ nn_ = l.length - i) (n := l.length - 0) ?_ ?_
   ·exact ⟨0, es, Fits.out ⟨rfl, rfl, rfl, rfl, rfl, rfl, rfl, trivial⟩, E, Mm, Nat.zero_le _, (by simpa using hKP), (by omega), rfl⟩
   ·clear E Mm
    rintro _ _ W4 ⟨i, es2, ⟨j4, rfl⟩, E, Mm, hi, hKP2, hel2, rfl⟩
    refine Wp_seq_region ?_
    refine qV (r_lss rfl rfl) ?_
    refine WpL_nil (Wp_seq ?_)
    refine Wp_cond rfl (fun hlt2 => ?_) (fun hlt2 => ?_)
    ·have khlt2 := hlt2
     replace hlt2 := of_decide_eq_true hlt2
     obtain ⟨s, hs⟩ := get_of_lt (l := l) (i := i) (by omega)
     obtain ⟨rb, ro, hrab, hrc⟩ := spans_cells hsp (by omega)
     subst hrab
     have hts := take_snoc hs
     have hq1 := putM_len es2 s.1 true
     have hv : vSp s := hok s (List.mem_flatten.2 ⟨l, List.mem_of_getElem? hx, List.mem_of_getElem? hs⟩)
     unfold vSp at hv
     refine Wp_skip (thn_normal (Wp_seq (Wp_block (Wp_seq_region ?_))))
     refine qV (r_indexSlice (b := rb) (o := ro) (len := l.length) (cap := rc) (i := i) (o' := ro + i * 2) rfl rfl rfl Tryz.underlying22 siz67 (by omega) (by omega)) ?_
     refine qV (r_loadAgg rfl agg67 siz67 rfl ((hrc i s hs).ext E)) ?_
     refine s_allocStore (v := (.agg #[(I6 s.1), (I6 s.2)])) (c := #[(I6 s.1), (I6 s.2)]) (n := 2) (by decide) zer67 rfl siz67 rfl rfl rfl (by simp [Value.oneCell']) ?_
     intro b6 w6 N6
     have F6 := N6.ge E
     have O6_bm := N6.ltM Mm
     replace Mm := N6.keepM Mm
     replace E := E.ext N6.ext
     have B6 := N6.blk
     refine WpL_nil (Wp_seq_region ?_)
     refine qM _ rfl ?_
     refine qF b6 0 0 rfl Tryz.underlying67 rfl siz3 rfl ?_
     refine qV (r_load rfl flat3 (B6.cell rfl)) ?_
     refine s_mapUpdate (k := s.1) (v := true) Tryz.underlying97 (keyInt Tryz.underlying3) Mm rfl rfl rfl ?_
     intro w7 S7 H7
     replace B6 := S7.keep (by omega) B6
     replace E := S7.step E (by first | exact Or.inl (by omega) | exact Or.inr rfl | exact Or.inr (by assumption) | exact Or.inr (by simp) | exact Or.inr (by omega) | exact Or.inr (by dsimp only; omega))
     replace Mm := H7
     refine WpL_nil (Wp_seq_region ?_)
     refine qF b6 0 1 rfl Tryz.underlying67 rfl siz3 rfl ?_
     refine qV (r_load rfl flat3 (B6.cell rfl)) ?_
     refine qV (r_lss rfl rfl) ?_
     refine WpL_nil ?_
     refine Wp_cond rfl (fun hM => ?_) (fun hM => ?_)
     ·have khM := hM
      replace hM := of_decide_eq_true hM
      have hq2 := putM_len (putM es2 s.1 true) (s.2 + 1) true
      refine Wp_region ?_
      refine qM _ rfl ?_
      refine qF b6 0 1 rfl Tryz.underlying67 rfl siz3 rfl ?_
      refine qV (r_load rfl flat3 (B6.cell rfl)) ?_
      refine qV (r_add rfl rfl (wI64 (by omega))) ?_
      refine s_mapUpdate (k := (s.2 + 1)) (v := true) Tryz.underlying97 (keyInt Tryz.underlying3) Mm rfl rfl rfl ?_
      intro w9 S9 H9
      replace B6 := S9.keep (by omega) B6
      replace E := S9.step E (by first | exact Or.inl (by omega) | exact Or.inr rfl | exact Or.inr (by assumption) | exact Or.inr (by simp) | exact Or.inr (by omega) | exact Or.inr (by dsimp only; omega))
      replace Mm := H9
      refine WpL_nil (inB_normal (thn_normal (Wp_region ?_)))
      refine qV (r_add rfl rfl (wI64 (by omega))) ?_
      refine qM _ rfl ?_
      refine WpL_nil (thn_normal ?_)
      exact ⟨l.length - (i + 1), by omega, i + 1, putM (putM es2 s.1 true) (s.2 + 1) true, Fits.out ⟨rfl, rfl, rfl, rfl, rfl, rfl, rfl, trivial⟩, E, Mm, (by omega), (by rw [hts, ← List.append_assoc]; exact hKP2.both s hM), (by omega), rfl⟩
     ·have khM := hM
      replace hM := of_decide_eq_false hM
      refine Wp_skip (inB_normal (thn_normal (Wp_region ?_)))
      refine qV (r_add rfl rfl (wI64 (by omega))) ?_
      refine qM _ rfl ?_
      refine WpL_nil (thn_normal ?_)
      exact ⟨l.length - (i + 1), by omega, i + 1, putM es2 s.1 true, Fits.out ⟨rfl, rfl, rfl, rfl, rfl, rfl, rfl, trivial⟩, E, Mm, (by omega), (by rw [hts, ← List.append_assoc]; exact hKP2.lo s hM), (by omega), rfl⟩
    ·have khlt2 := hlt2
     replace hlt2 := of_decide_eq_false hlt2
     have hii : i = l.length := by omega
     rw [hii, List.take_length, ← hlt1] at hKP2
     refine Wp_exit (thn_exit (thn_exit (inB_here (inB_normal (thn_normal (Wp_region ?_))))))
     refine qV (r_add rfl rfl (wI64 (by omega))) ?_
     refine qM _ rfl ?_
     refine WpL_nil (thn_normal ?_)
     exact ⟨ll.length - (k + 1), by omega, k + 1, es2, Fits.out ⟨rfl, rfl, rfl, rfl, trivial⟩, E, Mm, (by omega), hKP2, (by rw [hlt1, List.length_append]; omega), rfl⟩
  ·have khlt := hlt
   replace hlt := of_decide_eq_false hlt
   have hkk : k = ll.length := by omega
   rw [hkk, List.take_length] at hKP hel
   have hbs1 := E.size
   refine Wp_exit (thn_exit (thn_exit (inB_here (thn_normal (Wp_seq_region ?_)))))
   refine qA _ rfl ?_
   refine WpL_nil (Wp_seq (Wp_seq_region ?_))
   refine qM _ rfl ?_
   refine s_range (by decide) Tryz.underlying97 Mm rfl ?_
   intro br wr Nr
   have Fr := Nr.ge E
   have Or_bm := Nr.ltM Mm
   replace Mm := Nr.keepM Mm
   replace E := E.ext Nr.ext
   have Ir : IterAt wr br bm es.length [] := Nr.at'
   refine WpL_nil (Wp_block ?_)
   have hwr := Nr.size
   have hbr : br < wr.heap.size := Ir.lt
   refine Wp_loop (fun nn_ σ W10 => ∃ (seen : List Nat) (la : Option Addr) (lc : Nat) (n : Nat), (∃ jj_, σ = upds jj_ [(37, (P6 br 0)), (8, (.slice la n lc))]) ∧ Chg none1 w0 W10 ∧ MapAt W10 bm kInt kBool es ∧ IterAt W10 br bm es.length seen ∧ (seen.Nodup) ∧ (∀ j ∈ seen, j < es.length) ∧ (n = seen.length) ∧ (W10.ownsRow wr.heap.size TInt 1 (.slice la n lc) n ((seen.map (kAt es)).map (Value.int .i64))) ∧ (wr.heap.size ≤ W10.heap.size) ∧ nn_ = es.length - seen.length) (n := es.length - ([] : List Nat).length) ?_ ?_
   ·exact ⟨([] : List Nat), none, 0, 0, Fits.out ⟨rfl, rfl, trivial⟩, E, Mm, Ir, List.nodup_nil, (fun j hj => absurd hj List.not_mem_nil), rfl, World.ownsRow_nil _ _ _ _, Nat.le_refl _, rfl⟩
   ·clear E Mm Ir
    rintro _ _ W10 ⟨seen, la, lc, n, ⟨j10, rfl⟩, E, Mm, Ir, hnd, hsl, hn, hown, hbs, rfl⟩
    refine Wp_seq_region ?_
    refine s_next (by decide) Mm Ir rfl (fun hall => ?_) ?_
    ·skip
     have hperm := keys_perm (es := es) hnd hsl hall
     have hKd : (seen.map (kAt es)).Nodup := hperm.nodup_iff.2 hKP.1
     have hO : OwnI W10 wr.heap.size (.slice la n lc) (seen.map (kAt es)) := ⟨⟨la, lc, by simp [hn]⟩, by simpa [hn] using hown⟩
     have h0m : (0 : Int) ∈ seen.map (kAt es) := hperm.mem_iff.2 ((hKP.2 0).2 (.inl rfl))
     have hsn := seen_len hnd hsl
     refine qV (r_extract rfl rfl) ?_
     refine WpL_nil (Wp_seq ?_)
     refine Wp_cond_false rfl ?_
     refine Wp_exit (thn_exit (thn_exit (inB_here (thn_normal (Wp_seq_region ?_)))))
     refine qM _ rfl ?_
     refine WpL_enter rfl rfl (by decide) (r_callF Tryz.func79 nm79 bd79 rfl) (sortInts_c _ wr.heap.size (.slice la n lc) _ hO (fun h9 => by rw [h9] at h0m; cases h0m) (by simp; omega)) ?_
     rintro _ w19 ⟨rfl, I19, C19⟩
     replace E := E.step C19 (fun x hx hy => absurd (hown.lt x hy).1 (by omega))
     refine WpL_nil (Wp_seq_region ?_)
     refine qM _ rfl ?_
     refine qA _ rfl ?_
     refine WpL_nil (Wp_ret ?_)
     refine fin_tmp Tryz.results153 (v := (.slice la n lc)) rfl ?_
     refine ⟨⟨(seen.map (kAt es)).mergeSort leB, ⟨mergeSort_lt hKd, fun q => ?_⟩, ⟨la, lc, by simp [hn]⟩, I19⟩, E⟩
     rw [List.mem_mergeSort, hperm.mem_iff]
     exact hKP.2 q
    ·intro i p w11 hp hns S11
     replace hown := own_chg hown S11.chg (fun x hx h9 => by have := (hown.lt x hx).1; omega)
     replace hbs := Nat.le_trans hbs (Nat.le_of_eq S11.size.symm)
     replace Mm := S11.keepM (by omega) Mm
     replace E := S11.step E (by first | exact Or.inl (by omega) | exact Or.inr rfl | exact Or.inr (by omega))
     replace Ir : IterAt w11 br bm es.length (seen ++ [i]) := S11.at'
     have hnd2 : (seen ++ [i]).Nodup := List.nodup_append.2 ⟨hnd, by simp, fun x hx z hz => by simp at hz; subst hz; exact fun h9 => hns (h9 ▸ hx)⟩
     have hsl2 : ∀ j ∈ seen ++ [i], j < es.length := fun j hj => by rcases List.mem_append.1 hj with h9 | h9; exact hsl j h9; rw [List.mem_singleton] at h9; subst h9; exact lt_of_get hp
     have hl2 := seen_len hnd2 hsl2
     have hl3 : (seen ++ [i]).length = seen.length + 1 := by simp
     have hka : kAt es i = p.1 := by unfold kAt; rw [hp]; rfl
     refine qV (r_extract rfl rfl) ?_
     refine WpL_nil (Wp_seq ?_)
     refine Wp_cond_true rfl ?_
     refine Wp_skip (thn_normal (Wp_block (Wp_seq_region ?_)))
     refine WpL_val (v := (.tuple #[(I6 p.1), (.bool p.2)])) rfl rfl (by decide) (r_entry Mm Ir hp rfl) ?_
     refine qV (r_extract rfl rfl) ?_
     refine qA _ rfl ?_
     refine WpL_nil (Wp_region ?_)
     refine qM _ rfl ?_
     refine qM _ rfl ?_
     refine s_buildSlice (ps := [(0, (I6 p.1))]) (c := #[(I6 p.1)]) (by decide) rfl Tryz.underlying46 siz3 zer3 (by decide) (by decide) (by kernel_rfl) ?_
     intro bq wq Nq
     have Fq := Nq.ge E
     have Oq_bm := Nq.ltM Mm
     have Oq_br := New.ltI Ir Nq
     replace Mm := Nq.keepM Mm
     replace Ir := New.keepI Ir Nq
     replace hown := own_ext hown Nq.ext
     replace hbs := Nat.le_trans hbs Nq.ext.size
     replace E := E.ext Nq.ext
     have Bq := Nq.blk
     refine s_append (base := wr.heap.size) (n := n) (m := 1) (xs := (seen.map (kAt es)).map (Value.int .i64)) (news := [(I6 p.1)]) (size := 1) (bytes := 8) (v := (.slice la n lc)) (by decide) Tryz.underlying46 siz3 byt3 zer3 rfl (by decide) rfl hown rfl (rfl) (Bq.cells rfl) (by simp [Value.oneCell']) (by unfold maxLen; omega) (by omega) (hbs) ?_
     intro v9 w29 Ov9 Cv9 Dv9
     replace Mm := Cv9.keepM (fun h => by have := (hown.lt _ h).1; omega) Mm
     replace Ir := Chg.keepI Ir Cv9 (fun h => by have := (hown.lt _ h).1; omega)
     replace E := E.step Cv9 (fun x hx h => absurd (hown.lt x h).1 (by omega))
     obtain ⟨la2, lc2, rfl⟩ := own_form Ov9
     refine qA _ rfl ?_
     refine WpL_nil (inB_normal (thn_normal ?_))
     exact ⟨es.length - (seen ++ [i]).length, by omega, seen ++ [i], la2, lc2, n + 1, Fits.out ⟨rfl, rfl, trivial⟩, E, Mm, Ir, hnd2, hsl2, (by rw [hl3, hn]), (by rw [List.map_append, List.map_append, List.map_singleton, List.map_singleton, hka]; exact Ov9), Nat.le_trans hbs Cv9.size, rfl⟩
end Go.Proofs
namespace Go.Proofs
open Go Go.Eng Go.Sort
set_option maxRecDepth 100000
def nx (p : List Int) (k : Nat) : Int := (p[k]?).getD 1114112
def Const (f : Int → Bool) (p : List Int) : Prop := ∀ a r, a ∈ p → a ≤ r → r ≤ 1114111 → (∀ k ∈ p, k ≤ a ∨ r < k) → f r = f a
structure CInv (p : List Int) (f : Int → Bool) (ou : List Sp) (k : Nat) : Prop where
 can : Canon ou
 low : ∀ s ∈ ou, s.2 < nx p k
 mem : ∀ r, 0 ≤ r → r < nx p k → inS ou r = f r
theorem pcs_range {l : List Sp} {p : List Int} (h : PcsOf l p) (hok : ∀ s ∈ l, vSp s) {k : Int} (hk : k ∈ p) : 0 ≤ k ∧ k ≤ 1114111 := by
 rcases (h.2 k).1 hk with h1 | ⟨s, hs, h1⟩
 ·omega
 ·have := hok s hs; unfold vSp at this; omega
theorem nx_mono {p : List Int} (h : p.Pairwise (· < ·)) {k : Nat} {x : Int} (hx : p[k]? = some x) (hb : ∀ q ∈ p, q ≤ 1114111) : x < nx p (k + 1) := by
  unfold nx
  cases hy : p[k + 1]? with
  | none => have := hb x (List.mem_of_getElem? hx); simp; omega
  | some y =>
    have h1 := lt_of_get hy
    have h2 := List.pairwise_iff_getElem.1 h k (k + 1) (by omega) h1 (by omega)
    rw [List.getElem?_eq_getElem (by omega)] at hx hy
    simp at hx hy
    simp; omega
theorem nx_between {p : List Int} (h : p.Pairwise (· < ·)) {k : Nat} {x r : Int} (hx : p[k]? = some x) (hr : r < nx p (k + 1)) : ∀ q ∈ p, q ≤ x ∨ r < q := by
 intro q hq
 obtain ⟨j, hj⟩ := List.mem_iff_getElem?.1 hq
 have hjl := lt_of_get hj
 have hkl := lt_of_get hx
 rw [List.getElem?_eq_getElem hjl] at hj
 rw [List.getElem?_eq_getElem hkl] at hx
 simp at hj hx
 rcases Nat.lt_trichotomy j k with h1 | h1 | h1
 ·have := List.pairwise_iff_getElem.1 h j k hjl hkl h1; omega
 ·subst h1; omega
 ·right
  unfold nx at hr
  rw [List.getElem?_eq_getElem (show k + 1 < p.length by omega)] at hr
  simp at hr
  rcases Nat.eq_or_lt_of_le (show k + 1 ≤ j by omega) with h2 | h2
  ·subst h2; omega
  ·have := List.pairwise_iff_getElem.1 h (k + 1) j (by omega) hjl h2; omega
theorem pcs_first {l : List Sp} {p : List Int} (h : PcsOf l p) (hok : ∀ s ∈ l, vSp s) : nx p 0 = 0 := by
  have h0 : (0 : Int) ∈ p := (h.2 0).2 (.inl rfl)
  cases p with
  | nil => cases h0
  | cons x r =>
    unfold nx
    simp
    rcases List.mem_cons.1 h0 with h1 | h1
    · omega
    · have h2 := (List.pairwise_cons.1 h.1).1 0 h1
      have h3 := pcs_range h hok (k := x) List.mem_cons_self
      omega
theorem CInv.start {l : List Sp} {p : List Int} {f : Int → Bool} (h : PcsOf l p) (hok : ∀ s ∈ l, vSp s) : CInv p f [] 0 :=
 ⟨Canon.nil, fun _ h => absurd h List.not_mem_nil, fun r h0 h1 => by rw [pcs_first h hok] at h1; omega⟩
theorem CInv.same {l : List Sp} {p : List Int} {f : Int → Bool} (h : PcsOf l p) (hok : ∀ s ∈ l, vSp s) (hc : Const f p) {k : Nat} {lo r : Int} (hlo : p[k]? = some lo) (h0 : lo ≤ r) (h1 : r < nx p (k + 1)) : f r = f lo := by
  have hb : nx p (k + 1) ≤ 1114112 := by
    unfold nx
    cases hy : p[k + 1]? with
    | none => simp
    | some y => have := pcs_range h hok (List.mem_of_getElem? hy); simp; omega
  exact hc lo r (List.mem_of_getElem? hlo) h0 (by omega) (nx_between h.1 hlo h1)
theorem nx_at {p : List Int} {k : Nat} {x : Int} (h : p[k]? = some x) : nx p k = x := by unfold nx; rw [h]; rfl
theorem CInv.high {p : List Int} {f : Int → Bool} {ou : List Sp} {k : Nat} (h : CInv p f ou k) {r : Int} (hr : nx p k ≤ r) : inS ou r = false := by
  cases e : inS ou r with
  | false => rfl
  | true => obtain ⟨s, hs, _, h2⟩ := inS_iff.1 e; have := h.low s hs; omega
theorem CInv.skip {l : List Sp} {p : List Int} {f : Int → Bool} {ou : List Sp} {k : Nat} {lo : Int} (h : CInv p f ou k) (hP : PcsOf l p) (hok : ∀ s ∈ l, vSp s) (hc : Const f p) (hlo : p[k]? = some lo) (hf : f lo = false) : CInv p f ou (k + 1) := by
 have hm := nx_mono hP.1 hlo fun q hq => (pcs_range hP hok hq).2
 have he := nx_at hlo
 refine ⟨h.can, fun s hs => by have := h.low s hs; omega, fun r h0 h1 => ?_⟩
 rcases ltLe r lo with h2 | h2
 ·exact h.mem r h0 (by omega)
 ·rw [h.high (by omega), CInv.same hP hok hc hlo h2 h1, hf]
def cstep (ou : List Sp) (lo hi : Int) : List Sp := match ou.getLast? with
  | some c => if c.2 = lo - 1 then ou.dropLast ++ [(c.1, hi)] else ou ++ [(lo, hi)]
  | none => [(lo, hi)]
theorem cstep_snoc (o : List Sp) (c : Sp) (lo hi : Int) : cstep (o ++ [c]) lo hi = if c.2 = lo - 1 then o ++ [(c.1, hi)] else o ++ [c] ++ [(lo, hi)] := by unfold cstep; simp
theorem CInv.take {l : List Sp} {p : List Int} {f : Int → Bool} {ou : List Sp} {k : Nat} {lo : Int} (h : CInv p f ou k) (hP : PcsOf l p) (hok : ∀ s ∈ l, vSp s) (hc : Const f p) (hlo : p[k]? = some lo) (hf : f lo = true) : CInv p f (cstep ou lo (nx p (k + 1) - 1)) (k + 1) := by
  have hm := nx_mono hP.1 hlo fun q hq => (pcs_range hP hok hq).2
  have he := nx_at hlo
  have hlr := pcs_range hP hok (List.mem_of_getElem? hlo)
  have hb : nx p (k + 1) ≤ 1114112 := by
    unfold nx
    cases hy : p[k + 1]? with
    | none => simp
    | some y => have := pcs_range hP hok (List.mem_of_getElem? hy); simp; omega
  obtain ⟨hi, hhi⟩ : ∃ hi, hi = nx p (k + 1) - 1 := ⟨_, rfl⟩
  rw [← hhi]
  have hmem : ∀ {ou' : List Sp}, (∀ r, 0 ≤ r → inS ou' r = (inS ou r || (decide (lo ≤ r) && decide (r ≤ hi)))) → ∀ r, 0 ≤ r → r < nx p (k + 1) → inS ou' r = f r := fun hh r h0 h1 => by
    rw [hh r h0]
    rcases ltLe r lo with h2 | h2
    · rw [h.mem r h0 (by omega), decide_eq_false (p := lo ≤ r) (by omega)]; simp
    · rw [CInv.same hP hok hc hlo h2 h1, hf, decide_eq_true h2, decide_eq_true (by omega)]; simp
  rcases snoc_cases ou with rfl | ⟨o, c, rfl⟩
  · refine ⟨Canon.one ⟨hlr.1, by simp only; omega, by simp only; omega⟩, fun s hs => ?_, hmem fun r h0 => ?_⟩
    · simp [cstep] at hs; subst hs; simp only; omega
    · show inS [(lo, hi)] r = _
      rw [inS_cons, inS_nil, Bool.or_false, Bool.false_or]
  · obtain ⟨h1, h2, h3⟩ := canon_snoc.1 h.can
    have hcl := h.low c (by simp)
    unfold vSp at h2
    rw [cstep_snoc]
    split
    · rename_i h4
      refine ⟨canon_snoc.2 ⟨h1, ⟨h2.1, by simp only; omega, by simp only; omega⟩, h3⟩, fun s hs => ?_, hmem fun r h0 => ?_⟩
      · rcases List.mem_append.1 hs with hs | hs
        · have := h.low s (by simp [hs]); omega
        · rw [List.mem_singleton] at hs; subst hs; simp only; omega
      · rw [inS_append, inS_append, Bool.or_assoc]
        congr 1
        rw [Bool.eq_iff_iff]
        simp only [inS_cons, inS_nil, Bool.or_false, Bool.or_eq_true, Bool.and_eq_true, decide_eq_true_eq]
        omega
    · rename_i h4
      refine ⟨canon_snoc.2 ⟨h.can, ⟨hlr.1, by simp only; omega, by simp only; omega⟩, fun t ht => ?_⟩, fun s hs => ?_, hmem fun r h0 => ?_⟩
      · rcases List.mem_append.1 ht with ht | ht
        · have := h3 t ht; simp only; omega
        · rw [List.mem_singleton] at ht; subst ht; simp only; omega
      · rcases List.mem_append.1 hs with hs | hs
        · have := h.low s hs; omega
        · rw [List.mem_singleton] at hs; subst hs; simp only; omega
      · rw [inS_append _ [(lo, hi)]]
        congr 1
        rw [inS_cons, inS_nil, Bool.or_false]
theorem CInv.done {p : List Int} {f : Int → Bool} {ou : List Sp} (h : CInv p f ou p.length) : IsSet ou f :=
 ⟨h.can, fun r h0 h1 => h.mem r h0 (by unfold nx; rw [List.getElem?_eq_none (Nat.le_refl _)]; simp; omega)⟩
theorem inS_const {l : List Sp} {p : List Int} (h1 : ∀ s ∈ l, s.1 ∈ p) (h2 : ∀ s ∈ l, s.2 < 1114111 → s.2 + 1 ∈ p) : Const (inS l) p := by
 intro a r ha har hr hno
 rw [Bool.eq_iff_iff, inS_iff, inS_iff]
 have key : ∀ s ∈ l, (s.1 ≤ r ∧ r ≤ s.2) ↔ (s.1 ≤ a ∧ a ≤ s.2) := fun s hs => by
  have q1 := hno s.1 (h1 s hs)
  by_cases h3 : s.2 < 1114111
  ·have q2 := hno (s.2 + 1) (h2 s hs h3); omega
  ·omega
 constructor
 ·rintro ⟨s, hs, h⟩; exact ⟨s, hs, (key s hs).1 h⟩
 ·rintro ⟨s, hs, h⟩; exact ⟨s, hs, (key s hs).2 h⟩
theorem pcs_const {ll : List (List Sp)} {p : List Int} (h : PcsOf ll.flatten p) {l : List Sp} (hl : l ∈ ll) : Const (inS l) p :=
 inS_const (fun s hs => (h.2 _).2 (.inr ⟨s, List.mem_flatten.2 ⟨l, hl, hs⟩, .inl rfl⟩)) (fun s hs hm => (h.2 _).2 (.inr ⟨s, List.mem_flatten.2 ⟨l, hl, hs⟩, .inr ⟨hm, rfl⟩⟩))
theorem lt_seq : ∀ {p : List Int} {lo hi : Int}, p.Pairwise (· < ·) → (∀ q ∈ p, lo ≤ q ∧ q ≤ hi) → lo ≤ hi + 1 → ((p.length : Nat) : Int) ≤ hi - lo + 1
  | [], _, _, _, _, h => by simp; omega
  | x :: r, lo, hi, hp, hb, h => by
    have h1 := hb x List.mem_cons_self
    have h2 := lt_seq (lo := x + 1) (hi := hi) (List.pairwise_cons.1 hp).2 (fun q hq => ⟨by have := (List.pairwise_cons.1 hp).1 q hq; omega, (hb q (List.mem_cons_of_mem _ hq)).2⟩) (by omega)
    simp only [List.length_cons]; omega
theorem pcs_len {p : List Int} (hp : p.Pairwise (· < ·)) (hb : ∀ q ∈ p, 0 ≤ q ∧ q ≤ 1114111) : p.length ≤ 1114112 := by
 have := lt_seq (lo := 0) (hi := 1114111) hp hb (by omega)
 omega
set_option maxHeartbeats 4000000 in
theorem chosen_c (w0 : World) (fv v : Value) (f : Int → Bool) (ll : List (List Sp)) (h : SpssAt w0 v ll) (hl : ll.flatten.length ≤ 8796093022200) (hok : ∀ s ∈ ll.flatten, vSp s) (hc : ∀ p, PcsOf ll.flatten p → Const f p)
  (hf : ∀ (w : World) (x : Int), Ext w0 w → CallV Tryz.prog fv #[.int .i64 x] w fun r w' => r = .bool (f x) ∧ Ext w w') :
  Ret Tryz.prog 123 #[fv, v] w0 fun r w => (∃ out, IsSet out f ∧ OwnS w w0.heap.size r out) ∧ Ext w0 w := by
 refine Ret_of Tryz.func123 rfl Tryz.ntmps123 (Nat.le_of_ble_eq_true rfl) ?_
 have E : Chg none1 w0 w0 := Chg.refl _ _
 refine Wp_seq_region ?_
 refine qA _ rfl ?_
 refine WpL_nil (Wp_seq_region ?_)
 refine qA _ rfl ?_
 refine WpL_nil (Wp_seq_region ?_)
 refine qM v rfl ?_
 refine WpL_enter rfl rfl (by decide) (r_callF Tryz.func153 nm153 bd153 rfl) (pieces_c _ v ll h (by omega) hok) ?_
 rintro _ w9 ⟨⟨p, hP, ⟨pa, pc, rfl⟩, hp⟩, X9⟩
 replace E := E.ext X9
 have hpb : ∀ q ∈ p, 0 ≤ q ∧ q ≤ 1114111 := fun q hq => pcs_range hP hok hq
 have hcp := hc p hP
 have hs0 := E.size
 have hpl : p.length ≤ 1114112 := pcs_len hP.1 hpb
 obtain ⟨base, hbase⟩ : ∃ base, base = w9.heap.size := ⟨_, rfl⟩
 have E2 : Chg none1 w9 w9 := Chg.refl _ _
 refine qA _ rfl ?_
 refine WpL_nil (Wp_seq (Wp_seq_region ?_))
 refine qM _ rfl ?_
 refine qV (r_lenSlice Tryz.underlying46 rfl) ?_
 refine qM _ rfl ?_
 refine WpL_nil (Wp_block ?_)
 refine Wp_loop (fun nn_ σ W1 => ∃ (k : Nat) (la : Option Addr) (lc : Nat) (m : Nat) (ou : List Sp), (∃ jj_, σ = upds jj_ [(0, fv), (6, (.slice pa p.length pc)), (13, (.slice pa p.length pc)), (14, (I6 (p.length : Int))), (15, (I6 (k : Int))), (5, (.slice la m lc))]) ∧ Chg none1 w0 W1 ∧ Chg none1 w9 W1 ∧ (k ≤ p.length) ∧ (m = ou.length) ∧ (m ≤ k) ∧ (CInv p f ou k) ∧ (W1.ownsRow base TSp 2 (.slice la m lc) m (ou.map spanV).flatten) ∧ (base ≤ W1.heap.size) ∧ nn_ = p.length - k) (n := p.length - 0) ?_ ?_
 ·exact ⟨0, none, 0, 0, [], Fits.out ⟨rfl, rfl, rfl, rfl, rfl, rfl, trivial⟩, E, E2, Nat.zero_le _, rfl, Nat.le_refl _, CInv.start hP hok, World.ownsRow_nil _ _ _ _, (by omega), rfl⟩
 ·clear E E2
  rintro _ _ W1 ⟨k, la, lc, m, ou, ⟨j1, rfl⟩, E, E2, hk, hm, hmk, hI, hown, hbs, rfl⟩
  refine Wp_seq_region ?_
  refine qV (r_lss rfl rfl) ?_
  refine WpL_nil (Wp_seq ?_)
  refine Wp_cond rfl (fun hlt => ?_) (fun hlt => ?_)
  ·have khlt := hlt
   replace hlt := of_decide_eq_true hlt
   obtain ⟨lo, hlo⟩ := get_of_lt (l := p) (i := k) (by omega)
   have hlb := hpb lo (List.mem_of_getElem? hlo)
   obtain ⟨b, o, hab, hcl⟩ := ints_cells hp (by omega)
   subst hab
   refine Wp_skip (thn_normal (Wp_seq (Wp_block (Wp_seq_region ?_))))
   refine qM _ rfl ?_
   refine qV (r_indexSlice (b := b) (o := o) (len := p.length) (cap := pc) (i := k) (o' := o + k) rfl rfl rfl Tryz.underlying46 siz3 (by omega) (by omega)) ?_
   refine qV (r_load rfl flat3 (E2.cell (fun f => f) (hcl k lo hlo))) ?_
   refine qA _ rfl ?_
   refine qA _ rfl ?_
   refine WpL_nil (Wp_seq_region ?_)
   refine qA _ rfl ?_
   refine WpL_nil ?_
   refine Wp_cut (fun σ W3 => ∃ (hi : Int), (∃ jj_, σ = upds jj_ [(0, fv), (5, (.slice la m lc)), (6, (.slice (some ⟨b, o, none⟩) p.length pc)), (8, (I6 lo)), (13, (.slice (some ⟨b, o, none⟩) p.length pc)), (14, (I6 (p.length : Int))), (15, (I6 (k : Int))), (9, (I6 hi))]) ∧ Chg none1 w0 W3 ∧ Chg none1 w9 W3 ∧ (hi = nx p (k + 1) - 1) ∧ (W3.ownsRow base TSp 2 (.slice la m lc) m (ou.map spanV).flatten) ∧ (base ≤ W3.heap.size)) ?_ ?_
   ·skip
    refine Wp_seq_region ?_
    refine qM _ rfl ?_
    refine qM _ rfl ?_
    refine qV (r_lenSlice Tryz.underlying46 rfl) ?_
    refine qV (r_sub rfl rfl (wI64 (by omega))) ?_
    refine qV (r_lss rfl rfl) ?_
    refine WpL_nil ?_
    refine Wp_cond rfl (fun hk1 => ?_) (fun hk1 => ?_)
    ·have khk1 := hk1
     replace hk1 := of_decide_eq_true hk1
     obtain ⟨y, hy⟩ := get_of_lt (l := p) (i := k + 1) (by omega)
     have hyb := hpb y (List.mem_of_getElem? hy)
     refine Wp_region ?_
     refine qM _ rfl ?_
     refine qM _ rfl ?_
     refine qV (r_add rfl rfl (wI64 (by omega))) ?_
     refine qV (r_indexSlice (b := b) (o := o) (len := p.length) (cap := pc) (i := k + 1) (o' := o + (k + 1)) rfl rfl (by omega) Tryz.underlying46 siz3 (by omega) (by omega)) ?_
     refine qV (r_load rfl flat3 (E2.cell (fun f => f) (hcl (k + 1) y hy))) ?_
     refine qV (r_sub rfl rfl (wI64 (by omega))) ?_
     refine qA _ rfl ?_
     refine WpL_nil (thn_normal ?_)
     exact ⟨(y - 1), Fits.out ⟨rfl, rfl, rfl, rfl, rfl, rfl, rfl, rfl, trivial⟩, E, E2, (by rw [nx_at hy]), hown, hbs⟩
    ·have khk1 := hk1
     replace hk1 := of_decide_eq_false hk1
     refine Wp_skip (thn_normal ?_)
     exact ⟨1114111, Fits.out ⟨rfl, rfl, rfl, rfl, rfl, rfl, rfl, rfl, trivial⟩, E, E2, (by unfold nx; rw [List.getElem?_eq_none (by omega)]; rfl), hown, hbs⟩
   ·clear E E2
    rintro _ W3 ⟨hi, ⟨j3, rfl⟩, E, E2, hhi, hown, hbs⟩
    refine Wp_seq (Wp_seq_region ?_)
    refine qM _ rfl ?_
    refine qM _ rfl ?_
    refine WpL_callV (by decide) rfl rfl (hf _ lo E) ?_
    rintro _ w8 ⟨rfl, X8⟩
    replace hown := own_ext hown X8
    replace hbs := Nat.le_trans hbs X8.size
    replace E := E.ext X8
    replace E2 := E2.ext X8
    refine qV (r_not rfl) ?_
    refine WpL_nil ?_
    refine Wp_cond rfl (fun hfl => ?_) (fun hfl => ?_)
    ·have khfl := hfl
     replace hfl := by simpa using hfl
     refine Wp_exit (thn_exit (inB_here (thn_normal (Wp_region ?_))))
     refine qV (r_add rfl rfl (wI64 (by omega))) ?_
     refine qM _ rfl ?_
     refine WpL_nil (thn_normal ?_)
     exact ⟨p.length - (k + 1), by omega, k + 1, la, lc, m, ou, Fits.out ⟨rfl, rfl, rfl, rfl, rfl, rfl, trivial⟩, E, E2, (by omega), hm, (by omega), hI.skip hP hok hcp hlo hfl, hown, hbs, rfl⟩
    ·have khfl := hfl
     replace hfl := by simpa using hfl
     have hT := hI.take hP hok hcp hlo hfl
     rw [← hhi] at hT
     rcases Bool.eq_false_or_eq_true (decide ((0 : Int) ≤ ((m : Nat) : Int) - 1)) with hm0 | hm0
     ·have khm0 := hm0
      replace khm0 := of_decide_eq_true khm0
      obtain ⟨oo, cc, hoc⟩ : ∃ oo cc, ou = oo ++ [cc] := by rcases snoc_cases ou with rfl | h1; simp at hm; omega; exact h1
      subst hoc
      have hmo : m = oo.length + 1 := by simpa using hm
      rw [cstep_snoc] at hT
      obtain ⟨g, rfl, hgb, hgc⟩ := own_cells hown (by omega)
      refine Wp_skip (thn_normal (Wp_seq_region ?_))
      refine qM _ rfl ?_
      refine qV (r_lenSlice Tryz.underlying22 rfl) ?_
      refine qV (r_sub rfl rfl (wI64 (by omega))) ?_
      refine qA _ rfl ?_
      refine WpL_nil (Wp_seq_region ?_)
      refine qM _ rfl ?_
      refine qV (r_geq rfl rfl) ?_
      refine qM _ rfl ?_
      refine WpL_guard_yes rfl rfl (by decide) (congrArg Value.bool hm0) ?_
      refine qM _ rfl ?_
      refine WpL_guard_yes rfl rfl (by decide) (congrArg Value.bool hm0) ?_
      refine qM _ rfl ?_
      refine WpL_guard_yes rfl rfl (by decide) (congrArg Value.bool hm0) ?_
      refine qV (r_indexSlice (b := g) (o := 0) (len := m) (cap := lc) (i := m - 1) (o' := 0 + (m - 1) * 2) rfl rfl (by omega) Tryz.underlying22 siz67 (by omega) (by omega)) ?_
      refine WpL_guard_yes rfl rfl (by decide) (congrArg Value.bool hm0) ?_
      refine qF _ _ _ rfl Tryz.underlying67 rfl siz3 rfl ?_
      refine WpL_guard_yes rfl rfl (by decide) (congrArg Value.bool hm0) ?_
      refine qV (r_load (v := (I6 cc.2)) rfl flat3 ((by have h1 := (hown.cells (g := g) rfl) (oo.length * 2 + 1) _ (span_last oo cc); rwa [Addr.add_lit, show 0 + (oo.length * 2 + 1) = 0 + (m - 1) * 2 + 1 from by omega] at h1))) ?_
      refine WpL_guard_yes rfl rfl (by decide) (congrArg Value.bool hm0) ?_
      refine qM _ rfl ?_
      refine WpL_guard_yes rfl rfl (by decide) (congrArg Value.bool hm0) ?_
      refine qV (r_sub rfl rfl (wI64 (by omega))) ?_
      refine WpL_guard_yes rfl rfl (by decide) (congrArg Value.bool hm0) ?_
      refine qV (r_eql rfl rfl) ?_
      refine qV (r_pick (v := (.bool (decide ((cc.2 : Int) = lo - 1)))) rfl (by rw [hm0]; rfl)) ?_
      refine WpL_nil ?_
      refine Wp_cond rfl (fun hj => ?_) (fun hj => ?_)
      ·have khj := hj
       replace hj := of_decide_eq_true hj
       rw [if_pos hj] at hT
       obtain ⟨cur, hB, hcs⟩ := own_blk hown
       refine Wp_region ?_
       refine qM _ rfl ?_
       refine qM _ rfl ?_
       refine qM _ rfl ?_
       refine qV (r_indexSlice (b := g) (o := 0) (len := m) (cap := lc) (i := m - 1) (o' := 0 + (m - 1) * 2) rfl rfl (by omega) Tryz.underlying22 siz67 (by omega) (by omega)) ?_
       refine qF _ _ _ rfl Tryz.underlying67 rfl siz3 rfl ?_
       have hB0 := hB
       refine s_store (b := g) (o := 0 + (m - 1) * 2 + 1) (c' := cur.setIfInBounds (0 + (m - 1) * 2 + 1) (I6 hi)) (v := (I6 hi)) rfl rfl rfl siz3 hB (by omega) (rfl) ?_
       intro w7 S7
       replace E := S7.step E (by first | exact Or.inl (by omega) | exact Or.inr rfl | exact Or.inr (by assumption) | exact Or.inr (by simp) | exact Or.inr (by omega) | exact Or.inr (by dsimp only; omega))
       replace E2 := S7.step E2 (Or.inl (by omega))
       replace hB := S7.blk
       have hown1 := own_write hown hB0 (i := 0 + (m - 1) * 2 + 1) (by omega) hB
       refine WpL_nil (inB_normal (thn_normal (Wp_region ?_)))
       refine qV (r_add rfl rfl (wI64 (by omega))) ?_
       refine qM _ rfl ?_
       refine WpL_nil (thn_normal ?_)
       exact ⟨p.length - (k + 1), by omega, k + 1, some ⟨g, 0, none⟩, lc, m, oo ++ [(cc.1, hi)], Fits.out ⟨rfl, rfl, rfl, rfl, rfl, rfl, trivial⟩, E, E2, (by omega), (by simp [hmo]), (by omega), hT, (by rw [show 0 + (m - 1) * 2 + 1 = oo.length * 2 + 1 from by omega, span_set] at hown1; exact hown1), (by have := hown1.lt g rfl; omega), rfl⟩
      ·have khj := hj
       replace hj := of_decide_eq_false hj
       rw [if_neg hj] at hT
       refine Wp_region ?_
       refine qM _ rfl ?_
       refine qM _ rfl ?_
       refine qM _ rfl ?_
       refine qV (r_build (ps := [(0, (I6 lo)), (1, (I6 hi))]) (v := (.agg #[(I6 lo), (I6 hi)])) rfl (by kernel_rfl)) ?_
       refine s_buildSlice (ps := [(0, (.agg #[(I6 lo), (I6 hi)]))]) (c := #[(I6 lo), (I6 hi)]) (by decide) rfl Tryz.underlying22 siz67 zer67 (by decide) (by decide) (by kernel_rfl) ?_
       intro br wr Nr
       have Fr := Nr.ge E
       have Fr_E2 := Nr.ge E2
       replace hown := own_ext hown Nr.ext
       replace hbs := Nat.le_trans hbs Nr.ext.size
       replace E := E.ext Nr.ext
       have Br := Nr.blk
       replace E2 := E2.ext Nr.ext
       refine s_append (base := base) (n := m) (m := 1) (xs := ((oo ++ [cc]).map spanV).flatten) (news := [(I6 lo), (I6 hi)]) (size := 2) (bytes := 16) (v := (.slice (some ⟨g, 0, none⟩) m lc)) (by decide) Tryz.underlying22 siz67 byt67 zer67 rfl (by decide) rfl hown rfl (rfl) (Br.cells rfl) (by simp [Value.oneCell']) (by unfold maxLen; omega) (by omega) (hbs) ?_
       intro v9 w29 Ov9 Cv9 Dv9
       replace E := E.step Cv9 (fun x hx h => absurd (hown.lt x h).1 (by omega))
       replace E2 := E2.step Cv9 (fun x hx h => absurd (hown.lt x h).1 (by omega))
       obtain ⟨la2, lc2, rfl⟩ := own_form Ov9
       refine qA _ rfl ?_
       refine WpL_nil (inB_normal (thn_normal (Wp_region ?_)))
       refine qV (r_add rfl rfl (wI64 (by omega))) ?_
       refine qM _ rfl ?_
       refine WpL_nil (thn_normal ?_)
       exact ⟨p.length - (k + 1), by omega, k + 1, la2, lc2, m + 1, oo ++ [cc] ++ [(lo, hi)], Fits.out ⟨rfl, rfl, rfl, rfl, rfl, rfl, trivial⟩, E, E2, (by omega), (by simp [hmo]), (by omega), hT, (by rw [spanV_snoc]; exact Ov9), Nat.le_trans hbs Cv9.size, rfl⟩
     ·have khm0 := hm0
      replace khm0 := of_decide_eq_false khm0
      have hm1 : m = 0 := by omega
      have hou0 : ou = [] := List.eq_nil_of_length_eq_zero (by omega)
      subst hou0
      refine Wp_skip (thn_normal (Wp_seq_region ?_))
      refine qM _ rfl ?_
      refine qV (r_lenSlice Tryz.underlying22 rfl) ?_
      refine qV (r_sub rfl rfl (wI64 (by omega))) ?_
      refine qA _ rfl ?_
      refine WpL_nil (Wp_seq_region ?_)
      refine qM _ rfl ?_
      refine qV (r_geq rfl rfl) ?_
      refine qM _ rfl ?_
      refine WpL_guard_no rfl rfl (by decide) (v := .bool false) (congrArg Value.bool hm0) (Or.inl rfl) ?_
      refine WpL_guard_no rfl rfl (by decide) (v := .bool false) (congrArg Value.bool hm0) (Or.inl rfl) ?_
      refine WpL_guard_no rfl rfl (by decide) (v := .bool false) (congrArg Value.bool hm0) (Or.inl rfl) ?_
      refine WpL_guard_no rfl rfl (by decide) (v := .bool false) (congrArg Value.bool hm0) (Or.inl rfl) ?_
      refine WpL_guard_no rfl rfl (by decide) (v := .bool false) (congrArg Value.bool hm0) (Or.inl rfl) ?_
      refine WpL_guard_no rfl rfl (by decide) (v := .bool false) (congrArg Value.bool hm0) (Or.inl rfl) ?_
      refine WpL_guard_no rfl rfl (by decide) (v := .bool false) (congrArg Value.bool hm0) (Or.inl rfl) ?_
      refine WpL_guard_no rfl rfl (by decide) (v := .bool false) (congrArg Value.bool hm0) (Or.inl rfl) ?_
      refine qV (r_pick (v := (.bool false)) rfl (by rw [hm0]; rfl)) ?_
      refine WpL_nil ?_
      refine Wp_cond_false rfl ?_
      refine Wp_region ?_
      refine qM _ rfl ?_
      refine qM _ rfl ?_
      refine qM _ rfl ?_
      refine qV (r_build (ps := [(0, (I6 lo)), (1, (I6 hi))]) (v := (.agg #[(I6 lo), (I6 hi)])) rfl (by kernel_rfl)) ?_
      refine s_buildSlice (ps := [(0, (.agg #[(I6 lo), (I6 hi)]))]) (c := #[(I6 lo), (I6 hi)]) (by decide) rfl Tryz.underlying22 siz67 zer67 (by decide) (by decide) (by kernel_rfl) ?_
      intro b8 w8 N8
      have F8 := N8.ge E
      have F8_E2 := N8.ge E2
      replace hown := own_ext hown N8.ext
      replace hbs := Nat.le_trans hbs N8.ext.size
      replace E := E.ext N8.ext
      have B8 := N8.blk
      replace E2 := E2.ext N8.ext
      refine s_append (base := base) (n := m) (m := 1) (xs := []) (news := [(I6 lo), (I6 hi)]) (size := 2) (bytes := 16) (v := (.slice la m lc)) (by decide) Tryz.underlying22 siz67 byt67 zer67 rfl (by decide) rfl hown rfl (rfl) (B8.cells rfl) (by simp [Value.oneCell']) (by unfold maxLen; omega) (by omega) (hbs) ?_
      intro v9 w29 Ov9 Cv9 Dv9
      replace E := E.step Cv9 (fun x hx h => absurd (hown.lt x h).1 (by omega))
      replace E2 := E2.step Cv9 (fun x hx h => absurd (hown.lt x h).1 (by omega))
      obtain ⟨la2, lc2, rfl⟩ := own_form Ov9
      refine qA _ rfl ?_
      refine WpL_nil (inB_normal (thn_normal (Wp_region ?_)))
      refine qV (r_add rfl rfl (wI64 (by omega))) ?_
      refine qM _ rfl ?_
      refine WpL_nil (thn_normal ?_)
      exact ⟨p.length - (k + 1), by omega, k + 1, la2, lc2, m + 1, [(lo, hi)], Fits.out ⟨rfl, rfl, rfl, rfl, rfl, rfl, trivial⟩, E, E2, (by omega), (by simp [hm1]), (by omega), hT, (by simpa [spanV] using Ov9), Nat.le_trans hbs Cv9.size, rfl⟩
  ·have khlt := hlt
   replace hlt := of_decide_eq_false hlt
   have hkk : k = p.length := by omega
   refine Wp_exit (thn_exit (thn_exit (inB_here (thn_normal (Wp_seq_region ?_)))))
   refine qM _ rfl ?_
   refine qA _ rfl ?_
   refine WpL_nil (Wp_ret ?_)
   refine fin_tmp Tryz.results123 (v := (.slice la m lc)) rfl ?_
   subst hkk; subst hm
   exact ⟨⟨ou, hI.done, ⟨la, lc, rfl⟩, own_low hown (by omega)⟩, E⟩
theorem limited_c (w0 : World) (v : Value) (j : List Sp) (h : SetAt w0 v j) : Ret Tryz.prog 122 #[v] w0 fun r w => (∃ out e, fitsP j out e ∧ SetRes w r out e) ∧ Ext w0 w := by
 obtain ⟨⟨a, c, rfl⟩, h⟩ := h
 refine Ret_of Tryz.func122 rfl Tryz.ntmps122 (Nat.le_of_ble_eq_true rfl) ?_
 have E : Chg none1 w0 w0 := Chg.refl _ _
 refine Wp_seq_region ?_
 refine qA _ rfl ?_
 refine qA _ rfl ?_
 refine WpL_nil (Wp_seq (Wp_seq_region ?_))
 refine qM _ rfl ?_
 refine qV (r_lenSlice Tryz.underlying22 rfl) ?_
 refine qV (r_gtr rfl rfl) ?_
 refine WpL_nil ?_
 refine Wp_cond rfl (fun hl => ?_) (fun hl => ?_)
 ·have khl := hl
  replace hl := of_decide_eq_true hl
  refine Wp_seq_region ?_
  refine qA _ rfl ?_
  refine qA _ rfl ?_
  refine WpL_nil (Wp_ret (thn_ret ?_))
  refine fin_tmp2 Tryz.results122 (v := (.slice none 0 0)) (v' := (.int .i64 2)) rfl rfl ?_
  exact ⟨⟨[], 2, by unfold fitsP; rw [if_pos (by omega)]; exact ⟨rfl, rfl⟩, none, 0, rfl, SlAt.nil _ _ _ _⟩, E⟩
 ·have khl := hl
  replace hl := of_decide_eq_false hl
  refine Wp_skip (thn_normal (Wp_seq_region ?_))
  refine qM _ rfl ?_
  refine qA _ rfl ?_
  refine qA _ rfl ?_
  refine WpL_nil (Wp_ret ?_)
  refine fin_tmp2 Tryz.results122 (v := (.slice a j.length c)) (v' := (.int .i64 0)) rfl rfl ?_
  exact ⟨⟨j, 0, by unfold fitsP; rw [if_neg (by omega)]; exact ⟨rfl, rfl⟩, a, c, rfl, h⟩, E⟩
theorem limited_n (S : Nat → Prop) (w0 : World) (a : Option Addr) (c : Nat) (j : List Sp) (h : SlIn S w0 2 (.slice a j.length c) (j.map spanV)) : Ret Tryz.prog 122 #[.slice a j.length c] w0 fun r w => (∃ out e, fitsP j out e ∧ ∃ a c, r = .tuple #[.slice a out.length c, .int .i64 e] ∧ SlIn S w 2 (.slice a out.length c) (out.map spanV)) ∧ Ext w0 w := by
 refine Ret_of Tryz.func122 rfl Tryz.ntmps122 (Nat.le_of_ble_eq_true rfl) ?_
 have E : Chg none1 w0 w0 := Chg.refl _ _
 refine Wp_seq_region ?_
 refine qA _ rfl ?_
 refine qA _ rfl ?_
 refine WpL_nil (Wp_seq (Wp_seq_region ?_))
 refine qM _ rfl ?_
 refine qV (r_lenSlice Tryz.underlying22 rfl) ?_
 refine qV (r_gtr rfl rfl) ?_
 refine WpL_nil ?_
 refine Wp_cond rfl (fun hl => ?_) (fun hl => ?_)
 ·have khl := hl
  replace hl := of_decide_eq_true hl
  refine Wp_seq_region ?_
  refine qA _ rfl ?_
  refine qA _ rfl ?_
  refine WpL_nil (Wp_ret (thn_ret ?_))
  refine fin_tmp2 Tryz.results122 (v := (.slice none 0 0)) (v' := (.int .i64 2)) rfl rfl ?_
  exact ⟨⟨[], 2, by unfold fitsP; rw [if_pos (by omega)]; exact ⟨rfl, rfl⟩, none, 0, rfl, sin_nil _ _⟩, E⟩
 ·have khl := hl
  replace hl := of_decide_eq_false hl
  refine Wp_skip (thn_normal (Wp_seq_region ?_))
  refine qM _ rfl ?_
  refine qA _ rfl ?_
  refine qA _ rfl ?_
  refine WpL_nil (Wp_ret ?_)
  refine fin_tmp2 Tryz.results122 (v := (.slice a j.length c)) (v' := (.int .i64 0)) rfl rfl ?_
  exact ⟨⟨j, 0, by unfold fitsP; rw [if_neg (by omega)]; exact ⟨rfl, rfl⟩, a, c, rfl, h⟩, E⟩
theorem spss_one {w : World} {b : Nat} {x : Value} {l : List Sp} {T : Nat} (hB : Blk w b #[x] T) (hx : SpansAt w x l) : SpssAt w (.slice (some ⟨b, 0, none⟩) 1 1) [l] := by
  refine ⟨[x], ⟨_, 1, rfl, by simp, by simp, .inr ⟨b, 0, rfl, fun i r hr j u hu => ?_⟩⟩, rfl, fun i u l' hu hl => ?_⟩
  · match i, hr with
    | 0, hr => simp at hr; subst hr; match j, hu with | 0, hu => simp at hu; subst hu; exact hB.cell rfl
  · match i, hu with
    | 0, hu => simp at hu hl; subst hu; subst hl; exact hx
def norm2P (a out : List Sp) (e : Int) : Prop := ((∃ s ∈ a, ¬ vSp s) ∧ e = 1 ∧ out = []) ∨ ((∀ s ∈ a, vSp s) ∧ ∃ j, IsSet j (inS a) ∧ fitsP j out e)
theorem nset1_c (w0 : World) (b : Nat) (x : Value) (a : List Sp) (r : Int) (hB : Blk w0 b #[x] 22) (h : SpansAt w0 x a) : Ret Tryz.prog 124 #[.int .i64 r, .pointer (some ⟨b, 0, none⟩)] w0 fun v w => v = .bool (inS a r) ∧ Ext w0 w := by
 refine Ret_of Tryz.func124 rfl Tryz.ntmps124 (Nat.le_of_ble_eq_true rfl) ?_
 have E : Chg none1 w0 w0 := Chg.refl _ _
 refine Wp_seq_region ?_
 refine qA _ rfl ?_
 refine WpL_nil (Wp_seq_region ?_)
 refine qV (r_load rfl flat22 (hB.cell rfl)) ?_
 refine qM _ rfl ?_
 refine WpL_enter rfl rfl (by decide) (r_callF Tryz.func82 nm82 bd82 rfl) (inset_c _ x a r h) ?_
 rintro _ w9 ⟨rfl, X9⟩
 replace hB := X9.keep hB
 replace E := E.ext X9
 refine qA _ rfl ?_
 refine WpL_nil (Wp_ret ?_)
 refine fin_tmp Tryz.results124 (v := (.bool (inS a r))) rfl ?_
 exact ⟨rfl, E⟩
set_option maxHeartbeats 1000000 in
theorem nset_n (w0 : World) (v : Value) (a : List Sp) (h : SpansAt w0 v a) (hl : a.length ≤ 8796093022200) : Ret Tryz.prog 95 #[v] w0 fun r w => (∃ out e, norm2P a out e ∧ SetRN w0.heap.size w r out e) ∧ Ext w0 w := by
 obtain ⟨aa, ac, rfl⟩ := SlAt.form h
 simp only [List.length_map] at h ⊢
 refine Ret_of Tryz.func95 rfl Tryz.ntmps95 (Nat.le_of_ble_eq_true rfl) ?_
 have E : Chg none1 w0 w0 := Chg.refl _ _
 refine Wp_seq_region ?_
 refine s_box (v := (.slice aa a.length ac)) (c := #[(.slice aa a.length ac)]) (by decide) rfl rfl ?_
 intro bq wq Nq
 have Fq := Nq.ge E
 replace E := E.ext Nq.ext
 have Bq := Nq.blk
 refine qA _ rfl ?_
 refine qA _ rfl ?_
 refine WpL_nil (Wp_seq (Wp_seq_region ?_))
 refine qV (r_load rfl flat22 (Bq.cell rfl)) ?_
 refine qV (r_lenSlice Tryz.underlying22 rfl) ?_
 refine qM _ rfl ?_
 refine WpL_nil (Wp_block ?_)
 refine Wp_loop (fun nn_ σ W1 => ∃ (k : Nat), (∃ jj_, σ = upds jj_ [(1, (P6 bq 0)), (6, (.slice aa a.length ac)), (7, (I6 (a.length : Int))), (8, (I6 (k : Int)))]) ∧ Chg none1 w0 W1 ∧ Blk W1 bq #[(.slice aa a.length ac)] 22 ∧ (k ≤ a.length) ∧ (∀ s ∈ a.take k, vSp s) ∧ nn_ = a.length - k) (n := a.length - 0) ?_ ?_
 ·exact ⟨0, Fits.out ⟨rfl, rfl, rfl, rfl, trivial⟩, E, Bq, Nat.zero_le _, (fun s hs => by simp at hs), rfl⟩
 ·clear E Bq
  rintro _ _ W1 ⟨k, ⟨j1, rfl⟩, E, Bq, hk, hv, rfl⟩
  refine Wp_seq_region ?_
  refine qV (r_lss rfl rfl) ?_
  refine WpL_nil (Wp_seq ?_)
  refine Wp_cond rfl (fun hlt => ?_) (fun hlt => ?_)
  ·have khlt := hlt
   replace hlt := of_decide_eq_true hlt
   obtain ⟨s, hs⟩ := get_of_lt (l := a) (i := k) (by omega)
   obtain ⟨b, o, hab, hcl⟩ := spans_cells h (by omega)
   subst hab
   refine Wp_skip (thn_normal (Wp_seq (Wp_block (Wp_seq_region ?_))))
   refine qV (r_indexSlice (b := b) (o := o) (len := a.length) (cap := ac) (i := k) (o' := o + k * 2) rfl rfl rfl Tryz.underlying22 siz67 (by omega) (by omega)) ?_
   refine qV (r_loadAgg rfl agg67 siz67 rfl ((hcl k s hs).ext E)) ?_
   refine s_allocStore (v := (.agg #[(I6 s.1), (I6 s.2)])) (c := #[(I6 s.1), (I6 s.2)]) (n := 2) (by decide) zer67 rfl siz67 rfl rfl rfl (by simp [Value.oneCell']) ?_
   intro b3 w3 N3
   have F3 := N3.ge E
   have O3_bq := N3.lt Bq
   replace Bq := N3.keep Bq
   replace E := E.ext N3.ext
   have B3 := N3.blk
   refine WpL_nil (Wp_seq_region ?_)
   refine qV (r_loadAgg (vs := [(I6 s.1), (I6 s.2)]) rfl agg67 siz67 rfl (B3.cells rfl)) ?_
   refine WpL_enter rfl rfl (by decide) (r_callF Tryz.func96 nm96 bd96 rfl) (gspan_c s _) ?_
   rintro _ w9 ⟨rfl, X9⟩
   replace Bq := X9.keep Bq
   replace B3 := X9.keep B3
   replace E := E.ext X9
   refine qV (r_not rfl) ?_
   refine WpL_nil ?_
   refine Wp_cond rfl (fun hvs => ?_) (fun hvs => ?_)
   ·have khvs := hvs
    replace hvs := by simpa using hvs
    refine Wp_seq_region ?_
    refine qA _ rfl ?_
    refine qA _ rfl ?_
    refine WpL_nil (Wp_ret (inB_ret (thn_ret (thn_ret (inB_ret (thn_ret ?_))))))
    refine fin_tmp2 Tryz.results95 (v := (.slice none 0 0)) (v' := (.int .i64 1)) rfl rfl ?_
    exact ⟨⟨[], 1, .inl ⟨⟨s, List.mem_of_getElem? hs, fun h9 => by rw [validB_iff.2 h9] at hvs; cases hvs⟩, rfl, rfl⟩, none, 0, rfl, sin_nil _ _⟩, E⟩
   ·have khvs := hvs
    replace hvs := by simpa using hvs
    refine Wp_skip (inB_normal (thn_normal (Wp_region ?_)))
    refine qV (r_add rfl rfl (wI64 (by omega))) ?_
    refine qM _ rfl ?_
    refine WpL_nil (thn_normal ?_)
    exact ⟨a.length - (k + 1), by omega, k + 1, Fits.out ⟨rfl, rfl, rfl, rfl, trivial⟩, E, Bq, (by omega), (fun t ht => by rw [take_snoc hs] at ht; rcases List.mem_append.1 ht with ht | ht; exact hv t ht; rw [List.mem_singleton] at ht; subst ht; exact validB_iff.1 hvs), rfl⟩
  ·have khlt := hlt
   replace hlt := of_decide_eq_false hlt
   have hkk : k = a.length := by omega
   rw [hkk, List.take_length] at hv
   refine Wp_exit (thn_exit (thn_exit (inB_here (thn_normal (Wp_seq_region ?_)))))
   refine qV (r_makeFunc rfl rfl) ?_
   refine qV (r_load rfl flat22 (Bq.cell rfl)) ?_
   refine s_buildSlice (ps := [(0, (.slice aa a.length ac))]) (c := #[(.slice aa a.length ac)]) (by decide) rfl Tryz.underlying38 siz22 zer22 (by decide) (by decide) (by kernel_rfl) ?_
   intro bt wt Nt
   have Ft := Nt.ge E
   have Ot_bq := Nt.lt Bq
   replace Bq := Nt.keep Bq
   replace E := E.ext Nt.ext
   have Bt := Nt.blk
   have hz7 := E.size
   refine WpL_enter rfl rfl (by decide) (r_callF Tryz.func123 nm123 bd123 rfl) (chosen_c _ _ _ (inS a) [a] (spss_one Bt (h.ext E)) (by simpa using hl) (by simpa using hv) (fun p hp => pcs_const hp (by simp)) (fun w x hE => CallV.mk (first := #[]) (cap := #[.pointer (some ⟨bq, 0, none⟩)]) Tryz.func124 nm124 bd124 rfl (nset1_c w bq _ a x (hE.keep Bq) ((h.ext E).ext hE)))) ?_
   rintro _ w8 ⟨⟨j, hj, ⟨⟨ja, jc, rfl⟩, O8⟩⟩, X8⟩
   replace Bq := X8.keep Bq
   replace Bt := X8.keep Bt
   replace E := E.ext X8
   have hJ : OwnS w8 _ (.slice ja j.length jc) j := ⟨⟨_, _, rfl⟩, O8⟩
   have hz8 := E.size
   refine WpL_enter rfl rfl (by decide) (r_callF Tryz.func122 nm122 bd122 rfl) (limited_n _ _ _ _ j (own_sin hJ)) ?_
   rintro _ w6 ⟨⟨out, e, hf, fa, fc, rfl, hsp⟩, X6⟩
   replace Bq := X6.keep Bq
   replace Bt := X6.keep Bt
   replace E := E.ext X6
   refine qV (r_extract rfl rfl) ?_
   refine qV (r_extract rfl rfl) ?_
   refine qA _ rfl ?_
   refine qA _ rfl ?_
   refine WpL_nil (Wp_ret ?_)
   refine fin_tmp2 Tryz.results95 (v := (.slice fa out.length fc)) (v' := (.int .i64 e)) rfl rfl ?_
   exact ⟨⟨out, e, .inr ⟨hv, j, hj, hf⟩, fa, fc, rfl, hsp.mono fun y hy => by have h3 : _ ≤ y := hy; omega⟩, E⟩
end Go.Proofs
namespace Go.Proofs
open Go Go.Eng Go.Sort
set_option maxRecDepth 100000
abbrev TPr : Nat := 57
def five : List Sp := [(65, 90), (192, 214), (216, 222), (913, 929), (931, 939)]
def prs (s : Sp) : List Sp := (List.range (s.2 - s.1 + 1).toNat).map fun (n : Nat) => (s.1 + (n : Int), s.1 + (n : Int) + 32)
def fpL : List Sp := five.flatMap prs ++ [(181, 956), (962, 963)]
theorem prs_take {s : Sp} {i : Nat} (h : s.1 + (i : Int) ≤ s.2) : (prs s).take (i + 1) = (prs s).take i ++ [(s.1 + (i : Int), s.1 + (i : Int) + 32)] := by
 have : (prs s)[i]? = some (s.1 + (i : Int), s.1 + (i : Int) + 32) := by
  unfold prs
  rw [List.getElem?_map, List.getElem?_range (by omega)]; rfl
 rw [List.take_add_one, this]; rfl
theorem five_len {k : Nat} : ((five.take k).flatMap prs).length ≤ 200 := by
 have h : ∀ k, k ≤ 5 → ((five.take k).flatMap prs).length ≤ 200 := by decide +kernel
 rcases Nat.lt_or_ge k 6 with h1 | h1
 ·exact h k (by omega)
 ·rw [List.take_of_length_le (by simp [five]; omega)]
  exact h 5 (by omega)
theorem five_get {k : Nat} {s : Sp} (h : five[k]? = some s) : 0 ≤ s.1 ∧ s.1 ≤ s.2 ∧ s.2 ≤ 939 := by
 have h1 : ∀ s ∈ five, 0 ≤ s.1 ∧ s.1 ≤ s.2 ∧ s.2 ≤ 939 := by decide
 exact h1 s (List.mem_of_getElem? h)
set_option maxHeartbeats 2000000 in
theorem fpairs_c (w0 : World) : Ret Tryz.prog 93 #[] w0 fun r w => ((∃ a c, r = .slice a fpL.length c) ∧ SlIn (fun b => w0.heap.size ≤ b ∧ b < w.heap.size) w 2 r (fpL.map spanV)) ∧ Ext w0 w := by
 obtain ⟨base, hbase⟩ : ∃ base, base = w0.heap.size := ⟨_, rfl⟩
 refine Ret_of Tryz.func93 rfl Tryz.ntmps93 (Nat.le_of_ble_eq_true rfl) ?_
 have E : Chg none1 w0 w0 := Chg.refl _ _
 refine Wp_seq_region ?_
 refine qA _ rfl ?_
 refine WpL_nil (Wp_seq_region ?_)
 refine qA _ rfl ?_
 refine WpL_nil (Wp_seq (Wp_seq_region ?_))
 refine qV (r_build (ps := [(0, (I6 65)), (1, (I6 90))]) (v := (.agg #[(I6 65), (I6 90)])) rfl (by kernel_rfl)) ?_
 refine qV (r_build (ps := [(0, (I6 192)), (1, (I6 214))]) (v := (.agg #[(I6 192), (I6 214)])) rfl (by kernel_rfl)) ?_
 refine qV (r_build (ps := [(0, (I6 216)), (1, (I6 222))]) (v := (.agg #[(I6 216), (I6 222)])) rfl (by kernel_rfl)) ?_
 refine qV (r_build (ps := [(0, (I6 913)), (1, (I6 929))]) (v := (.agg #[(I6 913), (I6 929)])) rfl (by kernel_rfl)) ?_
 refine qV (r_build (ps := [(0, (I6 931)), (1, (I6 939))]) (v := (.agg #[(I6 931), (I6 939)])) rfl (by kernel_rfl)) ?_
 refine s_buildSlice (ps := [(0, (.agg #[(I6 65), (I6 90)])), (1, (.agg #[(I6 192), (I6 214)])), (2, (.agg #[(I6 216), (I6 222)])), (3, (.agg #[(I6 913), (I6 929)])), (4, (.agg #[(I6 931), (I6 939)]))]) (c := #[(I6 65), (I6 90), (I6 192), (I6 214), (I6 216), (I6 222), (I6 913), (I6 929), (I6 931), (I6 939)]) (by decide) rfl Tryz.underlying22 siz67 zer67 (by decide) (by decide) (by kernel_rfl) ?_
 intro bl wl Nl
 have Fl := Nl.ge E
 replace E := E.ext Nl.ext
 have Bl := Nl.blk
 refine qV (r_lenSlice Tryz.underlying22 rfl) ?_
 refine qM _ rfl ?_
 refine WpL_nil (Wp_block ?_)
 have hF : SpansAt wl (.slice (some ⟨bl, 0, none⟩) 5 5) five := spans_of_blk five Bl (by simp [five]) (by simp [five])
 have hbl := Bl.lt
 have E2 : Chg none1 wl wl := Chg.refl _ _
 refine Wp_loop (fun nn_ σ W1 => ∃ (k : Nat) (la : Option Addr) (lc : Nat) (m : Nat), (∃ jj_, σ = upds jj_ [(10, (.slice (some ⟨bl, 0, none⟩) 5 5)), (11, (I6 5)), (12, (I6 (k : Int))), (1, (.slice la m lc))]) ∧ Chg none1 w0 W1 ∧ Chg none1 wl W1 ∧ (k ≤ 5) ∧ (m = ((five.take k).flatMap prs).length) ∧ (W1.ownsRow wl.heap.size TPr 2 (.slice la m lc) m (((five.take k).flatMap prs).map spanV).flatten) ∧ (wl.heap.size ≤ W1.heap.size) ∧ nn_ = 5 - k) (n := 5 - 0) ?_ ?_
 ·exact ⟨0, none, 0, 0, Fits.out ⟨rfl, rfl, rfl, rfl, trivial⟩, E, E2, (by omega), rfl, World.ownsRow_nil _ _ _ _, Nat.le_refl _, rfl⟩
 ·clear E E2
  rintro _ _ W1 ⟨k, la, lc, m, ⟨j1, rfl⟩, E, E2, hk, hm, hown, hbs, rfl⟩
  refine Wp_seq_region ?_
  refine qV (r_lss rfl rfl) ?_
  refine WpL_nil (Wp_seq ?_)
  refine Wp_cond rfl (fun hlt => ?_) (fun hlt => ?_)
  ·have khlt := hlt
   replace hlt := of_decide_eq_true hlt
   obtain ⟨s, hs⟩ := get_of_lt (l := five) (i := k) (by simp [five]; omega)
   have hv := five_get hs
   have hfl := five_len (k := k)
   obtain ⟨b, o, hab, hcl⟩ := spans_cells hF (by omega)
   simp only [Option.some.injEq, Addr.mk.injEq, and_true] at hab
   obtain ⟨rfl, rfl⟩ := hab
   have hts : (five.take (k + 1)).flatMap prs = (five.take k).flatMap prs ++ prs s := by rw [take_snoc hs, List.flatMap_append]; simp
   have hown0 := hown
   refine Wp_skip (thn_normal (Wp_seq (Wp_block (Wp_seq_region ?_))))
   refine qV (r_indexSlice (b := bl) (o := 0) (len := 5) (cap := 5) (i := k) (o' := 0 + k * 2) rfl rfl rfl Tryz.underlying22 siz67 (by omega) (by omega)) ?_
   refine qV (r_loadAgg rfl agg67 siz67 rfl ((hcl k s hs).ext E2)) ?_
   refine s_allocStore (v := (.agg #[(I6 s.1), (I6 s.2)])) (c := #[(I6 s.1), (I6 s.2)]) (n := 2) (by decide) zer67 rfl siz67 rfl rfl rfl (by simp [Value.oneCell']) ?_
   intro bq wq Nq
   have Fq := Nq.ge E
   have Fq_E2 := Nq.ge E2
   replace hown := own_ext hown Nq.ext
   replace hbs := Nat.le_trans hbs Nq.ext.size
   replace E := E.ext Nq.ext
   have Bq := Nq.blk
   replace E2 := E2.ext Nq.ext
   refine WpL_nil (Wp_seq_region ?_)
   refine qF bq 0 0 rfl Tryz.underlying67 rfl siz3 rfl ?_
   refine qV (r_load rfl flat3 (Bq.cell rfl)) ?_
   refine qA _ rfl ?_
   refine WpL_nil (Wp_block ?_)
   have hq0 : ∀ x, (Value.slice la m lc).ownBlock = some x → x < bq := fun x hx => by have := (hown0.lt x hx).2; have := Nq.eq; omega
   refine Wp_loop (fun nn_ σ W3 => ∃ (i : Nat) (x : Int) (la2 : Option Addr) (lc2 : Nat) (m2 : Nat), (∃ jj_, σ = upds jj_ [(3, (P6 bq 0)), (10, (.slice (some ⟨bl, 0, none⟩) 5 5)), (11, (I6 5)), (12, (I6 (k : Int))), (4, (I6 x)), (1, (.slice la2 m2 lc2))]) ∧ Chg none1 w0 W3 ∧ Chg none1 wl W3 ∧ Blk W3 bq #[(I6 s.1), (I6 s.2)] 67 ∧ (x = s.1 + (i : Int)) ∧ (s.1 + (i : Int) ≤ s.2 + 1) ∧ (m2 = m + i) ∧ (W3.ownsRow wl.heap.size TPr 2 (.slice la2 m2 lc2) m2 (((five.take k).flatMap prs ++ (prs s).take i).map spanV).flatten) ∧ (wl.heap.size ≤ W3.heap.size) ∧ (∀ x, (Value.slice la2 m2 lc2).ownBlock = some x → x ≠ bq) ∧ (bq < W3.heap.size) ∧ nn_ = 1000 - i) (n := 1000 - 0) ?_ ?_
   ·exact ⟨0, s.1, la, lc, m, Fits.out ⟨rfl, rfl, rfl, rfl, rfl, rfl, trivial⟩, E, E2, Bq, (by simp), (by simp; omega), (by omega), (by simpa using hown), hbs, (fun x hx => by have := hq0 x hx; omega), Bq.lt, rfl⟩
   ·clear E E2 Bq
    rintro _ _ W3 ⟨i, x, la2, lc2, m2, ⟨j3, rfl⟩, E, E2, Bq, hxe, hi, hm2, hown2, hbs2, hap, hq2, rfl⟩
    refine Wp_seq (Wp_seq_region ?_)
    refine qM _ rfl ?_
    refine qF bq 0 1 rfl Tryz.underlying67 rfl siz3 rfl ?_
    refine qV (r_load rfl flat3 (Bq.cell rfl)) ?_
    refine qV (r_leq rfl rfl) ?_
    refine WpL_nil ?_
    refine Wp_cond rfl (fun hle => ?_) (fun hle => ?_)
    ·have khle := hle
     replace hle := of_decide_eq_true hle
     subst hxe
     have hpt := prs_take (s := s) (i := i) hle
     refine Wp_skip (thn_normal (Wp_seq (Wp_block (Wp_region ?_))))
     refine qM _ rfl ?_
     refine qM _ rfl ?_
     refine qM _ rfl ?_
     refine qV (r_add rfl rfl (wI64 (by omega))) ?_
     refine qV (r_build (ps := [(0, (I6 (s.1 + (i : Int)))), (1, (I6 ((s.1 + (i : Int)) + 32)))]) (v := (.agg #[(I6 (s.1 + (i : Int))), (I6 ((s.1 + (i : Int)) + 32))])) rfl (by kernel_rfl)) ?_
     refine s_buildSlice (ps := [(0, (.agg #[(I6 (s.1 + (i : Int))), (I6 ((s.1 + (i : Int)) + 32))]))]) (c := #[(I6 (s.1 + (i : Int))), (I6 ((s.1 + (i : Int)) + 32))]) (by decide) rfl Tryz.underlying47 siz57 zer57 (by decide) (by decide) (by kernel_rfl) ?_
     intro br wr Nr
     have Fr := Nr.ge E
     have Fr_E2 := Nr.ge E2
     have Or_bq := Nr.lt Bq
     replace Bq := Nr.keep Bq
     replace hown2 := own_ext hown2 Nr.ext
     replace hbs2 := Nat.le_trans hbs2 Nr.ext.size
     replace hq2 := Nat.lt_of_lt_of_le hq2 Nr.ext.size
     replace E := E.ext Nr.ext
     have Br := Nr.blk
     replace E2 := E2.ext Nr.ext
     refine s_append (base := wl.heap.size) (n := m2) (m := 1) (xs := (((five.take k).flatMap prs ++ (prs s).take i).map spanV).flatten) (news := [(I6 (s.1 + (i : Int))), (I6 ((s.1 + (i : Int)) + 32))]) (size := 2) (bytes := 16) (v := (.slice la2 m2 lc2)) (by decide) Tryz.underlying47 siz57 byt57 zer57 rfl (by decide) rfl hown2 rfl (rfl) (Br.cells rfl) (by simp [Value.oneCell']) (by unfold maxLen; omega) (by omega) (hbs2) ?_
     intro v9 w29 Ov9 Cv9 Dv9
     replace Bq := Cv9.keep (fun h => hap _ h rfl) Bq
     replace E := E.step Cv9 (fun x hx h => absurd (hown2.lt x h).1 (by omega))
     replace E2 := E2.step Cv9 (fun x hx h => absurd (hown2.lt x h).1 (by omega))
     obtain ⟨la3, lc3, rfl⟩ := own_form Ov9
     refine qA _ rfl ?_
     refine WpL_nil (inB_normal (thn_normal (Wp_region ?_)))
     refine qM _ rfl ?_
     refine qV (r_add (c := s.1 + (((i + 1 : Nat) : Nat) : Int)) rfl rfl ((wI64 (by omega)).trans (by omega))) ?_
     refine qA _ rfl ?_
     refine WpL_nil (thn_normal ?_)
     exact ⟨1000 - (i + 1), by omega, i + 1, s.1 + (((i + 1 : Nat) : Nat) : Int), la3, lc3, m2 + 1, Fits.out ⟨rfl, rfl, rfl, rfl, rfl, rfl, trivial⟩, E, E2, Bq, rfl, (by omega), (by omega), (by rw [hpt, ← List.append_assoc, spanV_snoc]; exact Ov9), Nat.le_trans hbs2 Cv9.size, (fun x hx => by rcases Dv9 x hx with h9 | h9; exact hap x h9; omega), Nat.lt_of_lt_of_le hq2 Cv9.size, rfl⟩
    ·have khle := hle
     replace hle := of_decide_eq_false hle
     subst hxe
     have hpl : (prs s).length = i := by unfold prs; simp; omega
     rw [← hpl, List.take_length, ← hts] at hown2
     refine Wp_exit (thn_exit (thn_exit (inB_here (inB_normal (thn_normal (Wp_region ?_))))))
     refine qV (r_add rfl rfl (wI64 (by omega))) ?_
     refine qM _ rfl ?_
     refine WpL_nil (thn_normal ?_)
     exact ⟨5 - (k + 1), by omega, k + 1, la2, lc2, m2, Fits.out ⟨rfl, rfl, rfl, rfl, trivial⟩, E, E2, (by omega), (by rw [hts, List.length_append, hm2, hm, hpl]), hown2, hbs2, rfl⟩
  ·have khlt := hlt
   replace hlt := of_decide_eq_false hlt
   have hkk : k = 5 := by omega
   have hfl := five_len (k := 5)
   rw [hkk] at hm hown
   refine Wp_exit (thn_exit (thn_exit (inB_here (thn_normal (Wp_seq_region ?_)))))
   refine qM _ rfl ?_
   refine qV (r_build (ps := [(0, (I6 181)), (1, (I6 956))]) (v := (.agg #[(I6 181), (I6 956)])) rfl (by kernel_rfl)) ?_
   refine qV (r_build (ps := [(0, (I6 962)), (1, (I6 963))]) (v := (.agg #[(I6 962), (I6 963)])) rfl (by kernel_rfl)) ?_
   refine s_buildSlice (ps := [(0, (.agg #[(I6 181), (I6 956)])), (1, (.agg #[(I6 962), (I6 963)]))]) (c := #[(I6 181), (I6 956), (I6 962), (I6 963)]) (by decide) rfl Tryz.underlying47 siz57 zer57 (by decide) (by decide) (by kernel_rfl) ?_
   intro bt wt Nt
   have Ft := Nt.ge E
   have Ft_E2 := Nt.ge E2
   replace hown := own_ext hown Nt.ext
   replace hbs := Nat.le_trans hbs Nt.ext.size
   replace E := E.ext Nt.ext
   have Bt := Nt.blk
   replace E2 := E2.ext Nt.ext
   refine s_append (base := wl.heap.size) (n := m) (m := 2) (xs := (((five.take 5).flatMap prs).map spanV).flatten) (news := [(I6 181), (I6 956), (I6 962), (I6 963)]) (size := 2) (bytes := 16) (v := (.slice la m lc)) (by decide) Tryz.underlying47 siz57 byt57 zer57 rfl (by decide) rfl hown rfl (rfl) (Bt.cells rfl) (by simp [Value.oneCell']) (by unfold maxLen; omega) (by omega) (hbs) ?_
   intro v9 w29 Ov9 Cv9 Dv9
   replace E := E.step Cv9 (fun x hx h => absurd (hown.lt x h).1 (by omega))
   obtain ⟨la3, lc3, rfl⟩ := own_form Ov9
   refine qA _ rfl ?_
   refine WpL_nil (Wp_ret ?_)
   refine fin_tmp Tryz.results93 (v := (.slice la3 (m + 2) lc3)) rfl ?_
   have e1 : fpL = (five.take 5).flatMap prs ++ [(181, 956)] ++ [(962, 963)] := by unfold fpL; simp [five]
   have e2 : fpL.length = m + 2 := by rw [e1, hm]; simp
   have h9 : _ := Ov9
   have e3 : (((five.take 5).flatMap prs).map spanV).flatten ++ [Value.int .i64 181, .int .i64 956, .int .i64 962, .int .i64 963] = (fpL.map spanV).flatten := by rw [e1, spanV_snoc, spanV_snoc]; simp
   rw [e3] at h9
   have hsl := own_slat h9 (by intro x hx; simp only [List.mem_map] at hx; obtain ⟨p, _, rfl⟩ := hx; rfl) (by simpa using e2) (by decide)
   obtain ⟨g, rfl, hg, _⟩ := own_cells h9 (by omega)
   have hlt := h9.lt g rfl
   rw [e2]
   exact ⟨⟨⟨_, _, rfl⟩, SlIn.mk hsl ⟨by have := Fl; omega, hlt.2⟩⟩, E⟩
def addK (ks : List Int) (k : Int) : List Int := if ks.contains k then ks else ks ++ [k]
def stepK (ks : List Int) (p : Sp) : List Int := if ks.contains p.1 || ks.contains p.2 then addK (addK ks p.1) p.2 else ks
def orbK (r : Int) : List Int := fpL.foldl stepK (fpL.foldl stepK (fpL.foldl stepK [r]))
theorem lt_unique : ∀ {p q : List Int}, p.Pairwise (· < ·) → q.Pairwise (· < ·) → (∀ x, x ∈ p ↔ x ∈ q) → p = q
  | [], [], _, _, _ => rfl
  | [], y :: q, _, _, h => absurd ((h y).2 List.mem_cons_self) List.not_mem_nil
  | x :: p, [], _, _, h => absurd ((h x).1 List.mem_cons_self) List.not_mem_nil
  | x :: p, y :: q, hp, hq, h => by
    have h1 := List.pairwise_cons.1 hp
    have h2 := List.pairwise_cons.1 hq
    have e : x = y := by
      rcases List.mem_cons.1 ((h x).1 List.mem_cons_self) with h3 | h3
      · exact h3
      · rcases List.mem_cons.1 ((h y).2 List.mem_cons_self) with h4 | h4
        · exact h4.symm
        · have := h1.1 y h4; have := h2.1 x h3; omega
    subst e
    rw [lt_unique h1.2 h2.2 fun z => ?_]
    constructor
    · intro hz
      rcases List.mem_cons.1 ((h z).1 (List.mem_cons_of_mem _ hz)) with h3 | h3
      · subst h3; have := h1.1 z hz; omega
      · exact h3
    · intro hz
      rcases List.mem_cons.1 ((h z).2 (List.mem_cons_of_mem _ hz)) with h3 | h3
      · subst h3; have := h2.1 z hz; omega
      · exact h3
def refOk (r : Int) : Bool := (((orbK r).all fun x => (orbitL r).contains x) && ((orbitL r).all fun x => (orbK r).contains x))
theorem ref_fin : (fpL.all fun p => refOk p.1 && refOk p.2) = true := by decide +kernel
theorem fp_small : (fpL.all fun p => decide (0 ≤ p.1) && decide (p.1 < 1000) && decide (0 ≤ p.2) && decide (p.2 < 1000)) = true := by decide +kernel
theorem fp_lt {p : Sp} (h : p ∈ fpL) : (0 ≤ p.1 ∧ p.1 < 1000) ∧ 0 ≤ p.2 ∧ p.2 < 1000 := by
 have := List.all_eq_true.1 fp_small p h
 simp only [Bool.and_eq_true, decide_eq_true_eq] at this
 omega
theorem orbL_lt (r : Int) : (orbitL r).Pairwise (· < ·) := by
 unfold orbitL
 (repeat' split) <;> first | (simp; done) | (simp; omega)
theorem step_far {r : Int} : ∀ (l : List Sp), (∀ p ∈ l, r ≠ p.1 ∧ r ≠ p.2) → l.foldl stepK [r] = [r]
  | [], _ => rfl
  | p :: l, hl => by
    have h1 := hl p List.mem_cons_self
    have h2 : stepK [r] p = [r] := by
      unfold stepK
      rw [if_neg]
      simp; omega
    rw [List.foldl_cons, h2]
    exact step_far l fun q hq => hl q (List.mem_cons_of_mem _ hq)
theorem pair_in {q : Int} {s : Sp} (hs : s ∈ five) (h1 : s.1 ≤ q) (h2 : q ≤ s.2) : (q, q + 32) ∈ fpL := by
 refine List.mem_append.2 (.inl (List.mem_flatMap.2 ⟨s, hs, List.mem_map.2 ⟨(q - s.1).toNat, List.mem_range.2 (by omega), ?_⟩⟩))
 have : s.1 + (((q - s.1).toNat : Nat) : Int) = q := by omega
 rw [this]
theorem pair_up {q : Int} (h : upperB q = true) : (q, q + 32) ∈ fpL := by
 unfold upperB at h
 rw [decide_eq_true_eq] at h
 rcases h with h | h | h
 ·exact pair_in (s := (65, 90)) (by simp [five]) h.1 h.2
 ·rcases ltLe q 215 with h1 | h1
  ·exact pair_in (s := (192, 214)) (by simp [five]) h.1 (by show q ≤ 214; omega)
  ·exact pair_in (s := (216, 222)) (by simp [five]) (by show 216 ≤ q; omega) (by show q ≤ 222; omega)
 ·rcases ltLe q 930 with h1 | h1
  ·exact pair_in (s := (913, 929)) (by simp [five]) h.1 (by show q ≤ 929; omega)
  ·exact pair_in (s := (931, 939)) (by simp [five]) (by show 931 ≤ q; omega) (by show q ≤ 939; omega)
theorem orb_pair {q : Int} (h : ∀ p ∈ fpL, q ≠ p.1 ∧ q ≠ p.2) : orbitL q = [q] := by
  have h1 : upperB q = false := by
    cases e : upperB q with
    | false => rfl
    | true => exact absurd rfl (h _ (pair_up e)).1
  have h2 : upperB (q - 32) = false := by
    cases e : upperB (q - 32) with
    | false => rfl
    | true => exact absurd (show q = q - 32 + 32 by omega) (h _ (pair_up e)).2
  have a1 := h (181, 956) (by unfold fpL; simp)
  have a2 := h (962, 963) (by unfold fpL; simp)
  have a3 := h (924, 924 + 32) (pair_in (s := (913, 929)) (by simp [five]) (by decide) (by decide))
  have a4 := h (931, 931 + 32) (pair_in (s := (931, 939)) (by simp [five]) (by decide) (by decide))
  simp only at a1 a2 a3 a4
  unfold orbitL
  rw [if_neg (by omega), if_neg (by omega), h1, h2]; rfl
theorem orbK_mem {r x : Int} : x ∈ orbK r ↔ x ∈ orbitL r := by
 by_cases h : ∀ p ∈ fpL, r ≠ p.1 ∧ r ≠ p.2
 ·unfold orbK
  rw [step_far fpL h, step_far fpL h, step_far fpL h, orb_pair h]
 ·have h2 : refOk r = true := by
   have : ∃ p ∈ fpL, r = p.1 ∨ r = p.2 := by
    apply Classical.byContradiction
    intro hn
    exact h fun p hp => ⟨fun e => hn ⟨p, hp, .inl e⟩, fun e => hn ⟨p, hp, .inr e⟩⟩
   obtain ⟨p, hp, hr⟩ := this
   have h3 := List.all_eq_true.1 ref_fin p hp
   rw [Bool.and_eq_true] at h3
   rcases hr with rfl | rfl
   ·exact h3.1
   ·exact h3.2
  unfold refOk at h2
  rw [Bool.and_eq_true] at h2
  exact ⟨fun h => by simpa using List.all_eq_true.1 h2.1 x h, fun h => by simpa using List.all_eq_true.1 h2.2 x h⟩
theorem keys_put {es : List (Int × Bool)} {k : Int} (v : Bool) : (putM es k v).map (·.1) = addK (es.map (·.1)) k := by
  unfold addK
  cases hg : getM es k with
  | none =>
    have : ¬ k ∈ es.map (·.1) := fun h => by have := getM_isSome.2 h; rw [hg] at this; cases this
    rw [if_neg (by simpa using this), putM_none v hg]; simp
  | some u =>
    have hin : k ∈ es.map (·.1) := getM_isSome.1 (by rw [hg]; rfl)
    rw [if_pos (by simpa using hin)]
    obtain ⟨j, _, h2, h3⟩ := findM_some (eV := fun _ => undef) (i := 0) hg
    rw [h3 v]
    apply List.ext_getElem?
    intro i
    rw [List.getElem?_map, List.getElem?_map, List.getElem?_set]
    by_cases hi : j = i
    · subst hi
      have hlt := lt_of_get h2
      rw [if_pos rfl, if_pos hlt, h2]; rfl
    · simp [hi]
def AllT (es : List (Int × Bool)) : Prop := ∀ q ∈ es, q.2 = true
theorem AllT.put {es : List (Int × Bool)} (h : AllT es) (k : Int) : AllT (putM es k true) := by
  intro q hq
  induction es with
  | nil => simp [putM] at hq; subst hq; rfl
  | cons p r ih =>
    unfold putM at hq
    split at hq
    · rcases List.mem_cons.1 hq with rfl | hq
      · rfl
      · exact h q (List.mem_cons_of_mem _ hq)
    · rcases List.mem_cons.1 hq with rfl | hq
      · exact h _ List.mem_cons_self
      · exact ih (fun z hz => h z (List.mem_cons_of_mem _ hz)) hq
theorem AllT.get {es : List (Int × Bool)} (h : AllT es) (k : Int) : (getM es k).getD false = (es.map (·.1)).contains k := by
  cases hg : getM es k with
  | none =>
    have : ¬ k ∈ es.map (·.1) := fun h => by have := getM_isSome.2 h; rw [hg] at this; cases this
    symm; simpa using this
  | some u =>
    have h1 := h _ (getM_some_mem hg)
    have hin : k ∈ es.map (·.1) := getM_isSome.1 (by rw [hg]; rfl)
    simp only [Option.getD_some]
    rw [show u = true from h1]; symm; simpa using hin
theorem fold_step {α β : Type} {f : β → α → β} {l : List α} {i : Nat} {x : α} {z : β} (h : l[i]? = some x) : (l.take (i + 1)).foldl f z = f ((l.take i).foldl f z) x := by rw [take_snoc h, List.foldl_append]; rfl
theorem orb_self' (r : Int) : r ∈ orbitL r := by
 by_cases h : 0 ≤ r
 ·exact orb_self h
 ·have h1 : upperB r = false := by unfold upperB; rw [decide_eq_false_iff_not]; omega
  have h2 : upperB (r - 32) = false := by unfold upperB; rw [decide_eq_false_iff_not]; omega
  unfold orbitL
  rw [if_neg (by omega), if_neg (by omega), h1, h2]; simp
theorem fp_len : fpL.length ≤ 1000 := by decide +kernel
set_option maxHeartbeats 4000000 in
theorem rorbit_c (w0 : World) (r : Int) : Ret Tryz.prog 94 #[.int .i64 r] w0 fun v w => IntsN w0.heap.size w v (orbitL r) ∧ Ext w0 w := by
 have hfp := fp_len
 obtain ⟨fp, hfpe⟩ : ∃ fp, fp = fpL := ⟨_, rfl⟩
 rw [← hfpe] at hfp
 refine Ret_of Tryz.func94 rfl Tryz.ntmps94 (Nat.le_of_ble_eq_true rfl) ?_
 have E : Chg none1 w0 w0 := Chg.refl _ _
 refine Wp_seq_region ?_
 refine qA _ rfl ?_
 refine WpL_nil (Wp_seq_region ?_)
 refine s_makeMap kInt kBool (by decide) ?_
 intro bm wm Nm
 have Fm := Nm.ge E
 replace E := E.ext Nm.ext
 intro Mm
 refine qM _ rfl ?_
 refine s_insert (k := r) (v := true) Tryz.underlying97 (keyInt Tryz.underlying3) Mm rfl rfl rfl ?_
 intro w1 S1 H1
 replace E := S1.step E (by first | exact Or.inl (by omega) | exact Or.inr rfl | exact Or.inr (by assumption) | exact Or.inr (by simp) | exact Or.inr (by omega) | exact Or.inr (by dsimp only; omega))
 replace Mm := H1
 refine qM _ rfl ?_
 refine qA _ rfl ?_
 refine WpL_nil (Wp_seq (Wp_seq_region ?_))
 refine qM _ rfl ?_
 refine WpL_nil (Wp_block ?_)
 refine Wp_loop (fun nn_ σ W2 => ∃ (k : Nat) (es : List (Int × Bool)), (∃ jj_, σ = upds jj_ [(3, (.map (some bm))), (11, (I6 (k : Int)))]) ∧ Chg none1 w0 W2 ∧ MapAt W2 bm kInt kBool es ∧ (k ≤ 3) ∧ (AllT es) ∧ (KeysOk es) ∧ (es.length ≤ 1 + 2000 * k) ∧ (es.map (·.1) = (List.replicate k fpL).flatten.foldl stepK [r]) ∧ nn_ = 3 - k) (n := 3 - 0) ?_ ?_
 ·exact ⟨0, putM [] r true, Fits.out ⟨rfl, rfl, trivial⟩, E, Mm, (by omega), (AllT.put (fun q hq => absurd hq List.not_mem_nil) r), KeysOk.nil.put _ _, (by simp [putM]), (by simp [putM]), rfl⟩
 ·clear E Mm
  rintro _ _ W2 ⟨k, es, ⟨j2, rfl⟩, E, Mm, hk, hT, hK, hel, hes, rfl⟩
  refine Wp_seq_region ?_
  refine qV (r_lss rfl rfl) ?_
  refine WpL_nil (Wp_seq ?_)
  refine Wp_cond rfl (fun hlt => ?_) (fun hlt => ?_)
  ·have khlt := hlt
   replace hlt := of_decide_eq_true hlt
   have hn8 : bm < W2.heap.size := Mm.lt
   obtain ⟨n8, hn8e⟩ : ∃ n, n = W2.heap.size := ⟨_, rfl⟩
   refine Wp_skip (thn_normal (Wp_seq (Wp_block (Wp_seq_region ?_))))
   refine WpL_enter rfl rfl (by decide) (r_callF Tryz.func93 nm93 bd93 rfl) ((fpairs_c _).mono (fun v w h => (by rw [← hfpe, ← hn8e] at h; exact h : ((∃ a c, v = .slice a fp.length c) ∧ SlIn (fun b => n8 ≤ b ∧ b < w.heap.size) w 2 v (fp.map spanV)) ∧ Ext _ w))) ?_
   rintro _ w9 ⟨⟨⟨fa, fc, rfl⟩, hF⟩, X9⟩
   replace Mm := X9.keepM Mm
   replace E := E.ext X9
   obtain ⟨n9, hn9⟩ : ∃ n, n = w9.heap.size := ⟨_, rfl⟩
   rw [← hn9] at hF
   refine qV (r_lenSlice Tryz.underlying47 rfl) ?_
   refine qM _ rfl ?_
   refine WpL_nil (Wp_block ?_)
   refine Wp_loop (fun nn_ σ W4 => ∃ (i : Nat) (es2 : List (Int × Bool)), (∃ jj_, σ = upds jj_ [(3, (.map (some bm))), (11, (I6 (k : Int))), (13, (.slice fa fp.length fc)), (14, (I6 (fp.length : Int))), (15, (I6 (i : Int)))]) ∧ Chg none1 w0 W4 ∧ MapAt W4 bm kInt kBool es2 ∧ (i ≤ fp.length) ∧ (AllT es2) ∧ (KeysOk es2) ∧ (es2.length ≤ 1 + 2000 * k + 2 * i) ∧ (es2.map (·.1) = (fp.take i).foldl stepK (es.map (·.1))) ∧ (SlIn (fun b => n8 ≤ b ∧ b < n9) W4 2 (.slice fa fp.length fc) (fp.map spanV)) ∧ (n9 ≤ W4.heap.size) ∧ nn_ = fp.length - i) (n := fp.length - 0) ?_ ?_
   ·exact ⟨0, es, Fits.out ⟨rfl, rfl, rfl, rfl, rfl, trivial⟩, E, Mm, Nat.zero_le _, hT, hK, (by omega), rfl, hF, (by omega), rfl⟩
   ·clear E Mm
    rintro _ _ W4 ⟨i, es2, ⟨j4, rfl⟩, E, Mm, hi, hT2, hK2, hel2, hes2, hF2, hn92, rfl⟩
    refine Wp_seq_region ?_
    refine qV (r_lss rfl rfl) ?_
    refine WpL_nil (Wp_seq ?_)
    refine Wp_cond rfl (fun hlt2 => ?_) (fun hlt2 => ?_)
    ·have khlt2 := hlt2
     replace hlt2 := of_decide_eq_true hlt2
     obtain ⟨p, hp⟩ := get_of_lt (l := fp) (i := i) (by omega)
     obtain ⟨b, o, hab, hcl⟩ := spans_cells (SlIn.at hF2 : SpansAt _ _ fp) (by omega)
     subst hab
     have hts := fold_step (f := stepK) (z := es.map (·.1)) hp
     rw [← hes2] at hts
     refine Wp_skip (thn_normal (Wp_seq (Wp_block (Wp_seq_region ?_))))
     refine qV (r_indexSlice (b := b) (o := o) (len := fp.length) (cap := fc) (i := i) (o' := o + i * 2) rfl rfl rfl Tryz.underlying47 siz57 (by omega) (by omega)) ?_
     refine qV (r_loadAgg rfl agg57 siz57 rfl (hcl i p hp)) ?_
     refine s_allocStore (v := (.agg #[(I6 p.1), (I6 p.2)])) (c := #[(I6 p.1), (I6 p.2)]) (n := 2) (by decide) zer57 rfl siz57 rfl rfl rfl (by simp [Value.oneCell']) ?_
     intro bq wq Nq
     have Fq := Nq.ge E
     have Oq_bm := Nq.ltM Mm
     replace Mm := Nq.keepM Mm
     replace hF2 := hF2.chg Nq.ext (fun _ _ f => f)
     replace hn92 := Nat.le_trans hn92 Nq.ext.size
     replace E := E.ext Nq.ext
     have Bq := Nq.blk
     refine WpL_nil (Wp_seq_region ?_)
     refine qM _ rfl ?_
     refine qV (r_indexArr (b := bq) (o := 0) (i := 0) (o' := 0) rfl rfl rfl Tryz.underlying57 siz3 (by omega) (by omega)) ?_
     refine qV (r_load rfl flat3 (Bq.cell rfl)) ?_
     refine WpL_val (v := (.bool ((getM es2 p.1).getD false))) rfl rfl (by decide) (r_lookup (k := p.1) (z := false) Tryz.underlying97 (keyInt Tryz.underlying3) zer4 Mm rfl rfl) ?_
     obtain ⟨e6, he6⟩ : ∃ e, ((getM es2 p.1).getD false) = e := ⟨_, rfl⟩
     refine qV (r_move (congrArg Value.bool he6)) ?_
     refine qG (.bool e6) (nU e6 (.map (some bm))) (by cases e6 <;> first | exact gA | exact gB | exact .inl ⟨rfl, r_move rfl⟩) ?_
     refine qG (.bool e6) (nU e6 (P6 bq 1)) (by cases e6 <;> first | exact gA | exact gB | exact .inl ⟨rfl, r_indexArr (i := 1) rfl rfl rfl Tryz.underlying57 siz3 (by omega) (by omega)⟩) ?_
     refine qG (.bool e6) (nU e6 (I6 p.2)) (by cases e6 <;> first | exact gA | exact gB | exact .inl ⟨rfl, r_load rfl flat3 (Bq.cell rfl)⟩) ?_
     refine qG (.bool e6) (nU e6 (.bool ((getM es2 p.2).getD false))) (by cases e6 <;> first | exact gA | exact gB | exact .inl ⟨rfl, r_lookup (k := p.2) (z := false) Tryz.underlying97 (keyInt Tryz.underlying3) zer4 Mm rfl rfl⟩) ?_
     obtain ⟨e7, he7⟩ : ∃ e, (e6 || ((getM es2 p.2).getD false)) = e := ⟨_, rfl⟩
     refine qV (r_pick (v := .bool e7) rfl (by rw [← he7]; cases e6 <;> rfl)) ?_
     refine WpL_nil ?_
     subst he7
     subst he6
     refine Wp_cond rfl (fun hc => ?_) (fun hc => ?_)
     ·have khc := hc
      have hc2 : ((es2.map (·.1)).contains p.1 || (es2.map (·.1)).contains p.2) = true := by rw [← hT2.get, ← hT2.get]; exact hc
      have hs9 : stepK (es2.map (·.1)) p = (putM (putM es2 p.1 true) p.2 true).map (·.1) := by unfold stepK; rw [if_pos hc2, keys_put, keys_put]
      have hq1 := putM_len es2 p.1 true
      have hq2 := putM_len (putM es2 p.1 true) p.2 true
      obtain ⟨Fs9, hFs9⟩ : ∃ Fs : List (FactT ((fun q => q = bm))), Fs = [.eq (.map (some bm)), .eq (P6 bq 0), .eq (I6 p.1), .eq (.map (some bm)), .eq (P6 bq 1), .eq (I6 p.2), .own (fun _ w => MapAt w bm kInt kBool (putM es2 p.1 true)) (fun _ _ _ e h => Ext.keepM e h)] := ⟨_, rfl⟩
      refine Wp_dagT ((fun q => q = bm)) 7 6 [29, 30, 31, 32, 33, 34, 56] [[], [], [1], [], [], [4], [0, 1, 2]] Fs9 hFs9 rfl mixed (by kernel_rfl) (by kernel_rfl) (by kernel_rfl) ?_ ?_
      ·intro wd X0
       refine DagStepsT.cons (fun s' w' X U H => ?_) ?_
       ·exact DoesT_val (r_move (U 3 rfl)) (Chg.refl _ _) rfl
       refine DagStepsT.cons (fun s' w' X U H => ?_) ?_
       ·exact DoesT_val (r_indexArr (i := 0) (U 5 rfl) rfl rfl Tryz.underlying57 siz3 (by omega) (by omega)) (Chg.refl _ _) rfl
       refine DagStepsT.cons (fun s' w' X U H => ?_) ?_
       ·have e30 : s' 30 = (.pointer (some ⟨bq, 0, none⟩)) := H 1 rfl 30 (.eq (.pointer (some ⟨bq, 0, none⟩))) rfl (by rw [hFs9]; rfl)
        exact DoesT_val (r_load e30 flat3 ((Chg.keep X (fun f => f) (X0.keep Bq)).cell rfl)) (Chg.refl _ _) rfl
       refine DagStepsT.cons (fun s' w' X U H => ?_) ?_
       ·exact DoesT_val (r_move (U 3 rfl)) (Chg.refl _ _) rfl
       refine DagStepsT.cons (fun s' w' X U H => ?_) ?_
       ·exact DoesT_val (r_indexArr (i := 1) (U 5 rfl) rfl rfl Tryz.underlying57 siz3 (by omega) (by omega)) (Chg.refl _ _) rfl
       refine DagStepsT.cons (fun s' w' X U H => ?_) ?_
       ·have e33 : s' 33 = (.pointer (some ⟨bq, 1, none⟩)) := H 4 rfl 33 (.eq (.pointer (some ⟨bq, 1, none⟩))) rfl (by rw [hFs9]; rfl)
        exact DoesT_val (r_load e33 flat3 ((Chg.keep X (fun h => absurd h (Nat.ne_of_gt Oq_bm)) (X0.keep Bq)).cell rfl)) (Chg.refl _ _) rfl
       refine DagStepsT.cons (fun s' w' X U H => ?_) ?_
       ·have e29 : s' 29 = (.map (some bm)) := H 0 rfl 29 (.eq (.map (some bm))) rfl (by rw [hFs9]; rfl)
        have e31 : s' 31 = (.int .i64 p.1) := H 2 rfl 31 (.eq (.int .i64 p.1)) rfl (by rw [hFs9]; rfl)
        exact DoesT_mapUpdate Tryz.underlying97 (keyInt Tryz.underlying3) (Chg.keepM X (fun f => f) (X0.keepM Mm)) e29 e31 (v := true) rfl rfl (fun w9 h => h)
       exact DagStepsT.nil
      ·intro s' wd9 w9 X0 X9 U H
       have e32 : s' 32 = (.map (some bm)) := H 3 32 (.eq (.map (some bm))) rfl (by rw [hFs9]; rfl)
       have e34 : s' 34 = (.int .i64 p.2) := H 5 34 (.eq (.int .i64 p.2)) rfl (by rw [hFs9]; rfl)
       obtain Mm := (show (.own (fun _ w => MapAt w bm kInt kBool (putM es2 p.1 true)) (fun _ _ _ e h => Ext.keepM e h) : FactT ((fun q => q = bm))).In (s' 56) w9 from H 6 56 (.own (fun _ w => MapAt w bm kInt kBool (putM es2 p.1 true)) (fun _ _ _ e h => Ext.keepM e h)) rfl (by rw [hFs9]; rfl))
       obtain ⟨j9, rfl⟩ := Fits.out (σ := s') (l := [(3, (.map (some bm))), (11, (.int .i64 ((k : Nat) : Int))), (13, (.slice (some ⟨b, o, none⟩) fp.length fc)), (14, (.int .i64 ((fp.length : Nat) : Int))), (15, (.int .i64 ((i : Nat) : Int))), (32, (.map (some bm))), (34, (.int .i64 p.2))]) ⟨U 3 rfl, U 11 rfl, U 13 rfl, U 14 rfl, U 15 rfl, e32, e34, trivial⟩
       clear U H
       replace Bq := Chg.keep X9 (fun h => absurd h (Nat.ne_of_gt Oq_bm)) (X0.keep Bq)
       replace hF2 := hF2.chg X0 (fun _ _ f => f)
       replace hn92 := Nat.le_trans hn92 X0.size
       replace hF2 := hF2.chg X9 (fun b hb h => by omega)
       replace hn92 := Nat.le_trans hn92 X9.size
       replace E := (E.ext X0).step X9 (fun q hq h => absurd hq (by omega))
       refine s_mapUpdate (k := p.2) (v := true) Tryz.underlying97 (keyInt Tryz.underlying3) Mm rfl rfl rfl ?_
       intro w10 S10 H10
       replace hF2 := hF2.chg S10.chg (fun b hb h => by omega)
       replace hn92 := Nat.le_trans hn92 (Nat.le_of_eq S10.size.symm)
       replace Bq := S10.keep (by omega) Bq
       replace E := S10.step E (by first | exact Or.inl (by omega) | exact Or.inr rfl | exact Or.inr (by assumption) | exact Or.inr (by simp) | exact Or.inr (by omega) | exact Or.inr (by dsimp only; omega))
       replace Mm := H10
       refine WpL_nil (inB_normal (thn_normal (Wp_region ?_)))
       refine qV (r_add rfl rfl (wI64 (by omega))) ?_
       refine qM _ rfl ?_
       refine WpL_nil (thn_normal ?_)
       exact ⟨fp.length - (i + 1), by omega, i + 1, putM (putM es2 p.1 true) p.2 true, Fits.out ⟨rfl, rfl, rfl, rfl, rfl, trivial⟩, E, Mm, (by omega), (hT2.put _).put _, (hK2.put _ _).put _ _, (by omega), (by rw [hts, hs9]), hF2, hn92, rfl⟩
     ·have khc := hc
      have hc2 : ¬ ((es2.map (·.1)).contains p.1 || (es2.map (·.1)).contains p.2) = true := by rw [← hT2.get, ← hT2.get, hc]; simp
      have hs9 : stepK (es2.map (·.1)) p = es2.map (·.1) := by unfold stepK; rw [if_neg hc2]
      refine Wp_skip (inB_normal (thn_normal (Wp_region ?_)))
      refine qV (r_add rfl rfl (wI64 (by omega))) ?_
      refine qM _ rfl ?_
      refine WpL_nil (thn_normal ?_)
      exact ⟨fp.length - (i + 1), by omega, i + 1, es2, Fits.out ⟨rfl, rfl, rfl, rfl, rfl, trivial⟩, E, Mm, (by omega), hT2, hK2, (by omega), (by rw [hts, hs9]), hF2, hn92, rfl⟩
    ·have khlt2 := hlt2
     replace hlt2 := of_decide_eq_false hlt2
     have hii : i = fp.length := by omega
     rw [hii, List.take_length] at hes2
     refine Wp_exit (thn_exit (thn_exit (inB_here (inB_normal (thn_normal (Wp_region ?_))))))
     refine qV (r_add rfl rfl (wI64 (by omega))) ?_
     refine qM _ rfl ?_
     refine WpL_nil (thn_normal ?_)
     exact ⟨3 - (k + 1), by omega, k + 1, es2, Fits.out ⟨rfl, rfl, trivial⟩, E, Mm, (by omega), hT2, hK2, (by omega), (by rw [hes2, hes, ← List.foldl_append]; congr 1; rw [hfpe, List.replicate_succ', List.flatten_append]; simp), rfl⟩
  ·have khlt := hlt
   replace hlt := of_decide_eq_false hlt
   have hkk : k = 3 := by omega
   have hes3 : es.map (·.1) = orbK r := by rw [hes, hkk]; unfold orbK; rw [← List.foldl_append, ← List.foldl_append]; simp [List.replicate]
   have hbs1 := E.size
   refine Wp_exit (thn_exit (thn_exit (inB_here (thn_normal (Wp_seq_region ?_)))))
   refine qA _ rfl ?_
   refine WpL_nil (Wp_seq (Wp_seq_region ?_))
   refine qM _ rfl ?_
   refine s_range (by decide) Tryz.underlying97 Mm rfl ?_
   intro br wr Nr
   have Fr := Nr.ge E
   have Or_bm := Nr.ltM Mm
   replace Mm := Nr.keepM Mm
   replace E := E.ext Nr.ext
   have Ir : IterAt wr br bm es.length [] := Nr.at'
   refine WpL_nil (Wp_block ?_)
   have hwr := Nr.size
   have hbr : br < wr.heap.size := Ir.lt
   refine Wp_loop (fun nn_ σ W11 => ∃ (seen : List Nat) (la : Option Addr) (lc : Nat) (n : Nat), (∃ jj_, σ = upds jj_ [(38, (P6 br 0)), (6, (.slice la n lc))]) ∧ Chg none1 w0 W11 ∧ MapAt W11 bm kInt kBool es ∧ IterAt W11 br bm es.length seen ∧ (seen.Nodup) ∧ (∀ j ∈ seen, j < es.length) ∧ (n = seen.length) ∧ (W11.ownsRow wr.heap.size TInt 1 (.slice la n lc) n ((seen.map (kAt es)).map (Value.int .i64))) ∧ (wr.heap.size ≤ W11.heap.size) ∧ nn_ = es.length - seen.length) (n := es.length - ([] : List Nat).length) ?_ ?_
   ·exact ⟨([] : List Nat), none, 0, 0, Fits.out ⟨rfl, rfl, trivial⟩, E, Mm, Ir, List.nodup_nil, (fun j hj => absurd hj List.not_mem_nil), rfl, World.ownsRow_nil _ _ _ _, Nat.le_refl _, rfl⟩
   ·clear E Mm Ir
    rintro _ _ W11 ⟨seen, la, lc, n, ⟨j11, rfl⟩, E, Mm, Ir, hnd, hsl, hn, hown, hbs, rfl⟩
    refine Wp_seq_region ?_
    refine s_next (by decide) Mm Ir rfl (fun hall => ?_) ?_
    ·skip
     have hperm := keys_perm (es := es) hnd hsl hall
     have hKd : (seen.map (kAt es)).Nodup := hperm.nodup_iff.2 hK
     have hO : OwnI W11 wr.heap.size (.slice la n lc) (seen.map (kAt es)) := ⟨⟨la, lc, by simp [hn]⟩, by simpa [hn] using hown⟩
     have h0m : ∃ z, z ∈ seen.map (kAt es) := ⟨r, hperm.mem_iff.2 (by rw [hes3]; exact orbK_mem.2 (orb_self' r))⟩
     have hsn := seen_len hnd hsl
     have hsorted : (seen.map (kAt es)).mergeSort leB = orbitL r := lt_unique (mergeSort_lt hKd) (orbL_lt r) (fun x => by rw [List.mem_mergeSort, hperm.mem_iff, hes3]; exact orbK_mem)
     refine qV (r_extract rfl rfl) ?_
     refine WpL_nil (Wp_seq ?_)
     refine Wp_cond_false rfl ?_
     refine Wp_exit (thn_exit (thn_exit (inB_here (thn_normal (Wp_seq_region ?_)))))
     refine qM _ rfl ?_
     refine WpL_enter rfl rfl (by decide) (r_callF Tryz.func79 nm79 bd79 rfl) (sortInts_c _ wr.heap.size (.slice la n lc) _ hO (fun h9 => by obtain ⟨z, hz⟩ := h0m; rw [h9] at hz; cases hz) (by simp; omega)) ?_
     rintro _ w19 ⟨rfl, I19, C19⟩
     replace E := E.step C19 (fun x hx hy => absurd (hown.lt x hy).1 (by omega))
     refine WpL_nil (Wp_seq_region ?_)
     refine qM _ rfl ?_
     refine qA _ rfl ?_
     refine WpL_nil (Wp_ret ?_)
     refine fin_tmp Tryz.results94 (v := (.slice la n lc)) rfl ?_
     rw [hsorted] at I19
     have hnl : (orbitL r).length = n := by rw [← hsorted]; simp [hn]
     have hn0 : 0 < n := by rw [← hnl]; exact List.length_pos_of_mem (orb_self' r)
     obtain ⟨g, hg, hgb, _⟩ := own_cells hown hn0
     subst hg
     have hgl := hown.lt g rfl
     refine ⟨⟨⟨_, lc, by rw [hnl]⟩, SlIn.mk I19 ⟨by omega, by have := C19.size; omega⟩⟩, E⟩
    ·intro i p w12 hp hns S12
     replace hown := own_chg hown S12.chg (fun x hx h9 => by have := (hown.lt x hx).1; omega)
     replace hbs := Nat.le_trans hbs (Nat.le_of_eq S12.size.symm)
     replace Mm := S12.keepM (by omega) Mm
     replace E := S12.step E (by first | exact Or.inl (by omega) | exact Or.inr rfl | exact Or.inr (by omega))
     replace Ir : IterAt w12 br bm es.length (seen ++ [i]) := S12.at'
     have hnd2 : (seen ++ [i]).Nodup := List.nodup_append.2 ⟨hnd, by simp, fun x hx z hz => by simp at hz; subst hz; exact fun h9 => hns (h9 ▸ hx)⟩
     have hsl2 : ∀ j ∈ seen ++ [i], j < es.length := fun j hj => by rcases List.mem_append.1 hj with h9 | h9; exact hsl j h9; rw [List.mem_singleton] at h9; subst h9; exact lt_of_get hp
     have hl2 := seen_len hnd2 hsl2
     have hl3 : (seen ++ [i]).length = seen.length + 1 := by simp
     have hka : kAt es i = p.1 := by unfold kAt; rw [hp]; rfl
     refine qV (r_extract rfl rfl) ?_
     refine WpL_nil (Wp_seq ?_)
     refine Wp_cond_true rfl ?_
     refine Wp_skip (thn_normal (Wp_block (Wp_seq_region ?_)))
     refine WpL_val (v := (.tuple #[(I6 p.1), (.bool p.2)])) rfl rfl (by decide) (r_entry Mm Ir hp rfl) ?_
     refine qV (r_extract rfl rfl) ?_
     refine qA _ rfl ?_
     refine WpL_nil (Wp_region ?_)
     refine qM _ rfl ?_
     refine qM _ rfl ?_
     refine s_buildSlice (ps := [(0, (I6 p.1))]) (c := #[(I6 p.1)]) (by decide) rfl Tryz.underlying46 siz3 zer3 (by decide) (by decide) (by kernel_rfl) ?_
     intro bq wq Nq
     have Fq := Nq.ge E
     have Oq_bm := Nq.ltM Mm
     have Oq_br := New.ltI Ir Nq
     replace Mm := Nq.keepM Mm
     replace Ir := New.keepI Ir Nq
     replace hown := own_ext hown Nq.ext
     replace hbs := Nat.le_trans hbs Nq.ext.size
     replace E := E.ext Nq.ext
     have Bq := Nq.blk
     refine s_append (base := wr.heap.size) (n := n) (m := 1) (xs := (seen.map (kAt es)).map (Value.int .i64)) (news := [(I6 p.1)]) (size := 1) (bytes := 8) (v := (.slice la n lc)) (by decide) Tryz.underlying46 siz3 byt3 zer3 rfl (by decide) rfl hown rfl (rfl) (Bq.cells rfl) (by simp [Value.oneCell']) (by unfold maxLen; omega) (by omega) (hbs) ?_
     intro v9 w29 Ov9 Cv9 Dv9
     replace Mm := Cv9.keepM (fun h => by have := (hown.lt _ h).1; omega) Mm
     replace Ir := Chg.keepI Ir Cv9 (fun h => by have := (hown.lt _ h).1; omega)
     replace E := E.step Cv9 (fun x hx h => absurd (hown.lt x h).1 (by omega))
     obtain ⟨la2, lc2, rfl⟩ := own_form Ov9
     refine qA _ rfl ?_
     refine WpL_nil (inB_normal (thn_normal ?_))
     exact ⟨es.length - (seen ++ [i]).length, by omega, seen ++ [i], la2, lc2, n + 1, Fits.out ⟨rfl, rfl, trivial⟩, E, Mm, Ir, hnd2, hsl2, (by rw [hl3, hn]), (by rw [List.map_append, List.map_append, List.map_singleton, List.map_singleton, hka]; exact Ov9), Nat.le_trans hbs Cv9.size, rfl⟩
end Go.Proofs
namespace Go.Proofs
open Go Go.Eng Go.Sort
def badE : List (List Sp) → Int
  | [] => 0
  | l :: ll => if checkE l ≠ 0 then checkE l else badE ll
end Go.Proofs
namespace Go.Proofs
open Go Go.Eng Go.Sort
abbrev TSs : Nat := 22
end Go.Proofs
namespace Go.Proofs
open Go Go.Eng Go.Sort
def isPart (ll : List (List Sp)) : Prop := ∀ r, 0 ≤ r → r ≤ 1114111 → ll.countP (fun l => inS l r) = 1
def headLo : List Sp → Int
  | [] => -1
  | s :: _ => s.1
def lastLo (ll : List (List Sp)) : Nat → Int
  | 0 => -1
  | k + 1 => headLo (ll.getD k [])
def hdOk (ll : List (List Sp)) (k : Nat) : Prop := ll.getD k [] ≠ [] ∧ lastLo ll k < headLo (ll.getD k [])
def headsP (ll : List (List Sp)) : Prop := ∀ k, k < ll.length → hdOk ll k
open Classical in
noncomputable def partE (ll : List (List Sp)) : Int := if 16 < ll.length then 2 else if badE ll ≠ 0 then badE ll else if headsP ll ∧ isPart ll then 0 else 3
def leastL (ll : List (List Sp)) : List Int := ll.map headLo
end Go.Proofs
namespace Go.Proofs
open Go Go.Eng Go.Sort
theorem nodup_le {α : Type} [DecidableEq α] : ∀ {l m : List α}, l.Nodup → (∀ x ∈ l, x ∈ m) → l.length ≤ m.length
  | [], _, _, _ => Nat.zero_le _
  | x :: l, m, hd, h => by
    have hd' := List.nodup_cons.1 hd
    have hx := h x List.mem_cons_self
    have h1 := nodup_le (l := l) (m := m.erase x) hd'.2 fun y hy => (List.mem_erase_of_ne (show y ≠ x from fun e => hd'.1 (by rw [← e]; exact hy))).2 (h y (List.mem_cons_of_mem _ hy))
    rw [List.length_erase_of_mem hx] at h1
    have := List.length_pos_of_mem hx
    simp only [List.length_cons]
    omega
end Go.Proofs
namespace Go.Proofs
open Go Go.Eng Go.Sort
set_option maxRecDepth 100000
def addS (s : List (List Sp)) (t : Re) : List (List Sp) := if t.kind = 2 ∧ t.set ∉ s then s ++ [t.set] else s
def setsL (t : Re) : List (List Sp) := (preL t).foldl addS []
theorem addS_mem {x : List Sp} : ∀ {l : List Re} {s : List (List Sp)}, x ∈ l.foldl addS s ↔ x ∈ s ∨ ∃ t ∈ l, t.kind = 2 ∧ x = t.set
  | [], s => by simp
  | t :: l, s => by
    rw [List.foldl_cons, addS_mem]
    have e : x ∈ addS s t ↔ x ∈ s ∨ (t.kind = 2 ∧ x = t.set) := by
      unfold addS
      split
      · rename_i h
        simp [h.1]
      · rename_i h
        constructor
        · exact .inl
        · rintro (h1 | ⟨h1, rfl⟩)
          · exact h1
          · exact Classical.byContradiction fun h2 => h ⟨h1, h2⟩
    rw [e]
    constructor
    · rintro ((h | h) | ⟨u, hu, h⟩)
      · exact .inl h
      · exact .inr ⟨t, by simp, h⟩
      · exact .inr ⟨u, by simp [hu], h⟩
    · rintro (h | ⟨u, hu, h⟩)
      · exact .inl (.inl h)
      · rcases List.mem_cons.1 hu with rfl | hu
        · exact .inl (.inr h)
        · exact .inr ⟨u, hu, h⟩
theorem addS_len : ∀ (l : List Re) (s : List (List Sp)), (l.foldl addS s).length ≤ s.length + l.length
  | [], s => by simp
  | t :: l, s => by
    have h := addS_len l (addS s t)
    have h2 : (addS s t).length ≤ s.length + 1 := by
      unfold addS
      split
      · simp
      · omega
    rw [List.foldl_cons, List.length_cons]
    omega
mutual
theorem allS_pre {P : List Sp → Prop} : ∀ {t : Re}, (∀ u ∈ preL t, u.kind = 2 → P u.set) → AllS P t
  | .mk k s a m x g, h => by
    rw [preL_eq] at h
    exact ⟨h (.mk k s a m x g) (by simp), allS_pres fun u hu => h u (by simp only [List.mem_cons]; exact .inr hu)⟩
theorem allS_pres {P : List Sp → Prop} : ∀ {ts : List Re}, (∀ u ∈ preLs ts, u.kind = 2 → P u.set) → AllSs P ts
  | [], _ => trivial
  | t :: ts, h => by
    simp only [preLs, List.mem_append] at h
    exact ⟨allS_pre fun u hu => h u (.inl hu), allS_pres fun u hu => h u (.inr hu)⟩
end
mutual
theorem pre_allS {P : List Sp → Prop} : ∀ {t : Re}, AllS P t → ∀ u ∈ preL t, u.kind = 2 → P u.set
  | .mk k s a m x g, h, u, hu => by
    rw [preL_eq] at hu
    rcases List.mem_cons.1 hu with rfl | hu
    · exact h.1
    · exact pres_allS h.2 u hu
theorem pres_allS {P : List Sp → Prop} : ∀ {ts : List Re}, AllSs P ts → ∀ u ∈ preLs ts, u.kind = 2 → P u.set
  | [], _, u, hu => by simp [preLs] at hu
  | t :: ts, h, u, hu => by
    simp only [preLs, List.mem_append] at hu
    rcases hu with hu | hu
    · exact pre_allS h.1 u hu
    · exact pres_allS h.2 u hu
end
theorem sets_all {P : List Sp → Prop} {t : Re} (h : ∀ s ∈ setsL t, P s) : AllS P t :=
 allS_pre fun u hu hk => h u.set (addS_mem.2 (.inr ⟨u, hu, hk, rfl⟩))
theorem all_sets {P : List Sp → Prop} {t : Re} (h : AllS P t) : ∀ s ∈ setsL t, P s := fun s hs => by
 rcases addS_mem.1 hs with h1 | ⟨u, hu, hk, rfl⟩
 ·cases h1
 ·exact pre_allS h u hu hk
theorem sets_len (t : Re) : (setsL t).length ≤ t.size := by
 have := addS_len (preL t) []
 rw [preL_len] at this
 simpa [setsL] using this
theorem checkL_v : ∀ (l : List (Int × Int)) (p : Option Int), checkL p l = 0 → ∀ s ∈ l, vSp s := by
  intro l
  induction l with
  | nil => simp
  | cons a l ih =>
    intro p h s hs
    rw [checkL_cons] at h
    by_cases h1 : validB a = false
    · rw [if_pos h1] at h; simp at h
    rw [if_neg h1] at h
    have h2 : checkL (some a.2) l = 0 := by
      split at h
      · split at h
        · simp at h
        · exact h
      · simpa using h
    rcases List.mem_cons.1 hs with rfl | hs
    · simp [validB] at h1
      exact ⟨by omega, by omega, by omega⟩
    · exact ih _ h2 s hs
theorem checkE_v {s : List Sp} (h : checkE s = 0) : (∀ p ∈ s, vSp p) ∧ s.length ≤ 16 := by
 unfold checkE at h
 split at h
 ·cases h
 ·exact ⟨checkL_v _ _ h, by omega⟩
end Go.Proofs
namespace Go.Proofs
open Go Go.Eng Go.Sort
set_option maxRecDepth 100000
theorem spss_nil (w : World) : SpssAt w (.slice none 0 0) [] := ⟨[], SlAt.nil _ _ _ _, rfl, fun i u l h => by simp at h⟩
end Go.Proofs
namespace Go.Proofs
open Go Go.Eng Go.Sort
set_option maxRecDepth 100000
theorem spss_idx_c (w0 : World) (v fv : Value) (ll : List (List Sp)) (p : List Sp → Bool) (h : SpssAt w0 v ll) (hf : ∀ (w : World) (u : Value) (l : List Sp), Ext w0 w → SpansAt w u l → CallV Tryz.prog fv #[u] w fun r w' => r = .bool (p l) ∧ Ext w w') :
  Ret Tryz.prog 119 #[v, fv] w0 fun r w => r = .int .i64 (idx p ll) ∧ Ext w0 w := by
 obtain ⟨a, c, rfl, _, hle⟩ := h.form
 refine Ret_of Tryz.func119 rfl Tryz.ntmps119 (Nat.le_of_ble_eq_true rfl) ?_
 have E : Chg none1 w0 w0 := Chg.refl _ _
 refine Wp_seq_region ?_
 refine qA _ rfl ?_
 refine WpL_nil (Wp_seq (Wp_seq_region ?_))
 refine qM _ rfl ?_
 refine qV (r_lenSlice Tryz.underlying38 rfl) ?_
 refine qM _ rfl ?_
 refine WpL_nil (Wp_block ?_)
 refine Wp_loop (fun nn_ σ W1 => ∃ (k : Nat), (∃ jj_, σ = upds jj_ [(0, (.slice a ll.length c)), (1, fv), (7, (I6 (ll.length : Int))), (8, (I6 (k : Int)))]) ∧ Chg none1 w0 W1 ∧ (k ≤ ll.length) ∧ (∀ (i : Nat) (y : List Sp), i < k → ll[i]? = some y → p y = false) ∧ nn_ = ll.length - k) (n := ll.length - 0) ?_ ?_
 ·exact ⟨0, Fits.out ⟨rfl, rfl, rfl, rfl, trivial⟩, E, Nat.zero_le _, (fun i y h => absurd h (Nat.not_lt_zero _)), rfl⟩
 ·clear E
  rintro _ _ W1 ⟨k, ⟨j1, rfl⟩, E, hk, hno, rfl⟩
  refine Wp_seq_region ?_
  refine qV (r_lss rfl rfl) ?_
  refine WpL_nil (Wp_seq ?_)
  refine Wp_cond rfl (fun hlt => ?_) (fun hlt => ?_)
  ·have khlt := hlt
   replace hlt := of_decide_eq_true hlt
   obtain ⟨l, hx⟩ := get_of_lt (l := ll) (i := k) (by omega)
   obtain ⟨b, o, rfl, hcl⟩ := spss_cells h (by omega)
   obtain ⟨ra, rc, hcell, hsp⟩ := hcl k l hx
   refine Wp_skip (thn_normal (Wp_seq (Wp_block (Wp_seq_region ?_))))
   refine qM _ rfl ?_
   refine qA _ rfl ?_
   refine WpL_nil (Wp_seq_region ?_)
   refine qM _ rfl ?_
   refine qM _ rfl ?_
   refine qM _ rfl ?_
   refine qV (r_indexSlice (b := b) (o := o) (len := ll.length) (cap := c) (i := k) (o' := o + k) rfl rfl rfl Tryz.underlying38 siz22 (by omega) (by omega)) ?_
   refine qV (r_load rfl flat22 (E.cell (fun f => f) hcell)) ?_
   refine WpL_callV (by decide) rfl rfl (hf _ _ l E (hsp.ext E)) ?_
   rintro _ w9 ⟨rfl, X9⟩
   replace E := E.ext X9
   refine WpL_nil ?_
   refine Wp_cond rfl (fun hp => ?_) (fun hp => ?_)
   ·have khp := hp
    refine Wp_seq_region ?_
    refine qM _ rfl ?_
    refine qA _ rfl ?_
    refine WpL_nil (Wp_ret (inB_ret (thn_ret (thn_ret (inB_ret (thn_ret ?_))))))
    refine fin_tmp Tryz.results119 (v := (.int .i64 ((k : Nat) : Int))) rfl ?_
    exact ⟨int_eq (idx_hit hx hp hno).symm, E⟩
   ·have khp := hp
    refine Wp_skip (inB_normal (thn_normal (Wp_region ?_)))
    refine qV (r_add rfl rfl (wI64 (by omega))) ?_
    refine qM _ rfl ?_
    refine WpL_nil (thn_normal ?_)
    exact ⟨ll.length - (k + 1), by omega, k + 1, Fits.out ⟨rfl, rfl, rfl, rfl, trivial⟩, E, (by omega), below_next hx hp hno, rfl⟩
  ·have khlt := hlt
   replace hlt := of_decide_eq_false hlt
   have hkk : k = ll.length := by omega
   refine Wp_exit (thn_exit (thn_exit (inB_here (thn_normal (Wp_seq_region ?_)))))
   refine qA _ rfl ?_
   refine WpL_nil (Wp_ret ?_)
   refine fin_tmp Tryz.results119 (v := (.int .i64 (-1))) rfl ?_
   exact ⟨int_eq (idx_miss fun i y hy => hno i y (by have := lt_of_get hy; omega) hy).symm, E⟩
noncomputable def leastP (ll : List (List Sp)) : List Int := if partE ll = 0 then leastL ll else []
end Go.Proofs
namespace Go.Proofs
open Go Go.Eng Go.Sort
set_option maxRecDepth 100000
def sRow (l : List Sp) : Nat × List Value := (l.length, (l.map spanV).flatten)
theorem LSt.spss {w : World} {base : Nat} {vo : Value} {vs : List Value} {ll : List (List Sp)} (h : LSt TSs TSp 2 w base vo vs (ll.map sRow)) : SpssAt w vo ll := by
 have hl : vs.length = ll.length := by simpa using h.len
 refine ⟨vs, ?_, hl, fun i u l hu hl => ?_⟩
 ·have ho := h.o
  rw [show vs = (vs.map fun x => [x]).flatten by simp [List.flatten_eq_flatMap, List.flatMap_map]] at ho
  exact own_slat ho (by intro r hr; simp only [List.mem_map] at hr; obtain ⟨x, _, rfl⟩ := hr; rfl) (by simp [hl]) (by decide)
 ·have h1 := h.inn i u (sRow l) hu (by rw [List.getElem?_map, hl]; rfl)
  exact OwnS.at ⟨own_form h1, h1⟩
end Go.Proofs
namespace Go.Proofs
open Go Go.Eng Go.Sort
set_option maxRecDepth 100000
set_option maxHeartbeats 1000000 in
theorem walk_d {S : Type} (F : S → Re → Bool × S) (Inv : S → (Nat → Prop) → World → Prop) (Pn : Re → Prop) (fv : Value) (wb : World)
    (hb : ∀ s D w, Inv s D w → ∀ b, D b → wb.heap.size ≤ b ∧ b < w.heap.size)
    (hst : ∀ s D w w', Inv s D w → Ext w w' → Inv s D w')
    (hP : ∀ t, Pn t → ∀ x ∈ t.args, Pn x)
    (hf : ∀ s D w t vs, Ext wb w → Pn t → Inv s D w → ReAt wb t vs → CallV Tryz.prog fv #[.agg vs.toArray] w fun v w' => ∃ D', v = .bool (F s t).1 ∧ Chg D w w' ∧ Inv (F s t).2 D' w' ∧ ∀ b, D' b → D b ∨ w.heap.size ≤ b) :
    ∀ n t, t.size ≤ n → Pn t → ∀ s (D : Nat → Prop) w0 vs, Ext wb w0 → Inv s D w0 → ReAt wb t vs →
      Ret Tryz.prog 41 #[.agg vs.toArray, fv] w0 fun v w' => ∃ D', v = .bool (walkF F t s).1 ∧ Chg D w0 w' ∧ Inv (walkF F t s).2 D' w' ∧ ∀ b, D' b → D b ∨ w0.heap.size ≤ b := by
  have toExt : ∀ {D : Nat → Prop} {w w' : World}, Ext wb w → (∀ b, D b → wb.heap.size ≤ b) → Chg D w w' → Ext wb w' := fun e h c => Chg.step e c fun x hx hm => by have := h x hm; omega
  intro n
  induction n with
  | zero => intro t ht; have := t.size_pos; omega
  | succ n ih =>
  intro t hn hPt s D w0 vs hE hI ht
  obtain ⟨sa, sc, aa, ac, rfl, hset, hlen, hargs⟩ := ht.form
  have hD0 := hb s D w0 hI
  rw [walkF_eq]
  refine Ret_of Tryz.func41 rfl Tryz.ntmps41 (Nat.le_of_ble_eq_true rfl) ?_
  have E : Chg D w0 w0 := Chg.refl _ _
  refine Wp_seq_region ?_
  refine s_box (v := (.agg (R6 t sa sc aa ac))) (c := (R6 t sa sc aa ac)) (by decide) rfl rfl ?_
  intro br wr Nr
  have Fr := Nr.ge E
  replace hI := hst _ _ _ _ hI Nr.ext
  replace E := E.ext Nr.ext
  have Br := Nr.blk
  refine qA _ rfl ?_
  refine WpL_nil (Wp_seq (Wp_seq_region ?_))
  refine qM _ rfl ?_
  refine qV (r_loadAgg (vs := [(I6 t.kind), (.slice sa t.set.length sc), (.slice aa t.args.length ac), (I6 t.mn), (I6 t.mx), (.bool t.neg)]) rfl agg25 siz25 rfl (Br.cells rfl)) ?_
  refine WpL_callV (by decide) rfl rfl (hf s D _ t _ (hE.trans Nr.ext) hPt hI ht) ?_
  rintro _ w2 ⟨D1, rfl, C2, hI, hD1⟩
  replace Br := C2.keep (fun h => by have := (hD0 _ h).2; omega) Br
  replace E := E.trans C2
  have hE2 : Ext wb w2 := toExt hE (fun b h => (hD0 b h).1) E
  have hD1' : ∀ b, D1 b → D b ∨ w0.heap.size ≤ b := fun b h => (hD1 b h).imp id (fun h => by have := Nr.size; omega)
  have hD1r : ∀ b, D1 b → b ≠ br := fun b h e => by rcases hD1 b h with h | h; have := (hD0 b h).2; have := Nr.eq; omega; have := Nr.size; have := Nr.eq; omega
  refine qV (r_not rfl) ?_
  refine WpL_nil ?_
  refine Wp_cond rfl (fun h => ?_) (fun h => ?_)
  · have kh := h
    replace h := by simpa using h
    refine Wp_seq_region ?_
    refine qA _ rfl ?_
    refine WpL_nil (Wp_ret (thn_ret ?_))
    refine fin_tmp Tryz.results41 (v := (.bool false)) rfl ?_
    exact ⟨D1, by rw [if_neg (by simp [h])], E, by rw [if_neg (by simp [h])]; exact hI, hD1'⟩
  · have kh := h
    replace h := by simpa using h
    rw [if_pos (by simpa using h)]
    generalize (F s t).2 = s1 at hI ⊢
    have z2 : br < w2.heap.size := by have := C2.size; have := Nr.size; have := Nr.eq; omega
    refine Wp_skip (thn_normal (Wp_seq (Wp_seq_region ?_)))
    refine qF br 0 2 rfl Tryz.underlying25 rfl siz23 rfl ?_
    refine qV (r_load rfl flat23 (Br.cell rfl)) ?_
    refine qV (r_lenSlice Tryz.underlying23 rfl) ?_
    refine qM _ rfl ?_
    refine WpL_nil (Wp_block ?_)
    refine Wp_loop (fun nn_ σ W2 => ∃ (k : Nat) (s' : S) (D2 : Nat → Prop), (∃ jj_, σ = upds jj_ [(1, fv), (12, (.slice aa t.args.length ac)), (13, (I6 (t.args.length : Int))), (14, (I6 (k : Int)))]) ∧ Chg D w0 W2 ∧ Blk W2 br (R6 t sa sc aa ac) 25 ∧ (k ≤ t.args.length) ∧ (Inv s' D2 W2) ∧ (walkFs F t.args s1 = walkFs F (t.args.drop k) s') ∧ (∀ b, D2 b → D b ∨ w0.heap.size ≤ b) ∧ (∀ b, D2 b → b ≠ br) ∧ (br < W2.heap.size) ∧ nn_ = t.args.length - k) (n := t.args.length - 0) ?_ ?_
    · exact ⟨0, s1, D1, Fits.out ⟨rfl, rfl, rfl, rfl, trivial⟩, E, Br, Nat.zero_le _, hI, rfl, hD1', hD1r, z2, rfl⟩
    · clear E Br
      rintro _ _ W2 ⟨k, s', D2, ⟨j2, rfl⟩, E, Br, hk, hI, hrel, hD2, hDr, hz, rfl⟩
      have hD3 := hb s' D2 _ hI
      have hE1 := E.size
      refine Wp_seq_region ?_
      refine qV (r_lss rfl rfl) ?_
      refine WpL_nil (Wp_seq ?_)
      refine Wp_cond rfl (fun hlt => ?_) (fun hlt => ?_)
      · have khlt := hlt
        replace hlt := of_decide_eq_true hlt
        obtain ⟨x, hx⟩ := get_of_lt (l := t.args) (i := k) (by omega)
        obtain ⟨b, o, rfl, hres⟩ : ∃ b o, aa = some ⟨b, o, none⟩ ∧ ResAt wb b o t.args := by
          rcases hargs with h | h
          · rw [h] at hx; simp at hx
          · exact h
        obtain ⟨us, hus, hxt⟩ := hres.get hx
        have hxt0 := hxt
        obtain ⟨xsa, xsc, xaa, xac, rfl, _, _, _⟩ := hxt.form
        have hEW : Ext wb _ := toExt hE (fun b h => (hD0 b h).1) E
        have hsz := Re.size_arg hx
        refine Wp_skip (thn_normal (Wp_seq (Wp_block (Wp_seq_region ?_))))
        refine qV (r_indexSlice (b := b) (o := o) (len := t.args.length) (cap := ac) (i := k) (o' := o + k * 6) rfl rfl rfl Tryz.underlying23 siz25 (by omega) (by omega)) ?_
        refine qV (r_loadAgg rfl agg25 siz25 rfl (hus.ext hEW)) ?_
        refine s_allocStore (v := (.agg (R6 x xsa xsc xaa xac))) (c := (R6 x xsa xsc xaa xac)) (n := 6) (by decide) zer25 rfl siz25 rfl rfl rfl (by simp [Value.oneCell']) ?_
        intro bz wz Nz
        have Fz := Nz.ge E
        have Oz_br := Nz.lt Br
        replace Br := Nz.keep Br
        replace hI := hst _ _ _ _ hI Nz.ext
        replace E := E.ext Nz.ext
        have Bz := Nz.blk
        refine WpL_nil (Wp_seq_region ?_)
        refine qV (r_loadAgg (vs := [(I6 x.kind), (.slice xsa x.set.length xsc), (.slice xaa x.args.length xac), (I6 x.mn), (I6 x.mx), (.bool x.neg)]) rfl agg25 siz25 rfl (Bz.cells rfl)) ?_
        refine qM _ rfl ?_
        refine WpL_enter rfl rfl (by decide) (r_callF Tryz.func41 nm41 bd41 rfl) (ih x (by omega) (hP t hPt x (List.mem_of_getElem? hx)) s' D2 _ _ (hEW.trans Nz.ext) hI hxt0) ?_
        rintro _ w9 ⟨D4, rfl, C9, hI, hD9⟩
        replace Br := C9.keep (fun h => by have h1 := hDr _ h; have h2 := (hD3 _ h).2; first | exact h1 rfl | (have := Nz.eq; omega)) Br
        replace Bz := C9.keep (fun h => by have h1 := hDr _ h; have h2 := (hD3 _ h).2; first | exact h1 rfl | (have := Nz.eq; omega)) Bz
        replace E := E.step C9 (fun y hy h => (hD2 y h).resolve_right (by omega))
        have hdr := drop_cons hx
        rw [hdr, walkFs_cons] at hrel
        have hD4 : ∀ b, D4 b → D b ∨ w0.heap.size ≤ b := fun b h => by rcases hD9 b h with h | h; exact hD2 b h; exact .inr (by have := Nz.size; omega)
        have hD4r : ∀ b, D4 b → b ≠ br := fun b h e => by rcases hD9 b h with h | h; exact hDr b h e; have := Nz.size; omega
        refine qV (r_not rfl) ?_
        refine WpL_nil ?_
        refine Wp_cond rfl (fun h2 => ?_) (fun h2 => ?_)
        · have kh2 := h2
          replace h2 := by simpa using h2
          refine Wp_seq_region ?_
          refine qA _ rfl ?_
          refine WpL_nil (Wp_ret (inB_ret (thn_ret (thn_ret (inB_ret (thn_ret ?_))))))
          refine fin_tmp Tryz.results41 (v := (.bool false)) rfl ?_
          exact ⟨D4, by rw [hrel, if_neg (by simp [h2])], E, by rw [hrel, if_neg (by simp [h2])]; exact hI, hD4⟩
        · have kh2 := h2
          replace h2 := by simpa using h2
          rw [if_pos (by simpa using h2)] at hrel
          refine Wp_skip (inB_normal (thn_normal (Wp_region ?_)))
          refine qV (r_add rfl rfl (wI64 (by omega))) ?_
          refine qM _ rfl ?_
          refine WpL_nil (thn_normal ?_)
          exact ⟨t.args.length - (k + 1), by omega, k + 1, (walkF F x s').2, D4, Fits.out ⟨rfl, rfl, rfl, rfl, trivial⟩, E, Br, (by omega), hI, hrel, hD4, hD4r, (by have := C9.size; have := Nz.size; omega), rfl⟩
      · have khlt := hlt
        replace hlt := of_decide_eq_false hlt
        have hkk : k = t.args.length := by omega
        rw [hkk, List.drop_length] at hrel
        refine Wp_exit (thn_exit (thn_exit (inB_here (thn_normal (Wp_seq_region ?_)))))
        refine qA _ rfl ?_
        refine WpL_nil (Wp_ret ?_)
        refine fin_tmp Tryz.results41 (v := (.bool true)) rfl ?_
        exact ⟨D2, by rw [hrel]; rfl, E, by rw [hrel]; exact hI, hD2⟩
end Go.Proofs
namespace Go.Proofs
open Go Go.Eng Go.Sort
set_option maxRecDepth 100000
abbrev TSss : Nat := 38
theorem spss_has_c (w0 : World) (v fv : Value) (ll : List (List Sp)) (p : List Sp → Bool) (h : SpssAt w0 v ll) (hf : ∀ (w : World) (u : Value) (l : List Sp), Ext w0 w → SpansAt w u l → CallV Tryz.prog fv #[u] w fun r w' => r = .bool (p l) ∧ Ext w w') :
  Ret Tryz.prog 88 #[v, fv] w0 fun r w => r = .bool (ll.any p) ∧ Ext w0 w := by
 refine Ret_of Tryz.func88 rfl Tryz.ntmps88 (Nat.le_of_ble_eq_true rfl) ?_
 have E : Chg none1 w0 w0 := Chg.refl _ _
 refine Wp_seq_region ?_
 refine qA _ rfl ?_
 refine WpL_nil (Wp_seq_region ?_)
 refine qM v rfl ?_
 refine qM _ rfl ?_
 refine WpL_enter rfl rfl (by decide) (r_callF Tryz.func119 nm119 bd119 rfl) (spss_idx_c _ v fv ll p h hf) ?_
 rintro _ w9 ⟨rfl, X9⟩
 replace E := E.ext X9
 refine qV (r_geq rfl rfl) ?_
 refine qA _ rfl ?_
 refine WpL_nil (Wp_ret ?_)
 refine fin_tmp Tryz.results88 (v := (.bool (decide ((0 : Int) ≤ idx p ll)))) rfl ?_
 exact ⟨bool_eq (idx_any p ll), E⟩
theorem all11_c (w0 : World) (bz : Nat) (x : Re) (xs : List Value) (u : Value) (l : List Sp) (hB : Blk w0 bz xs.toArray 25) (hx : ReAt w0 x xs) (hu : SpansAt w0 u l) :
  Ret Tryz.prog 89 #[u, .pointer (some ⟨bz, 0, none⟩)] w0 fun r w => r = .bool (decide (l = x.set)) ∧ Ext w0 w := by
 obtain ⟨sa, sc, aa, ac, rfl, hset, _, _⟩ := hx.form
 refine Ret_of Tryz.func89 rfl Tryz.ntmps89 (Nat.le_of_ble_eq_true rfl) ?_
 have E : Chg none1 w0 w0 := Chg.refl _ _
 refine Wp_seq_region ?_
 refine qA _ rfl ?_
 refine WpL_nil (Wp_seq_region ?_)
 refine qM u rfl ?_
 refine qF bz 0 1 rfl Tryz.underlying25 rfl siz22 rfl ?_
 refine qV (r_load rfl flat22 (hB.cell rfl)) ?_
 refine WpL_enter rfl rfl (by decide) (r_callF Tryz.func45 nm45 bd45 rfl) (speq_c _ _ _ l x.set (hu.ext E) (SlAt.ext hset E)) ?_
 rintro _ w9 ⟨rfl, X9⟩
 replace hB := X9.keep hB
 replace E := E.ext X9
 refine qA _ rfl ?_
 refine WpL_nil (Wp_ret ?_)
 refine fin_tmp Tryz.results89 (v := (.bool (decide (l = x.set)))) rfl ?_
 exact ⟨rfl, E⟩
/-- The list of sets, one's own, in a cell. -/
def InvA (bo base : Nat) (SR : List (List Sp)) (s : List (List Sp)) (D : Nat → Prop) (w : World) : Prop :=
 ∃ (oa : Option Addr) (oc : Nat) (vs : List Value), Blk w bo #[.slice oa s.length oc] TSss ∧ LSt TSs TSp 2 w base (.slice oa s.length oc) vs (s.map sRow) ∧ (∀ b, D b ↔ b = bo ∨ (Value.slice oa s.length oc).ownBlock = some b) ∧ bo < base ∧ base ≤ w.heap.size ∧ s.Nodup ∧ ∀ x ∈ s, x ∈ SR
def osG (base : Nat) (l : List Sp) : Fct := fun v w => ∃ a c, v = .slice a l.length c ∧ w.ownsRow base TSp 2 (.slice a l.length c) l.length (l.map spanV).flatten
theorem osG_ext (base : Nat) (l : List Sp) : Stable (osG base l) := by
 rintro v w w' e ⟨a, c, rfl, h⟩
 exact ⟨a, c, rfl, own_ext h e⟩
def lit1G (l : List Sp) (base : Nat) : Fct := fun v w => ∃ b a c, v = .slice (some ⟨b, 0, none⟩) 1 1 ∧ Blk w b #[.slice a l.length c] TSs ∧ base ≤ b ∧ w.ownsRow base TSp 2 (.slice a l.length c) l.length (l.map spanV).flatten
theorem lit1G_ext (l : List Sp) (base : Nat) : Stable (lit1G l base) := by
 rintro v w w' e ⟨b, a, c, rfl, h, h2, h3⟩
 exact ⟨b, a, c, rfl, Ext.keep e h, h2, own_ext h3 e⟩
theorem DoesT_lit1 {M : Nat → Prop} {N : Nat} {σ : Env} {w : World} {dst : Option Tmp} {ty : TypeId} {pos : String} {af : Array Edge} {g : Option (Nat × Bool)} {x : Operand} {a : Option Addr} {c base : Nat} {l : List Sp} (hx : ev σ x = .slice a l.length c) (hb : base ≤ w.heap.size) (hO : w.ownsRow base TSp 2 (.slice a l.length c) l.length (l.map spanV).flatten) :
  DoesT M Tryz.prog N ⟨dst, .buildSlice 38 1 #[(0, x)], ty, pos, af, g⟩ (lit1G l base) σ w := by
 have hn := New.mk' w #[.slice a l.length c] TSs
 exact DoesT_val (run_buildSlice (parts := [(0, x)]) (ps := [(0, .slice a l.length c)]) (by simp only [List.map, hx]) Tryz.underlying38 siz22 zer22 (by decide) (by decide) (by kernel_rfl)) (Ext.chg hn.ext) ⟨_, _, _, rfl, hn.blk, hb, own_ext hO hn.ext⟩
theorem addS_same {s : List (List Sp)} {t : Re} (h : t.kind = 2 → t.set ∈ s) : addS s t = s := by
 unfold addS
 rw [if_neg fun h2 => h2.2 (h h2.1)]
set_option maxHeartbeats 2000000 in
theorem all1_c (w0 : World) (bo base : Nat) (SR : List (List Sp)) (hSR : SR.length ≤ 1000 ∧ ∀ s ∈ SR, checkE s = 0) (s : List (List Sp)) (D : Nat → Prop) (x : Re) (xs : List Value) (hI : InvA bo base SR s D w0) (hP : AllS (fun s => s ∈ SR) x) (hx : ReAt w0 x xs) :
  Ret Tryz.prog 87 #[.agg xs.toArray, .pointer (some ⟨bo, 0, none⟩)] w0 fun v w' => ∃ D', v = .bool true ∧ Chg D w0 w' ∧ InvA bo base SR (addS s x) D' w' ∧ ∀ b, D' b → D b ∨ w0.heap.size ≤ b := by
 have hx0 := hx
 have hI0 := hI
 obtain ⟨sa, sc, aa, ac, rfl, hset, _, _⟩ := hx.form
 obtain ⟨oa, oc, vs, hB, hL, hD, hbo, hbs, hnd, hsub⟩ := hI
 have hbs0 := hbs
 have hDb : D bo := (hD bo).2 (.inl rfl)
 have hsl : s.length ≤ 1000 := Nat.le_trans (nodup_le hnd hsub) hSR.1
 have hOz := fun k h => (hL.o.lt k h).2
 have hD0 : ∀ b, D b → b < w0.heap.size := fun b h => by rcases (hD b).1 h with h | h; omega; exact hOz b h
 refine Ret_of Tryz.func87 rfl Tryz.ntmps87 (Nat.le_of_ble_eq_true rfl) ?_
 have E : Chg D w0 w0 := Chg.refl _ _
 refine Wp_seq_region ?_
 refine s_box (v := (.agg (R6 x sa sc aa ac))) (c := (R6 x sa sc aa ac)) (by decide) rfl rfl ?_
 intro bz wz Nz
 have Fz := Nz.ge E
 have Oz_bo := Nz.lt hB
 replace hB := Nz.keep hB
 replace hL := hL.ext Nz.ext
 replace hbs := Nat.le_trans hbs Nz.ext.size
 replace E := E.ext Nz.ext
 have Bz := Nz.blk
 refine qA _ rfl ?_
 refine WpL_nil (Wp_seq (Wp_seq_region ?_))
 refine qF bz 0 0 rfl Tryz.underlying25 rfl siz3 rfl ?_
 refine qV (r_load rfl flat3 (Bz.cell rfl)) ?_
 refine qV (r_eql rfl rfl) ?_
 refine qM _ rfl ?_
 rcases Bool.eq_false_or_eq_true (decide ((x.kind : Int) = 2)) with g1 | g1
 ·have kg1 := g1
  replace kg1 := of_decide_eq_true kg1
  refine WpL_guard_yes rfl rfl (by decide) (congrArg Value.bool g1) ?_
  refine qV (r_load rfl flat38 (hB.cell rfl)) ?_
  refine WpL_guard_yes rfl rfl (by decide) (congrArg Value.bool g1) ?_
  refine qV (r_makeFunc rfl rfl) ?_
  refine WpL_guard_yes rfl rfl (by decide) (congrArg Value.bool g1) ?_
  refine WpL_enter rfl rfl (by decide) (r_callF Tryz.func88 nm88 bd88 rfl) (spss_has_c _ _ _ s (fun l => decide (l = x.set)) hL.spss (fun w u l hE hu => CallV.mk (first := #[]) (cap := #[.pointer (some ⟨bz, 0, none⟩)]) Tryz.func89 nm89 bd89 rfl (all11_c w bz x _ u l (hE.keep Bz) (ReAt.ext (Nz.ext.trans hE) x hx0) hu))) ?_
  rintro _ w9 ⟨rfl, X9⟩
  replace hB := X9.keep hB
  replace Bz := X9.keep Bz
  replace hL := hL.ext X9
  replace hbs := Nat.le_trans hbs X9.size
  replace E := E.ext X9
  refine WpL_guard_yes rfl rfl (by decide) (congrArg Value.bool g1) ?_
  refine qV (r_not rfl) ?_
  refine qV (r_pick (v := (.bool (!(s.any fun l => decide (l = x.set))))) rfl (by rw [g1]; rfl)) ?_
  refine WpL_nil ?_
  refine Wp_cond rfl (fun g2 => ?_) (fun g2 => ?_)
  ·have kg2 := g2
   replace g2 := by simpa using g2
   have hns : x.set ∉ s := fun h => g2 _ h rfl
   have hxR := hP.s kg1
   have hx16 := (checkE_v (hSR.2 x.set hxR)).2
   have hadd : addS s x = s ++ [x.set] := by unfold addS; rw [if_pos ⟨kg1, hns⟩]
   obtain ⟨n1, hn1⟩ : ∃ n, n = (w9).heap.size := ⟨_, rfl⟩
   have hn0 : w0.heap.size ≤ n1 := by rw [hn1]; have := X9.size; have := Nz.size; omega
   obtain ⟨Fs3, hFs3⟩ : ∃ Fs : List (FactT (none1)), Fs = [.eq (.slice oa s.length oc), .eq (P6 bz 1), .eq (.slice sa x.set.length sc), .gen (osG n1 x.set) (osG_ext _ _), .gen (lit1G x.set n1) (lit1G_ext _ _)] := ⟨_, rfl⟩
   refine Wp_dagT (none1) 5 3 [13, 14, 15, 16, 17] [[], [], [1], [2], [3]] Fs3 hFs3 rfl mixed (by kernel_rfl) (by kernel_rfl) (by kernel_rfl) ?_ ?_
   ·intro wd X0
    refine DagStepsT.cons (fun s' w' X U H => ?_) ?_
    ·exact DoesT_val (r_load (U 1 rfl) flat38 ((Chg.keep X (fun f => f) (X0.keep hB)).cell rfl)) (Chg.refl _ _) rfl
    refine DagStepsT.cons (fun s' w' X U H => ?_) ?_
    ·exact DoesT_val (r_fieldAddr (U 2 rfl) Tryz.underlying25 rfl siz22 rfl) (Chg.refl _ _) rfl
    refine DagStepsT.cons (fun s' w' X U H => ?_) ?_
    ·have e14 : s' 14 = (.pointer (some ⟨bz, 1, none⟩)) := H 1 rfl 14 (.eq (.pointer (some ⟨bz, 1, none⟩))) rfl (by rw [hFs3]; rfl)
     exact DoesT_val (r_load e14 flat22 ((Chg.keep X (fun f => f) (X0.keep Bz)).cell rfl)) (Chg.refl _ _) rfl
    refine DagStepsT.cons (fun s' w' X U H => ?_) ?_
    ·have e15 : s' 15 = (.slice sa x.set.length sc) := H 2 rfl 15 (.eq (.slice sa x.set.length sc)) rfl (by rw [hFs3]; rfl)
     exact DoesT_enter (r_callF Tryz.func48 nm48 bd48 (lst1 e15)) ((clones_c _ _ x.set (SlAt.ext (SlAt.ext hset (Nz.ext.trans X9)) (X0.trans X)) (by omega)).mono (fun v w h => ⟨(by obtain ⟨⟨⟨a, c, h1⟩, h2⟩, _⟩ := h; subst h1; exact ⟨a, c, rfl, own_low h2 (by have := X0.size; have := X.size; omega)⟩ : osG n1 x.set v w), h.2⟩))
    refine DagStepsT.cons (fun s' w' X U H => ?_) ?_
    ·obtain ⟨a16, c16, e16, O16⟩ := (show (.gen (osG n1 x.set) (osG_ext _ _) : FactT (none1)).In (s' 16) w' from H 3 rfl 16 (.gen (osG n1 x.set) (osG_ext _ _)) rfl (by rw [hFs3]; rfl))
     exact DoesT_lit1 e16 (by have := X0.size; have := X.size; omega) O16
    exact DagStepsT.nil
   ·intro s' wd3 w3 X0 X3 U H
    have e13 : s' 13 = (.slice oa s.length oc) := H 0 13 (.eq (.slice oa s.length oc)) rfl (by rw [hFs3]; rfl)
    obtain ⟨a16, c16, e16, O16⟩ := (show (.gen (osG n1 x.set) (osG_ext _ _) : FactT (none1)).In (s' 16) w3 from H 3 16 (.gen (osG n1 x.set) (osG_ext _ _)) rfl (by rw [hFs3]; rfl))
    obtain ⟨b17, a17, c17, e17, B17, h17, O17⟩ := (show (.gen (lit1G x.set n1) (lit1G_ext _ _) : FactT (none1)).In (s' 17) w3 from H 4 17 (.gen (lit1G x.set n1) (lit1G_ext _ _)) rfl (by rw [hFs3]; rfl))
    obtain ⟨j3, rfl⟩ := Fits.out (σ := s') (l := [(1, (.pointer (some ⟨bo, 0, none⟩))), (13, (.slice oa s.length oc)), (17, (.slice (some ⟨b17, 0, none⟩) 1 1))]) ⟨U 1 rfl, e13, e17, trivial⟩
    clear U H
    replace hB := Chg.keep X3 (fun f => f) (X0.keep hB)
    replace Bz := Chg.keep X3 (fun f => f) (X0.keep Bz)
    replace hL := hL.ext X0
    replace hL := hL.ext X3
    replace hbs := Nat.le_trans hbs X0.size
    replace hbs := Nat.le_trans hbs X3.size
    replace E := (E.ext X0).step X3 (fun _ _ f => f.elim)
    have hw3 := E.size
    have hLo := hL.on (n := s.length) (by simp)
    refine s_append (base := base) (n := s.length) (m := 1) (xs := vs) (news := [(.slice a17 x.set.length c17)]) (size := 1) (bytes := 24) (v := (.slice oa s.length oc)) (by decide) Tryz.underlying38 siz22 byt22 zer22 rfl (by decide) rfl hLo rfl (rfl) (B17.cells rfl) (by simp [Value.oneCell']) (by unfold maxLen; omega) (by omega) (hbs) ?_
    intro v9 w29 Ov9 Cv9 Dv9
    replace hB := Cv9.keep (fun h => by have := (hLo.lt _ h).1; omega) hB
    replace E := E.step Cv9 (fun y hy h => (hD y).2 (.inr h))
    obtain ⟨la2, lc2, rfl⟩ := own_form Ov9
    have hL2 := hL.push (n := s.length) (by simp) O17 (by omega) (fun k h => by have := hOz k h; omega) Ov9 Cv9 Dv9
    have hbs2 := Nat.le_trans hbs Cv9.size
    have hDv : ∀ b, (Value.slice la2 (s.length + 1) lc2).ownBlock = some b → D b ∨ w0.heap.size ≤ b := fun b h => by rcases Dv9 b h with h | h; exact .inl ((hD b).2 (.inr h)); exact .inr (by omega)
    refine s_store (b := bo) (o := 0) (c' := #[(.slice la2 (s.length + 1) lc2)]) (v := (.slice la2 (s.length + 1) lc2)) rfl rfl rfl siz38 hB (by simp) rfl ?_
    intro w4 S4
    replace hL2 := hL2.chg S4.chg (fun b hb _ h => by have h2 : b = bo := h; omega)
    replace hbs2 := Nat.le_trans hbs2 S4.chg.size
    replace E := S4.step E (by first | exact Or.inl (by omega) | exact Or.inr rfl | exact Or.inr (by assumption) | exact Or.inr (by simp) | exact Or.inr (by omega) | exact Or.inr (by dsimp only; omega))
    replace hB := S4.blk
    refine WpL_nil (thn_normal (Wp_seq_region ?_))
    refine qA _ rfl ?_
    refine WpL_nil (Wp_ret ?_)
    refine fin_tmp Tryz.results87 (v := (.bool true)) rfl ?_
    refine ⟨fun b => b = bo ∨ (Value.slice la2 (s.length + 1) lc2).ownBlock = some b, rfl, E, ⟨la2, lc2, vs ++ [.slice a17 x.set.length c17], ?_, ?_, ?_, hbo, hbs2, ?_, ?_⟩, ?_⟩
    ·rw [hadd, List.length_append]; exact hB
    ·rw [hadd, List.length_append, List.map_append]; exact hL2
    ·intro b; rw [hadd, List.length_append]; exact Iff.rfl
    ·rw [hadd, List.nodup_append]
     exact ⟨hnd, by simp, fun a ha b hb => by rw [List.mem_singleton.1 hb]; rintro rfl; exact hns ha⟩
    ·intro y hy
     rw [hadd] at hy
     rcases List.mem_append.1 hy with h | h
     ·exact hsub y h
     ·rw [List.mem_singleton.1 h]; exact hxR
    ·rintro b (rfl | h)
     ·exact .inl hDb
     ·exact hDv b h
  ·have kg2 := g2
   replace g2 := by simpa using g2
   have hadd : addS s x = s := addS_same fun _ => g2
   refine Wp_skip (thn_normal (Wp_seq_region ?_))
   refine qA _ rfl ?_
   refine WpL_nil (Wp_ret ?_)
   refine fin_tmp Tryz.results87 (v := (.bool true)) rfl ?_
   exact ⟨D, rfl, E, by rw [hadd]; exact ⟨oa, oc, vs, hB, hL, hD, hbo, hbs, hnd, hsub⟩, fun b h => .inl h⟩
 ·have kg1 := g1
  replace kg1 := of_decide_eq_false kg1
  have hadd : addS s x = s := addS_same fun h => by simp [h] at g1
  refine WpL_guard_no rfl rfl (by decide) (v := .bool false) (congrArg Value.bool g1) (Or.inl rfl) ?_
  refine WpL_guard_no rfl rfl (by decide) (v := .bool false) (congrArg Value.bool g1) (Or.inl rfl) ?_
  refine WpL_guard_no rfl rfl (by decide) (v := .bool false) (congrArg Value.bool g1) (Or.inl rfl) ?_
  refine WpL_guard_no rfl rfl (by decide) (v := .bool false) (congrArg Value.bool g1) (Or.inl rfl) ?_
  refine qV (r_pick (v := (.bool false)) rfl (by rw [g1]; rfl)) ?_
  refine WpL_nil ?_
  refine Wp_cond_false rfl ?_
  refine Wp_skip (thn_normal (Wp_seq_region ?_))
  refine qA _ rfl ?_
  refine WpL_nil (Wp_ret ?_)
  refine fin_tmp Tryz.results87 (v := (.bool true)) rfl ?_
  exact ⟨D, rfl, E, by rw [hadd]; exact ⟨oa, oc, vs, hB, hL, hD, hbo, hbs, hnd, hsub⟩, fun b h => .inl h⟩
theorem InvA.ext {bo base : Nat} {SR s : List (List Sp)} {D : Nat → Prop} {w w' : World} (h : InvA bo base SR s D w) (e : Ext w w') : InvA bo base SR s D w' := by
 obtain ⟨oa, oc, vs, hB, hL, hD, hbo, hbs, hnd, hsub⟩ := h
 exact ⟨oa, oc, vs, e.keep hB, hL.ext e, hD, hbo, Nat.le_trans hbs e.size, hnd, hsub⟩
theorem walkL_true {S : Type} (f : S → Re → S) : ∀ (l : List Re) (s : S), walkL (fun s t => (true, f s t)) l s = (true, l.foldl f s)
  | [], s => rfl
  | t :: l, s => by simp only [walkL, if_true, List.foldl_cons]; exact walkL_true f l _
set_option maxHeartbeats 1000000 in
theorem all_c (w0 : World) (t : Re) (vs : List Value) (ht : ReAt w0 t vs) (hv : AllS (fun s => checkE s = 0) t) (hs : t.size ≤ 1000) :
  Ret Tryz.prog 52 #[.agg vs.toArray] w0 fun v w => SpssAt w v (setsL t) ∧ Ext w0 w := by
 have ht0 := ht
 obtain ⟨sa, sc, aa, ac, rfl, hset, _, _⟩ := ht.form
 have hSR : (setsL t).length ≤ 1000 ∧ ∀ s ∈ setsL t, checkE s = 0 := ⟨Nat.le_trans (sets_len t) hs, all_sets hv⟩
 have hw : walkF (fun s t => (true, addS s t)) t [] = (true, setsL t) := by rw [walkF_list, walkL_true]; rfl
 have hPt : AllS (fun s => s ∈ setsL t) t := sets_all fun s h => h
 refine Ret_of Tryz.func52 rfl Tryz.ntmps52 (Nat.le_of_ble_eq_true rfl) ?_
 have E : Chg none1 w0 w0 := Chg.refl _ _
 refine Wp_seq_region ?_
 refine s_box (v := (.agg (R6 t sa sc aa ac))) (c := (R6 t sa sc aa ac)) (by decide) rfl rfl ?_
 intro br wr Nr
 have Fr := Nr.ge E
 replace E := E.ext Nr.ext
 have Br := Nr.blk
 refine qA _ rfl ?_
 refine WpL_nil (Wp_seq_region ?_)
 refine s_alloc (c := #[(.slice none 0 0)]) (by decide) zer38 rfl ?_
 intro bo wo No
 have Fo := No.ge E
 have Oo_br := No.lt Br
 replace Br := No.keep Br
 replace E := E.ext No.ext
 have Bo := No.blk
 refine WpL_nil (Wp_seq_region ?_)
 refine qV (r_loadAgg (vs := [(I6 t.kind), (.slice sa t.set.length sc), (.slice aa t.args.length ac), (I6 t.mn), (I6 t.mx), (.bool t.neg)]) rfl agg25 siz25 rfl (Br.cells rfl)) ?_
 refine qV (r_makeFunc rfl rfl) ?_
 have hbol := Bo.lt
 have hIo : InvA bo wo.heap.size (setsL t) [] (fun b => b = bo) wo := ⟨none, 0, [], Bo, LSt.start _ _ _ _ _, fun b => ⟨.inl, fun h => h.elim id (fun h => by cases h)⟩, Bo.lt, Nat.le_refl _, List.nodup_nil, fun x hx => by cases hx⟩
 refine WpL_enter rfl rfl (by decide) (r_callF Tryz.func41 nm41 bd41 rfl) ((walk_d (fun s t => (true, addS s t)) (InvA bo wo.heap.size (setsL t)) (AllS (fun s => s ∈ setsL t)) _ wr (fun s D w hI b hb => by obtain ⟨oa, oc, vs, hB, hL, hD, h1, h2, _, _⟩ := hI; rcases (hD b).1 hb with h | h; exact ⟨by have := No.eq; omega, by omega⟩; exact ⟨by have := (hL.o.lt b h).1; have := No.size; omega, (hL.o.lt b h).2⟩) (fun s D w w' hI e => hI.ext e) (fun t h x hx => h.a x hx) (fun s D w t vs hE hP hI hx => CallV.mk (first := #[]) (cap := #[.pointer (some ⟨bo, 0, none⟩)]) Tryz.func87 nm87 bd87 rfl (all1_c w bo wo.heap.size _ hSR s D t vs hI hP (ReAt.ext hE t hx))) t.size t (Nat.le_refl _) hPt [] (fun b => b = bo) _ _ No.ext hIo (ReAt.ext Nr.ext t ht0)).mono (R' := fun v w => v = .bool true ∧ (∃ oa oc vs, Blk w bo #[.slice oa (setsL t).length oc] TSss ∧ LSt TSs TSp 2 w wo.heap.size (.slice oa (setsL t).length oc) vs ((setsL t).map sRow)) ∧ Chg (fun b => b = bo) wo w) (fun v w h => by obtain ⟨D', h1, h2, h3, _⟩ := h; rw [hw] at h1 h3; obtain ⟨oa, oc, vs, hB, hL, _⟩ := h3; exact ⟨h1, ⟨oa, oc, vs, hB, hL⟩, h2⟩)) ?_
 rintro _ w9 ⟨rfl, ⟨oa, oc, us, hBo, hL⟩, C9⟩
 replace Br := C9.keep (by omega) Br
 replace E := E.step C9 (by intro x hx hm; omega)
 refine WpL_nil (Wp_seq_region ?_)
 refine qV (r_load rfl flat38 (hBo.cell rfl)) ?_
 refine qA _ rfl ?_
 refine WpL_nil (Wp_ret ?_)
 refine fin_tmp Tryz.results52 (v := (.slice oa ((setsL t).length) oc)) rfl ?_
 exact ⟨hL.spss, E⟩
end Go.Proofs
namespace Go.Proofs
open Go Go.Eng Go.Sort
set_option maxRecDepth 100000
theorem closeP.uniq2 {a o o' : List Sp} {e e' : Int} (h : closeP a o e) (h' : closeP a o' e') : o = o' ∧ e = e' := by
 rcases h with ⟨h1, rfl, rfl⟩ | ⟨h1, j, hj, hf⟩
 ·rcases h' with ⟨_, rfl, rfl⟩ | ⟨h2, _⟩
  ·exact ⟨rfl, rfl⟩
  ·exact absurd h2 h1
 ·rcases h' with ⟨h2, _⟩ | ⟨_, j', hj', hf'⟩
  ·exact absurd h1 h2
  ·have := IsSet.eq hj hj' fun _ _ _ => rfl
   subst this
   unfold fitsP at hf hf'
   split at hf
   ·rename_i hl
    rw [if_pos hl] at hf'
    exact ⟨hf.2.trans hf'.2.symm, hf.1.trans hf'.1.symm⟩
   ·rename_i hl
    rw [if_neg hl] at hf'
    exact ⟨hf.2.trans hf'.2.symm, hf.1.trans hf'.1.symm⟩
def CloseFun (cl : List Sp → List Sp) (er : List Sp → Int) : Prop := ∀ s out e, closeP s out e → out = cl s ∧ e = er s
theorem close_fun : ∃ (cl : List Sp → List Sp) (er : List Sp → Int), CloseFun cl er := by
 have h : ∀ s : List Sp, ∃ p : List Sp × Int, ∀ out e, closeP s out e → out = p.1 ∧ e = p.2 := fun s => by
  by_cases hx : ∃ out e, closeP s out e
  ·obtain ⟨o, e, h⟩ := hx
   exact ⟨(o, e), fun o' e' h' => closeP.uniq2 h' h⟩
  ·exact ⟨([], 0), fun o e h => absurd ⟨o, e, h⟩ hx⟩
 obtain ⟨f, hf⟩ := Classical.axiomOfChoice h
 exact ⟨fun s => (f s).1, fun s => (f s).2, hf⟩
mutual
/-- The first error of folding, in preorder, behind an error e. -/
def nxE (er : List Sp → Int) : Re → Int → Int
  | .mk k s a _ _ _, e => nxEs er a (if k = 2 ∧ e = 0 then er s else e)
def nxEs (er : List Sp → Int) : List Re → Int → Int
  | [], e => e
  | t :: ts, e => nxEs er ts (nxE er t e)
end
theorem nxE_eq (er : List Sp → Int) (t : Re) (e : Int) : nxE er t e = nxEs er t.args (if t.kind = 2 ∧ e = 0 then er t.set else e) := by cases t; rfl
mutual
theorem nxE_stay {er : List Sp → Int} : ∀ (t : Re) {e : Int}, e ≠ 0 → nxE er t e = e
  | .mk k s a _ _ _, e, h => by rw [nxE, if_neg (fun h2 => h h2.2)]; exact nxEs_stay a h
theorem nxEs_stay {er : List Sp → Int} : ∀ (ts : List Re) {e : Int}, e ≠ 0 → nxEs er ts e = e
  | [], _, _ => rfl
  | t :: ts, e, h => by rw [nxEs, nxE_stay t h]; exact nxEs_stay ts h
end
abbrev setOkF (er : List Sp → Int) (t : Re) : Prop := t.kind = 2 → er t.set = 0
mutual
theorem nxE_zero {er : List Sp → Int} : ∀ (t : Re), nxE er t 0 = 0 → allRe (setOkF er) t
  | .mk k s a m x g, h => by
    rw [nxE] at h
    have h0 : (if k = 2 ∧ (0 : Int) = 0 then er s else 0) = 0 := Classical.byContradiction fun hn => by
      rw [nxEs_stay a hn] at h
      exact hn h
    rw [h0] at h
    simp only [allRe]
    exact ⟨fun hk => by rw [if_pos ⟨hk, rfl⟩] at h0; exact h0, nxEs_zero a h⟩
theorem nxEs_zero {er : List Sp → Int} : ∀ (ts : List Re), nxEs er ts 0 = 0 → allRes (setOkF er) ts
  | [], _ => by simp only [allRes]
  | t :: ts, h => by
    rw [nxEs] at h
    have h0 : nxE er t 0 = 0 := Classical.byContradiction fun hn => by
      rw [nxEs_stay ts hn] at h
      exact hn h
    rw [h0] at h
    simp only [allRes]
    exact ⟨nxE_zero t h0, nxEs_zero ts h⟩
end
theorem nxEs_take {er : List Sp → Int} : ∀ {l : List Re} {k : Nat} {x : Re} {e : Int}, l[k]? = some x → nxEs er (l.take (k + 1)) e = nxE er x (nxEs er (l.take k) e)
  | [], k, x, e, h => by simp at h
  | t :: l, 0, x, e, h => by simp at h; subst h; simp [nxEs]
  | t :: l, k + 1, x, e, h => by
    simp only [List.take_succ_cons, nxEs]
    exact nxEs_take (by simpa using h)
theorem nxEs_drop {er : List Sp → Int} : ∀ {l : List Re} {k : Nat} {e : Int}, nxEs er l e = nxEs er (l.drop k) (nxEs er (l.take k) e)
  | [], k, e => by simp [nxEs]
  | t :: l, 0, e => by simp [nxEs]
  | t :: l, k + 1, e => by
    simp only [List.take_succ_cons, List.drop_succ_cons, nxEs]
    exact nxEs_drop
abbrev CloseN (cl : List Sp → List Sp) (er : List Sp → Int) : Prop := ∀ (w : World) (u : Value) (s : List Sp), SpansAt w u s → Ret Tryz.prog 91 #[u] w fun r w' => SetRN w.heap.size w' r (cl s) (er s) ∧ Ext w w'
theorem closeN_of {cl : List Sp → List Sp} {er : List Sp → Int} (h : CloseFun cl er) : CloseN cl er := fun w u s hu =>
 (close_n w u s hu).mono fun r w' h2 => ⟨by
  obtain ⟨⟨out, e, h3, h4⟩, _⟩ := h2
  obtain ⟨rfl, rfl⟩ := h s out e h3
  exact h4, h2.2⟩
theorem clOk_of {cl : List Sp → List Sp} {er : List Sp → Int} (h : CloseN cl er) : ClOk cl (setOkF er) := fun w u t hk hp hu =>
 (h w u t.set hu).mono fun r w' h2 => ⟨by
  obtain ⟨⟨a, c, h3, h4⟩, _⟩ := h2
  rw [hp hk] at h3
  exact ⟨a, c, h3, h4⟩, h2.2⟩
mutual
theorem valid_sets10 : ∀ {t : Re}, okRe t → AllS (fun s => checkE s = 0) t
  | .mk k s a m x g, h => ⟨fun hk => ((pre_of (t := .mk k s a m x g) h (by show k ≠ 9; omega) (by show k ≠ 10; omega) rfl).k2 hk).2, valids_sets10 (okRe_args h)⟩
theorem valids_sets10 : ∀ {ts : List Re}, okRes ts → AllSs (fun s => checkE s = 0) ts
  | [], _ => trivial
  | t :: ts, h => by
    simp only [okRes] at h
    exact ⟨valid_sets10 h.1, valids_sets10 h.2⟩
end
end Go.Proofs
