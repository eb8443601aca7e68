/- Contracts and plain lemmas, part 6. -/
import Derived.Tactics
import Derived.Deep.Quiet
import Derived.Laws.AppendOwn
import Derived.KernelRfl
import Derived.Laws.Entries
import Derived.Laws.Build
import Derived.Below
import Derived.RowKit3
import Derived.StillTail
import Derived.Sort.Grow
import Derived.Deep.Draws
import Derived.Test.YtdcgaapnkflhmaaGreatChecked
import Derived.Laws.StructEq
import Derived.MapKept
import Derived.Laws.BytesArg
import Derived.Defers
import Derived.Recover
import Derived.Shelf.SlSortCmp.WholeK
import Derived.Shelf.Sort.Plain
import Derived.Shelf.Slices.CompactI
import Derived.Test.YtdcgaapnkflhmaaGreatProg
import Derived.Shelf.Small.Bits
import Derived.DeepKeys3
import Derived.OpenShut
import Derived.ChangeSlices
import Derived.Test.YtdcgaapnkflhmaaGreatRows
import Derived.SizedLaws
import Derived.Test.YtdcgaapnkflhmaaGreatZn5
namespace Go.Proofs
open Go Go.Eng
set_option maxRecDepth 100000
theorem rhas_c (w0 : World) (v : Value) (l : List Int) (x : Int) (h : IntsAt w0 v l) : Ret Tryz.prog 52 #[v, .int .i64 x] w0 fun r w => r = .bool (l.contains x) ∧ Ext w0 w := by
 obtain ⟨a, c, rfl⟩ := SlAt.form h
 have hb1 : l.length ≤ 9223372036854775807 := by simpa using SlAt.le h
 simp only [List.length_map] at h ⊢
 refine Ret_of Tryz.func52 rfl Tryz.ntmps52 (Nat.le_of_ble_eq_true rfl) ?_
 have E : Chg none1 w0 w0 := Chg.refl _ _
 refine Wp_seq_region ?_
 refine qA (.bool false) rfl ?_
 refine WpL_nil (Wp_seq (Wp_seq_region ?_))
 refine qM (.slice a l.length c) rfl ?_
 refine qV (r_lenSlice (ad := a) (n := l.length) (cap := c) Tryz.underlying22 rfl) ?_
 refine qM (I6 0) rfl ?_
 refine WpL_nil (Wp_block ?_)
 refine Wp_loop (fun nn_ σ W1 => ∃ (k : Nat), (∃ jj_, σ = upds jj_ [(1, (I6 x)), (7, (.slice a l.length c)), (8, (I6 (l.length : Int))), (9, (I6 (k : Int)))]) ∧ Chg none1 w0 W1 ∧ (k ≤ l.length) ∧ ((l.take k).contains x = false) ∧ nn_ = l.length - k) (n := l.length - 0) ?_ ?_
 ·exact ⟨0, Fits.out ⟨rfl, rfl, rfl, rfl, trivial⟩, E, Nat.zero_le _, rfl, rfl⟩
 ·clear E
  rintro _ _ W1 ⟨k, ⟨j1, rfl⟩, E, hk, hp, rfl⟩
  refine Wp_seq_region ?_
  refine qV (r_lss (k := .i64) (a := (k : Int)) (b := (l.length : Int)) rfl rfl) ?_
  refine WpL_nil (Wp_seq ?_)
  refine Wp_cond (b := decide (((k : Int) : Int) < (l.length : Int))) rfl (fun hlt => ?_) (fun hlt => ?_)
  ·have khlt := hlt
   replace hlt := of_decide_eq_true hlt
   obtain ⟨y, hy⟩ := get_of_lt (l := l) (i := k) (by omega)
   obtain ⟨b, o, rfl, hc⟩ := ints_cells h (by omega)
   refine Wp_skip (thn_normal (Wp_seq (Wp_block (Wp_seq_region ?_))))
   refine qV (r_indexSlice (b := b) (o := o) (len := l.length) (cap := c) (i := k) (o' := o + k) rfl rfl rfl Tryz.underlying22 siz3 (by omega) (by omega)) ?_
   refine qV (r_load (v := (I6 y)) rfl flat3 (E.cell (fun f => f) (hc k y hy))) ?_
   refine qA (I6 y) rfl ?_
   refine WpL_nil (Wp_seq_region ?_)
   refine qM (I6 x) rfl ?_
   refine qM (I6 y) rfl ?_
   refine qV (r_eql (k := .i64) (a := x) (b := y) rfl rfl) ?_
   refine WpL_nil ?_
   refine Wp_cond (b := decide ((x : Int) = y)) rfl (fun he => ?_) (fun he => ?_)
   ·have khe := he
    replace he := of_decide_eq_true he
    refine Wp_seq_region ?_
    refine qA (.bool true) rfl ?_
    refine WpL_nil (Wp_ret (inB_ret (thn_ret (thn_ret (inB_ret (thn_ret ?_))))))
    refine fin_tmp Tryz.results52 (v := (.bool true)) rfl ?_
    exact ⟨bool_eq (by symm; rw [List.contains_iff_mem, he]; exact List.mem_of_getElem? hy), E⟩
   ·have khe := he
    replace he := of_decide_eq_false he
    refine Wp_skip (inB_normal (thn_normal (Wp_region ?_)))
    refine qV (r_add (k := .i64) (a := (k : Int)) (b := 1) (c := (k : Int) + 1) rfl rfl (wI64 (by omega))) ?_
    refine qM (I6 ((k : Int) + 1)) rfl ?_
    refine WpL_nil (thn_normal ?_)
    exact ⟨l.length - (k + 1), by omega, k + 1, Fits.out ⟨rfl, rfl, rfl, rfl, trivial⟩, E, (by omega), (by rw [List.take_add_one, hy, Option.toList_some]; rw [Bool.eq_false_iff, ne_eq, List.contains_iff_mem] at hp ⊢; intro h; rcases List.mem_append.1 h with h | h; exact hp h; exact he (by simpa using h)), rfl⟩
  ·have khlt := hlt
   replace hlt := of_decide_eq_false hlt
   have hkk : l.take k = l := List.take_of_length_le (by omega)
   rw [hkk] at hp
   refine Wp_exit (thn_exit (thn_exit (inB_here (thn_normal (Wp_seq_region ?_)))))
   refine qA (.bool false) rfl ?_
   refine WpL_nil (Wp_ret ?_)
   refine fin_tmp Tryz.results52 (v := (.bool false)) rfl ?_
   exact ⟨by rw [hp], E⟩
end Go.Proofs
namespace Go.Proofs
open Go Go.Eng Go.Sort
set_option maxRecDepth 100000
theorem cloP_congr {eps : List (Int × Int)} {I J : Int → Prop} (h : ∀ s, I s ↔ J s) (s : Int) : cloP eps I s ↔ cloP eps J s := ⟨fun ⟨a, h1, h2⟩ => ⟨a, (h a).1 h1, h2⟩, fun ⟨a, h1, h2⟩ => ⟨a, (h a).2 h1, h2⟩⟩
theorem acc_any {n : Nf} {text now : List Int} (h : ∀ s, s ∈ now ↔ setP n (cloP n.eps fun s => s = n.start) text s) : Acc n text ↔ ∃ e ∈ n.ends, e ∈ now := by
 rw [acc_set]
 exact ⟨fun ⟨e, h1, h2⟩ => ⟨e, h1, (h e).2 h2⟩, fun ⟨e, h1, h2⟩ => ⟨e, h1, (h e).1 h2⟩⟩
set_option maxHeartbeats 4000000 in
theorem accepts2_c (w0 : World) (n : Nf) (vs0 : List Value) (v : Value) (text : List Int) (ok : OkN n) (h : NfAt w0 n vs0) (ht : IntsAt w0 v text) :
  Ret Tryz.prog 16 #[.agg vs0.toArray, v] w0 fun r w => (∃ b, r = .bool b ∧ (b = true ↔ Acc n text)) ∧ Ext w0 w := by
 have h0 := h
 obtain ⟨ea, ec, pa, pc, xa, xc, rfl, hen, hep, hed⟩ := h
 obtain ⟨ta, tc, rfl⟩ := SlAt.form ht
 have htl : text.length ≤ 9223372036854775807 := by simpa using SlAt.le ht
 simp only [List.length_map] at ht ⊢
 obtain ⟨N, hN⟩ : ∃ N : Nat, n.states = (N : Int) := by have := ok.s0; obtain ⟨a, ha⟩ := Int.eq_ofNat_of_zero_le (show 0 ≤ n.states by omega); exact ⟨a, ha⟩
 have hxl := ok.xl
 have hel := ok.el
 refine Ret_of Tryz.func16 rfl Tryz.ntmps16 (Nat.le_of_ble_eq_true rfl) ?_
 have E : Chg none1 w0 w0 := Chg.refl _ _
 refine Wp_seq_region ?_
 refine s_box (v := (.agg #[(I6 n.states), (I6 n.start), (.slice ea n.ends.length ec), (.slice pa n.eps.length pc), (.slice xa n.edges.length xc)])) (c := #[(I6 n.states), (I6 n.start), (.slice ea n.ends.length ec), (.slice pa n.eps.length pc), (.slice xa n.edges.length xc)]) (by decide) rfl rfl ?_
 intro bn wn Nn
 have Fn := Nn.ge E
 replace E := E.ext Nn.ext
 have Bn := Nn.blk
 refine qA (.bool false) rfl ?_
 refine WpL_nil (Wp_seq_region ?_)
 refine qV (r_loadAgg (vs := [(I6 n.states), (I6 n.start), (.slice ea n.ends.length ec), (.slice pa n.eps.length pc), (.slice xa n.edges.length xc)]) rfl agg26 siz26 rfl (Bn.cells rfl)) ?_
 refine qF bn 0 1 rfl Tryz.underlying26 rfl siz3 rfl ?_
 refine qV (r_load (v := (I6 n.start)) rfl flat3 (Bn.cell rfl)) ?_
 refine s_buildSlice (ps := [(0, (I6 n.start))]) (c := #[(I6 n.start)]) (by decide) rfl Tryz.underlying22 siz3 zer3 (by decide) (by decide) (by kernel_rfl) ?_
 intro bs ws Ns
 have Fs := Ns.ge E
 have Os_bn := Ns.lt Bn
 replace Bn := Ns.keep Bn
 replace E := E.ext Ns.ext
 have Bs := Ns.blk
 refine WpL_enter rfl rfl (by decide) (r_callF (vs := [(.agg #[(I6 n.states), (I6 n.start), (.slice ea n.ends.length ec), (.slice pa n.eps.length pc), (.slice xa n.edges.length xc)]), (.slice (some ⟨bs, 0, none⟩) 1 1)]) Tryz.func14 kQ kQ rfl) (free_c _ n _ N _ [n.start] ok hN (h0.ext E) (ints_of_blk [n.start] Bs (by simp) (by simp)) (fun s hs => by rw [List.mem_singleton.1 hs]; have := ok.s0; omega)) ?_
 rintro _ w9 ⟨⟨na0, nc0, q0, rfl, hq0, hql0, hi0, _⟩, X9⟩
 replace Bn := X9.keep Bn
 replace Bs := X9.keep Bs
 replace E := E.ext X9
 have hs0 : ∀ s, s ∈ q0 ↔ setP n (cloP n.eps fun s => s = n.start) (text.take 0) s := fun s => by rw [hq0.2 s, List.take_zero]; exact cloP_congr (fun t => by simp) s
 refine qA (.slice na0 q0.length nc0) rfl ?_
 refine WpL_nil (Wp_seq (Wp_seq_region ?_))
 refine qM (.slice ta text.length tc) rfl ?_
 refine qV (r_lenSlice (ad := ta) (n := text.length) (cap := tc) Tryz.underlying22 rfl) ?_
 refine qM (I6 0) rfl ?_
 refine WpL_nil (Wp_block ?_)
 refine Wp_loop (fun nn_ σ W1 => ∃ (k : Nat) (now : List Int) (na : Option Addr) (nc m : Nat), (∃ jj_, σ = upds jj_ [(2, (P6 bn 0)), (18, (.slice ta text.length tc)), (19, (I6 (text.length : Int))), (20, (I6 (k : Int))), (5, (.slice na m nc))]) ∧ Chg none1 w0 W1 ∧ Blk W1 bn #[(I6 n.states), (I6 n.start), (.slice ea n.ends.length ec), (.slice pa n.eps.length pc), (.slice xa n.edges.length xc)] 26 ∧ Blk W1 bs #[(I6 n.start)] 3 ∧ (k ≤ text.length) ∧ (m = now.length) ∧ (∀ s, s ∈ now ↔ setP n (cloP n.eps fun s => s = n.start) (text.take k) s) ∧ (IntsAt W1 (.slice na m nc) now) ∧ nn_ = text.length - k) (n := text.length - 0) ?_ ?_
 ·exact ⟨0, q0, na0, nc0, q0.length, Fits.out ⟨rfl, rfl, rfl, rfl, rfl, trivial⟩, E, Bn, Bs, Nat.zero_le _, rfl, hs0, hi0, rfl⟩
 ·clear E Bn Bs
  rintro _ _ W1 ⟨k, now, na, nc, m, ⟨j1, rfl⟩, E, Bn, Bs, hk, hm, hnow, hni, rfl⟩
  refine Wp_seq_region ?_
  refine qV (r_lss (k := .i64) (a := (k : Int)) (b := (text.length : Int)) rfl rfl) ?_
  refine WpL_nil (Wp_seq ?_)
  refine Wp_cond (b := decide (((k : Int) : Int) < (text.length : Int))) rfl (fun hlt => ?_) (fun hlt => ?_)
  ·have khlt := hlt
   replace hlt := of_decide_eq_true hlt
   obtain ⟨c, hc⟩ := get_of_lt (l := text) (i := k) (by omega)
   obtain ⟨tb, to, rfl, htcl⟩ := ints_cells ht (by omega)
   obtain ⟨z0, hz0⟩ : ∃ z0, z0 = (W1).heap.size := ⟨_, rfl⟩
   have hbz : bn < z0 ∧ bs < z0 ∧ w0.heap.size ≤ z0 := ⟨by rw [hz0]; exact Bn.lt, by rw [hz0]; exact Bs.lt, by rw [hz0]; exact E.size⟩
   refine Wp_skip (thn_normal (Wp_seq (Wp_block (Wp_seq_region ?_))))
   refine qV (r_indexSlice (b := tb) (o := to) (len := text.length) (cap := tc) (i := k) (o' := to + k) rfl rfl rfl Tryz.underlying22 siz3 (by omega) (by omega)) ?_
   refine qV (r_load (v := (I6 c)) rfl flat3 (E.cell (fun f => f) (htcl k c hc))) ?_
   have E3 : Chg none1 W1 W1 := Chg.refl _ _
   refine qA (I6 c) rfl ?_
   refine WpL_nil (Wp_seq_region ?_)
   refine qA (.slice none 0 0) rfl ?_
   refine WpL_nil (Wp_seq (Wp_seq_region ?_))
   refine qF bn 0 4 rfl Tryz.underlying26 rfl siz24 rfl ?_
   refine qV (r_load (v := (.slice xa n.edges.length xc)) rfl flat24 (Bn.cell rfl)) ?_
   refine qV (r_lenSlice (ad := xa) (n := n.edges.length) (cap := xc) Tryz.underlying24 rfl) ?_
   refine qM (I6 0) rfl ?_
   refine WpL_nil (Wp_block ?_)
   refine Wp_loop (fun nn_ σ W3 => ∃ (j : Nat) (L : List Int) (qa : Option Addr) (qc x : Nat), (∃ jj_, σ = upds jj_ [(2, (P6 bn 0)), (5, (.slice na m nc)), (7, (I6 c)), (18, (.slice (some ⟨tb, to, none⟩) text.length tc)), (19, (I6 (text.length : Int))), (20, (I6 (k : Int))), (25, (.slice xa n.edges.length xc)), (26, (I6 (n.edges.length : Int))), (27, (I6 (j : Int))), (8, (.slice qa x qc))]) ∧ Chg none1 w0 W3 ∧ Chg none1 W1 W3 ∧ Blk W3 bn #[(I6 n.states), (I6 n.start), (.slice ea n.ends.length ec), (.slice pa n.eps.length pc), (.slice xa n.edges.length xc)] 26 ∧ Blk W3 bs #[(I6 n.start)] 3 ∧ (j ≤ n.edges.length) ∧ (x = L.length) ∧ (x ≤ j) ∧ (∀ t, t ∈ L ↔ stpJ n (setP n (cloP n.eps fun s => s = n.start) (text.take k)) c j t) ∧ (W3.ownsRow z0 TDI 1 (.slice qa x qc) x (L.map (Value.int .i64))) ∧ (z0 ≤ W3.heap.size) ∧ nn_ = n.edges.length - j) (n := n.edges.length - 0) ?_ ?_
   ·exact ⟨0, [], none, 0, 0, Fits.out ⟨rfl, rfl, rfl, rfl, rfl, rfl, rfl, rfl, rfl, rfl, trivial⟩, E, E3, Bn, Bs, Nat.zero_le _, rfl, Nat.le_refl _, (fun t => by simp [stpJ]), World.ownsRow_nil _ _ _ _, (by omega), rfl⟩
   ·clear E E3 Bn Bs
    rintro _ _ W3 ⟨j, L, qa, qc, x, ⟨j3, rfl⟩, E, E3, Bn, Bs, hj, hxL, hxj, hL, hR, hsz, rfl⟩
    refine Wp_seq_region ?_
    refine qV (r_lss (k := .i64) (a := (j : Int)) (b := (n.edges.length : Int)) rfl rfl) ?_
    refine WpL_nil (Wp_seq ?_)
    refine Wp_cond (b := decide (((j : Int) : Int) < (n.edges.length : Int))) rfl (fun hlt2 => ?_) (fun hlt2 => ?_)
    ·have khlt2 := hlt2
     replace hlt2 := of_decide_eq_true hlt2
     obtain ⟨e, he⟩ := get_of_lt (l := n.edges) (i := j) (by omega)
     obtain ⟨xb, xo, rfl, hxc⟩ := edges_cells hed (by omega)
     obtain ⟨ra, rc, hcell, hspan⟩ := hxc j e he
     have hstp := fun t => stpJ_snoc (n := n) (I := setP n (cloP n.eps fun s => s = n.start) (text.take k)) (c := c) he t
     refine Wp_skip (thn_normal (Wp_seq (Wp_block (Wp_seq_region ?_))))
     refine qV (r_indexSlice (b := xb) (o := xo) (len := n.edges.length) (cap := xc) (i := j) (o' := xo + j * 3) rfl rfl rfl Tryz.underlying24 siz39 (by omega) (by omega)) ?_
     refine qV (r_loadAgg (vs := [(I6 e.1), (I6 e.2.1), (.slice ra e.2.2.length rc)]) rfl agg39 siz39 rfl (hcell.ext E)) ?_
     refine s_allocStore (v := (.agg #[(I6 e.1), (I6 e.2.1), (.slice ra e.2.2.length rc)])) (c := #[(I6 e.1), (I6 e.2.1), (.slice ra e.2.2.length rc)]) (n := 3) (by decide) zer39 rfl siz39 rfl rfl rfl (by simp [Value.oneCell']) ?_
     intro be we Ne
     have Fe := Ne.ge E
     have Fe_E3 := Ne.ge E3
     have Oe_bn := Ne.lt Bn
     have Oe_bs := Ne.lt Bs
     replace Bn := Ne.keep Bn
     replace Bs := Ne.keep Bs
     replace hR := own_ext hR Ne.ext
     replace hsz := Nat.le_trans hsz Ne.ext.size
     replace E := E.ext Ne.ext
     have Be := Ne.blk
     replace E3 := E3.ext Ne.ext
     refine WpL_nil (Wp_seq_region ?_)
     refine qM (.slice na m nc) rfl ?_
     refine qF be 0 0 rfl Tryz.underlying39 rfl siz3 rfl ?_
     refine qV (r_load (v := (I6 e.1)) rfl flat3 (Be.cell rfl)) ?_
     refine WpL_enter rfl rfl (by decide) (r_callF (vs := [(.slice na m nc), (I6 e.1)]) Tryz.func52 kQ kQ rfl) (rhas_c _ _ now e.1 (hni.ext E3)) ?_
     rintro _ w19 ⟨rfl, X19⟩
     replace Bn := X19.keep Bn
     replace Bs := X19.keep Bs
     replace Be := X19.keep Be
     replace hR := own_ext hR X19
     replace hsz := Nat.le_trans hsz X19.size
     replace E := E.ext X19
     replace E3 := E3.ext X19
     refine qM (.bool (now.contains e.1)) rfl ?_
     rcases Bool.eq_false_or_eq_true (now.contains e.1) with hhas | hhas
     ·have khhas := hhas
      refine WpL_guard_yes (oj := _) rfl rfl (by decide) (congrArg Value.bool hhas) ?_
      refine qF be 0 2 rfl Tryz.underlying39 rfl siz37 rfl ?_
      refine WpL_guard_yes (oj := _) rfl rfl (by decide) (congrArg Value.bool hhas) ?_
      refine qV (r_load (v := (.slice ra e.2.2.length rc)) rfl flat37 (Be.cell rfl)) ?_
      refine WpL_guard_yes (oj := _) rfl rfl (by decide) (congrArg Value.bool hhas) ?_
      refine qM (I6 c) rfl ?_
      refine WpL_guard_yes (oj := _) rfl rfl (by decide) (congrArg Value.bool hhas) ?_
      refine WpL_enter rfl rfl (by decide) (r_callF (vs := [(.slice ra e.2.2.length rc), (I6 c)]) Tryz.func54 kQ kQ rfl) (inset_c _ _ e.2.2 c (hspan.ext E)) ?_
      rintro _ w29 ⟨rfl, X29⟩
      replace Bn := X29.keep Bn
      replace Bs := X29.keep Bs
      replace Be := X29.keep Be
      replace hR := own_ext hR X29
      replace hsz := Nat.le_trans hsz X29.size
      replace E := E.ext X29
      replace E3 := E3.ext X29
      refine qV (r_pick (b := now.contains e.1) (v := (.bool (inS e.2.2 c))) rfl (by rw [hhas]; rfl)) ?_
      refine WpL_nil ?_
      refine Wp_cond (b := inS e.2.2 c) rfl (fun hin => ?_) (fun hin => ?_)
      ·have khin := hin
       have hhe : setP n (cloP n.eps fun s => s = n.start) (text.take k) e.1 := (hnow e.1).1 (by simpa using hhas)
       refine Wp_region ?_
       refine qM (.slice qa x qc) rfl ?_
       refine qF be 0 1 rfl Tryz.underlying39 rfl siz3 rfl ?_
       refine qV (r_load (v := (I6 e.2.1)) rfl flat3 (Be.cell rfl)) ?_
       refine s_buildSlice (ps := [(0, (I6 e.2.1))]) (c := #[(I6 e.2.1)]) (by decide) rfl Tryz.underlying22 siz3 zer3 (by decide) (by decide) (by kernel_rfl) ?_
       intro bq wq Nq
       have Fq := Nq.ge E
       have Fq_E3 := Nq.ge E3
       have Oq_bn := Nq.lt Bn
       have Oq_bs := Nq.lt Bs
       have Oq_be := Nq.lt Be
       replace Bn := Nq.keep Bn
       replace Bs := Nq.keep Bs
       replace Be := Nq.keep Be
       replace hR := own_ext hR Nq.ext
       replace hsz := Nat.le_trans hsz Nq.ext.size
       replace E := E.ext Nq.ext
       have Bq := Nq.blk
       replace E3 := E3.ext Nq.ext
       refine s_append (base := z0) (n := x) (m := 1) (xs := (L.map (Value.int .i64))) (news := [(I6 e.2.1)]) (size := 1) (bytes := 8) (v := (.slice qa x qc)) (by decide) Tryz.underlying22 siz3 byt3 zer3 rfl (by decide) rfl hR rfl (rfl) (Bq.cells rfl) (by simp [Value.oneCell']) (by unfold maxLen; omega) (by omega) (hsz) ?_
       intro v8 w39 Ov8 Cv8 Dv8
       replace Bn := Cv8.keep (fun h => by have := (hR.lt _ h).1; omega) Bn
       replace Bs := Cv8.keep (fun h => by have := (hR.lt _ h).1; omega) Bs
       replace E := E.step Cv8 (fun x hx h => absurd (hR.lt x h).1 (by omega))
       replace E3 := E3.step Cv8 (fun x hx h => absurd (hR.lt x h).1 (by omega))
       obtain ⟨qa2, qc2, rfl⟩ := own_form Ov8
       refine qA (.slice qa2 (x + 1) qc2) rfl ?_
       refine WpL_nil (inB_normal (thn_normal (Wp_region ?_)))
       refine qV (r_add (k := .i64) (a := (j : Int)) (b := 1) (c := (j : Int) + 1) rfl rfl (wI64 (by omega))) ?_
       refine qM (I6 ((j : Int) + 1)) rfl ?_
       refine WpL_nil (thn_normal ?_)
       exact ⟨n.edges.length - (j + 1), by omega, j + 1, L ++ [e.2.1], qa2, qc2, x + 1, Fits.out ⟨rfl, rfl, rfl, rfl, rfl, rfl, rfl, rfl, rfl, rfl, trivial⟩, E, E3, Bn, Bs, (by omega), (by simp [hxL]), (by omega), (fun t => by rw [List.mem_append, List.mem_singleton, hL t, hstp t]; exact ⟨fun h => h.imp id fun h => ⟨hhe, hin, h.symm⟩, fun h => h.imp id fun h => h.2.2.symm⟩), (by rw [List.map_append]; exact Ov8), Nat.le_trans hsz Cv8.size, rfl⟩
      ·have khin := hin
       refine Wp_skip (inB_normal (thn_normal (Wp_region ?_)))
       refine qV (r_add (k := .i64) (a := (j : Int)) (b := 1) (c := (j : Int) + 1) rfl rfl (wI64 (by omega))) ?_
       refine qM (I6 ((j : Int) + 1)) rfl ?_
       refine WpL_nil (thn_normal ?_)
       exact ⟨n.edges.length - (j + 1), by omega, j + 1, L, qa, qc, x, Fits.out ⟨rfl, rfl, rfl, rfl, rfl, rfl, rfl, rfl, rfl, rfl, trivial⟩, E, E3, Bn, Bs, (by omega), hxL, (by omega), (fun t => by rw [hL t, hstp t]; exact ⟨.inl, fun h => h.elim id fun h => by rw [h.2.1] at hin; cases hin⟩), hR, hsz, rfl⟩
     ·have khhas := hhas
      have hhe : ¬ setP n (cloP n.eps fun s => s = n.start) (text.take k) e.1 := fun h => by have := (hnow e.1).2 h; simp [this] at hhas
      refine WpL_guard_no (oj := _) rfl rfl (by decide) (v := .bool false) (congrArg Value.bool hhas) (Or.inl rfl) ?_
      refine WpL_guard_no (oj := _) rfl rfl (by decide) (v := .bool false) (congrArg Value.bool hhas) (Or.inl rfl) ?_
      refine WpL_guard_no (oj := _) rfl rfl (by decide) (v := .bool false) (congrArg Value.bool hhas) (Or.inl rfl) ?_
      refine WpL_guard_no (oj := _) rfl rfl (by decide) (v := .bool false) (congrArg Value.bool hhas) (Or.inl rfl) ?_
      refine qV (r_pick (b := now.contains e.1) (v := (.bool false)) rfl (by rw [hhas]; rfl)) ?_
      refine WpL_nil ?_
      refine Wp_cond_false rfl ?_
      refine Wp_skip (inB_normal (thn_normal (Wp_region ?_)))
      refine qV (r_add (k := .i64) (a := (j : Int)) (b := 1) (c := (j : Int) + 1) rfl rfl (wI64 (by omega))) ?_
      refine qM (I6 ((j : Int) + 1)) rfl ?_
      refine WpL_nil (thn_normal ?_)
      exact ⟨n.edges.length - (j + 1), by omega, j + 1, L, qa, qc, x, Fits.out ⟨rfl, rfl, rfl, rfl, rfl, rfl, rfl, rfl, rfl, rfl, trivial⟩, E, E3, Bn, Bs, (by omega), hxL, (by omega), (fun t => by rw [hL t, hstp t]; exact ⟨.inl, fun h => h.elim id fun h => absurd h.1 hhe⟩), hR, hsz, rfl⟩
    ·have khlt2 := hlt2
     replace hlt2 := of_decide_eq_false hlt2
     have hjj : j = n.edges.length := by omega
     have hLi : IntsAt W3 (.slice qa x qc) L := own_intsD hR hxL
     have hLn : ∀ s ∈ L, 0 ≤ s ∧ s < (N : Int) := fun s hs => by obtain ⟨e, h1, _, _, h4⟩ := (hL s).1 hs; have := (ok.ed e (List.mem_of_mem_take h1)).2.1; omega
     refine Wp_exit (thn_exit (thn_exit (inB_here (thn_normal (Wp_region ?_)))))
     refine qV (r_loadAgg (vs := [(I6 n.states), (I6 n.start), (.slice ea n.ends.length ec), (.slice pa n.eps.length pc), (.slice xa n.edges.length xc)]) rfl agg26 siz26 rfl (Bn.cells rfl)) ?_
     refine qM (.slice qa x qc) rfl ?_
     refine WpL_enter rfl rfl (by decide) (r_callF (vs := [(.agg #[(I6 n.states), (I6 n.start), (.slice ea n.ends.length ec), (.slice pa n.eps.length pc), (.slice xa n.edges.length xc)]), (.slice qa x qc)]) Tryz.func14 kQ kQ rfl) (free_c _ n _ N _ L ok hN (h0.ext E) hLi hLn) ?_
     rintro _ w49 ⟨⟨na2, nc2, q2, rfl, hq2, hql2, hi2, _⟩, X49⟩
     replace Bn := X49.keep Bn
     replace Bs := X49.keep Bs
     replace E := E.ext X49
     refine qA (.slice na2 q2.length nc2) rfl ?_
     refine WpL_nil (inB_normal (thn_normal (Wp_region ?_)))
     refine qV (r_add (k := .i64) (a := (k : Int)) (b := 1) (c := (k : Int) + 1) rfl rfl (wI64 (by omega))) ?_
     refine qM (I6 ((k : Int) + 1)) rfl ?_
     refine WpL_nil (thn_normal ?_)
     exact ⟨text.length - (k + 1), by omega, k + 1, q2, na2, nc2, q2.length, Fits.out ⟨rfl, rfl, rfl, rfl, rfl, trivial⟩, E, Bn, Bs, (by omega), rfl, (fun s => by rw [hq2.2 s, setP_snoc hc]; exact cloP_congr (fun t => by rw [hL t, hjj]; unfold stpJ stpP; rw [List.take_length]) s), hi2, rfl⟩
  ·have khlt := hlt
   replace hlt := of_decide_eq_false hlt
   have hkk : k = text.length := by omega
   rw [hkk, List.take_length] at hnow
   have hacc := acc_any hnow
   refine Wp_exit (thn_exit (thn_exit (inB_here (thn_normal (Wp_seq (Wp_seq_region ?_))))))
   refine qF bn 0 2 rfl Tryz.underlying26 rfl siz22 rfl ?_
   refine qV (r_load (v := (.slice ea n.ends.length ec)) rfl flat22 (Bn.cell rfl)) ?_
   refine qV (r_lenSlice (ad := ea) (n := n.ends.length) (cap := ec) Tryz.underlying22 rfl) ?_
   refine qM (I6 0) rfl ?_
   refine WpL_nil (Wp_block ?_)
   refine Wp_loop (fun nn_ σ W7 => ∃ (i : Nat), (∃ jj_, σ = upds jj_ [(5, (.slice na m nc)), (52, (.slice ea n.ends.length ec)), (53, (I6 (n.ends.length : Int))), (54, (I6 (i : Int)))]) ∧ Chg none1 w0 W7 ∧ Blk W7 bn #[(I6 n.states), (I6 n.start), (.slice ea n.ends.length ec), (.slice pa n.eps.length pc), (.slice xa n.edges.length xc)] 26 ∧ Blk W7 bs #[(I6 n.start)] 3 ∧ (i ≤ n.ends.length) ∧ (∀ e ∈ n.ends.take i, e ∉ now) ∧ (IntsAt W7 (.slice na m nc) now) ∧ nn_ = n.ends.length - i) (n := n.ends.length - 0) ?_ ?_
   ·exact ⟨0, Fits.out ⟨rfl, rfl, rfl, rfl, trivial⟩, E, Bn, Bs, Nat.zero_le _, (fun e he => by simp at he), hni, rfl⟩
   ·clear E Bn Bs
    rintro _ _ W7 ⟨i, ⟨j7, rfl⟩, E, Bn, Bs, hi, hno, hni2, rfl⟩
    refine Wp_seq_region ?_
    refine qV (r_lss (k := .i64) (a := (i : Int)) (b := (n.ends.length : Int)) rfl rfl) ?_
    refine WpL_nil (Wp_seq ?_)
    refine Wp_cond (b := decide (((i : Int) : Int) < (n.ends.length : Int))) rfl (fun hlt3 => ?_) (fun hlt3 => ?_)
    ·have khlt3 := hlt3
     replace hlt3 := of_decide_eq_true hlt3
     obtain ⟨e, he⟩ := get_of_lt (l := n.ends) (i := i) (by omega)
     obtain ⟨eb, eo, rfl, hecl⟩ := ints_cells hen (by omega)
     refine Wp_skip (thn_normal (Wp_seq (Wp_block (Wp_seq_region ?_))))
     refine qV (r_indexSlice (b := eb) (o := eo) (len := n.ends.length) (cap := ec) (i := i) (o' := eo + i) rfl rfl rfl Tryz.underlying22 siz3 (by omega) (by omega)) ?_
     refine qV (r_load (v := (I6 e)) rfl flat3 (E.cell (fun f => f) (hecl i e he))) ?_
     refine qA (I6 e) rfl ?_
     refine WpL_nil (Wp_seq_region ?_)
     refine qM (.slice na m nc) rfl ?_
     refine qM (I6 e) rfl ?_
     refine WpL_enter rfl rfl (by decide) (r_callF (vs := [(.slice na m nc), (I6 e)]) Tryz.func52 kQ kQ rfl) (rhas_c _ _ now e hni2) ?_
     rintro _ w59 ⟨rfl, X59⟩
     replace Bn := X59.keep Bn
     replace Bs := X59.keep Bs
     replace hni2 := hni2.ext X59
     replace E := E.ext X59
     refine WpL_nil ?_
     refine Wp_cond (b := now.contains e) rfl (fun hhas => ?_) (fun hhas => ?_)
     ·have khhas := hhas
      refine Wp_seq_region ?_
      refine qA (.bool true) rfl ?_
      refine WpL_nil (Wp_ret (inB_ret (thn_ret (thn_ret (inB_ret (thn_ret ?_))))))
      refine fin_tmp Tryz.results16 (v := (.bool true)) rfl ?_
      exact ⟨⟨true, rfl, fun _ => hacc.2 ⟨e, List.mem_of_getElem? he, by simpa using hhas⟩, fun _ => rfl⟩, E⟩
     ·have khhas := hhas
      refine Wp_skip (inB_normal (thn_normal (Wp_region ?_)))
      refine qV (r_add (k := .i64) (a := (i : Int)) (b := 1) (c := (i : Int) + 1) rfl rfl (wI64 (by omega))) ?_
      refine qM (I6 ((i : Int) + 1)) rfl ?_
      refine WpL_nil (thn_normal ?_)
      exact ⟨n.ends.length - (i + 1), by omega, i + 1, Fits.out ⟨rfl, rfl, rfl, rfl, trivial⟩, E, Bn, Bs, (by omega), (fun x hx => by rw [List.take_add_one, he] at hx; rcases List.mem_append.1 hx with h9 | h9; exact hno x h9; simp at h9; subst h9; intro h8; simp [h8] at hhas), hni2, rfl⟩
    ·have khlt3 := hlt3
     replace hlt3 := of_decide_eq_false hlt3
     refine Wp_exit (thn_exit (thn_exit (inB_here (thn_normal (Wp_seq_region ?_)))))
     refine qA (.bool false) rfl ?_
     refine WpL_nil (Wp_ret ?_)
     refine fin_tmp Tryz.results16 (v := (.bool false)) rfl ?_
     exact ⟨⟨false, rfl, ⟨fun h => (by cases h), fun h => (by obtain ⟨e, h1, h2⟩ := hacc.1 h; exact absurd h2 (hno e (by rw [List.take_of_length_le (by omega)]; exact h1)))⟩⟩, E⟩
end Go.Proofs
namespace Go.Proofs
open Go Go.Eng Go.Sort
set_option maxRecDepth 100000
theorem ints_keepO {M : Nat → Prop} {w w' : World} {a : Option Addr} {n c : Nat} {l : List Int} (h : IntsAt w (.slice a n c) l) (ch : Chg M w w') (hM : ∀ k, (Value.slice a n c).ownBlock = some k → ¬ M k) : IntsAt w' (.slice a n c) l := by
 have hn : n = l.length := by have := (SlAt.cap h).2; simpa using this.symm
 rcases Nat.eq_zero_or_pos n with h0 | h0
 ·exact slAt_keep h ch (.inl (by rw [List.eq_nil_of_length_eq_zero (show l.length = 0 by omega)]; rfl))
 ·have h9 := h
  obtain ⟨b, o, rfl, _⟩ := ints_cells h h0
  exact slAt_keep h9 ch (.inr ⟨b, rfl, hM b rfl⟩)
theorem own_any3 {w : World} {base e sz n c : Nat} {a : Option Addr} {xs : List Value} (h : w.ownsRow base e sz (.slice a n c) n xs) : (n = 0 ∧ xs = []) ∨ ∃ bx ox, a = some ⟨bx, ox, none⟩ ∧ CellsAt w bx ox xs := by
 rcases Nat.eq_zero_or_pos n with rfl | h0
 ·exact .inl ⟨rfl, List.eq_nil_of_length_eq_zero (by have := h.1; simpa using this)⟩
 ·obtain ⟨g, rfl, _, hc⟩ := own_cells h h0
  exact .inr ⟨g, 0, rfl, hc⟩
theorem set_lo {l : List Sp} (h : checkE l = 0) : l.length ≤ 16 ∧ ∀ p ∈ l, 0 ≤ p.1 := by
 unfold checkE at h
 split at h
 ·cases h
 ·exact ⟨by omega, checkL_lo l none h⟩
set_option maxHeartbeats 4000000 in
theorem bareof_c (w0 : World) (n : Nf) (vs0 : List Value) (N : Nat) (ok : OkN n) (hN : n.states = (N : Int)) (h : NfAt w0 n vs0) (hb : N ≤ 30 ∧ n.edges.length ≤ 60) :
  Ret Tryz.prog 15 #[.agg vs0.toArray] w0 fun r w => (∃ m us, r = .agg us.toArray ∧ NfAt w m us ∧ m.states = n.states ∧ m.start = n.start ∧ m.eps = [] ∧ BareK n N m.ends m.edges) ∧ Ext w0 w := by
 have h0 := h
 obtain ⟨ea, ec, pa, pc, xa, xc, rfl, hen, hep, hed⟩ := h
 have hel := ok.el
 refine Ret_of Tryz.func15 rfl Tryz.ntmps15 (Nat.le_of_ble_eq_true rfl) ?_
 have E : Chg none1 w0 w0 := Chg.refl _ _
 refine Wp_seq_region ?_
 refine s_box (v := (.agg #[(I6 n.states), (I6 n.start), (.slice ea n.ends.length ec), (.slice pa n.eps.length pc), (.slice xa n.edges.length xc)])) (c := #[(I6 n.states), (I6 n.start), (.slice ea n.ends.length ec), (.slice pa n.eps.length pc), (.slice xa n.edges.length xc)]) (by decide) rfl rfl ?_
 intro bn wn Nn
 have Fn := Nn.ge E
 replace E := E.ext Nn.ext
 have Bn := Nn.blk
 refine s_alloc (c := #[(I6 0), (I6 0), (.slice none 0 0), (.slice none 0 0), (.slice none 0 0)]) (by decide) zer26 rfl ?_
 intro br wr Nr
 have Fr := Nr.ge E
 have Or_bn := Nr.lt Bn
 replace Bn := Nr.keep Bn
 replace E := E.ext Nr.ext
 have Br := Nr.blk
 refine WpL_nil (Wp_seq_region ?_)
 refine qF bn 0 0 rfl Tryz.underlying26 rfl siz3 rfl ?_
 refine qV (r_load (v := (I6 n.states)) rfl flat3 (Bn.cell rfl)) ?_
 refine qF bn 0 1 rfl Tryz.underlying26 rfl siz3 rfl ?_
 refine qV (r_load (v := (I6 n.start)) rfl flat3 (Bn.cell rfl)) ?_
 refine qV (r_build (ps := [(0, (I6 n.states)), (1, (I6 n.start))]) (v := (.agg #[(I6 n.states), (I6 n.start), (.slice none 0 0), (.slice none 0 0), (.slice none 0 0)])) rfl (by kernel_rfl)) ?_
 refine s_allocStore (v := (.agg #[(I6 n.states), (I6 n.start), (.slice none 0 0), (.slice none 0 0), (.slice none 0 0)])) (c := #[(I6 n.states), (I6 n.start), (.slice none 0 0), (.slice none 0 0), (.slice none 0 0)]) (n := 5) (by decide) zer26 rfl siz26 rfl rfl rfl (by simp [Value.oneCell']) ?_
 intro bo wo No
 have Fo := No.ge E
 have Oo_bn := No.lt Bn
 have Oo_br := No.lt Br
 replace Bn := No.keep Bn
 replace Br := No.keep Br
 replace E := E.ext No.ext
 have Bo := No.blk
 refine WpL_nil (Wp_seq (Wp_seq_region ?_))
 refine qF bn 0 0 rfl Tryz.underlying26 rfl siz3 rfl ?_
 refine qV (r_load (v := (I6 n.states)) rfl flat3 (Bn.cell rfl)) ?_
 refine qM (I6 0) rfl ?_
 refine WpL_nil (Wp_block ?_)
 obtain ⟨z1, hz1⟩ : ∃ z1, z1 = (wo).heap.size := ⟨_, rfl⟩
 have hbz : bn < z1 ∧ br < z1 ∧ bo < z1 ∧ w0.heap.size ≤ z1 := ⟨by rw [hz1]; exact Bn.lt, by rw [hz1]; exact Br.lt, by rw [hz1]; exact Bo.lt, by rw [hz1]; exact E.size⟩
 refine Wp_loop (fun nn_ σ W1 => ∃ (s : Nat) (es : List Int) (xs : List Ed) (ea2 : Option Addr) (ec2 m : Nat) (xa2 : Option Addr) (xc2 x : Nat), (∃ jj_, σ = upds jj_ [(1, (P6 bn 0)), (2, (P6 br 0)), (3, (P6 bo 0)), (18, (I6 n.states)), (19, (I6 (s : Int)))]) ∧ Chg none1 w0 W1 ∧ Blk W1 bn #[(I6 n.states), (I6 n.start), (.slice ea n.ends.length ec), (.slice pa n.eps.length pc), (.slice xa n.edges.length xc)] 26 ∧ Blk W1 br #[(I6 0), (I6 0), (.slice none 0 0), (.slice none 0 0), (.slice none 0 0)] 26 ∧ Blk W1 bo (#[Value.int .i64 n.states, .int .i64 n.start, .slice ea2 m ec2, .slice none 0 0, .slice xa2 x xc2]) 26 ∧ (s ≤ N) ∧ (m = es.length) ∧ (x = xs.length) ∧ (x ≤ s * 60) ∧ (W1.ownsRow z1 TDI 1 (.slice ea2 m ec2) m (es.map (Value.int .i64))) ∧ (EdO w0.heap.size W1 z1 (.slice xa2 x xc2) xs) ∧ (BareK n s es xs) ∧ (z1 ≤ W1.heap.size) ∧ nn_ = N - s) (n := N - 0) ?_ ?_
 ·exact ⟨0, [], [], none, 0, 0, none, 0, 0, Fits.out ⟨rfl, rfl, rfl, rfl, rfl, trivial⟩, E, Bn, Br, Bo, Nat.zero_le _, rfl, rfl, (by omega), World.ownsRow_nil _ _ _ _, EdO.nil _ _ _, .nil, (by omega), rfl⟩
 ·clear E Bn Br Bo
  rintro _ _ W1 ⟨s, es, xs, ea2, ec2, m, xa2, xc2, x, ⟨j1, rfl⟩, E, Bn, Br, Bo, hs, hm, hx, hxb, hE, hX, hK, hz, rfl⟩
  refine Wp_seq_region ?_
  refine qV (r_lss (k := .i64) (a := (s : Int)) (b := n.states) rfl rfl) ?_
  refine WpL_nil (Wp_seq ?_)
  refine Wp_cond (b := decide (((s : Int) : Int) < n.states)) rfl (fun hlt => ?_) (fun hlt => ?_)
  ·have khlt := hlt
   replace hlt := of_decide_eq_true hlt
   have hml : m ≤ 30 := by have := hK.len; omega
   obtain ⟨zs, hzs⟩ : ∃ zs, zs = (W1).heap.size := ⟨_, rfl⟩
   have hz0 : z1 ≤ zs := by rw [hzs]; exact hz
   have hEl : ∀ k, (Value.slice ea2 m ec2).ownBlock = some k → k < zs := fun k hk => by rw [hzs]; exact (hE.lt k hk).2
   refine Wp_skip (thn_normal (Wp_seq (Wp_block (Wp_seq_region ?_))))
   refine qM (I6 (s : Int)) rfl ?_
   refine qA (I6 (s : Int)) rfl ?_
   refine WpL_nil (Wp_seq_region ?_)
   refine qV (r_loadAgg (vs := [(I6 n.states), (I6 n.start), (.slice ea n.ends.length ec), (.slice pa n.eps.length pc), (.slice xa n.edges.length xc)]) rfl agg26 siz26 rfl (Bn.cells rfl)) ?_
   refine qM (I6 (s : Int)) rfl ?_
   refine s_buildSlice (ps := [(0, (I6 (s : Int)))]) (c := #[(I6 (s : Int))]) (by decide) rfl Tryz.underlying22 siz3 zer3 (by decide) (by decide) (by kernel_rfl) ?_
   intro bq wq Nq
   have Fq := Nq.ge E
   have Oq_bn := Nq.lt Bn
   have Oq_br := Nq.lt Br
   have Oq_bo := Nq.lt Bo
   replace Bn := Nq.keep Bn
   replace Br := Nq.keep Br
   replace Bo := Nq.keep Bo
   replace hE := own_ext hE Nq.ext
   replace hX := hX.ext Nq.ext
   replace hz := Nat.le_trans hz Nq.ext.size
   replace E := E.ext Nq.ext
   have Bq := Nq.blk
   refine WpL_enter rfl rfl (by decide) (r_callF (vs := [(.agg #[(I6 n.states), (I6 n.start), (.slice ea n.ends.length ec), (.slice pa n.eps.length pc), (.slice xa n.edges.length xc)]), (.slice (some ⟨bq, 0, none⟩) 1 1)]) Tryz.func14 kQ kQ rfl) (free_c _ n _ N _ [(s : Int)] ok hN (h0.ext E) (ints_of_blk [(s : Int)] Bq (by simp) (by simp)) (fun t ht => by rw [List.mem_singleton.1 ht]; omega)) ?_
   rintro _ w9 ⟨⟨na, nc, q, rfl, hq, hql, hi, hnew⟩, X9⟩
   replace Bn := X9.keep Bn
   replace Br := X9.keep Br
   replace Bo := X9.keep Bo
   replace Bq := X9.keep Bq
   replace hE := own_ext hE X9
   replace hX := hX.ext X9
   replace hz := Nat.le_trans hz X9.size
   replace E := E.ext X9
   have hqm : ∀ t, t ∈ q ↔ cloP n.eps (fun t => t = ((s : Nat) : Int)) t := fun t => (hq.2 t).trans (cloP_congr (fun y => by simp) t)
   have hqn : ∀ k, (Value.slice na q.length nc).ownBlock = some k → zs ≤ k := fun k hk => by have := hnew k hk; have := Nq.ext.size; omega
   have E3 : Chg none1 w9 w9 := Chg.refl _ _
   refine qA (.slice na q.length nc) rfl ?_
   refine WpL_nil (Wp_seq_region ?_)
   refine qA (.bool false) rfl ?_
   refine WpL_nil (Wp_seq (Wp_seq_region ?_))
   refine qF bn 0 2 rfl Tryz.underlying26 rfl siz22 rfl ?_
   refine qV (r_load (v := (.slice ea n.ends.length ec)) rfl flat22 (Bn.cell rfl)) ?_
   refine qV (r_lenSlice (ad := ea) (n := n.ends.length) (cap := ec) Tryz.underlying22 rfl) ?_
   refine qM (I6 0) rfl ?_
   refine WpL_nil (Wp_block ?_)
   refine Wp_loop (fun nn_ σ W3 => ∃ (j : Nat) (u : Bool), (∃ jj_, σ = upds jj_ [(1, (P6 bn 0)), (2, (P6 br 0)), (3, (P6 bo 0)), (4, (I6 (s : Int))), (5, (.slice na q.length nc)), (18, (I6 n.states)), (19, (I6 (s : Int))), (27, (.slice ea n.ends.length ec)), (28, (I6 (n.ends.length : Int))), (29, (I6 (j : Int))), (6, (.bool u))]) ∧ Chg none1 w0 W3 ∧ Chg none1 w9 W3 ∧ Blk W3 bn #[(I6 n.states), (I6 n.start), (.slice ea n.ends.length ec), (.slice pa n.eps.length pc), (.slice xa n.edges.length xc)] 26 ∧ Blk W3 br #[(I6 0), (I6 0), (.slice none 0 0), (.slice none 0 0), (.slice none 0 0)] 26 ∧ Blk W3 bo (#[Value.int .i64 n.states, .int .i64 n.start, .slice ea2 m ec2, .slice none 0 0, .slice xa2 x xc2]) 26 ∧ (j ≤ n.ends.length) ∧ (u = true ↔ ∃ e ∈ n.ends.take j, e ∈ q) ∧ nn_ = n.ends.length - j) (n := n.ends.length - 0) ?_ ?_
   ·exact ⟨0, false, Fits.out ⟨rfl, rfl, rfl, rfl, rfl, rfl, rfl, rfl, rfl, rfl, rfl, trivial⟩, E, E3, Bn, Br, Bo, Nat.zero_le _, (by simp), rfl⟩
   ·clear E E3 Bn Br Bo
    rintro _ _ W3 ⟨j, u, ⟨j3, rfl⟩, E, E3, Bn, Br, Bo, hj, hu, rfl⟩
    refine Wp_seq_region ?_
    refine qV (r_lss (k := .i64) (a := (j : Int)) (b := (n.ends.length : Int)) rfl rfl) ?_
    refine WpL_nil (Wp_seq ?_)
    refine Wp_cond (b := decide (((j : Int) : Int) < (n.ends.length : Int))) rfl (fun hlt2 => ?_) (fun hlt2 => ?_)
    ·have khlt2 := hlt2
     replace hlt2 := of_decide_eq_true hlt2
     obtain ⟨e, he⟩ := get_of_lt (l := n.ends) (i := j) (by omega)
     obtain ⟨eb, eo, rfl, hec⟩ := ints_cells hen (by omega)
     refine Wp_skip (thn_normal (Wp_seq (Wp_block (Wp_seq_region ?_))))
     refine qV (r_indexSlice (b := eb) (o := eo) (len := n.ends.length) (cap := ec) (i := j) (o' := eo + j) rfl rfl rfl Tryz.underlying22 siz3 (by omega) (by omega)) ?_
     refine qV (r_load (v := (I6 e)) rfl flat3 (E.cell (fun f => f) (hec j e he))) ?_
     refine qA (I6 e) rfl ?_
     refine WpL_nil (Wp_region ?_)
     refine qM (.bool u) rfl ?_
     refine qM (.bool u) rfl ?_
     rcases Bool.eq_false_or_eq_true (u) with hu1 | hu1
     ·have khu1 := hu1
      refine WpL_guard_no (oj := _) rfl rfl (by decide) (v := .bool true) (congrArg Value.bool hu1) (Or.inl rfl) ?_
      refine WpL_guard_no (oj := _) rfl rfl (by decide) (v := .bool true) (congrArg Value.bool hu1) (Or.inl rfl) ?_
      refine WpL_guard_no (oj := _) rfl rfl (by decide) (v := .bool true) (congrArg Value.bool hu1) (Or.inl rfl) ?_
      refine qV (r_pick (b := u) (v := (.bool true)) rfl (by rw [hu1]; rfl)) ?_
      refine qA (.bool true) rfl ?_
      refine WpL_nil (inB_normal (thn_normal (Wp_region ?_)))
      refine qV (r_add (k := .i64) (a := (j : Int)) (b := 1) (c := (j : Int) + 1) rfl rfl (wI64 (by omega))) ?_
      refine qM (I6 ((j : Int) + 1)) rfl ?_
      refine WpL_nil (thn_normal ?_)
      exact ⟨n.ends.length - (j + 1), by omega, j + 1, true, Fits.out ⟨rfl, rfl, rfl, rfl, rfl, rfl, rfl, rfl, rfl, rfl, rfl, trivial⟩, E, E3, Bn, Br, Bo, (by omega), (by rw [take_snoc he]; obtain ⟨y, hy1, hy2⟩ := hu.1 hu1; exact ⟨fun _ => ⟨y, List.mem_append_left _ hy1, hy2⟩, fun _ => rfl⟩), rfl⟩
     ·have khu1 := hu1
      refine WpL_guard_yes (oj := _) rfl rfl (by decide) (congrArg Value.bool hu1) ?_
      refine qM (.slice na q.length nc) rfl ?_
      refine WpL_guard_yes (oj := _) rfl rfl (by decide) (congrArg Value.bool hu1) ?_
      refine qM (I6 e) rfl ?_
      refine WpL_guard_yes (oj := _) rfl rfl (by decide) (congrArg Value.bool hu1) ?_
      refine WpL_enter rfl rfl (by decide) (r_callF (vs := [(.slice na q.length nc), (I6 e)]) Tryz.func52 kQ kQ rfl) (rhas_c _ _ q e (hi.ext E3)) ?_
      rintro _ w19 ⟨rfl, X19⟩
      replace Bn := X19.keep Bn
      replace Br := X19.keep Br
      replace Bo := X19.keep Bo
      replace E := E.ext X19
      replace E3 := E3.ext X19
      refine qV (r_pick (b := u) (v := (.bool (q.contains e))) rfl (by rw [hu1]; rfl)) ?_
      refine qA (.bool (q.contains e)) rfl ?_
      refine WpL_nil (inB_normal (thn_normal (Wp_region ?_)))
      refine qV (r_add (k := .i64) (a := (j : Int)) (b := 1) (c := (j : Int) + 1) rfl rfl (wI64 (by omega))) ?_
      refine qM (I6 ((j : Int) + 1)) rfl ?_
      refine WpL_nil (thn_normal ?_)
      exact ⟨n.ends.length - (j + 1), by omega, j + 1, q.contains e, Fits.out ⟨rfl, rfl, rfl, rfl, rfl, rfl, rfl, rfl, rfl, rfl, rfl, trivial⟩, E, E3, Bn, Br, Bo, (by omega), (by rw [take_snoc he]; constructor; (intro h9; exact ⟨e, List.mem_append_right _ (List.mem_singleton.2 rfl), by simpa using h9⟩); (rintro ⟨y, hy1, hy2⟩; rcases List.mem_append.1 hy1 with h8 | h8; (exact absurd (hu.2 ⟨y, h8, hy2⟩) (by rw [hu1]; decide)); (rw [List.mem_singleton.1 h8] at hy2; simpa using hy2))), rfl⟩
    ·have khlt2 := hlt2
     replace hlt2 := of_decide_eq_false hlt2
     have hjj : j = n.ends.length := by omega
     rw [hjj, List.take_length] at hu
     replace hE := own_ext hE E3
     replace hX := hX.ext E3
     replace hz := Nat.le_trans hz E3.size
     replace hi := hi.ext E3
     have hub : u = true ↔ ∃ e ∈ n.ends, cloP n.eps (fun t => t = ((s : Nat) : Int)) e := hu.trans ⟨fun ⟨e, h1, h2⟩ => ⟨e, h1, (hqm e).1 h2⟩, fun ⟨e, h1, h2⟩ => ⟨e, h1, (hqm e).2 h2⟩⟩
     refine Wp_exit (thn_exit (thn_exit (inB_here (thn_normal ?_))))
     refine Wp_cut (fun σ W6 => ∃ (es2 : List Int) (ea3 : Option Addr) (ec3 m3 : Nat), (∃ jj_, σ = upds jj_ [(1, (P6 bn 0)), (2, (P6 br 0)), (3, (P6 bo 0)), (4, (I6 (s : Int))), (5, (.slice na q.length nc)), (18, (I6 n.states)), (19, (I6 (s : Int)))]) ∧ Chg none1 w0 W6 ∧ Blk W6 bn #[(I6 n.states), (I6 n.start), (.slice ea n.ends.length ec), (.slice pa n.eps.length pc), (.slice xa n.edges.length xc)] 26 ∧ Blk W6 br #[(I6 0), (I6 0), (.slice none 0 0), (.slice none 0 0), (.slice none 0 0)] 26 ∧ Blk W6 bo (#[Value.int .i64 n.states, .int .i64 n.start, .slice ea3 m3 ec3, .slice none 0 0, .slice xa2 x xc2]) 26 ∧ (m3 = es2.length) ∧ (es2 = es ++ if u then [(s : Int)] else []) ∧ (W6.ownsRow z1 TDI 1 (.slice ea3 m3 ec3) m3 (es2.map (Value.int .i64))) ∧ (EdO w0.heap.size W6 z1 (.slice xa2 x xc2) xs) ∧ (IntsAt W6 (.slice na q.length nc) q) ∧ (z1 ≤ W6.heap.size)) ?_ ?_
     ·skip
      refine Wp_seq_region ?_
      refine qM (.bool u) rfl ?_
      refine WpL_nil ?_
      refine Wp_cond (b := u) rfl (fun hut => ?_) (fun hut => ?_)
      ·have khut := hut
       have hap : ∀ k, (Value.slice xa2 x xc2).ownBlock = some k → ¬ (Value.slice ea2 m ec2).ownBlock = some k := fun k hk h => by obtain ⟨rows, hoX, _⟩ := hX; exact own_other hoX hE (by decide) hk h
       refine Wp_region ?_
       refine qF bo 0 2 rfl Tryz.underlying26 rfl siz22 rfl ?_
       refine qV (r_load (v := (.slice ea2 m ec2)) rfl flat22 (Bo.cell rfl)) ?_
       refine qM (I6 (s : Int)) rfl ?_
       refine s_buildSlice (ps := [(0, (I6 (s : Int)))]) (c := #[(I6 (s : Int))]) (by decide) rfl Tryz.underlying22 siz3 zer3 (by decide) (by decide) (by kernel_rfl) ?_
       intro b8 w8 N8
       have F8 := N8.ge E
       have O8_bn := N8.lt Bn
       have O8_br := N8.lt Br
       have O8_bo := N8.lt Bo
       replace Bn := N8.keep Bn
       replace Br := N8.keep Br
       replace Bo := N8.keep Bo
       replace hE := own_ext hE N8.ext
       replace hX := hX.ext N8.ext
       replace hi := hi.ext N8.ext
       replace hz := Nat.le_trans hz N8.ext.size
       replace E := E.ext N8.ext
       have B8 := N8.blk
       refine s_append (base := z1) (n := m) (m := 1) (xs := (es.map (Value.int .i64))) (news := [(I6 (s : Int))]) (size := 1) (bytes := 8) (v := (.slice ea2 m ec2)) (by decide) Tryz.underlying22 siz3 byt3 zer3 rfl (by decide) rfl hE rfl (rfl) (B8.cells rfl) (by simp [Value.oneCell']) (by unfold maxLen; omega) (by omega) (hz) ?_
       intro v8 w29 Ov8 Cv8 Dv8
       replace Bn := Cv8.keep (fun h => by have := (hE.lt _ h).1; omega) Bn
       replace Br := Cv8.keep (fun h => by have := (hE.lt _ h).1; omega) Br
       replace Bo := Cv8.keep (fun h => by have := (hE.lt _ h).1; omega) Bo
       replace E := E.step Cv8 (fun x hx h => absurd (hE.lt x h).1 (by omega))
       obtain ⟨ea4, ec4, rfl⟩ := own_form Ov8
       have hO8 := Ov8
       have hX8 := hX.chg Cv8 (fun y h => by have := (hE.lt y h).1; omega) hap
       have hi8 := ints_keepO hi Cv8 (fun k hk h => by have := hEl k h; have := hqn k hk; omega)
       have hz8 := Nat.le_trans hz Cv8.size
       have hXl := hX8.lt
       refine qF bo 0 2 rfl Tryz.underlying26 rfl siz22 rfl ?_
       refine s_store (b := bo) (o := 2) (c' := #[(I6 n.states), (I6 n.start), (.slice ea4 (m + 1) ec4), (.slice none 0 0), (.slice xa2 x xc2)]) (v := (.slice ea4 (m + 1) ec4)) rfl rfl rfl siz22 Bo (by simp) rfl ?_
       intro w9 S9
       replace hO8 := own_chg hO8 S9.chg fun y hy h => by have h' : y = bo := h; have := (hO8.lt y hy).1; omega
       replace hX8 := hX8.chg S9.chg (fun y h => by have h9 : y = bo := h; omega) (fun k hk h => by have h' : k = bo := h; have := (hXl k hk).1; omega)
       replace hi8 := ints_keepO hi8 S9.chg (fun k hk h => by have h' : k = bo := h; have := hqn k hk; omega)
       replace hz8 := Nat.le_trans hz8 S9.chg.size
       replace Bn := S9.keep (by omega) Bn
       replace Br := S9.keep (by omega) Br
       replace E := S9.step E (by first | exact Or.inl (by omega) | exact Or.inr rfl | exact Or.inr (by assumption) | exact Or.inr (by simp) | exact Or.inr (by omega) | exact Or.inr (by dsimp only; omega))
       replace Bo := S9.blk
       refine WpL_nil (thn_normal ?_)
       exact ⟨es ++ [((s : Nat) : Int)], ea4, ec4, m + 1, Fits.out ⟨rfl, rfl, rfl, rfl, rfl, rfl, rfl, trivial⟩, E, Bn, Br, Bo, (by simp [hm]), (by rw [hut]; rfl), (by rw [List.map_append]; exact hO8), hX8, hi8, hz8⟩
      ·have khut := hut
       refine Wp_skip (thn_normal ?_)
       exact ⟨es, ea2, ec2, m, Fits.out ⟨rfl, rfl, rfl, rfl, rfl, rfl, rfl, trivial⟩, E, Bn, Br, Bo, hm, (by rw [hut]; simp), hE, hX, hi, hz⟩
     ·clear E Bn Br Bo
      rintro _ W6 ⟨es2, ea3, ec3, m3, ⟨j6, rfl⟩, E, Bn, Br, Bo, hm3, hes, hE3, hX, hi, hz⟩
      have E4 : Chg none1 W6 W6 := Chg.refl _ _
      refine Wp_seq_region ?_
      refine qA (.slice none 0 0) rfl ?_
      refine WpL_nil (Wp_seq (Wp_seq_region ?_))
      refine qF bn 0 4 rfl Tryz.underlying26 rfl siz24 rfl ?_
      refine qV (r_load (v := (.slice xa n.edges.length xc)) rfl flat24 (Bn.cell rfl)) ?_
      refine qV (r_lenSlice (ad := xa) (n := n.edges.length) (cap := xc) Tryz.underlying24 rfl) ?_
      refine qM (I6 0) rfl ?_
      refine WpL_nil (Wp_block ?_)
      refine Wp_loop (fun nn_ σ W10 => ∃ (j : Nat) (L : List Ed) (ma : Option Addr) (mc l : Nat), (∃ jj_, σ = upds jj_ [(1, (P6 bn 0)), (2, (P6 br 0)), (3, (P6 bo 0)), (4, (I6 (s : Int))), (5, (.slice na q.length nc)), (18, (I6 n.states)), (19, (I6 (s : Int))), (48, (.slice xa n.edges.length xc)), (49, (I6 (n.edges.length : Int))), (50, (I6 (j : Int))), (9, (.slice ma l mc))]) ∧ Chg none1 w0 W10 ∧ Chg none1 W6 W10 ∧ Blk W10 bn #[(I6 n.states), (I6 n.start), (.slice ea n.ends.length ec), (.slice pa n.eps.length pc), (.slice xa n.edges.length xc)] 26 ∧ Blk W10 br #[(I6 0), (I6 0), (.slice none 0 0), (.slice none 0 0), (.slice none 0 0)] 26 ∧ Blk W10 bo #[(I6 n.states), (I6 n.start), (.slice ea3 m3 ec3), (.slice none 0 0), (.slice xa2 x xc2)] 26 ∧ (j ≤ n.edges.length) ∧ (l = L.length) ∧ (EdO w0.heap.size W10 z1 (.slice ma l mc) L) ∧ (PutK n (s : Int) q j L) ∧ (z1 ≤ W10.heap.size) ∧ nn_ = n.edges.length - j) (n := n.edges.length - 0) ?_ ?_
      ·exact ⟨0, [], none, 0, 0, Fits.out ⟨rfl, rfl, rfl, rfl, rfl, rfl, rfl, rfl, rfl, rfl, rfl, trivial⟩, E, E4, Bn, Br, Bo, Nat.zero_le _, rfl, EdO.nil _ _ _, PutK.start _ _ _, hz, rfl⟩
      ·clear E E4 Bn Br Bo
       rintro _ _ W10 ⟨j, L, ma, mc, l, ⟨j10, rfl⟩, E, E4, Bn, Br, Bo, hj, hl, hL, hP, hz4, rfl⟩
       refine Wp_seq_region ?_
       refine qV (r_lss (k := .i64) (a := (j : Int)) (b := (n.edges.length : Int)) rfl rfl) ?_
       refine WpL_nil (Wp_seq ?_)
       refine Wp_cond (b := decide (((j : Int) : Int) < (n.edges.length : Int))) rfl (fun hlt3 => ?_) (fun hlt3 => ?_)
       ·have khlt3 := hlt3
        replace hlt3 := of_decide_eq_true hlt3
        obtain ⟨e, he⟩ := get_of_lt (l := n.edges) (i := j) (by omega)
        have hem := List.mem_of_getElem? he
        obtain ⟨xb, xo, rfl, hxc⟩ := edges_cells hed (by omega)
        obtain ⟨ra, rc, hcell, hspan⟩ := hxc j e he
        have hso := set_lo (ok.ed e hem).2.2
        have hLl := hL.lt
        refine Wp_skip (thn_normal (Wp_seq (Wp_block (Wp_seq_region ?_))))
        refine qV (r_indexSlice (b := xb) (o := xo) (len := n.edges.length) (cap := xc) (i := j) (o' := xo + j * 3) rfl rfl rfl Tryz.underlying24 siz39 (by omega) (by omega)) ?_
        refine qV (r_loadAgg (vs := [(I6 e.1), (I6 e.2.1), (.slice ra e.2.2.length rc)]) rfl agg39 siz39 rfl (hcell.ext E)) ?_
        refine s_allocStore (v := (.agg #[(I6 e.1), (I6 e.2.1), (.slice ra e.2.2.length rc)])) (c := #[(I6 e.1), (I6 e.2.1), (.slice ra e.2.2.length rc)]) (n := 3) (by decide) zer39 rfl siz39 rfl rfl rfl (by simp [Value.oneCell']) ?_
        intro be we Ne
        have Fe := Ne.ge E
        have Fe_E4 := Ne.ge E4
        have Oe_bn := Ne.lt Bn
        have Oe_br := Ne.lt Br
        have Oe_bo := Ne.lt Bo
        replace Bn := Ne.keep Bn
        replace Br := Ne.keep Br
        replace Bo := Ne.keep Bo
        replace hL := hL.ext Ne.ext
        replace hz4 := Nat.le_trans hz4 Ne.ext.size
        replace E := E.ext Ne.ext
        have Be := Ne.blk
        replace E4 := E4.ext Ne.ext
        refine WpL_nil (Wp_seq_region ?_)
        refine qM (.slice na q.length nc) rfl ?_
        refine qF be 0 0 rfl Tryz.underlying39 rfl siz3 rfl ?_
        refine qV (r_load (v := (I6 e.1)) rfl flat3 (Be.cell rfl)) ?_
        refine WpL_enter rfl rfl (by decide) (r_callF (vs := [(.slice na q.length nc), (I6 e.1)]) Tryz.func52 kQ kQ rfl) (rhas_c _ _ q e.1 (hi.ext E4)) ?_
        rintro _ w49 ⟨rfl, X49⟩
        replace Bn := X49.keep Bn
        replace Br := X49.keep Br
        replace Bo := X49.keep Bo
        replace Be := X49.keep Be
        replace hL := hL.ext X49
        replace hz4 := Nat.le_trans hz4 X49.size
        replace E := E.ext X49
        replace E4 := E4.ext X49
        refine WpL_nil ?_
        refine Wp_cond (b := q.contains e.1) rfl (fun hin => ?_) (fun hin => ?_)
        ·have khin := hin
         refine Wp_region ?_
         refine qM (.slice ma l mc) rfl ?_
         refine qM (I6 (s : Int)) rfl ?_
         refine qF be 0 1 rfl Tryz.underlying39 rfl siz3 rfl ?_
         refine qV (r_load (v := (I6 e.2.1)) rfl flat3 (Be.cell rfl)) ?_
         refine qF be 0 2 rfl Tryz.underlying39 rfl siz37 rfl ?_
         refine qV (r_load (v := (.slice ra e.2.2.length rc)) rfl flat37 (Be.cell rfl)) ?_
         refine qV (r_build (ps := [(0, (I6 (s : Int))), (1, (I6 e.2.1)), (2, (.slice ra e.2.2.length rc))]) (v := (.agg #[(I6 (s : Int)), (I6 e.2.1), (.slice ra e.2.2.length rc)])) rfl (by kernel_rfl)) ?_
         refine WpL_enter rfl rfl (by decide) (r_callF (vs := [(.slice ma l mc), (.agg #[(I6 (s : Int)), (I6 e.2.1), (.slice ra e.2.2.length rc)])]) Tryz.func53 kQ kQ rfl) ((put_c _ w0.heap.size z1 ((s : Int), e.2.1, e.2.2) ra rc (.slice ma l mc) L hL hz4 ((EdF.old (e := ((s : Int), e.2.1, e.2.2)) hspan (Nat.le_refl _)).chg E (fun _ _ f => f)) (fun y hy => ((hP.from y hy).1).symm) hso.2 (fun y hy => by obtain ⟨e9, h8, h9⟩ := (hP.from y hy).2; rw [h9]; exact (set_lo (ok.ed e9 h8).2.2).2) hso.1 (fun y hy => by obtain ⟨e9, h8, h9⟩ := (hP.from y hy).2; rw [h9]; exact (set_lo (ok.ed e9 h8).2.2).1) (by have := hP.2.2; omega)).mono (fun v w h => (⟨h.1.form, h.1, h.2⟩ : (∃ a c, v = .slice a _ c) ∧ EdO w0.heap.size w z1 v (putE L ((s : Int), e.2.1, e.2.2)) ∧ Ext _ w))) ?_
         rintro _ w59 ⟨⟨pa5, pc5, rfl⟩, hL5, X59⟩
         replace Bn := X59.keep Bn
         replace Br := X59.keep Br
         replace Bo := X59.keep Bo
         replace Be := X59.keep Be
         replace hL := hL.ext X59
         replace hz4 := Nat.le_trans hz4 X59.size
         replace E := E.ext X59
         replace E4 := E4.ext X59
         refine qA (.slice pa5 ((putE L ((s : Int), e.2.1, e.2.2)).length) pc5) rfl ?_
         refine WpL_nil (inB_normal (thn_normal (Wp_region ?_)))
         refine qV (r_add (k := .i64) (a := (j : Int)) (b := 1) (c := (j : Int) + 1) rfl rfl (wI64 (by omega))) ?_
         refine qM (I6 ((j : Int) + 1)) rfl ?_
         refine WpL_nil (thn_normal ?_)
         exact ⟨n.edges.length - (j + 1), by omega, j + 1, putE L (((s : Nat) : Int), e.2.1, e.2.2), pa5, pc5, _, Fits.out ⟨rfl, rfl, rfl, rfl, rfl, rfl, rfl, rfl, rfl, rfl, rfl, trivial⟩, E, E4, Bn, Br, Bo, (by omega), rfl, hL5, hP.put he (by simpa using hin), hz4, rfl⟩
        ·have khin := hin
         refine Wp_skip (inB_normal (thn_normal (Wp_region ?_)))
         refine qV (r_add (k := .i64) (a := (j : Int)) (b := 1) (c := (j : Int) + 1) rfl rfl (wI64 (by omega))) ?_
         refine qM (I6 ((j : Int) + 1)) rfl ?_
         refine WpL_nil (thn_normal ?_)
         exact ⟨n.edges.length - (j + 1), by omega, j + 1, L, ma, mc, l, Fits.out ⟨rfl, rfl, rfl, rfl, rfl, rfl, rfl, rfl, rfl, rfl, rfl, trivial⟩, E, E4, Bn, Br, Bo, (by omega), hl, hL, hP.skip he (by simpa using hin), hz4, rfl⟩
       ·have khlt3 := hlt3
        replace hlt3 := of_decide_eq_false hlt3
        have hjj : j = n.edges.length := by omega
        have hBS := hP.done (by omega) hqm
        have hl60 : l ≤ 60 := by have := hP.2.2; omega
        replace hE3 := own_ext hE3 E4
        replace hX := hX.ext E4
        obtain ⟨rowsX, hoX, hrX⟩ := hX
        obtain ⟨rowsL, hoL, hrL⟩ := hL
        rw [← hx] at hoX
        rw [← hl] at hoL
        refine Wp_exit (thn_exit (thn_exit (inB_here (thn_normal (Wp_region ?_)))))
        refine qF bo 0 4 rfl Tryz.underlying26 rfl siz24 rfl ?_
        refine qV (r_load (v := (.slice xa2 x xc2)) rfl flat24 (Bo.cell rfl)) ?_
        refine qM (.slice ma l mc) rfl ?_
        refine s_appendAny (base := z1) (n := x) (m := l) (xs := rowsX.flatten) (news := rowsL.flatten) (size := 3) (bytes := 40) (v := (.slice xa2 x xc2)) (by decide) Tryz.underlying24 siz39 byt39 zer39 rfl (by decide) rfl hoX rfl ((by rw [rows_len hrL.three, hrL.1, hl])) (own_any3 hoL) (rows_one hrL 0) (by unfold maxLen; omega) (by omega) (hz4) ?_
        intro v7 w69 Ov7 Cv7 Dv7
        replace Bn := Cv7.keep (fun h => by have := (hoX.lt _ h).1; omega) Bn
        replace Br := Cv7.keep (fun h => by have := (hoX.lt _ h).1; omega) Br
        replace Bo := Cv7.keep (fun h => by have := (hoX.lt _ h).1; omega) Bo
        replace E := E.step Cv7 (fun x hx h => absurd (hoX.lt x h).1 (by omega))
        obtain ⟨xa3, xc3, rfl⟩ := own_form Ov7
        have hE9 := own_chg hE3 Cv7 fun k hk h => own_other hE3 hoX (by decide) hk h
        have hXc : EdsF (fun y => y < w0.heap.size) w69 (xs ++ L) (rowsX ++ rowsL) := (hrX.app hrL).chg Cv7 fun y hy h => by have := (hoX.lt y h).1; omega
        have hX9 : EdO w0.heap.size w69 z1 (.slice xa3 (x + l) xc3) (xs ++ L) := ⟨_, by rw [List.length_append, ← hx, ← hl, List.flatten_append]; exact Ov7, hXc⟩
        have hz9 := Nat.le_trans hz4 Cv7.size
        have hXl9 := hX9.lt
        refine qF bo 0 4 rfl Tryz.underlying26 rfl siz24 rfl ?_
        refine s_store (b := bo) (o := 4) (c' := #[(I6 n.states), (I6 n.start), (.slice ea3 m3 ec3), (.slice none 0 0), (.slice xa3 (x + l) xc3)]) (v := (.slice xa3 (x + l) xc3)) rfl rfl rfl siz24 Bo (by simp) rfl ?_
        intro w13 S13
        replace hE9 := own_chg hE9 S13.chg fun y hy h => by have h' : y = bo := h; have := (hE9.lt y hy).1; omega
        replace hX9 := hX9.chg S13.chg (fun y h => by have h' : y = bo := h; omega) (fun k hk h => by have h' : k = bo := h; have := (hXl9 k hk).1; omega)
        replace hz9 := Nat.le_trans hz9 S13.chg.size
        replace Bn := S13.keep (by omega) Bn
        replace Br := S13.keep (by omega) Br
        replace E := S13.step E (by first | exact Or.inl (by omega) | exact Or.inr rfl | exact Or.inr (by assumption) | exact Or.inr (by simp) | exact Or.inr (by omega) | exact Or.inr (by dsimp only; omega))
        replace Bo := S13.blk
        refine WpL_nil (inB_normal (thn_normal (Wp_region ?_)))
        refine qV (r_add (k := .i64) (a := (s : Int)) (b := 1) (c := (s : Int) + 1) rfl rfl (wI64 (by omega))) ?_
        refine qM (I6 ((s : Int) + 1)) rfl ?_
        refine WpL_nil (thn_normal ?_)
        exact ⟨N - (s + 1), by omega, s + 1, es2, xs ++ L, ea3, ec3, m3, xa3, xc3, x + l, Fits.out ⟨rfl, rfl, rfl, rfl, rfl, trivial⟩, E, Bn, Br, Bo, (by omega), hm3, (by rw [List.length_append, hx, hl]), (by omega), hE9, hX9, (by rw [hes]; exact .step hK hub hBS), hz9, rfl⟩
  ·have khlt := hlt
   replace hlt := of_decide_eq_false hlt
   have hsN : s = N := by omega
   have hXl := hX.lt
   refine Wp_exit (thn_exit (thn_exit (inB_here (thn_normal (Wp_seq_region ?_)))))
   refine qV (r_loadAgg (vs := [(I6 n.states), (I6 n.start), (.slice ea2 m ec2), (.slice none 0 0), (.slice xa2 x xc2)]) rfl agg26 siz26 rfl (Bo.cells rfl)) ?_
   refine s_storeAgg (b := br) (o := 0) (c' := #[(I6 n.states), (I6 n.start), (.slice ea2 m ec2), (.slice none 0 0), (.slice xa2 x xc2)]) rfl rfl (by simp [Value.oneCell']) siz26 rfl Br (by first | (simp; done) | exact Nat.le_of_ble_eq_true rfl) rfl ?_
   intro w14 S14
   replace hE := own_chg hE S14.chg fun y hy h => by have h' : y = br := h; have := (hE.lt y hy).1; omega
   replace hX := hX.chg S14.chg (fun y h => by have h' : y = br := h; omega) (fun k hk h => by have h' : k = br := h; have := (hXl k hk).1; omega)
   replace Bn := S14.keep (by omega) Bn
   replace Bo := S14.keep (by omega) Bo
   replace E := S14.step E (by first | exact Or.inl (by omega) | exact Or.inr rfl | exact Or.inr (by assumption) | exact Or.inr (by simp) | exact Or.inr (by omega) | exact Or.inr (by dsimp only; omega))
   replace Br := S14.blk
   refine WpL_nil (Wp_ret ?_)
   refine fin_agg Tryz.results15 (vs := [(.int .i64 n.states), (.int .i64 n.start), (.slice ea2 m ec2), (.slice none 0 0), (.slice xa2 x xc2)]) (b := br) rfl agg26 siz26 rfl (Br.cells rfl) ?_
   exact ⟨⟨⟨n.states, n.start, es, [], xs⟩, _, rfl, ⟨ea2, ec2, none, 0, xa2, xc2, by rw [hm, hx]; rfl, by rw [← hm]; exact own_intsD hE hm, SlAt.nil _ _ _ _, by rw [← hx]; exact hX.at⟩, rfl, rfl, rfl, hsN ▸ hK⟩, E⟩
end Go.Proofs
namespace Go.Proofs
open Go Go.Eng Go.Sort
set_option maxRecDepth 100000
abbrev TEs : Nat := 24
theorem edges_zip {w : World} {v : Value} {es : List Ed} (h : EdgesAt w v es) : ∃ Z : List EdR, Z.map (·.1) = es ∧ Z.length = es.length ∧ (∀ (i : Nat) z, Z[i]? = some z → es[i]? = some z.1 ∧ ∃ a c, z.2 = [.int .i64 z.1.1, .int .i64 z.1.2.1, .slice a z.1.2.2.length c] ∧ SpansAt w (.slice a z.1.2.2.length c) z.1.2.2) ∧
  ∀ a n c, v = .slice a n c → 0 < n → ∃ b o, a = some ⟨b, o, none⟩ ∧ ∀ (i : Nat) z, Z[i]? = some z → CellsAt w b (o + i * 3) z.2 := by
 obtain ⟨rows, h1, h2, h3⟩ := h
 have hl : (es.zip rows).length = es.length := by rw [List.length_zip]; omega
 refine ⟨es.zip rows, List.map_fst_zip (by omega), hl, fun i z hz => ?_, fun a n c e hn => ?_⟩
 ·have := List.getElem?_zip_eq_some.1 hz
  obtain ⟨u, h4, h5⟩ := h3 i z.1 z.2 this.1 this.2
  obtain ⟨a, c, rfl⟩ := SlAt.form h5
  rw [List.length_map] at h4 h5
  exact ⟨this.1, a, c, h4, h5⟩
 ·subst e
  obtain ⟨b, o, h4, h5⟩ := SlAt.at h1 hn
  exact ⟨b, o, h4, fun i z hz => h5 i z.2 (List.getElem?_zip_eq_some.1 hz).2⟩
theorem bare_any {n : Nf} {N : Nat} {M : List Bool} {s : Int} (ok : OkN n) (hN : n.states = (N : Int)) (hl : M.length = N) (hM : MarkOf M (cloP n.eps fun t => t ∈ [s])) : (n.ends.any fun t => M.getD t.toNat false) = true ↔ ∃ e ∈ n.ends, cloP n.eps (fun t => t = s) e := by
 rw [List.any_eq_true]
 have hiff : ∀ e ∈ n.ends, M.getD e.toNat false = true ↔ cloP n.eps (fun t => t = s) e := fun e he => by
  obtain ⟨a, ha, haN⟩ := int_nat (x := e) (N := N) (by have := ok.en e he; omega)
  have h8 := (hM a (by omega)).trans (cloP_congr (fun y => List.mem_singleton) _)
  rw [ha, Int.toNat_natCast, ← h8, List.getD_eq_getElem?_getD]
  obtain ⟨q, hq⟩ := get_of_lt (l := M) (i := a) (by omega)
  rw [hq]; simp
 exact ⟨fun ⟨e, he, h⟩ => ⟨e, he, (hiff e he).1 h⟩, fun ⟨e, he, h⟩ => ⟨e, he, (hiff e he).2 h⟩⟩
set_option maxHeartbeats 8000000 in
theorem bare_c (w0 : World) (n : Nf) (vs0 : List Value) (h : NfAt w0 n vs0) : Ret Tryz.prog 8 #[.agg vs0.toArray] w0 fun r w => NfR w0.heap.size (BareR n) r w ∧ Ext w0 w := by
 have h0 := h
 obtain ⟨ea, ec, pa, pc, xa, xc, rfl, hen, hep, hed⟩ := h
 obtain ⟨Z, hZ, hZl, hZg, hZc⟩ := edges_zip hed
 refine Ret_of Tryz.func8 rfl Tryz.ntmps8 (Nat.le_of_ble_eq_true rfl) ?_
 have E : Chg none1 w0 w0 := Chg.refl _ _
 refine Wp_seq_region ?_
 refine s_box (v := (.agg #[(I6 n.states), (I6 n.start), (.slice ea n.ends.length ec), (.slice pa n.eps.length pc), (.slice xa n.edges.length xc)])) (c := #[(I6 n.states), (I6 n.start), (.slice ea n.ends.length ec), (.slice pa n.eps.length pc), (.slice xa n.edges.length xc)]) (by decide) rfl rfl ?_
 intro bn wn Nn
 have Fn := Nn.ge E
 replace E := E.ext Nn.ext
 have Bn := Nn.blk
 refine s_alloc (c := #[(I6 0), (I6 0), (.slice none 0 0), (.slice none 0 0), (.slice none 0 0)]) (by decide) zer26 rfl ?_
 intro br wr Nr
 have Fr := Nr.ge E
 have Or_bn := Nr.lt Bn
 replace Bn := Nr.keep Bn
 replace E := E.ext Nr.ext
 have Br := Nr.blk
 refine qA (I6 0) rfl ?_
 refine WpL_nil (Wp_seq (Wp_seq_region ?_))
 refine qV (r_loadAgg (vs := [(I6 n.states), (I6 n.start), (.slice ea n.ends.length ec), (.slice pa n.eps.length pc), (.slice xa n.edges.length xc)]) rfl agg26 siz26 rfl (Bn.cells rfl)) ?_
 refine WpL_enter rfl rfl (by decide) (r_callF (vs := [(.agg #[(I6 n.states), (I6 n.start), (.slice ea n.ends.length ec), (.slice pa n.eps.length pc), (.slice xa n.edges.length xc)])]) Tryz.func11 kQ kQ rfl) (ncheck_c _ n _ (h0.ext E)) ?_
 rintro _ w9 ⟨rfl, X9⟩
 replace Bn := X9.keep Bn
 replace Br := X9.keep Br
 replace E := E.ext X9
 refine qA (I6 (chkN n)) rfl ?_
 refine WpL_nil (Wp_seq_region ?_)
 refine qM (I6 (chkN n)) rfl ?_
 refine qV (r_neq (k := .i64) (a := chkN n) (b := 0) rfl rfl) ?_
 refine WpL_nil ?_
 refine Wp_cond (b := decide ((chkN n : Int) ≠ 0)) rfl (fun hc0 => ?_) (fun hc0 => ?_)
 ·have khc0 := hc0
  replace hc0 := of_decide_eq_true hc0
  refine Wp_seq_region ?_
  refine qV (r_build (ps := []) (v := (.agg #[(I6 0), (I6 0), (.slice none 0 0), (.slice none 0 0), (.slice none 0 0)])) rfl (by kernel_rfl)) ?_
  refine qM (I6 (chkN n)) rfl ?_
  refine s_storeAgg (b := br) (o := 0) (c' := #[(I6 0), (I6 0), (.slice none 0 0), (.slice none 0 0), (.slice none 0 0)]) rfl rfl (by simp [Value.oneCell']) siz26 rfl Br (by first | (simp; done) | exact Nat.le_of_ble_eq_true rfl) rfl ?_
  intro w2 S2
  replace Bn := S2.keep (by omega) Bn
  replace E := S2.step E (by first | exact Or.inl (by omega) | exact Or.inr rfl | exact Or.inr (by assumption) | exact Or.inr (by simp) | exact Or.inr (by omega) | exact Or.inr (by dsimp only; omega))
  replace Br := S2.blk
  refine qA (I6 (chkN n)) rfl ?_
  refine WpL_nil (Wp_ret (thn_ret ?_))
  refine fin_agg_tmp Tryz.results8 (vs := [(.int .i64 0), (.int .i64 0), (.slice none 0 0), (.slice none 0 0), (.slice none 0 0)]) (b := br) (v' := (.int .i64 (chkN n))) rfl agg26 siz26 rfl (Br.cells rfl) rfl ?_
  exact ⟨nfR_zero (.inl ⟨hc0, rfl, rfl⟩), E⟩
 ·have khc0 := hc0
  replace hc0 := of_decide_eq_false hc0
  have hc1 : chkN n = 0 := by omega
  have ok := chkN_zero.1 hc1
  obtain ⟨N, hN⟩ : ∃ N : Nat, n.states = (N : Int) := by have := ok.s0; obtain ⟨a, ha⟩ := Int.eq_ofNat_of_zero_le (show 0 ≤ n.states by omega); exact ⟨a, ha⟩
  have hst := ok.st
  have hxl := ok.xl
  have hel := ok.el
  have hN5 : N ≤ 500 := by omega
  have h0N := h0
  rw [hN] at h0N
  have Bn2 := Bn
  rw [hN] at Bn2
  have hwn : bn < (w9).heap.size ∧ br < (w9).heap.size ∧ w0.heap.size ≤ (w9).heap.size := ⟨Bn2.lt, Br.lt, E.size⟩
  obtain ⟨n1, hn1e⟩ : ∃ n1, n1 = (w9).heap.size := ⟨_, rfl⟩
  refine Wp_skip (thn_normal (Wp_seq_region ?_))
  refine qF bn 0 0 rfl Tryz.underlying26 rfl siz3 rfl ?_
  refine qV (r_load (v := (I6 (N : Int))) rfl flat3 (Bn2.cell rfl)) ?_
  refine s_make (n := N) (z := (.slice none 0 0)) (bytes := 24) (by decide) Tryz.underlying77 siz24 byt24 zer24 rfl rfl rfl (by omega) (by omega) ?_
  intro bi wi Ni
  have Fi := Ni.ge E
  have Oi_bn := Ni.lt Bn2
  have Oi_br := Ni.lt Br
  replace Bn2 := Ni.keep Bn2
  replace Br := Ni.keep Br
  replace E := E.ext Ni.ext
  have Bi := Ni.blk
  refine qA (.slice (some ⟨bi, 0, none⟩) N N) rfl ?_
  refine WpL_nil (Wp_seq (Wp_seq_region ?_))
  refine qF bn 0 4 rfl Tryz.underlying26 rfl siz24 rfl ?_
  refine qV (r_load (v := (.slice xa n.edges.length xc)) rfl flat24 (Bn2.cell rfl)) ?_
  refine qV (r_lenSlice (ad := xa) (n := n.edges.length) (cap := xc) Tryz.underlying24 rfl) ?_
  refine qM (I6 0) rfl ?_
  refine WpL_nil (Wp_block ?_)
  have hbi1 : n1 ≤ bi := by have := Ni.eq; omega
  have hG0 := GSt.made (To := TEs) (e := TEd) (sz := 3) (base := n1) (n := N) Bi hbi1 (by omega) hbi1
  have hs0 : n1 ≤ wi.heap.size := by have := Ni.ext.size; omega
  refine Wp_loop (fun nn_ σ W3 => ∃ (k : Nat) (into : List (List EdR)) (vs : List Value), (∃ jj_, σ = upds jj_ [(1, (P6 bn 0)), (2, (P6 br 0)), (5, (.slice (some ⟨bi, 0, none⟩) N N)), (26, (.slice xa n.edges.length xc)), (27, (I6 (n.edges.length : Int))), (28, (I6 (k : Int)))]) ∧ Chg none1 w0 W3 ∧ Blk W3 bn #[(I6 (N : Int)), (I6 n.start), (.slice ea n.ends.length ec), (.slice pa n.eps.length pc), (.slice xa n.edges.length xc)] 26 ∧ Blk W3 br #[(I6 0), (I6 0), (.slice none 0 0), (.slice none 0 0), (.slice none 0 0)] 26 ∧ (k ≤ n.edges.length) ∧ (SelZ Z N k into) ∧ (GSt TEs TEd 3 W3 n1 (.slice (some ⟨bi, 0, none⟩) N N) vs (into.map zRow)) ∧ (n1 ≤ W3.heap.size) ∧ nn_ = n.edges.length - k) (n := n.edges.length - 0) ?_ ?_
  ·exact ⟨0, List.replicate N [], List.replicate N (.slice none 0 0), Fits.out ⟨rfl, rfl, rfl, rfl, rfl, rfl, trivial⟩, E, Bn2, Br, Nat.zero_le _, SelZ.start _ _, (by rw [zrow_rep]; exact hG0), hs0, rfl⟩
  ·clear E Bn2 Br
   rintro _ _ W3 ⟨k, into, vs, ⟨j3, rfl⟩, E, Bn2, Br, hk, hS, hG, hsz, rfl⟩
   refine Wp_seq_region ?_
   refine qV (r_lss (k := .i64) (a := (k : Int)) (b := (n.edges.length : Int)) rfl rfl) ?_
   refine WpL_nil (Wp_seq ?_)
   refine Wp_cond (b := decide (((k : Int) : Int) < (n.edges.length : Int))) rfl (fun hlt => ?_) (fun hlt => ?_)
   ·have khlt := hlt
    replace hlt := of_decide_eq_true hlt
    obtain ⟨z, hz⟩ := get_of_lt (l := Z) (i := k) (by omega)
    obtain ⟨hze, ra, rc, hz2, hspan⟩ := hZg k z hz
    have hem := ok.ed z.1 (List.mem_of_getElem? hze)
    obtain ⟨a, ha, haN⟩ := int_nat (x := z.1.1) (N := N) (by rw [← hN]; exact hem.1)
    obtain ⟨xb, xo, rfl, hxc⟩ := hZc xa _ _ rfl (by omega)
    have hcell := hxc k z hz
    rw [hz2, ha] at hcell
    obtain ⟨l0, hl0⟩ := get_of_lt (l := into) (i := a) (by have := hS.1; omega)
    have hlen := hS.len hl0
    have hGl : (into.map zRow).length = N := by rw [List.length_map]; exact hS.1
    obtain ⟨v1, hv1⟩ := get_of_lt (l := vs) (i := a) (by have := hG.l.len; omega)
    have hp1 : (into.map zRow)[a]? = some (l0.length, (l0.map (·.2)).flatten) := by rw [List.getElem?_map, hl0]; rfl
    have hinn := hG.l.inn a v1 _ hv1 hp1
    have hinl0 := hinn.lt
    obtain ⟨va, vc, rfl⟩ := own_form hinn
    refine Wp_skip (thn_normal (Wp_seq (Wp_block (Wp_seq_region ?_))))
    refine qV (r_indexSlice (b := xb) (o := xo) (len := n.edges.length) (cap := xc) (i := k) (o' := xo + k * 3) rfl rfl rfl Tryz.underlying24 siz39 (by omega) (by omega)) ?_
    refine qV (r_loadAgg (vs := [(I6 (a : Int)), (I6 z.1.2.1), (.slice ra z.1.2.2.length rc)]) rfl agg39 siz39 rfl (hcell.ext E)) ?_
    refine s_allocStore (v := (.agg #[(I6 (a : Int)), (I6 z.1.2.1), (.slice ra z.1.2.2.length rc)])) (c := #[(I6 (a : Int)), (I6 z.1.2.1), (.slice ra z.1.2.2.length rc)]) (n := 3) (by decide) zer39 rfl siz39 rfl rfl rfl (by simp [Value.oneCell']) ?_
    intro bx wx Nx
    have Fx := Nx.ge E
    have Ox_bn := Nx.lt Bn2
    have Ox_br := Nx.lt Br
    replace Bn2 := Nx.keep Bn2
    replace Br := Nx.keep Br
    replace hG := hG.ext Nx.ext
    replace hinn := own_ext hinn Nx.ext
    replace hsz := Nat.le_trans hsz Nx.ext.size
    replace E := E.ext Nx.ext
    have Bx := Nx.blk
    refine WpL_nil ?_
    obtain ⟨gg, hgg, _, hg2⟩ := own_cells (hG.l.on hGl.symm) (by omega)
    simp only [Option.some.injEq, Addr.mk.injEq, and_true] at hgg
    subst hgg
    have hbx := Nx.eq
    have hinl := hinn.lt
    obtain ⟨h0', hh0⟩ : ∃ h0, h0 = (wx).heap.size := ⟨_, rfl⟩
    obtain ⟨Fs5, hFs5⟩ : ∃ Fs : List (FactT ((fun y => (Value.slice va l0.length vc).ownBlock = some y))), Fs = [.eq (.slice (some ⟨bi, 0, none⟩) N N), .eq (P6 bx 0), .eq (I6 (a : Int)), .eq (.slice (some ⟨bi, 0, none⟩) N N), .eq (P6 bx 0), .eq (I6 (a : Int)), .eq (.pointer (some ⟨bi, 0 + a, none⟩)), .eq (.slice va l0.length vc), .eq (.agg #[(I6 (a : Int)), (I6 z.1.2.1), (.slice ra z.1.2.2.length rc)]), .till (litF TEd #[.int .i64 (a : Int), .int .i64 z.1.2.1, .slice ra z.1.2.2.length rc] 0) (litF_ext _ _ _), .own (appF n1 TEd 3 (l0.length + 1) ((l0.map (·.2)).flatten ++ [Value.int .i64 (a : Int), Value.int .i64 z.1.2.1, Value.slice ra z.1.2.2.length rc]) (.slice va l0.length vc) h0') (appF_ext _ _ _ _ _ _ _)] := ⟨_, rfl⟩
    refine Wp_dagT ((fun y => (Value.slice va l0.length vc).ownBlock = some y)) 11 10 [32, 33, 34, 35, 36, 37, 38, 39, 40, 41, 42] [[], [], [1], [], [], [4], [3, 5], [6], [], [8], [7, 9]] Fs5 hFs5 rfl mixed (by kernel_rfl) (by kernel_rfl) (by kernel_rfl) ?_ ?_
    ·intro wd X0
     refine DagStepsT.cons (fun s' w' X U H => ?_) ?_
     ·exact DoesT_val (r_move (v := (.slice (some ⟨bi, 0, none⟩) N N)) (U 5 rfl)) (Chg.refl _ _) rfl
     refine DagStepsT.cons (fun s' w' X U H => ?_) ?_
     ·exact DoesT_val (r_fieldAddr (b := bx) (o := 0) (o' := 0) (U 7 rfl) Tryz.underlying39 rfl siz3 rfl) (Chg.refl _ _) rfl
     refine DagStepsT.cons (fun s' w' X U H => ?_) ?_
     ·have e33 : s' 33 = (.pointer (some ⟨bx, 0, none⟩)) := H 1 rfl 33 (.eq (.pointer (some ⟨bx, 0, none⟩))) rfl (by rw [hFs5]; rfl)
      exact DoesT_val (r_load (v := (I6 (a : Int))) e33 flat3 ((Chg.keep X (fun h => by have := (hinl0 _ h).2; omega) (X0.keep Bx)).cell rfl)) (Chg.refl _ _) rfl
     refine DagStepsT.cons (fun s' w' X U H => ?_) ?_
     ·exact DoesT_val (r_move (v := (.slice (some ⟨bi, 0, none⟩) N N)) (U 5 rfl)) (Chg.refl _ _) rfl
     refine DagStepsT.cons (fun s' w' X U H => ?_) ?_
     ·exact DoesT_val (r_fieldAddr (b := bx) (o := 0) (o' := 0) (U 7 rfl) Tryz.underlying39 rfl siz3 rfl) (Chg.refl _ _) rfl
     refine DagStepsT.cons (fun s' w' X U H => ?_) ?_
     ·have e36 : s' 36 = (.pointer (some ⟨bx, 0, none⟩)) := H 4 rfl 36 (.eq (.pointer (some ⟨bx, 0, none⟩))) rfl (by rw [hFs5]; rfl)
      exact DoesT_val (r_load (v := (I6 (a : Int))) e36 flat3 ((Chg.keep X (fun h => by have := (hinl0 _ h).2; omega) (X0.keep Bx)).cell rfl)) (Chg.refl _ _) rfl
     refine DagStepsT.cons (fun s' w' X U H => ?_) ?_
     ·have e35 : s' 35 = (.slice (some ⟨bi, 0, none⟩) N N) := H 3 rfl 35 (.eq (.slice (some ⟨bi, 0, none⟩) N N)) rfl (by rw [hFs5]; rfl)
      have e37 : s' 37 = (.int .i64 ((a : Nat) : Int)) := H 5 rfl 37 (.eq (.int .i64 ((a : Nat) : Int))) rfl (by rw [hFs5]; rfl)
      exact DoesT_val (r_indexSlice (b := bi) (o := 0) (len := N) (cap := N) (i := a) (o' := 0 + a) e35 e37 rfl Tryz.underlying77 siz24 (by omega) (by omega)) (Chg.refl _ _) rfl
     refine DagStepsT.cons (fun s' w' X U H => ?_) ?_
     ·have e38 : s' 38 = (.pointer (some ⟨bi, 0 + a, none⟩)) := H 6 rfl 38 (.eq (.pointer (some ⟨bi, 0 + a, none⟩))) rfl (by rw [hFs5]; rfl)
      exact DoesT_val (r_load (v := (.slice va l0.length vc)) e38 flat24 (by have h1 := hg2 a _ hv1; exact (Ext.cell X (X0.cell h1)))) (Chg.refl _ _) rfl
     refine DagStepsT.cons (fun s' w' X U H => ?_) ?_
     ·exact DoesT_val (r_loadAgg (vs := [(I6 (a : Int)), (I6 z.1.2.1), (.slice ra z.1.2.2.length rc)]) (U 7 rfl) agg39 siz39 rfl ((Chg.keep X (fun h => by have := (hinl0 _ h).2; omega) (X0.keep Bx)).cells rfl)) (Chg.refl _ _) rfl
     refine DagStepsT.cons (fun s' w' X U H => ?_) ?_
     ·have e40 : s' 40 = (.agg #[(.int .i64 ((a : Nat) : Int)), (.int .i64 z.1.2.1), (.slice ra z.1.2.2.length rc)]) := H 8 rfl 40 (.eq (.agg #[(.int .i64 ((a : Nat) : Int)), (.int .i64 z.1.2.1), (.slice ra z.1.2.2.length rc)])) rfl (by rw [hFs5]; rfl)
      exact DoesT_lit Tryz.underlying24 siz39 zer39 e40 (by decide) (by decide) (by kernel_rfl) (Nat.zero_le _)
     refine DagStepsT.cons (fun s' w' X U H => ?_) ?_
     ·have e39 : s' 39 = (.slice va l0.length vc) := H 7 rfl 39 (.eq (.slice va l0.length vc)) rfl (by rw [hFs5]; rfl)
      obtain ⟨b41, e41, B41, _⟩ := (show (.till (litF TEd #[.int .i64 ((a : Nat) : Int), .int .i64 z.1.2.1, .slice ra z.1.2.2.length rc] 0) (litF_ext _ _ _) : FactT ((fun y => (Value.slice va l0.length vc).ownBlock = some y))).In (s' 41) w' from FactT.at_false (H 9 rfl 41 (.till (litF TEd #[.int .i64 ((a : Nat) : Int), .int .i64 z.1.2.1, .slice ra z.1.2.2.length rc] 0) (litF_ext _ _ _)) rfl (by rw [hFs5]; rfl)))
      exact DoesT_append Tryz.underlying24 siz39 byt39 zer39 rfl (by decide) e39 (own_ext (own_ext hinn X0) X) e41 rfl (B41.cells rfl) (by simp [Value.oneCell']) (by unfold maxLen; omega) (by omega) (by have := X0.size; have := X.size; omega) (fun y h => h) (by have := X0.size; have := X.size; omega)
     exact DagStepsT.nil
    ·intro s' wd5 w5 X0 X5 U H
     have e32 : s' 32 = (.slice (some ⟨bi, 0, none⟩) N N) := H 0 32 (.eq (.slice (some ⟨bi, 0, none⟩) N N)) rfl (by rw [hFs5]; rfl)
     have e34 : s' 34 = (.int .i64 ((a : Nat) : Int)) := H 2 34 (.eq (.int .i64 ((a : Nat) : Int))) rfl (by rw [hFs5]; rfl)
     obtain ⟨⟨a42, c42, e42⟩, O42, D42⟩ := (show (.own (appF n1 TEd 3 (l0.length + 1) ((l0.map (·.2)).flatten ++ [Value.int .i64 ((a : Nat) : Int), Value.int .i64 z.1.2.1, Value.slice ra z.1.2.2.length rc]) (.slice va l0.length vc) h0') (appF_ext _ _ _ _ _ _ _) : FactT ((fun y => (Value.slice va l0.length vc).ownBlock = some y))).In (s' 42) w5 from H 10 42 (.own (appF n1 TEd 3 (l0.length + 1) ((l0.map (·.2)).flatten ++ [Value.int .i64 ((a : Nat) : Int), Value.int .i64 z.1.2.1, Value.slice ra z.1.2.2.length rc]) (.slice va l0.length vc) h0') (appF_ext _ _ _ _ _ _ _)) rfl (by rw [hFs5]; rfl))
     obtain ⟨j5, rfl⟩ := Fits.out (σ := s') (l := [(1, (.pointer (some ⟨bn, 0, none⟩))), (2, (.pointer (some ⟨br, 0, none⟩))), (5, (.slice (some ⟨bi, 0, none⟩) N N)), (26, (.slice (some ⟨xb, xo, none⟩) n.edges.length xc)), (27, (.int .i64 ((n.edges.length : Nat) : Int))), (28, (.int .i64 ((k : Nat) : Int))), (32, (.slice (some ⟨bi, 0, none⟩) N N)), (34, (.int .i64 ((a : Nat) : Int))), (42, (.slice a42 (l0.length + 1) c42))]) ⟨U 1 rfl, U 2 rfl, U 5 rfl, U 26 rfl, U 27 rfl, U 28 rfl, e32, e34, e42, trivial⟩
     clear U H
     replace Bn2 := Chg.keep X5 (fun h => by have := (hinl _ h).1; omega) (X0.keep Bn2)
     replace Br := Chg.keep X5 (fun h => by have := (hinl _ h).1; omega) (X0.keep Br)
     replace Bx := Chg.keep X5 (fun h => by have := (hinl0 _ h).2; omega) (X0.keep Bx)
     have hXm := Chg.trans (Ext.chg X0) X5
     replace E := (E.ext X0).step X5 (fun y hy h => by have := (hinl _ h).1; omega)
     obtain ⟨cur, hBo, hcs⟩ := own_blkG (own_chg (hG.l.on hGl.symm) hXm (fun b hb hm => hG.l.apo a _ _ hv1 hm hb))
     have hs9 := Nat.le_trans hsz hXm.size
     have hPx : True := trivial
     have hBo0 := hBo
     refine qV (r_indexSlice (b := bi) (o := 0) (len := N) (cap := N) (i := a) (o' := 0 + a) rfl rfl rfl Tryz.underlying77 siz24 (by omega) (by omega)) ?_
     refine s_store (b := bi) (o := 0 + a) (c' := cur.setIfInBounds (0 + a) (.slice a42 (l0.length + 1) c42)) (v := (.slice a42 (l0.length + 1) c42)) rfl rfl rfl siz24 hBo (by omega) (rfl) ?_
     intro w6 S6
     replace hPx := S6
     replace hs9 := Nat.le_trans hs9 S6.chg.size
     replace Bn2 := S6.keep (by omega) Bn2
     replace Br := S6.keep (by omega) Br
     replace E := S6.step E (by first | exact Or.inl (by omega) | exact Or.inr rfl | exact Or.inr (by assumption) | exact Or.inr (by simp) | exact Or.inr (by omega) | exact Or.inr (by dsimp only; omega))
     replace hBo := S6.blk
     have hz3 : z.2 = [.int .i64 ((a : Nat) : Int), .int .i64 z.1.2.1, .slice ra z.1.2.2.length rc] := by rw [hz2, ha]
     have hG9 := hG.grow hGl.symm hv1 hp1 (m' := l0.length + 1) (xs' := ((l0 ++ [z]).map (·.2)).flatten) (v' := .slice a42 (l0.length + 1) c42) (by rw [e42] at O42; rw [List.map_append, List.flatten_append]; simpa [hz3] using O42) hXm (by rw [e42, hh0] at D42; exact D42) hBo0 (by simpa using hPx)
     refine WpL_nil (inB_normal (thn_normal (Wp_region ?_)))
     refine qV (r_add (k := .i64) (a := (k : Int)) (b := 1) (c := (k : Int) + 1) rfl rfl (wI64 (by omega))) ?_
     refine qM (I6 ((k : Int) + 1)) rfl ?_
     refine WpL_nil (thn_normal ?_)
     exact ⟨n.edges.length - (k + 1), by omega, k + 1, into.set a (l0 ++ [z]), vs.set a (.slice a42 (l0.length + 1) c42), Fits.out ⟨rfl, rfl, rfl, rfl, rfl, rfl, trivial⟩, E, Bn2, Br, (by omega), hS.add hz ha hl0, (by rw [List.map_set]; simpa [zRow] using hG9), hs9, rfl⟩
   ·have khlt := hlt
    replace hlt := of_decide_eq_false hlt
    have hSk : Z.length ≤ k := by omega
    obtain ⟨n3, hn3e⟩ : ∃ n3, n3 = (W3).heap.size := ⟨_, rfl⟩
    have hn13 : n1 ≤ n3 := by omega
    have E9 : Chg none1 W3 W3 := Chg.refl _ _
    refine Wp_exit (thn_exit (thn_exit (inB_here (thn_normal (Wp_seq_region ?_)))))
    refine qF bn 0 0 rfl Tryz.underlying26 rfl siz3 rfl ?_
    refine qV (r_load (v := (I6 (N : Int))) rfl flat3 (Bn2.cell rfl)) ?_
    refine qF bn 0 1 rfl Tryz.underlying26 rfl siz3 rfl ?_
    refine qV (r_load (v := (I6 n.start)) rfl flat3 (Bn2.cell rfl)) ?_
    refine qV (r_build (ps := [(0, (I6 (N : Int))), (1, (I6 n.start))]) (v := (.agg #[(I6 (N : Int)), (I6 n.start), (.slice none 0 0), (.slice none 0 0), (.slice none 0 0)])) rfl (by kernel_rfl)) ?_
    refine s_allocStore (v := (.agg #[(I6 (N : Int)), (I6 n.start), (.slice none 0 0), (.slice none 0 0), (.slice none 0 0)])) (c := #[(I6 (N : Int)), (I6 n.start), (.slice none 0 0), (.slice none 0 0), (.slice none 0 0)]) (n := 5) (by decide) zer26 rfl siz26 rfl rfl rfl (by simp [Value.oneCell']) ?_
    intro bo wo No
    have Fo := No.ge E
    have Fo_E9 := No.ge E9
    have Oo_bn := No.lt Bn2
    have Oo_br := No.lt Br
    replace Bn2 := No.keep Bn2
    replace Br := No.keep Br
    replace E := E.ext No.ext
    have Bo := No.blk
    replace E9 := E9.ext No.ext
    refine WpL_nil (Wp_seq (Wp_seq_region ?_))
    refine qF bn 0 0 rfl Tryz.underlying26 rfl siz3 rfl ?_
    refine qV (r_load (v := (I6 (N : Int))) rfl flat3 (Bn2.cell rfl)) ?_
    refine qM (I6 0) rfl ?_
    refine WpL_nil (Wp_block ?_)
    obtain ⟨z4, hz4e⟩ : ∃ z4, z4 = (wo).heap.size := ⟨_, rfl⟩
    have hb4 : bn < z4 ∧ br < z4 ∧ bo < z4 ∧ n3 ≤ bo ∧ w0.heap.size ≤ z4 := ⟨by rw [hz4e]; exact Bn2.lt, by rw [hz4e]; exact Br.lt, by rw [hz4e]; exact Bo.lt, by have := No.eq; omega, by rw [hz4e]; exact E.size⟩
    refine Wp_loop (fun nn_ σ W7 => ∃ (s : Nat) (es : List Int) (xs : List Ed) (F : Nat → Prop) (ea2 : Option Addr) (ec2 m : Nat) (xa2 : Option Addr) (xc2 x : Nat), (∃ jj_, σ = upds jj_ [(1, (P6 bn 0)), (2, (P6 br 0)), (5, (.slice (some ⟨bi, 0, none⟩) N N)), (8, (P6 bo 0)), (51, (I6 (N : Int))), (52, (I6 (s : Int)))]) ∧ Chg none1 w0 W7 ∧ Chg none1 W3 W7 ∧ Blk W7 bn #[(I6 (N : Int)), (I6 n.start), (.slice ea n.ends.length ec), (.slice pa n.eps.length pc), (.slice xa n.edges.length xc)] 26 ∧ Blk W7 br #[(I6 0), (I6 0), (.slice none 0 0), (.slice none 0 0), (.slice none 0 0)] 26 ∧ Blk W7 bo (#[Value.int .i64 (N : Int), .int .i64 n.start, .slice ea2 m ec2, .slice none 0 0, .slice xa2 x xc2]) 26 ∧ (s ≤ N) ∧ (m = es.length) ∧ (x = xs.length) ∧ (x ≤ 20000) ∧ (W7.ownsRow z4 TDI 1 (.slice ea2 m ec2) m (es.map (Value.int .i64))) ∧ (EdB F W7 z4 (.slice xa2 x xc2) xs) ∧ (∀ y, (Value.slice ea2 m ec2).ownBlock = some y → ¬ F y) ∧ (BareK n s es xs) ∧ (z4 ≤ W7.heap.size) ∧ nn_ = N - s) (n := N - 0) ?_ ?_
    ·exact ⟨0, [], [], _, none, 0, 0, none, 0, 0, Fits.out ⟨rfl, rfl, rfl, rfl, rfl, rfl, trivial⟩, E, E9, Bn2, Br, Bo, Nat.zero_le _, rfl, rfl, (by omega), World.ownsRow_nil _ _ _ _, EdB.start _ _, (fun _ _ f => f), .nil, (by omega), rfl⟩
    ·clear E E9 Bn2 Br Bo
     rintro _ _ W7 ⟨s, es, xs, F, ea2, ec2, m, xa2, xc2, x, ⟨j7, rfl⟩, E, E9, Bn2, Br, Bo, hs, hm, hx, hxb, hE, hX, hEF, hK, hz, rfl⟩
     refine Wp_seq_region ?_
     refine qV (r_lss (k := .i64) (a := (s : Int)) (b := (N : Int)) rfl rfl) ?_
     refine WpL_nil (Wp_seq ?_)
     refine Wp_cond (b := decide (((s : Int) : Int) < (N : Int))) rfl (fun hlt2 => ?_) (fun hlt2 => ?_)
     ·have khlt2 := hlt2
      replace hlt2 := of_decide_eq_true hlt2
      have hml : m ≤ 500 := by have := hK.len; omega
      obtain ⟨zs, hzs⟩ : ∃ zs, zs = (W7).heap.size := ⟨_, rfl⟩
      have hz0 : z4 ≤ zs := by rw [hzs]; exact hz
      have hXl : ∀ k, (Value.slice xa2 x xc2).ownBlock = some k → k < zs := fun k hk => by obtain ⟨⟨rows, h1, _⟩, _⟩ := hX; rw [hzs]; exact (h1.lt k hk).2
      have hEl : ∀ k, (Value.slice ea2 m ec2).ownBlock = some k → k < zs := fun k hk => by rw [hzs]; exact (hE.lt k hk).2
      refine Wp_skip (thn_normal (Wp_seq (Wp_block (Wp_seq_region ?_))))
      refine qM (I6 (s : Int)) rfl ?_
      refine qA (I6 (s : Int)) rfl ?_
      refine WpL_nil (Wp_seq_region ?_)
      refine qV (r_loadAgg (vs := [(I6 (N : Int)), (I6 n.start), (.slice ea n.ends.length ec), (.slice pa n.eps.length pc), (.slice xa n.edges.length xc)]) rfl agg26 siz26 rfl (Bn2.cells rfl)) ?_
      refine qM (I6 (s : Int)) rfl ?_
      refine s_buildSlice (ps := [(0, (I6 (s : Int)))]) (c := #[(I6 (s : Int))]) (by decide) rfl Tryz.underlying22 siz3 zer3 (by decide) (by decide) (by kernel_rfl) ?_
      intro bq wq Nq
      have Fq := Nq.ge E
      have Fq_E9 := Nq.ge E9
      have Oq_bn := Nq.lt Bn2
      have Oq_br := Nq.lt Br
      have Oq_bo := Nq.lt Bo
      replace Bn2 := Nq.keep Bn2
      replace Br := Nq.keep Br
      replace Bo := Nq.keep Bo
      replace hE := own_ext hE Nq.ext
      replace hX := hX.ext Nq.ext
      replace hz := Nat.le_trans hz Nq.ext.size
      replace E := E.ext Nq.ext
      have Bq := Nq.blk
      replace E9 := E9.ext Nq.ext
      refine WpL_enter rfl rfl (by decide) (r_callF (vs := [(.agg #[(I6 (N : Int)), (I6 n.start), (.slice ea n.ends.length ec), (.slice pa n.eps.length pc), (.slice xa n.edges.length xc)]), (.slice (some ⟨bq, 0, none⟩) 1 1)]) Tryz.func33 kQ kQ rfl) (nclosure_c _ n _ N _ [(s : Int)] ok hN (h0N.ext E) (ints_of_blk [(s : Int)] Bq (by simp) (by simp)) (fun t ht => by rw [List.mem_singleton.1 ht]; omega)) ?_
      rintro _ w29 ⟨⟨M0, g0, rfl, hg0, hM0l, hM0, hB0⟩, X29⟩
      replace Bn2 := X29.keep Bn2
      replace Br := X29.keep Br
      replace Bo := X29.keep Bo
      replace Bq := X29.keep Bq
      replace hE := own_ext hE X29
      replace hX := hX.ext X29
      replace hz := Nat.le_trans hz X29.size
      replace E := E.ext X29
      replace E9 := E9.ext X29
      have hgz : zs ≤ g0 := by have := Nq.ext.size; omega
      refine s_allocStore (v := (.slice (some ⟨g0, 0, none⟩) N N)) (c := #[(.slice (some ⟨g0, 0, none⟩) N N)]) (n := 1) (by decide) zer72 rfl siz72 rfl rfl rfl (by simp [Value.oneCell']) ?_
      intro bc wc Nc
      have Fc := Nc.ge E
      have Fc_E9 := Nc.ge E9
      have Oc_bn := Nc.lt Bn2
      have Oc_br := Nc.lt Br
      have Oc_bo := Nc.lt Bo
      have Oc_g0 := Nc.lt hB0
      replace Bn2 := Nc.keep Bn2
      replace Br := Nc.keep Br
      replace Bo := Nc.keep Bo
      replace hB0 := Nc.keep hB0
      replace hE := own_ext hE Nc.ext
      replace hX := hX.ext Nc.ext
      replace hz := Nat.le_trans hz Nc.ext.size
      replace E := E.ext Nc.ext
      have Bc := Nc.blk
      replace E9 := E9.ext Nc.ext
      refine WpL_nil (Wp_seq_region ?_)
      refine qA (.slice none 0 0) rfl ?_
      refine WpL_nil (Wp_seq (Wp_seq_region ?_))
      refine qV (r_load (v := (.slice (some ⟨g0, 0, none⟩) N N)) rfl flat72 (Bc.cell rfl)) ?_
      refine WpL_enter rfl rfl (by decide) (r_callF (vs := [(.slice (some ⟨g0, 0, none⟩) N N)]) Tryz.func32 kQ kQ rfl) (nlist_c _ g0 N M0 hB0 hM0l (by omega)) ?_
      rintro _ w39 ⟨⟨qa, qc, rfl, hQ⟩, X39⟩
      replace Bn2 := X39.keep Bn2
      replace Br := X39.keep Br
      replace Bo := X39.keep Bo
      replace hB0 := X39.keep hB0
      replace Bc := X39.keep Bc
      replace hE := own_ext hE X39
      replace hX := hX.ext X39
      replace hz := Nat.le_trans hz X39.size
      replace E := E.ext X39
      replace E9 := E9.ext X39
      have hbcz : zs ≤ bc := by have := Nc.eq; have := X29.size; have := Nq.ext.size; omega
      have hqlen := lstM_len M0 N
      have hqf := lstM_free hM0l hM0 (fun t ht => by have := cloP_rng ok (fun u hu => by rw [List.mem_singleton.1 hu]; omega) ht; omega)
      have hqm : ∀ t, t ∈ lstM M0 N ↔ cloP n.eps (fun t => t = ((s : Nat) : Int)) t := fun t => (hqf.2 t).trans (cloP_congr (fun y => by simp) t)
      have hqn : (lstM M0 N).Nodup := List.nodup_iff_pairwise_ne.2 ((lstM_lt M0 N).imp fun h => by omega)
      have hqI := own_intsD hQ rfl
      obtain ⟨zl, hzle⟩ : ∃ zl, zl = (w39).heap.size := ⟨_, rfl⟩
      have hbl : bc < zl ∧ g0 < zl ∧ z4 ≤ zl := ⟨by rw [hzle]; exact Bc.lt, by rw [hzle]; exact hB0.lt, by rw [hzle]; exact hz⟩
      have E5 : Chg none1 w39 w39 := Chg.refl _ _
      refine qV (r_lenSlice (ad := qa) (n := (lstM M0 N).length) (cap := qc) Tryz.underlying22 rfl) ?_
      refine qM (I6 0) rfl ?_
      refine WpL_nil (Wp_block ?_)
      refine Wp_loop (fun nn_ σ W9 => ∃ (i : Nat) (L : List Ed) (F2 : Nat → Prop) (la : Option Addr) (lc l : Nat), (∃ jj_, σ = upds jj_ [(1, (P6 bn 0)), (2, (P6 br 0)), (5, (.slice (some ⟨bi, 0, none⟩) N N)), (8, (P6 bo 0)), (9, (I6 (s : Int))), (10, (P6 bc 0)), (51, (I6 (N : Int))), (52, (I6 (s : Int))), (60, (.slice qa ((lstM M0 N).length) qc)), (61, (I6 (((lstM M0 N).length : Nat) : Int))), (62, (I6 (i : Int))), (11, (.slice la l lc))]) ∧ Chg none1 w0 W9 ∧ Chg none1 W3 W9 ∧ Chg none1 w39 W9 ∧ Blk W9 bn #[(I6 (N : Int)), (I6 n.start), (.slice ea n.ends.length ec), (.slice pa n.eps.length pc), (.slice xa n.edges.length xc)] 26 ∧ Blk W9 br #[(I6 0), (I6 0), (.slice none 0 0), (.slice none 0 0), (.slice none 0 0)] 26 ∧ Blk W9 bo (#[Value.int .i64 (N : Int), .int .i64 n.start, .slice ea2 m ec2, .slice none 0 0, .slice xa2 x xc2]) 26 ∧ Blk W9 g0 ((M0.map Value.bool).toArray) 4 ∧ Blk W9 bc #[(.slice (some ⟨g0, 0, none⟩) N N)] 72 ∧ (i ≤ (lstM M0 N).length) ∧ (l = L.length) ∧ (EdB F2 W9 zl (.slice la l lc) L) ∧ (GetE n (s : Int) ((lstM M0 N).take i) L) ∧ (zl ≤ W9.heap.size) ∧ nn_ = (lstM M0 N).length - i) (n := (lstM M0 N).length - 0) ?_ ?_
      ·exact ⟨0, [], _, none, 0, 0, Fits.out ⟨rfl, rfl, rfl, rfl, rfl, rfl, rfl, rfl, rfl, rfl, rfl, rfl, trivial⟩, E, E9, E5, Bn2, Br, Bo, hB0, Bc, Nat.zero_le _, rfl, EdB.start _ _, (by rw [List.take_zero]; exact GetE.start _ _), (by omega), rfl⟩
      ·clear E E9 E5 Bn2 Br Bo hB0 Bc
       rintro _ _ W9 ⟨i, L, F2, la, lc, l, ⟨j9, rfl⟩, E, E9, E5, Bn2, Br, Bo, hB0, Bc, hi, hl, hL, hLg, hzl2, rfl⟩
       refine Wp_seq_region ?_
       refine qV (r_lss (k := .i64) (a := (i : Int)) (b := (((lstM M0 N).length : Nat) : Int)) rfl rfl) ?_
       refine WpL_nil (Wp_seq ?_)
       refine Wp_cond (b := decide (((i : Int) : Int) < (((lstM M0 N).length : Nat) : Int))) rfl (fun hlt3 => ?_) (fun hlt3 => ?_)
       ·have khlt3 := hlt3
        replace hlt3 := of_decide_eq_true hlt3
        obtain ⟨t, ht⟩ := get_of_lt (l := lstM M0 N) (i := i) (by omega)
        obtain ⟨c, rfl, hcN, _⟩ := lstM_mem.1 (List.mem_of_getElem? ht)
        obtain ⟨qb, qo, rfl, hqc⟩ := ints_cells hqI (by omega)
        obtain ⟨zt, hzt⟩ := get_of_lt (l := into) (i := c) (by have := hS.1; omega)
        have hzf := hS.full hSk hzt
        have hzlb := hS.len hzt
        have hGl : (into.map zRow).length = N := by rw [List.length_map]; exact hS.1
        obtain ⟨v1, hv1⟩ := get_of_lt (l := vs) (i := c) (by have := hG.l.len; omega)
        have hp1 : (into.map zRow)[c]? = some (zt.length, (zt.map (·.2)).flatten) := by rw [List.getElem?_map, hzt]; rfl
        have hinn := hG.l.inn c v1 _ hv1 hp1
        obtain ⟨va, vc, rfl⟩ := own_form hinn
        obtain ⟨gg, hgg, _, hg2⟩ := own_cells (hG.l.on hGl.symm) (by omega)
        simp only [Option.some.injEq, Addr.mk.injEq, and_true] at hgg
        subst hgg
        have hLadd := hLg.add hZ (c := c) (fun h9 => by have h8 := List.nodup_iff_pairwise_ne.1 hqn; obtain ⟨i9, hi9⟩ := List.getElem?_of_mem h9; have hlt9 := lt_of_get hi9; rw [List.length_take] at hlt9; rw [List.getElem?_take, if_pos (by omega)] at hi9; have := (List.getElem?_inj (by omega) hqn).1 (hi9.trans ht.symm); omega)
        have hLlen := hLadd.le
        rw [← hzf] at hLadd hLlen
        rw [List.length_append, List.length_map] at hLlen
        refine Wp_skip (thn_normal (Wp_seq (Wp_block (Wp_seq_region ?_))))
        refine qV (r_indexSlice (b := qb) (o := qo) (len := (lstM M0 N).length) (cap := qc) (i := i) (o' := qo + i) rfl rfl rfl Tryz.underlying22 siz3 (by omega) (by omega)) ?_
        refine qV (r_load (v := (I6 (c : Int))) rfl flat3 (E5.cell (fun f => f) (hqc i _ ht))) ?_
        refine qA (I6 (c : Int)) rfl ?_
        refine WpL_nil (Wp_seq_region ?_)
        refine qM (.slice (some ⟨bi, 0, none⟩) N N) rfl ?_
        refine qM (I6 (c : Int)) rfl ?_
        refine qV (r_indexSlice (b := bi) (o := 0) (len := N) (cap := N) (i := c) (o' := 0 + c) rfl rfl (by omega) Tryz.underlying77 siz24 (by omega) (by omega)) ?_
        refine qV (r_load (v := (.slice va zt.length vc)) rfl flat24 (E9.cell (fun f => f) (hg2 c _ hv1))) ?_
        refine qV (r_lenSlice (ad := va) (n := zt.length) (cap := vc) Tryz.underlying24 rfl) ?_
        refine qM (I6 0) rfl ?_
        refine WpL_nil (Wp_block ?_)
        refine Wp_loop (fun nn_ σ W11 => ∃ (j : Nat) (L2 : List Ed) (F3 : Nat → Prop) (la3 : Option Addr) (lc3 l3 : Nat), (∃ jj_, σ = upds jj_ [(1, (P6 bn 0)), (2, (P6 br 0)), (5, (.slice (some ⟨bi, 0, none⟩) N N)), (8, (P6 bo 0)), (9, (I6 (s : Int))), (10, (P6 bc 0)), (51, (I6 (N : Int))), (52, (I6 (s : Int))), (60, (.slice (some ⟨qb, qo, none⟩) ((lstM M0 N).length) qc)), (61, (I6 (((lstM M0 N).length : Nat) : Int))), (62, (I6 (i : Int))), (69, (.slice va zt.length vc)), (70, (I6 (zt.length : Int))), (71, (I6 (j : Int))), (11, (.slice la3 l3 lc3))]) ∧ Chg none1 w0 W11 ∧ Chg none1 W3 W11 ∧ Chg none1 w39 W11 ∧ Blk W11 bn #[(I6 (N : Int)), (I6 n.start), (.slice ea n.ends.length ec), (.slice pa n.eps.length pc), (.slice xa n.edges.length xc)] 26 ∧ Blk W11 br #[(I6 0), (I6 0), (.slice none 0 0), (.slice none 0 0), (.slice none 0 0)] 26 ∧ Blk W11 bo (#[Value.int .i64 (N : Int), .int .i64 n.start, .slice ea2 m ec2, .slice none 0 0, .slice xa2 x xc2]) 26 ∧ Blk W11 g0 ((M0.map Value.bool).toArray) 4 ∧ Blk W11 bc #[(.slice (some ⟨g0, 0, none⟩) N N)] 72 ∧ (j ≤ zt.length) ∧ (l3 = L2.length) ∧ (EdB F3 W11 zl (.slice la3 l3 lc3) L2) ∧ (L2 = L ++ (zt.take j).map (getE (s : Int))) ∧ (zl ≤ W11.heap.size) ∧ nn_ = zt.length - j) (n := zt.length - 0) ?_ ?_
        ·exact ⟨0, L, F2, la, lc, l, Fits.out ⟨rfl, rfl, rfl, rfl, rfl, rfl, rfl, rfl, rfl, rfl, rfl, rfl, rfl, rfl, rfl, trivial⟩, E, E9, E5, Bn2, Br, Bo, hB0, Bc, Nat.zero_le _, hl, hL, (by simp), hzl2, rfl⟩
        ·clear E E9 E5 Bn2 Br Bo hB0 Bc
         rintro _ _ W11 ⟨j, L2, F3, la3, lc3, l3, ⟨j11, rfl⟩, E, E9, E5, Bn2, Br, Bo, hB0, Bc, hj, hl3, hL3, hLe, hzl3, rfl⟩
         refine Wp_seq_region ?_
         refine qV (r_lss (k := .i64) (a := (j : Int)) (b := (zt.length : Int)) rfl rfl) ?_
         refine WpL_nil (Wp_seq ?_)
         refine Wp_cond (b := decide (((j : Int) : Int) < (zt.length : Int))) rfl (fun hlt4 => ?_) (fun hlt4 => ?_)
         ·have khlt4 := hlt4
          replace hlt4 := of_decide_eq_true hlt4
          obtain ⟨y, hy⟩ := get_of_lt (l := zt) (i := j) (by omega)
          have hl3b : l3 ≤ 20000 := by rw [hl3, hLe, List.length_append, List.length_map, List.length_take]; omega
          have hyZ : y ∈ Z := by have h9 := List.mem_of_getElem? hy; rw [hzf] at h9; exact (List.mem_filter.1 h9).1
          obtain ⟨iy, hiy⟩ := List.getElem?_of_mem hyZ
          obtain ⟨hye, ra, rc, hy2, hysp⟩ := hZg iy y hiy
          have hsl : y.1.2.2.length ≤ 16 := (set_lo (ok.ed _ (List.mem_of_getElem? hye)).2.2).1
          have h39 : ∀ r ∈ zt.map (·.2), r.length = 3 := fun r hr => by obtain ⟨u, hu, rfl⟩ := List.mem_map.1 hr; rw [hzf] at hu; obtain ⟨iu, hiu⟩ := List.getElem?_of_mem (List.mem_filter.1 hu).1; obtain ⟨_, _, _, h8, _⟩ := hZg iu u hiu; rw [h8]; rfl
          have hinE := own_ext hinn E9
          obtain ⟨vb, rfl, _, _⟩ := own_cells hinn (by omega)
          have hrow := own_row3 hinE h39 (by omega) (i := j) (r := y.2) (by rw [List.getElem?_map, hy]; rfl)
          rw [hy2] at hrow
          have hlt9 : ∀ k, (Value.slice la3 l3 lc3).ownBlock = some k → k < (W11).heap.size := fun k hk => by obtain ⟨⟨rows, h1, _⟩, _⟩ := hL3; exact (h1.lt k hk).2
          have E6 : Chg none1 W11 W11 := Chg.refl _ _
          refine Wp_skip (thn_normal (Wp_seq (Wp_block (Wp_seq_region ?_))))
          refine qV (r_indexSlice (b := vb) (o := 0) (len := zt.length) (cap := vc) (i := j) (o' := 0 + j * 3) rfl rfl rfl Tryz.underlying24 siz39 (by omega) (by omega)) ?_
          refine qV (r_loadAgg (vs := [(I6 y.1.1), (I6 y.1.2.1), (.slice ra y.1.2.2.length rc)]) rfl agg39 siz39 rfl (by rw [Nat.zero_add]; exact hrow)) ?_
          refine s_allocStore (v := (.agg #[(I6 y.1.1), (I6 y.1.2.1), (.slice ra y.1.2.2.length rc)])) (c := #[(I6 y.1.1), (I6 y.1.2.1), (.slice ra y.1.2.2.length rc)]) (n := 3) (by decide) zer39 rfl siz39 rfl rfl rfl (by simp [Value.oneCell']) ?_
          intro bv wv Nv
          have Fv := Nv.ge E
          have Fv_E9 := Nv.ge E9
          have Fv_E5 := Nv.ge E5
          have Fv_E6 := Nv.ge E6
          have Ov_bn := Nv.lt Bn2
          have Ov_br := Nv.lt Br
          have Ov_bo := Nv.lt Bo
          have Ov_g0 := Nv.lt hB0
          have Ov_bc := Nv.lt Bc
          replace Bn2 := Nv.keep Bn2
          replace Br := Nv.keep Br
          replace Bo := Nv.keep Bo
          replace hB0 := Nv.keep hB0
          replace Bc := Nv.keep Bc
          replace E := E.ext Nv.ext
          have Bv := Nv.blk
          replace E9 := E9.ext Nv.ext
          replace E5 := E5.ext Nv.ext
          replace E6 := E6.ext Nv.ext
          refine WpL_nil ?_
          replace hL3 := hL3.ext E6
          replace hzl3 := Nat.le_trans hzl3 E6.size
          obtain ⟨⟨rows, hownX, hrows⟩, hxF, hFl⟩ := hL3
          rw [← hl3] at hownX
          obtain ⟨z1, hz1⟩ : ∃ z1, z1 = (wv).heap.size := ⟨_, rfl⟩
          have hxu : ¬ (Value.slice la3 l3 lc3).ownBlock = some bv := fun h => by have := hlt9 _ h; have := Nv.eq; omega
          have hz_13 : w0.heap.size ≤ wv.heap.size := E.size
          have lz_13_bn : bn < wv.heap.size := Bn2.lt
          have lz_13_br : br < wv.heap.size := Br.lt
          have lz_13_bo : bo < wv.heap.size := Bo.lt
          have lz_13_g0 : g0 < wv.heap.size := hB0.lt
          have lz_13_bc : bc < wv.heap.size := Bc.lt
          have lz_13_bv : bv < wv.heap.size := Bv.lt
          obtain ⟨Fs13, hFs13⟩ : ∃ Fs : List FctS, Fs = [(eF (.slice la3 l3 lc3)), (eF (I6 (s : Int))), (eF (P6 bv 1)), (eF (I6 y.1.2.1)), (eF (P6 bv 2)), (eF (.slice ra y.1.2.2.length rc)), (fun _ _ => cloG y.1.2.2 z1), (fun _ _ => edG (s : Int) y.1.2.1 y.1.2.2 z1), (fun _ _ => elG (s : Int) y.1.2.1 y.1.2.2 z1), (fun _ _ => apG zl l3 rows.flatten (.slice la3 l3 lc3) z1 (s : Int) y.1.2.1 y.1.2.2), (eF undef)] := ⟨_, rfl⟩
          refine Wp_dagS (MsL [(9, (fun q => (Value.slice la3 l3 lc3).ownBlock = some q))]) [true, true, true, true, true, true, true, true, true, true, false] [10] [75, 76, 77, 78, 79, 80, 81, 82, 83, 84, 123] [[], [], [], [2], [], [4], [5], [1, 3, 6], [7], [0, 6, 8], []] [[], [], [], [2], [], [4], [5, 4], [1, 3, 2, 6, 5, 4], [7, 1, 3, 2, 6, 5, 4], [0, 6, 5, 4, 8, 7, 1, 3, 2], []] Fs13 hFs13 (by kernel_rfl) mixed (by kernel_rfl) (by kernel_rfl) (by kernel_rfl) (by kernel_rfl) ?_ ?_
          ·intro wd X0
           refine qZ (fun S s' w' hi hN X U V H => ?_) ?_
           ·replace X := xN1 (hN 9 rfl) X
            exact DoesT_pure (r_move (v := (.slice la3 l3 lc3)) (U 11 rfl)) rfl
           refine qZ (fun S s' w' hi hN X U V H => ?_) ?_
           ·replace X := xN1 (hN 9 rfl) X
            exact DoesT_pure (r_move (v := (I6 (s : Int))) (U 9 rfl)) rfl
           refine qZ (fun S s' w' hi hN X U V H => ?_) ?_
           ·replace X := xN1 (hN 9 rfl) X
            exact DoesT_pure (r_fieldAddr (b := bv) (o := 0) (o' := 1) (U 15 rfl) Tryz.underlying39 rfl siz3 rfl) rfl
           refine qZ (fun S s' w' hi hN X U V H => ?_) ?_
           ·replace X := xN1 (hN 9 rfl) X
            have e77 := (H 2 rfl).2 77 _ rfl (by rw [hFs13]; rfl)
            exact DoesT_pure (r_load (v := (I6 y.1.2.1)) e77 flat3 (((X0.trans X).keep Bv).cell rfl)) rfl
           refine qZ (fun S s' w' hi hN X U V H => ?_) ?_
           ·replace X := xN1 (hN 9 rfl) X
            exact DoesT_pure (r_fieldAddr (b := bv) (o := 0) (o' := 2) (U 15 rfl) Tryz.underlying39 rfl siz37 rfl) rfl
           refine qZ (fun S s' w' hi hN X U V H => ?_) ?_
           ·replace X := xN1 (hN 9 rfl) X
            have e79 := (H 4 rfl).2 79 _ rfl (by rw [hFs13]; rfl)
            exact DoesT_pure (r_load (v := (.slice ra y.1.2.2.length rc)) e79 flat37 (((X0.trans X).keep Bv).cell rfl)) rfl
           refine DagStepsS.cons (StabS.chg (U := (fun y => (fun q => (Value.slice la3 l3 lc3).ownBlock = some q) y)) (cloG_chg (fun q h => by have := (hownX.lt q h).2; omega)) (fun p y hp hw h => by
              rcases MsL_or h with ⟨rfl, h0⟩ | h0
              ·exact h0
              exact h0.elim)) (LocS.const) (fun S s' w' hi hN X U V H => Or.inl ⟨Guarded_none rfl, ?_⟩) ?_
           ·replace X := xN1 (hN 9 rfl) X
            have e80 := (H 5 rfl).2 80 _ rfl (by rw [hFs13]; rfl)
            exact DoesT_callE (r_callF (vs := [(.slice ra y.1.2.2.length rc)]) Tryz.func38 kQ kQ (lst1 e80)) ((clones_c _ _ y.1.2.2 (SlAt.ext hysp (Ext.trans E (X0.trans X))) (by omega)).mono (fun v w h => ⟨(⟨h.1.1, own_low h.1.2 (by have := X0.size; have := X.size; omega)⟩ : cloG y.1.2.2 z1 v w), h.2⟩))
           refine DagStepsS.cons (StabS.chg (U := (fun y => (fun q => (Value.slice la3 l3 lc3).ownBlock = some q) y)) (edG_chg (fun q h => by have := (hownX.lt q h).2; omega)) (fun p y hp hw h => by
              rcases MsL_or h with ⟨rfl, h0⟩ | h0
              ·exact h0
              exact h0.elim)) (LocS.const) (fun S s' w' hi hN X U V H => Or.inl ⟨Guarded_none rfl, ?_⟩) ?_
           ·replace X := xN1 (hN 9 rfl) X
            have e76 := (H 1 rfl).2 76 _ rfl (by rw [hFs13]; rfl)
            have e78 := (H 3 rfl).2 78 _ rfl (by rw [hFs13]; rfl)
            obtain ⟨⟨a81, c81, e81⟩, O81⟩ := (show ((fun _ _ => cloG y.1.2.2 z1) : FctS) S s' (s' 81) w' from (H 6 rfl).2 81 (fun _ _ => cloG y.1.2.2 z1) rfl (by rw [hFs13]; rfl))
            exact DoesT_pure (r_build (ps := [(0, .int .i64 (s : Int)), (1, .int .i64 y.1.2.1), (2, .slice a81 y.1.2.2.length c81)]) (v := .agg #[.int .i64 (s : Int), .int .i64 y.1.2.1, .slice a81 y.1.2.2.length c81]) (bld3 e76 e78 e81) (by kernel_rfl)) ⟨a81, c81, rfl, ⟨a81, c81, rfl⟩, e81 ▸ O81⟩
           refine DagStepsS.cons (StabS.chg (U := (fun y => (fun q => (Value.slice la3 l3 lc3).ownBlock = some q) y)) (elG_chg (fun q h => by have := (hownX.lt q h).2; omega)) (fun p y hp hw h => by
              rcases MsL_or h with ⟨rfl, h0⟩ | h0
              ·exact h0
              exact h0.elim)) (LocS.const) (fun S s' w' hi hN X U V H => Or.inl ⟨Guarded_none rfl, ?_⟩) ?_
           ·replace X := xN1 (hN 9 rfl) X
            obtain ⟨a82, c82, e82, O82⟩ := (show ((fun _ _ => edG ((s : Nat) : Int) y.1.2.1 y.1.2.2 z1) : FctS) S s' (s' 82) w' from (H 7 rfl).2 82 (fun _ _ => edG ((s : Nat) : Int) y.1.2.1 y.1.2.2 z1) rfl (by rw [hFs13]; rfl))
            exact DoesT_litE e82 (by have := X0.size; have := X.size; omega) O82
           refine DagStepsS.cons (StabS.chg (U := none1) (apG_ext _ _ _ _ _ _ _ _) (fun p y hp hw h => by
              rcases MsL_or h with ⟨rfl, h0⟩ | h0
              ·exact absurd rfl hp
              exact h0.elim)) (LocS.const) (fun S s' w' hi hN X U V H => Or.inl ⟨Guarded_none rfl, ?_⟩) ?_
           ·replace X := xN1 hi X
            have e75 := (H 0 rfl).2 75 _ rfl (by rw [hFs13]; rfl)
            obtain ⟨b83, a83, c83, e83, B83, g83, O83⟩ := (show ((fun _ _ => elG ((s : Nat) : Int) y.1.2.1 y.1.2.2 z1) : FctS) S s' (s' 83) w' from (H 8 rfl).2 83 (fun _ _ => elG ((s : Nat) : Int) y.1.2.1 y.1.2.2 z1) rfl (by rw [hFs13]; rfl))
            exact DoesT_appE e75 (own_ext (own_ext hownX X0) X) e83 B83 O83 (by omega) (by have := X0.size; have := X.size; omega) (fun q h => .inl ⟨rfl, h⟩) (fun q h => by rcases h with h | h; exact (by have := (hownX.lt q h.2).2; omega); exact h.elim) (by have := X0.size; have := X.size; omega)
           refine DagStepsS.tail ?_
           exact DagStepsS.nil
          ·intro s' wd13 w13 X0 X13 U H
           replace X13 := X13.mono (M' := (fun y => (fun q => (Value.slice la3 l3 lc3).ownBlock = some q) y)) (fun y _ h => by
             obtain ⟨j, hj, h⟩ := h
             rcases MsL_or h with ⟨rfl, h0⟩ | h0
             ·exact h0
             exact h0.elim)
           obtain ⟨a84, c84, ⟨⟨u84, v84, e84⟩, O84, D84⟩, K84⟩ := (show ((fun _ _ => apG zl l3 rows.flatten (.slice la3 l3 lc3) z1 ((s : Nat) : Int) y.1.2.1 y.1.2.2) : FctS) (allS [true, true, true, true, true, true, true, true, true, true, false]) s' (s' 84) w13 from H 9 rfl 84 (fun _ _ => apG zl l3 rows.flatten (.slice la3 l3 lc3) z1 ((s : Nat) : Int) y.1.2.1 y.1.2.2) rfl (by rw [hFs13]; rfl))
           obtain ⟨j13, rfl⟩ := Fits.out (σ := s') (l := [(1, (.pointer (some ⟨bn, 0, none⟩))), (2, (.pointer (some ⟨br, 0, none⟩))), (5, (.slice (some ⟨bi, 0, none⟩) N N)), (8, (.pointer (some ⟨bo, 0, none⟩))), (9, (.int .i64 ((s : Nat) : Int))), (10, (.pointer (some ⟨bc, 0, none⟩))), (51, (.int .i64 ((N : Nat) : Int))), (52, (.int .i64 ((s : Nat) : Int))), (60, (.slice (some ⟨qb, qo, none⟩) ((lstM M0 N).length) qc)), (61, (.int .i64 (((lstM M0 N).length : Nat) : Int))), (62, (.int .i64 ((i : Nat) : Int))), (69, (.slice (some ⟨vb, 0, none⟩) zt.length vc)), (70, (.int .i64 ((zt.length : Nat) : Int))), (71, (.int .i64 ((j : Nat) : Int))), (84, (.slice u84 (l3 + 1) v84))]) ⟨U 1 rfl, U 2 rfl, U 5 rfl, U 8 rfl, U 9 rfl, U 10 rfl, U 51 rfl, U 52 rfl, U 60 rfl, U 61 rfl, U 62 rfl, U 69 rfl, U 70 rfl, U 71 rfl, e84, trivial⟩
           clear U H
           replace Bn2 := Chg.keep X13 (fun h => by have := (hownX.lt _ h).1; omega) (X0.keep Bn2)
           replace Br := Chg.keep X13 (fun h => by have := (hownX.lt _ h).1; omega) (X0.keep Br)
           replace Bo := Chg.keep X13 (fun h => by have := (hownX.lt _ h).1; omega) (X0.keep Bo)
           replace hB0 := Chg.keep X13 (fun h => by have := (hownX.lt _ h).1; omega) (X0.keep hB0)
           replace Bc := Chg.keep X13 (fun h => by have := (hownX.lt _ h).1; omega) (X0.keep Bc)
           replace Bv := Chg.keep X13 (fun h => hxu h) (X0.keep Bv)
           have hXm := Chg.trans (Ext.chg X0) X13
           replace E := (E.ext X0).step X13 (fun q hq h => by have := (hownX.lt q h).1; omega)
           replace E9 := (E9.ext X0).step X13 (fun q hq h => by have := (hownX.lt q h).1; omega)
           replace E5 := (E5.ext X0).step X13 (fun q hq h => by have := (hownX.lt q h).1; omega)
           rw [e84] at O84 D84
           have hX9 := EdB.push hownX hl3 hrows hxF hFl hXm hz1 (by omega) O84 D84 K84
           have hs9 := Nat.le_trans hzl3 hXm.size
           refine qA (.slice u84 (l3 + 1) v84) rfl ?_
           refine WpL_nil (inB_normal (thn_normal (Wp_region ?_)))
           refine qV (r_add (k := .i64) (a := (j : Int)) (b := 1) (c := (j : Int) + 1) rfl rfl (wI64 (by omega))) ?_
           refine qM (I6 ((j : Int) + 1)) rfl ?_
           refine WpL_nil (thn_normal ?_)
           exact ⟨zt.length - (j + 1), by omega, j + 1, _, _, u84, v84, l3 + 1, Fits.out ⟨rfl, rfl, rfl, rfl, rfl, rfl, rfl, rfl, rfl, rfl, rfl, rfl, rfl, rfl, rfl, trivial⟩, E, E9, E5, Bn2, Br, Bo, hB0, Bc, (by omega), (by rw [List.length_append, hl3]; rfl), hX9, (by rw [hLe, map_take _ hy, List.append_assoc]), hs9, rfl⟩
         ·have khlt4 := hlt4
          replace hlt4 := of_decide_eq_false hlt4
          have hjj : j = zt.length := by omega
          refine Wp_exit (thn_exit (thn_exit (inB_here (inB_normal (thn_normal (Wp_region ?_))))))
          refine qV (r_add (k := .i64) (a := (i : Int)) (b := 1) (c := (i : Int) + 1) rfl rfl (wI64 (by omega))) ?_
          refine qM (I6 ((i : Int) + 1)) rfl ?_
          refine WpL_nil (thn_normal ?_)
          exact ⟨(lstM M0 N).length - (i + 1), by omega, i + 1, L2, F3, la3, lc3, l3, Fits.out ⟨rfl, rfl, rfl, rfl, rfl, rfl, rfl, rfl, rfl, rfl, rfl, rfl, trivial⟩, E, E9, E5, Bn2, Br, Bo, hB0, Bc, (by omega), hl3, hL3, (by rw [take_snoc ht, hLe, hjj, List.take_length]; exact hLadd), hzl3, rfl⟩
       ·have khlt3 := hlt3
        replace hlt3 := of_decide_eq_false hlt3
        have hii : i = (lstM M0 N).length := by omega
        rw [hii, List.take_length] at hLg
        have hLle := hLg.le
        obtain ⟨⟨rows, hownL, hrows⟩, hxF, hFl⟩ := hL
        have hlo := hownL.lt
        refine Wp_exit (thn_exit (thn_exit (inB_here (thn_normal (Wp_seq_region ?_)))))
        refine qM (.slice la l lc) rfl ?_
        refine WpL_enter rfl rfl (by decide) (r_callF (vs := [(.slice la l lc), (.func (.func 40) #[] #[])]) Tryz.func39 kQ kQ rfl) (sortEd_c _ F2 zl (.slice la l lc) L rows hownL hrows hxF (by omega)) ?_
        rintro _ w69 ⟨rfl, ⟨us, qs, hperm, hpw, hown2, hrows2⟩, C69⟩
        replace Bn2 := C69.keep (fun h => by have := (hownL.lt _ h).1; omega) Bn2
        replace Br := C69.keep (fun h => by have := (hownL.lt _ h).1; omega) Br
        replace Bo := C69.keep (fun h => by have := (hownL.lt _ h).1; omega) Bo
        replace hB0 := C69.keep (fun h => by have := (hownL.lt _ h).1; omega) hB0
        replace Bc := C69.keep (fun h => by have := (hownL.lt _ h).1; omega) Bc
        replace E := E.step C69 (fun x hx h => absurd (hownL.lt x h).1 (by omega))
        replace E9 := E9.step C69 (fun x hx h => absurd (hownL.lt x h).1 (by omega))
        replace E5 := E5.step C69 (fun x hx h => absurd (hownL.lt x h).1 (by omega))
        have hul := hperm.length_eq
        refine WpL_nil (Wp_seq_region ?_)
        refine qM (.slice la l lc) rfl ?_
        refine WpL_enter rfl rfl (by decide) (r_callF (vs := [(.slice la l lc), (.func (.func 42) #[] #[])]) Tryz.func41 kQ kQ rfl) (cmpctE_c _ zl F2 (.slice la l lc) (.func (.func 42) #[] #[]) us qs hown2 hrows2 (fun b => (Value.slice la l lc).ownBlock = some b) (fun b h => h) hxF (by omega) (fun w x y ua ua2 uc uc2 h1 h2 => CallV.mk (first := #[]) (cap := #[]) Tryz.func42 kQ kQ rfl (bare1_c w x y ua ua2 uc uc2 h1 h2))) ?_
        rintro _ w79 ⟨la4, lc4, rows4, rfl, hown4, hrows4, hsub4, C79⟩
        replace Bn2 := C79.keep (fun h => by have := (hownL.lt _ h).1; omega) Bn2
        replace Br := C79.keep (fun h => by have := (hownL.lt _ h).1; omega) Br
        replace Bo := C79.keep (fun h => by have := (hownL.lt _ h).1; omega) Bo
        replace hB0 := C79.keep (fun h => by have := (hownL.lt _ h).1; omega) hB0
        replace Bc := C79.keep (fun h => by have := (hownL.lt _ h).1; omega) Bc
        replace E := E.step C79 (fun x hx h => absurd (hownL.lt x h).1 (by omega))
        replace E9 := E9.step C79 (fun x hx h => absurd (hownL.lt x h).1 (by omega))
        replace E5 := E5.step C79 (fun x hx h => absurd (hownL.lt x h).1 (by omega))
        have hBS := hLg.bare hqm hperm hpw
        have hkl := hBS.len
        have hz4 : z4 ≤ (w79).heap.size := by have := E5.size; omega
        replace hE := own_ext hE E5
        replace hX := hX.ext E5
        obtain ⟨⟨rowsX, hoX, hrX⟩, hxX, hFX⟩ := hX
        have hoXx := hoX
        rw [← hx] at hoXx
        have hub := bare_any ok hN hM0l hM0
        refine qA (.slice la4 ((kdE none us).length) lc4) rfl ?_
        refine WpL_nil (Wp_seq (Wp_seq_region ?_))
        refine qF bo 0 4 rfl Tryz.underlying26 rfl siz24 rfl ?_
        refine qV (r_load (v := (.slice xa2 x xc2)) rfl flat24 (Bo.cell rfl)) ?_
        refine qM (.slice la4 ((kdE none us).length) lc4) rfl ?_
        refine s_appendAny (base := z4) (n := x) (m := ((kdE none us).length)) (xs := rowsX.flatten) (news := rows4.flatten) (size := 3) (bytes := 40) (v := (.slice xa2 x xc2)) (by decide) Tryz.underlying24 siz39 byt39 zer39 rfl (by decide) rfl hoXx rfl ((by rw [rows_len hrows4.three, hrows4.1])) (own_any3 hown4) (rows_one hrows4 0) (by unfold maxLen; omega) (by omega) (hz4) ?_
        intro v8 w89 Ov8 Cv8 Dv8
        replace Bn2 := Cv8.keep (fun h => by have := (hoXx.lt _ h).1; omega) Bn2
        replace Br := Cv8.keep (fun h => by have := (hoXx.lt _ h).1; omega) Br
        replace Bo := Cv8.keep (fun h => by have := (hoXx.lt _ h).1; omega) Bo
        replace hB0 := Cv8.keep (fun h => (by have := hXl _ h; omega)) hB0
        replace Bc := Cv8.keep (fun h => (by have := hXl _ h; omega)) Bc
        replace E := E.step Cv8 (fun x hx h => absurd (hoXx.lt x h).1 (by omega))
        replace E9 := E9.step Cv8 (fun x hx h => absurd (hoXx.lt x h).1 (by omega))
        obtain ⟨xa3, xc3, rfl⟩ := own_form Ov8
        have hE9 := own_chg hE Cv8 fun k hk h => own_other hE hoX (by decide) hk h
        have hX9 : EdB (fun y => F y ∨ F2 y) w89 z4 (.slice xa3 (x + (kdE none us).length) xc3) (xs ++ kdE none us) := EdB.app hoX hrX hxX hFX hrows4 (zl := zl) (fun y hy => ⟨(hFl y hy).1, by have := (hFl y hy).2; have := C69.size; have := C79.size; omega⟩) (fun b hb => by have := hXl b hb; omega) (by omega) Cv8 (by rw [← hx]; exact Ov8) Dv8
        have hz9 := Nat.le_trans hz4 Cv8.size
        refine qF bo 0 4 rfl Tryz.underlying26 rfl siz24 rfl ?_
        refine s_store (b := bo) (o := 4) (c' := #[(I6 (N : Int)), (I6 n.start), (.slice ea2 m ec2), (.slice none 0 0), (.slice xa3 (x + (kdE none us).length) xc3)]) (v := (.slice xa3 (x + (kdE none us).length) xc3)) rfl rfl rfl siz24 Bo (by simp) rfl ?_
        intro w14 S14
        replace hE9 := own_chg hE9 S14.chg fun y hy h => by have h' : y = _ := h; have := (hE9.lt y hy).1; omega
        replace hX9 := hX9.chg S14.chg fun y h => by have h' : y = _ := h; omega
        replace hz9 := Nat.le_trans hz9 S14.chg.size
        replace Bn2 := S14.keep (by omega) Bn2
        replace Br := S14.keep (by omega) Br
        replace hB0 := S14.keep (by omega) hB0
        replace Bc := S14.keep (by omega) Bc
        replace E := S14.step E (by first | exact Or.inl (by omega) | exact Or.inr rfl | exact Or.inr (by assumption) | exact Or.inr (by simp) | exact Or.inr (by omega) | exact Or.inr (by dsimp only; omega))
        replace E9 := S14.step E9 (Or.inl (by omega))
        replace Bo := S14.blk
        refine WpL_nil (Wp_seq_region ?_)
        refine qF bo 0 4 rfl Tryz.underlying26 rfl siz24 rfl ?_
        refine qV (r_load (v := (.slice xa3 (x + (kdE none us).length) xc3)) rfl flat24 (Bo.cell rfl)) ?_
        refine qV (r_lenSlice (ad := xa3) (n := (x + (kdE none us).length)) (cap := xc3) Tryz.underlying24 rfl) ?_
        refine qV (r_gtr (k := .i64) (a := (((x + (kdE none us).length) : Nat) : Int)) (b := 20000) rfl rfl) ?_
        refine WpL_nil ?_
        refine Wp_cond (b := decide ((20000 : Int) < (((x + (kdE none us).length) : Nat) : Int))) rfl (fun hbig => ?_) (fun hbig => ?_)
        ·have khbig := hbig
         replace hbig := of_decide_eq_true hbig
         refine Wp_seq_region ?_
         refine qV (r_build (ps := []) (v := (.agg #[(I6 0), (I6 0), (.slice none 0 0), (.slice none 0 0), (.slice none 0 0)])) rfl (by kernel_rfl)) ?_
         refine s_storeAgg (b := br) (o := 0) (c' := #[(I6 0), (I6 0), (.slice none 0 0), (.slice none 0 0), (.slice none 0 0)]) rfl rfl (by simp [Value.oneCell']) siz26 rfl Br (by first | (simp; done) | exact Nat.le_of_ble_eq_true rfl) rfl ?_
         intro w16 S16
         replace hE9 := own_chg hE9 S16.chg fun y hy h => by have h' : y = _ := h; have := (hE9.lt y hy).1; omega
         replace hX9 := hX9.chg S16.chg fun y h => by have h' : y = _ := h; omega
         replace hz9 := Nat.le_trans hz9 S16.chg.size
         replace Bn2 := S16.keep (by omega) Bn2
         replace Bo := S16.keep (by omega) Bo
         replace hB0 := S16.keep (by omega) hB0
         replace Bc := S16.keep (by omega) Bc
         replace E := S16.step E (by first | exact Or.inl (by omega) | exact Or.inr rfl | exact Or.inr (by assumption) | exact Or.inr (by simp) | exact Or.inr (by omega) | exact Or.inr (by dsimp only; omega))
         replace Br := S16.blk
         refine qA (I6 2) rfl ?_
         refine WpL_nil (Wp_ret (thn_ret (inB_ret (thn_ret (thn_ret (inB_ret (thn_ret ?_)))))))
         refine fin_agg_tmp Tryz.results8 (vs := [(.int .i64 0), (.int .i64 0), (.slice none 0 0), (.slice none 0 0), (.slice none 0 0)]) (b := br) (v' := (.int .i64 2)) rfl agg26 siz26 rfl (Br.cells rfl) rfl ?_
         exact ⟨nfR_zero (.inr (.inl ⟨hc1, rfl, rfl, s + 1, _, _, by omega, .step hK hub hBS, by rw [List.length_append]; omega⟩)), E⟩
        ·have khbig := hbig
         replace hbig := of_decide_eq_false hbig
         refine Wp_skip (thn_normal (Wp_seq_region ?_))
         refine qF bn 0 2 rfl Tryz.underlying26 rfl siz22 rfl ?_
         refine qV (r_load (v := (.slice ea n.ends.length ec)) rfl flat22 (Bn2.cell rfl)) ?_
         refine qV (r_makeFunc (vs := []) (us := [(P6 bc 0)]) rfl rfl) ?_
         refine WpL_enter rfl rfl (by decide) (r_callF (vs := [(.slice ea n.ends.length ec), (.func (.func 43) #[] #[(P6 bc 0)])]) Tryz.func30 kQ kQ rfl) (ints_has_c _ _ _ n.ends (fun t => M0.getD t.toNat false) (hen.ext E) (fun w x hE hx => CallV.mk (first := #[]) (cap := #[.pointer (some ⟨bc, 0, none⟩)]) Tryz.func43 kQ kQ rfl (by obtain ⟨a, ha, haN⟩ := int_nat (x := x) (N := N) (by have := ok.en x hx; omega); rw [ha]; exact bare2_c w a N g0 bc M0 (hE.keep Bc) (hE.keep hB0) hM0l haN))) ?_
         rintro _ w99 ⟨rfl, X99⟩
         replace Bn2 := X99.keep Bn2
         replace Br := X99.keep Br
         replace Bo := X99.keep Bo
         replace hB0 := X99.keep hB0
         replace Bc := X99.keep Bc
         replace hE9 := own_ext hE9 X99
         replace hX9 := hX9.ext X99
         replace hz9 := Nat.le_trans hz9 X99.size
         replace E := E.ext X99
         replace E9 := E9.ext X99
         refine WpL_nil ?_
         refine Wp_cond (b := (n.ends.any fun t => M0.getD t.toNat false)) rfl (fun hu => ?_) (fun hu => ?_)
         ·have khu := hu
          have hK2 := BareK.step hK hub hBS
          rw [hu, if_pos rfl] at hK2
          refine Wp_region ?_
          refine qF bo 0 2 rfl Tryz.underlying26 rfl siz22 rfl ?_
          refine qV (r_load (v := (.slice ea2 m ec2)) rfl flat22 (Bo.cell rfl)) ?_
          refine qM (I6 (s : Int)) rfl ?_
          refine s_buildSlice (ps := [(0, (I6 (s : Int)))]) (c := #[(I6 (s : Int))]) (by decide) rfl Tryz.underlying22 siz3 zer3 (by decide) (by decide) (by kernel_rfl) ?_
          intro b18 w18 N18
          have F18 := N18.ge E
          have F18_E9 := N18.ge E9
          have O18_bn := N18.lt Bn2
          have O18_br := N18.lt Br
          have O18_bo := N18.lt Bo
          have O18_g0 := N18.lt hB0
          have O18_bc := N18.lt Bc
          replace Bn2 := N18.keep Bn2
          replace Br := N18.keep Br
          replace Bo := N18.keep Bo
          replace hB0 := N18.keep hB0
          replace Bc := N18.keep Bc
          replace hE9 := own_ext hE9 N18.ext
          replace hX9 := hX9.ext N18.ext
          replace hz9 := Nat.le_trans hz9 N18.ext.size
          replace E := E.ext N18.ext
          have B18 := N18.blk
          replace E9 := E9.ext N18.ext
          refine s_append (base := z4) (n := m) (m := 1) (xs := (es.map (Value.int .i64))) (news := [(I6 (s : Int))]) (size := 1) (bytes := 8) (v := (.slice ea2 m ec2)) (by decide) Tryz.underlying22 siz3 byt3 zer3 rfl (by decide) rfl hE9 rfl (rfl) (B18.cells rfl) (by simp [Value.oneCell']) (by unfold maxLen; omega) (by omega) (hz9) ?_
          intro v7 w109 Ov7 Cv7 Dv7
          replace Bn2 := Cv7.keep (fun h => by have := (hE9.lt _ h).1; omega) Bn2
          replace Br := Cv7.keep (fun h => by have := (hE9.lt _ h).1; omega) Br
          replace Bo := Cv7.keep (fun h => by have := (hE9.lt _ h).1; omega) Bo
          replace E := E.step Cv7 (fun x hx h => absurd (hE9.lt x h).1 (by omega))
          replace E9 := E9.step Cv7 (fun x hx h => absurd (hE9.lt x h).1 (by omega))
          obtain ⟨ea3, ec3, rfl⟩ := own_form Ov7
          have hO7 := Ov7
          have hF9 : ∀ y, (F y ∨ F2 y) → ¬ (Value.slice ea2 m ec2).ownBlock = some y := fun y hy h => by rcases hy with hy | hy; exact hEF y h hy; (have := hEl y h; have := (hFl y hy).1; omega)
          have hX7 := hX9.chgQ Cv7 hF9 (fun k hk h => by obtain ⟨⟨r9, h8, _⟩, _⟩ := hX9; exact own_other h8 hE9 (by decide) hk h)
          have hF7 : ∀ y, (Value.slice ea3 (m + 1) ec3).ownBlock = some y → ¬ (F y ∨ F2 y) := fun y h hy => by rcases Dv7 y h with h8 | h8; exact hF9 y hy h8; (have := (hX9.2.2 y hy).2; omega)
          have hz7 := Nat.le_trans hz9 Cv7.size
          refine qF bo 0 2 rfl Tryz.underlying26 rfl siz22 rfl ?_
          refine s_store (b := bo) (o := 2) (c' := #[(I6 (N : Int)), (I6 n.start), (.slice ea3 (m + 1) ec3), (.slice none 0 0), (.slice xa3 (x + (kdE none us).length) xc3)]) (v := (.slice ea3 (m + 1) ec3)) rfl rfl rfl siz22 Bo (by simp) rfl ?_
          intro w19 S19
          replace hO7 := own_chg hO7 S19.chg fun y hy h => by have h' : y = bo := h; have := (hO7.lt y hy).1; omega
          replace hX7 := hX7.chg S19.chg fun y h => by have h' : y = bo := h; omega
          replace hz7 := Nat.le_trans hz7 S19.chg.size
          replace Bn2 := S19.keep (by omega) Bn2
          replace Br := S19.keep (by omega) Br
          replace E := S19.step E (by first | exact Or.inl (by omega) | exact Or.inr rfl | exact Or.inr (by assumption) | exact Or.inr (by simp) | exact Or.inr (by omega) | exact Or.inr (by dsimp only; omega))
          replace E9 := S19.step E9 (Or.inl (by omega))
          replace Bo := S19.blk
          refine WpL_nil (inB_normal (thn_normal (Wp_region ?_)))
          refine qV (r_add (k := .i64) (a := (s : Int)) (b := 1) (c := (s : Int) + 1) rfl rfl (wI64 (by omega))) ?_
          refine qM (I6 ((s : Int) + 1)) rfl ?_
          refine WpL_nil (thn_normal ?_)
          exact ⟨N - (s + 1), by omega, s + 1, es ++ [((s : Nat) : Int)], xs ++ kdE none us, _, ea3, ec3, m + 1, xa3, xc3, x + (kdE none us).length, Fits.out ⟨rfl, rfl, rfl, rfl, rfl, rfl, trivial⟩, E, E9, Bn2, Br, Bo, (by omega), (by simp [hm]), (by rw [List.length_append, hx]), (by omega), (by rw [List.map_append]; exact hO7), hX7, hF7, hK2, hz7, rfl⟩
         ·have khu := hu
          have hK2 := BareK.step hK hub hBS
          rw [hu, if_neg (by decide), List.append_nil] at hK2
          refine Wp_skip (inB_normal (thn_normal (Wp_region ?_)))
          refine qV (r_add (k := .i64) (a := (s : Int)) (b := 1) (c := (s : Int) + 1) rfl rfl (wI64 (by omega))) ?_
          refine qM (I6 ((s : Int) + 1)) rfl ?_
          refine WpL_nil (thn_normal ?_)
          exact ⟨N - (s + 1), by omega, s + 1, es, xs ++ kdE none us, _, ea2, ec2, m, xa3, xc3, x + (kdE none us).length, Fits.out ⟨rfl, rfl, rfl, rfl, rfl, rfl, trivial⟩, E, E9, Bn2, Br, Bo, (by omega), hm, (by rw [List.length_append, hx]), (by omega), hE9, hX9, (fun y h hy => by rcases hy with hy | hy; exact hEF y h hy; (have := hEl y h; have := (hFl y hy).1; omega)), hK2, hz9, rfl⟩
     ·have khlt2 := hlt2
      replace hlt2 := of_decide_eq_false hlt2
      have hsN : s = N := by omega
      refine Wp_exit (thn_exit (thn_exit (inB_here (thn_normal (Wp_seq_region ?_)))))
      refine qV (r_loadAgg (vs := [(I6 (N : Int)), (I6 n.start), (.slice ea2 m ec2), (.slice none 0 0), (.slice xa2 x xc2)]) rfl agg26 siz26 rfl (Bo.cells rfl)) ?_
      refine s_storeAgg (b := br) (o := 0) (c' := #[(I6 (N : Int)), (I6 n.start), (.slice ea2 m ec2), (.slice none 0 0), (.slice xa2 x xc2)]) rfl rfl (by simp [Value.oneCell']) siz26 rfl Br (by first | (simp; done) | exact Nat.le_of_ble_eq_true rfl) rfl ?_
      intro w20 S20
      replace hE := own_chg hE S20.chg fun y hy h => by have h' : y = _ := h; have := (hE.lt y hy).1; omega
      replace hX := hX.chg S20.chg fun y h => by have h' : y = _ := h; omega
      replace Bn2 := S20.keep (by omega) Bn2
      replace Bo := S20.keep (by omega) Bo
      replace E := S20.step E (by first | exact Or.inl (by omega) | exact Or.inr rfl | exact Or.inr (by assumption) | exact Or.inr (by simp) | exact Or.inr (by omega) | exact Or.inr (by dsimp only; omega))
      replace Br := S20.blk
      refine qA (I6 0) rfl ?_
      refine WpL_nil (Wp_ret ?_)
      refine fin_agg_tmp Tryz.results8 (vs := [(.int .i64 ((N : Nat) : Int)), (.int .i64 n.start), (.slice ea2 m ec2), (.slice none 0 0), (.slice xa2 x xc2)]) (b := br) (v' := (.int .i64 0)) rfl agg26 siz26 rfl (Br.cells rfl) rfl ?_
      refine ⟨⟨⟨n.states, n.start, es, [], xs⟩, ea2, ec2, none, 0, xa2, xc2, 0, by rw [hN, hm, hx]; rfl, fun M w7 c hM => ⟨ea2, ec2, none, 0, xa2, xc2, rfl, ?_, SlAt.nil _ _ _ _, ?_⟩, .inr (.inr ⟨hc1, rfl, rfl, rfl, rfl, N, hN, hsN ▸ hK⟩)⟩, E⟩
      ·have h9 := own_intsD (own_chg hE c fun k hk hm => by have := (hE.lt k hk).1; have := hM k hm; omega) hm
       rw [hm] at h9; exact h9
      ·have h9 := (hX.chg c fun y h => by have := hM y h; omega).at
       rw [hx] at h9; exact h9
end Go.Proofs
namespace Go.Proofs
open Go Go.Eng Go.Sort
set_option maxRecDepth 100000
set_option maxHeartbeats 2000000 in
theorem rcheckn_c (w0 : World) (n : Nf) (vs : List Value) (h : NfAt w0 n vs) : Ret Tryz.prog 5 #[.agg vs.toArray] w0 fun r w => r = .int .i64 (chkN n) ∧ Ext w0 w := by
 obtain ⟨ea, ec, pa, pc, xa, xc, rfl, hen, hep, hed⟩ := h
 refine Ret_of Tryz.func5 rfl Tryz.ntmps5 (Nat.le_of_ble_eq_true rfl) ?_
 have E : Chg none1 w0 w0 := Chg.refl _ _
 refine Wp_seq_region ?_
 refine s_box (v := (.agg #[(I6 n.states), (I6 n.start), (.slice ea n.ends.length ec), (.slice pa n.eps.length pc), (.slice xa n.edges.length xc)])) (c := #[(I6 n.states), (I6 n.start), (.slice ea n.ends.length ec), (.slice pa n.eps.length pc), (.slice xa n.edges.length xc)]) (by decide) rfl rfl ?_
 intro bn wn Nn
 have Fn := Nn.ge E
 replace E := E.ext Nn.ext
 have Bn := Nn.blk
 refine qA (I6 0) rfl ?_
 refine WpL_nil (Wp_seq (Wp_seq_region ?_))
 refine qF bn 0 0 rfl Tryz.underlying26 rfl siz3 rfl ?_
 refine qV (r_load (v := (I6 n.states)) rfl flat3 (Bn.cell rfl)) ?_
 obtain ⟨e1, he1⟩ : ∃ e, (decide ((500 : Int) < n.states)) = e := ⟨_, rfl⟩
 refine qV ((r_gtr (k := .i64) (a := n.states) (b := 500) rfl rfl).trans (by rw [he1]; try rfl)) ?_
 refine qM (.bool e1) rfl ?_
 refine qG (.bool e1) (nU e1 (P6 bn 4)) (by cases e1 <;> first | exact gA | exact gB | exact .inl ⟨rfl, r_fieldAddr (b := bn) (o := 0) (o' := 4) rfl Tryz.underlying26 rfl siz24 rfl⟩) ?_
 refine qG (.bool e1) (nU e1 (.slice xa n.edges.length xc)) (by cases e1 <;> first | exact gA | exact gB | exact .inl ⟨rfl, r_load (v := (.slice xa n.edges.length xc)) rfl flat24 (Bn.cell rfl)⟩) ?_
 refine qG (.bool e1) (nU e1 (I6 (n.edges.length : Int))) (by cases e1 <;> first | exact gA | exact gB | exact .inl ⟨rfl, r_lenSlice (ad := xa) (n := n.edges.length) (cap := xc) Tryz.underlying24 rfl⟩) ?_
 obtain ⟨e2, he2⟩ : ∃ e, (decide ((20000 : Int) < ((n.edges.length : Nat) : Int))) = e := ⟨_, rfl⟩
 refine qG (.bool e1) (nU e1 (.bool e2)) (by cases e1 <;> first | exact gA | exact gB | exact .inl ⟨rfl, (r_gtr (k := .i64) (a := (n.edges.length : Int)) (b := 20000) rfl rfl).trans (by rw [he2]; try rfl)⟩) ?_
 obtain ⟨e3, he3⟩ : ∃ e, (e1 || e2) = e := ⟨_, rfl⟩
 refine qV (r_pick (b := e1) (v := .bool e3) rfl (by rw [← he3]; cases e1 <;> rfl)) ?_
 refine qM (.bool e3) rfl ?_
 refine qG (.bool e3) (nU e3 (P6 bn 3)) (by cases e3 <;> first | exact gA | exact gB | exact .inl ⟨rfl, r_fieldAddr (b := bn) (o := 0) (o' := 3) rfl Tryz.underlying26 rfl siz23 rfl⟩) ?_
 refine qG (.bool e3) (nU e3 (.slice pa n.eps.length pc)) (by cases e3 <;> first | exact gA | exact gB | exact .inl ⟨rfl, r_load (v := (.slice pa n.eps.length pc)) rfl flat23 (Bn.cell rfl)⟩) ?_
 refine qG (.bool e3) (nU e3 (I6 (n.eps.length : Int))) (by cases e3 <;> first | exact gA | exact gB | exact .inl ⟨rfl, r_lenSlice (ad := pa) (n := n.eps.length) (cap := pc) Tryz.underlying23 rfl⟩) ?_
 obtain ⟨e4, he4⟩ : ∃ e, (decide ((20000 : Int) < ((n.eps.length : Nat) : Int))) = e := ⟨_, rfl⟩
 refine qG (.bool e3) (nU e3 (.bool e4)) (by cases e3 <;> first | exact gA | exact gB | exact .inl ⟨rfl, (r_gtr (k := .i64) (a := (n.eps.length : Int)) (b := 20000) rfl rfl).trans (by rw [he4]; try rfl)⟩) ?_
 obtain ⟨e5, he5⟩ : ∃ e, (e3 || e4) = e := ⟨_, rfl⟩
 refine qV (r_pick (b := e3) (v := .bool e5) rfl (by rw [← he5]; cases e3 <;> rfl)) ?_
 refine qM (.bool e5) rfl ?_
 refine qG (.bool e5) (nU e5 (P6 bn 2)) (by cases e5 <;> first | exact gA | exact gB | exact .inl ⟨rfl, r_fieldAddr (b := bn) (o := 0) (o' := 2) rfl Tryz.underlying26 rfl siz22 rfl⟩) ?_
 refine qG (.bool e5) (nU e5 (.slice ea n.ends.length ec)) (by cases e5 <;> first | exact gA | exact gB | exact .inl ⟨rfl, r_load (v := (.slice ea n.ends.length ec)) rfl flat22 (Bn.cell rfl)⟩) ?_
 refine qG (.bool e5) (nU e5 (I6 (n.ends.length : Int))) (by cases e5 <;> first | exact gA | exact gB | exact .inl ⟨rfl, r_lenSlice (ad := ea) (n := n.ends.length) (cap := ec) Tryz.underlying22 rfl⟩) ?_
 obtain ⟨e6, he6⟩ : ∃ e, (decide ((500 : Int) < ((n.ends.length : Nat) : Int))) = e := ⟨_, rfl⟩
 refine qG (.bool e5) (nU e5 (.bool e6)) (by cases e5 <;> first | exact gA | exact gB | exact .inl ⟨rfl, (r_gtr (k := .i64) (a := (n.ends.length : Int)) (b := 500) rfl rfl).trans (by rw [he6]; try rfl)⟩) ?_
 obtain ⟨e7, he7⟩ : ∃ e, (e5 || e6) = e := ⟨_, rfl⟩
 refine qV (r_pick (b := e5) (v := .bool e7) rfl (by rw [← he7]; cases e5 <;> rfl)) ?_
 refine WpL_nil ?_
 subst he7
 subst he6
 subst he5
 subst he4
 subst he3
 subst he2
 subst he1
 refine Wp_cond (b := ((((decide ((500 : Int) < n.states)) || (decide ((20000 : Int) < (n.edges.length : Int)))) || (decide ((20000 : Int) < (n.eps.length : Int)))) || (decide ((500 : Int) < (n.ends.length : Int))))) rfl (fun h0 => ?_) (fun h0 => ?_)
 ·have kh0 := h0
  refine Wp_seq_region ?_
  refine qA (I6 2) rfl ?_
  refine WpL_nil (Wp_ret (thn_ret ?_))
  refine fin_tmp Tryz.results5 (v := (.int .i64 2)) rfl ?_
  exact ⟨by unfold chkN; rw [if_pos (by simp only [Bool.or_eq_true, decide_eq_true_eq] at h0; omega)], E⟩
 ·have kh0 := h0
  have h0 : ¬ (500 < n.states ∨ 500 < n.ends.length ∨ 20000 < n.eps.length ∨ 20000 < n.edges.length) := by simp only [Bool.or_eq_false_iff, decide_eq_false_iff_not] at h0; omega
  obtain ⟨L0, hL0⟩ : ∃ L0, L0 = n.start :: n.ends := ⟨_, rfl⟩
  have hL0l : L0.length = n.ends.length + 1 := by rw [hL0]; rfl
  refine Wp_skip (thn_normal (Wp_seq_region ?_))
  refine qF bn 0 1 rfl Tryz.underlying26 rfl siz3 rfl ?_
  refine qV (r_load (v := (I6 n.start)) rfl flat3 (Bn.cell rfl)) ?_
  refine s_buildSlice (ps := [(0, (I6 n.start))]) (c := #[(I6 n.start)]) (by decide) rfl Tryz.underlying22 siz3 zer3 (by decide) (by decide) (by kernel_rfl) ?_
  intro bs ws Ns
  have Fs := Ns.ge E
  have Os_bn := Ns.lt Bn
  replace Bn := Ns.keep Bn
  replace E := E.ext Ns.ext
  have Bs := Ns.blk
  refine qF bn 0 2 rfl Tryz.underlying26 rfl siz22 rfl ?_
  refine qV (r_load (v := (.slice ea n.ends.length ec)) rfl flat22 (Bn.cell rfl)) ?_
  obtain ⟨base, hbase⟩ : ∃ base, base = bs := ⟨_, rfl⟩
  have hb0 : w0.heap.size ≤ base ∧ bn < base := ⟨by omega, by omega⟩
  have hS0 := own_lit1 (base := base) Bs (by omega)
  have hss : base ≤ (ws).heap.size := by have := Bs.lt; omega
  refine s_appendAny (base := base) (n := 1) (m := n.ends.length) (xs := [Value.int .i64 n.start]) (news := (n.ends.map (Value.int .i64))) (size := 1) (bytes := 8) (v := (.slice (some ⟨bs, 0, none⟩) 1 1)) (by decide) Tryz.underlying22 siz3 byt3 zer3 rfl (by decide) rfl hS0 rfl (by simp) (ints_any (hen.ext E)) (by simp [Value.oneCell']) (by unfold maxLen; omega) (by omega) (hss) ?_
  intro v9 w9 Ov9 Cv9 Dv9
  replace Bn := Cv9.keep (fun h => by have := (hS0.lt _ h).1; omega) Bn
  replace E := E.step Cv9 (fun x hx h => absurd (hS0.lt x h).1 (by omega))
  obtain ⟨ja, jc, rfl⟩ := own_form Ov9
  have hO : (w9).ownsRow base TDI 1 (.slice ja (1 + n.ends.length) jc) (1 + n.ends.length) (L0.map (Value.int .i64)) := by rw [hL0]; exact Ov9
  have hs9 : base ≤ w9.heap.size := Nat.le_trans hss Cv9.size
  refine qA (.slice ja (1 + n.ends.length) jc) rfl ?_
  refine WpL_nil (Wp_seq (Wp_seq_region ?_))
  refine qF bn 0 3 rfl Tryz.underlying26 rfl siz23 rfl ?_
  refine qV (r_load (v := (.slice pa n.eps.length pc)) rfl flat23 (Bn.cell rfl)) ?_
  refine qV (r_lenSlice (ad := pa) (n := n.eps.length) (cap := pc) Tryz.underlying23 rfl) ?_
  refine qM (I6 0) rfl ?_
  refine WpL_nil (Wp_block ?_)
  refine Wp_loop (fun nn_ σ W9 => ∃ (k : Nat) (la : Option Addr) (lc : Nat) (m : Nat), (∃ jj_, σ = upds jj_ [(1, (P6 bn 0)), (41, (.slice pa n.eps.length pc)), (42, (I6 (n.eps.length : Int))), (43, (I6 (k : Int))), (3, (.slice la m lc))]) ∧ Chg none1 w0 W9 ∧ Blk W9 bn #[(I6 n.states), (I6 n.start), (.slice ea n.ends.length ec), (.slice pa n.eps.length pc), (.slice xa n.edges.length xc)] 26 ∧ (k ≤ n.eps.length) ∧ (m = L0.length + 2 * k) ∧ (W9.ownsRow base TDI 1 (.slice la m lc) m ((L0 ++ ((n.eps.take k).map epS).flatten).map (Value.int .i64))) ∧ (base ≤ W9.heap.size) ∧ nn_ = n.eps.length - k) (n := n.eps.length - 0) ?_ ?_
  ·exact ⟨0, ja, jc, 1 + n.ends.length, Fits.out ⟨rfl, rfl, rfl, rfl, rfl, trivial⟩, E, Bn, Nat.zero_le _, (by omega), (by simpa using hO), hs9, rfl⟩
  ·clear E Bn
   rintro _ _ W9 ⟨k, la, lc, m, ⟨j9, rfl⟩, E, Bn, hk, hm, hown, hbs, rfl⟩
   refine Wp_seq_region ?_
   refine qV (r_lss (k := .i64) (a := (k : Int)) (b := (n.eps.length : Int)) rfl rfl) ?_
   refine WpL_nil (Wp_seq ?_)
   refine Wp_cond (b := decide (((k : Int) : Int) < (n.eps.length : Int))) rfl (fun hlt => ?_) (fun hlt => ?_)
   ·have khlt := hlt
    replace hlt := of_decide_eq_true hlt
    obtain ⟨p, hp⟩ := get_of_lt (l := n.eps) (i := k) (by omega)
    obtain ⟨pb, po, rfl, hpc⟩ := spans_cells hep (by omega)
    refine Wp_skip (thn_normal (Wp_seq (Wp_block (Wp_seq_region ?_))))
    refine qV (r_indexSlice (b := pb) (o := po) (len := n.eps.length) (cap := pc) (i := k) (o' := po + k * 2) rfl rfl rfl Tryz.underlying23 siz36 (by omega) (by omega)) ?_
    refine qV (r_loadAgg (vs := [(I6 p.1), (I6 p.2)]) rfl agg36 siz36 rfl ((hpc k p hp).ext E)) ?_
    refine s_allocStore (v := (.agg #[(I6 p.1), (I6 p.2)])) (c := #[(I6 p.1), (I6 p.2)]) (n := 2) (by decide) zer36 rfl siz36 rfl rfl rfl (by simp [Value.oneCell']) ?_
    intro bx wx Nx
    have Fx := Nx.ge E
    have Ox_bn := Nx.lt Bn
    replace Bn := Nx.keep Bn
    replace hown := own_ext hown Nx.ext
    replace hbs := Nat.le_trans hbs Nx.ext.size
    replace E := E.ext Nx.ext
    have Bx := Nx.blk
    refine WpL_nil (Wp_region ?_)
    refine qM (.slice la m lc) rfl ?_
    refine qV (r_indexArr (b := bx) (o := 0) (i := 0) (o' := 0) rfl rfl rfl Tryz.underlying36 siz3 (by omega) (by omega)) ?_
    refine qV (r_load (v := (I6 p.1)) rfl flat3 (Bx.cell rfl)) ?_
    refine qV (r_indexArr (b := bx) (o := 0) (i := 1) (o' := 1) rfl rfl rfl Tryz.underlying36 siz3 (by omega) (by omega)) ?_
    refine qV (r_load (v := (I6 p.2)) rfl flat3 (Bx.cell rfl)) ?_
    refine s_buildSlice (ps := [(0, (I6 p.1)), (1, (I6 p.2))]) (c := #[(I6 p.1), (I6 p.2)]) (by decide) rfl Tryz.underlying22 siz3 zer3 (by decide) (by decide) (by kernel_rfl) ?_
    intro by2 wy2 Ny2
    have Fy2 := Ny2.ge E
    have Oy2_bn := Ny2.lt Bn
    have Oy2_bx := Ny2.lt Bx
    replace Bn := Ny2.keep Bn
    replace Bx := Ny2.keep Bx
    replace hown := own_ext hown Ny2.ext
    replace hbs := Nat.le_trans hbs Ny2.ext.size
    replace E := E.ext Ny2.ext
    have By2 := Ny2.blk
    refine s_append (base := base) (n := m) (m := 2) (xs := ((L0 ++ ((n.eps.take k).map epS).flatten).map (Value.int .i64))) (news := [(I6 p.1), (I6 p.2)]) (size := 1) (bytes := 8) (v := (.slice la m lc)) (by decide) Tryz.underlying22 siz3 byt3 zer3 rfl (by decide) rfl hown rfl (rfl) (By2.cells rfl) (by simp [Value.oneCell']) (by unfold maxLen; omega) (by omega) (hbs) ?_
    intro v7 w59 Ov7 Cv7 Dv7
    replace Bn := Cv7.keep (fun h => by have := (hown.lt _ h).1; omega) Bn
    replace E := E.step Cv7 (fun x hx h => absurd (hown.lt x h).1 (by omega))
    obtain ⟨la2, lc2, rfl⟩ := own_form Ov7
    refine qA (.slice la2 (m + 2) lc2) rfl ?_
    refine WpL_nil (inB_normal (thn_normal (Wp_region ?_)))
    refine qV (r_add (k := .i64) (a := (k : Int)) (b := 1) (c := (k : Int) + 1) rfl rfl (wI64 (by omega))) ?_
    refine qM (I6 ((k : Int) + 1)) rfl ?_
    refine WpL_nil (thn_normal ?_)
    exact ⟨n.eps.length - (k + 1), by omega, k + 1, la2, lc2, m + 2, Fits.out ⟨rfl, rfl, rfl, rfl, rfl, trivial⟩, E, Bn, (by omega), (by omega), (by rw [flat_takeN epS hp]; simpa [epS] using Ov7), Nat.le_trans hbs Cv7.size, rfl⟩
   ·have khlt := hlt
    replace hlt := of_decide_eq_false hlt
    have hkk : k = n.eps.length := by omega
    obtain ⟨L1, hL1⟩ : ∃ L1, L1 = L0 ++ (n.eps.map epS).flatten := ⟨_, rfl⟩
    have hL1l : L1.length = m := by rw [hL1, List.length_append, flat2_len _ epS (fun _ => rfl)]; omega
    rw [hkk, List.take_length, ← hL1] at hown
    refine Wp_exit (thn_exit (thn_exit (inB_here (thn_normal (Wp_seq (Wp_seq_region ?_))))))
    refine qF bn 0 4 rfl Tryz.underlying26 rfl siz24 rfl ?_
    refine qV (r_load (v := (.slice xa n.edges.length xc)) rfl flat24 (Bn.cell rfl)) ?_
    refine qV (r_lenSlice (ad := xa) (n := n.edges.length) (cap := xc) Tryz.underlying24 rfl) ?_
    refine qM (I6 0) rfl ?_
    refine WpL_nil (Wp_block ?_)
    refine Wp_loop (fun nn_ σ W11 => ∃ (k2 : Nat) (la2 : Option Addr) (lc2 : Nat) (m2 : Nat), (∃ jj_, σ = upds jj_ [(1, (P6 bn 0)), (56, (.slice xa n.edges.length xc)), (57, (I6 (n.edges.length : Int))), (58, (I6 (k2 : Int))), (3, (.slice la2 m2 lc2))]) ∧ Chg none1 w0 W11 ∧ Blk W11 bn #[(I6 n.states), (I6 n.start), (.slice ea n.ends.length ec), (.slice pa n.eps.length pc), (.slice xa n.edges.length xc)] 26 ∧ (k2 ≤ n.edges.length) ∧ (m2 = L1.length + 2 * k2) ∧ (W11.ownsRow base TDI 1 (.slice la2 m2 lc2) m2 ((L1 ++ ((n.edges.take k2).map edS).flatten).map (Value.int .i64))) ∧ (base ≤ W11.heap.size) ∧ nn_ = n.edges.length - k2) (n := n.edges.length - 0) ?_ ?_
    ·exact ⟨0, la, lc, m, Fits.out ⟨rfl, rfl, rfl, rfl, rfl, trivial⟩, E, Bn, Nat.zero_le _, (by omega), (by simpa using hown), hbs, rfl⟩
    ·clear E Bn
     rintro _ _ W11 ⟨k2, la2, lc2, m2, ⟨j11, rfl⟩, E, Bn, hk2, hm2, hown2, hbs2, rfl⟩
     refine Wp_seq_region ?_
     refine qV (r_lss (k := .i64) (a := (k2 : Int)) (b := (n.edges.length : Int)) rfl rfl) ?_
     refine WpL_nil (Wp_seq ?_)
     refine Wp_cond (b := decide (((k2 : Int) : Int) < (n.edges.length : Int))) rfl (fun hlt2 => ?_) (fun hlt2 => ?_)
     ·have khlt2 := hlt2
      replace hlt2 := of_decide_eq_true hlt2
      obtain ⟨e, he⟩ := get_of_lt (l := n.edges) (i := k2) (by omega)
      obtain ⟨xb, xo, rfl, hxc⟩ := edges_cells hed (by omega)
      obtain ⟨ra, rc, hcell, hsp⟩ := hxc k2 e he
      refine Wp_skip (thn_normal (Wp_seq (Wp_block (Wp_seq_region ?_))))
      refine qV (r_indexSlice (b := xb) (o := xo) (len := n.edges.length) (cap := xc) (i := k2) (o' := xo + k2 * 3) rfl rfl rfl Tryz.underlying24 siz39 (by omega) (by omega)) ?_
      refine qV (r_loadAgg (vs := [(I6 e.1), (I6 e.2.1), (.slice ra e.2.2.length rc)]) rfl agg39 siz39 rfl (hcell.ext E)) ?_
      refine s_allocStore (v := (.agg #[(I6 e.1), (I6 e.2.1), (.slice ra e.2.2.length rc)])) (c := #[(I6 e.1), (I6 e.2.1), (.slice ra e.2.2.length rc)]) (n := 3) (by decide) zer39 rfl siz39 rfl rfl rfl (by simp [Value.oneCell']) ?_
      intro bx wx Nx
      have Fx := Nx.ge E
      have Ox_bn := Nx.lt Bn
      replace Bn := Nx.keep Bn
      replace hown2 := own_ext hown2 Nx.ext
      replace hbs2 := Nat.le_trans hbs2 Nx.ext.size
      replace E := E.ext Nx.ext
      have Bx := Nx.blk
      refine WpL_nil (Wp_region ?_)
      refine qM (.slice la2 m2 lc2) rfl ?_
      refine qF bx 0 0 rfl Tryz.underlying39 rfl siz3 rfl ?_
      refine qV (r_load (v := (I6 e.1)) rfl flat3 (Bx.cell rfl)) ?_
      refine qF bx 0 1 rfl Tryz.underlying39 rfl siz3 rfl ?_
      refine qV (r_load (v := (I6 e.2.1)) rfl flat3 (Bx.cell rfl)) ?_
      refine s_buildSlice (ps := [(0, (I6 e.1)), (1, (I6 e.2.1))]) (c := #[(I6 e.1), (I6 e.2.1)]) (by decide) rfl Tryz.underlying22 siz3 zer3 (by decide) (by decide) (by kernel_rfl) ?_
      intro by2 wy2 Ny2
      have Fy2 := Ny2.ge E
      have Oy2_bn := Ny2.lt Bn
      have Oy2_bx := Ny2.lt Bx
      replace Bn := Ny2.keep Bn
      replace Bx := Ny2.keep Bx
      replace hown2 := own_ext hown2 Ny2.ext
      replace hbs2 := Nat.le_trans hbs2 Ny2.ext.size
      replace E := E.ext Ny2.ext
      have By2 := Ny2.blk
      refine s_append (base := base) (n := m2) (m := 2) (xs := ((L1 ++ ((n.edges.take k2).map edS).flatten).map (Value.int .i64))) (news := [(I6 e.1), (I6 e.2.1)]) (size := 1) (bytes := 8) (v := (.slice la2 m2 lc2)) (by decide) Tryz.underlying22 siz3 byt3 zer3 rfl (by decide) rfl hown2 rfl (rfl) (By2.cells rfl) (by simp [Value.oneCell']) (by unfold maxLen; omega) (by omega) (hbs2) ?_
      intro v7 w59 Ov7 Cv7 Dv7
      replace Bn := Cv7.keep (fun h => by have := (hown2.lt _ h).1; omega) Bn
      replace E := E.step Cv7 (fun x hx h => absurd (hown2.lt x h).1 (by omega))
      obtain ⟨la3, lc3, rfl⟩ := own_form Ov7
      refine qA (.slice la3 (m2 + 2) lc3) rfl ?_
      refine WpL_nil (inB_normal (thn_normal (Wp_region ?_)))
      refine qV (r_add (k := .i64) (a := (k2 : Int)) (b := 1) (c := (k2 : Int) + 1) rfl rfl (wI64 (by omega))) ?_
      refine qM (I6 ((k2 : Int) + 1)) rfl ?_
      refine WpL_nil (thn_normal ?_)
      exact ⟨n.edges.length - (k2 + 1), by omega, k2 + 1, la3, lc3, m2 + 2, Fits.out ⟨rfl, rfl, rfl, rfl, rfl, trivial⟩, E, Bn, (by omega), (by omega), (by rw [flat_takeN edS he]; simpa [edS] using Ov7), Nat.le_trans hbs2 Cv7.size, rfl⟩
     ·have khlt2 := hlt2
      replace hlt2 := of_decide_eq_false hlt2
      have hkk2 : k2 = n.edges.length := by omega
      rw [hkk2, List.take_length, hL1, hL0] at hown2
      have hsl : (stsN n).length = m2 := by unfold stsN; rw [hm2, hL1, hL0, hkk2, List.length_append (bs := (n.edges.map edS).flatten), flat2_len _ edS (fun _ => rfl)]
      have hst : IntsAt W11 (.slice la2 m2 lc2) (stsN n) := own_intsD hown2 hsl.symm
      refine Wp_exit (thn_exit (thn_exit (inB_here (thn_normal (Wp_seq (Wp_seq_region ?_))))))
      refine qM (.slice la2 m2 lc2) rfl ?_
      refine qV (r_lenSlice (ad := la2) (n := m2) (cap := lc2) Tryz.underlying22 rfl) ?_
      refine qM (I6 0) rfl ?_
      refine WpL_nil (Wp_block ?_)
      refine Wp_loop (fun nn_ σ W13 => ∃ (k4 : Nat), (∃ jj_, σ = upds jj_ [(1, (P6 bn 0)), (70, (.slice la2 m2 lc2)), (71, (I6 (m2 : Int))), (72, (I6 (k4 : Int)))]) ∧ Chg none1 w0 W13 ∧ Blk W13 bn #[(I6 n.states), (I6 n.start), (.slice ea n.ends.length ec), (.slice pa n.eps.length pc), (.slice xa n.edges.length xc)] 26 ∧ (k4 ≤ m2) ∧ (∀ s ∈ (stsN n).take k4, badS n.states s = false) ∧ (IntsAt W13 (.slice la2 m2 lc2) (stsN n)) ∧ nn_ = m2 - k4) (n := m2 - 0) ?_ ?_
      ·exact ⟨0, Fits.out ⟨rfl, rfl, rfl, rfl, trivial⟩, E, Bn, Nat.zero_le _, (fun s hs => by simp at hs), hst, rfl⟩
      ·clear E Bn
       rintro _ _ W13 ⟨k4, ⟨j13, rfl⟩, E, Bn, hk4, hok4, hst4, rfl⟩
       refine Wp_seq_region ?_
       refine qV (r_lss (k := .i64) (a := (k4 : Int)) (b := (m2 : Int)) rfl rfl) ?_
       refine WpL_nil (Wp_seq ?_)
       refine Wp_cond (b := decide (((k4 : Int) : Int) < (m2 : Int))) rfl (fun hlt4 => ?_) (fun hlt4 => ?_)
       ·have khlt4 := hlt4
        replace hlt4 := of_decide_eq_true hlt4
        obtain ⟨s, hs⟩ := get_of_lt (l := stsN n) (i := k4) (by omega)
        obtain ⟨sb, so, rfl, hsx⟩ := ints_cells hst4 (by omega)
        refine Wp_skip (thn_normal (Wp_seq (Wp_block (Wp_seq_region ?_))))
        refine qV (r_indexSlice (b := sb) (o := so) (len := m2) (cap := lc2) (i := k4) (o' := so + k4) rfl rfl rfl Tryz.underlying22 siz3 (by omega) (by omega)) ?_
        refine qV (r_load (v := (I6 s)) rfl flat3 (hsx k4 s hs)) ?_
        refine qA (I6 s) rfl ?_
        refine WpL_nil (Wp_seq_region ?_)
        refine qM (I6 s) rfl ?_
        obtain ⟨e15, he15⟩ : ∃ e, (decide ((s : Int) < 0)) = e := ⟨_, rfl⟩
        refine qV ((r_lss (k := .i64) (a := s) (b := 0) rfl rfl).trans (by rw [he15]; try rfl)) ?_
        refine qM (.bool e15) rfl ?_
        refine qG (.bool e15) (nU e15 (I6 s)) (by cases e15 <;> first | exact gA | exact gB | exact .inl ⟨rfl, r_move (v := (I6 s)) rfl⟩) ?_
        refine qG (.bool e15) (nU e15 (P6 bn 0)) (by cases e15 <;> first | exact gA | exact gB | exact .inl ⟨rfl, r_fieldAddr (b := bn) (o := 0) (o' := 0) rfl Tryz.underlying26 rfl siz3 rfl⟩) ?_
        refine qG (.bool e15) (nU e15 (I6 n.states)) (by cases e15 <;> first | exact gA | exact gB | exact .inl ⟨rfl, r_load (v := (I6 n.states)) rfl flat3 (Bn.cell rfl)⟩) ?_
        obtain ⟨e16, he16⟩ : ∃ e, (decide ((n.states : Int) ≤ s)) = e := ⟨_, rfl⟩
        refine qG (.bool e15) (nU e15 (.bool e16)) (by cases e15 <;> first | exact gA | exact gB | exact .inl ⟨rfl, (r_geq (k := .i64) (a := s) (b := n.states) rfl rfl).trans (by rw [he16]; try rfl)⟩) ?_
        obtain ⟨e17, he17⟩ : ∃ e, (e15 || e16) = e := ⟨_, rfl⟩
        refine qV (r_pick (b := e15) (v := .bool e17) rfl (by rw [← he17]; cases e15 <;> rfl)) ?_
        refine WpL_nil ?_
        subst he17
        subst he16
        subst he15
        refine Wp_cond (b := ((decide ((s : Int) < 0)) || (decide ((n.states : Int) ≤ s)))) rfl (fun hbad => ?_) (fun hbad => ?_)
        ·have khbad := hbad
         refine Wp_seq_region ?_
         refine qA (I6 1) rfl ?_
         refine WpL_nil (Wp_ret (inB_ret (thn_ret (thn_ret (inB_ret (thn_ret ?_))))))
         refine fin_tmp Tryz.results5 (v := (.int .i64 1)) rfl ?_
         exact ⟨by unfold chkN; rw [if_neg h0, if_pos (List.any_eq_true.2 ⟨s, List.mem_of_getElem? hs, by unfold badS; simpa using hbad⟩)], E⟩
        ·have khbad := hbad
         refine Wp_skip (inB_normal (thn_normal (Wp_region ?_)))
         refine qV (r_add (k := .i64) (a := (k4 : Int)) (b := 1) (c := (k4 : Int) + 1) rfl rfl (wI64 (by omega))) ?_
         refine qM (I6 ((k4 : Int) + 1)) rfl ?_
         refine WpL_nil (thn_normal ?_)
         exact ⟨m2 - (k4 + 1), by omega, k4 + 1, Fits.out ⟨rfl, rfl, rfl, rfl, trivial⟩, E, Bn, (by omega), (fun x hx => by rw [List.take_add_one, hs] at hx; rcases List.mem_append.1 hx with h9 | h9; exact hok4 x h9; simp at h9; subst h9; unfold badS; simpa using hbad), hst4, rfl⟩
       ·have khlt4 := hlt4
        replace hlt4 := of_decide_eq_false hlt4
        have h1 : (stsN n).any (badS n.states) = false := by rw [List.any_eq_false]; intro x hx; rw [hok4 x (by rw [List.take_of_length_le (by omega)]; exact hx)]; simp
        refine Wp_exit (thn_exit (thn_exit (inB_here (thn_normal (Wp_seq (Wp_seq_region ?_))))))
        refine qF bn 0 4 rfl Tryz.underlying26 rfl siz24 rfl ?_
        refine qV (r_load (v := (.slice xa n.edges.length xc)) rfl flat24 (Bn.cell rfl)) ?_
        refine qV (r_lenSlice (ad := xa) (n := n.edges.length) (cap := xc) Tryz.underlying24 rfl) ?_
        refine qM (I6 0) rfl ?_
        refine WpL_nil (Wp_block ?_)
        refine Wp_loop (fun nn_ σ W19 => ∃ (k3 : Nat), (∃ jj_, σ = upds jj_ [(86, (.slice xa n.edges.length xc)), (87, (I6 (n.edges.length : Int))), (88, (I6 (k3 : Int)))]) ∧ Chg none1 w0 W19 ∧ Blk W19 bn #[(I6 n.states), (I6 n.start), (.slice ea n.ends.length ec), (.slice pa n.eps.length pc), (.slice xa n.edges.length xc)] 26 ∧ (k3 ≤ n.edges.length) ∧ (setsE n.edges = setsE (n.edges.drop k3)) ∧ nn_ = n.edges.length - k3) (n := n.edges.length - 0) ?_ ?_
        ·exact ⟨0, Fits.out ⟨rfl, rfl, rfl, trivial⟩, E, Bn, Nat.zero_le _, (by rw [List.drop_zero]), rfl⟩
        ·clear E Bn
         rintro _ _ W19 ⟨k3, ⟨j19, rfl⟩, E, Bn, hk3, hz, rfl⟩
         refine Wp_seq_region ?_
         refine qV (r_lss (k := .i64) (a := (k3 : Int)) (b := (n.edges.length : Int)) rfl rfl) ?_
         refine WpL_nil (Wp_seq ?_)
         refine Wp_cond (b := decide (((k3 : Int) : Int) < (n.edges.length : Int))) rfl (fun hlt3 => ?_) (fun hlt3 => ?_)
         ·have khlt3 := hlt3
          replace hlt3 := of_decide_eq_true hlt3
          obtain ⟨e, he⟩ := get_of_lt (l := n.edges) (i := k3) (by omega)
          obtain ⟨xb, xo, rfl, hxc⟩ := edges_cells hed (by omega)
          obtain ⟨ra, rc, hcell, hsp⟩ := hxc k3 e he
          have hz2 := setsE_step hz he
          refine Wp_skip (thn_normal (Wp_seq (Wp_block (Wp_seq_region ?_))))
          refine qV (r_indexSlice (b := xb) (o := xo) (len := n.edges.length) (cap := xc) (i := k3) (o' := xo + k3 * 3) rfl rfl rfl Tryz.underlying24 siz39 (by omega) (by omega)) ?_
          refine qV (r_loadAgg (vs := [(I6 e.1), (I6 e.2.1), (.slice ra e.2.2.length rc)]) rfl agg39 siz39 rfl (hcell.ext E)) ?_
          refine s_allocStore (v := (.agg #[(I6 e.1), (I6 e.2.1), (.slice ra e.2.2.length rc)])) (c := #[(I6 e.1), (I6 e.2.1), (.slice ra e.2.2.length rc)]) (n := 3) (by decide) zer39 rfl siz39 rfl rfl rfl (by simp [Value.oneCell']) ?_
          intro bx wx Nx
          have Fx := Nx.ge E
          have Ox_bn := Nx.lt Bn
          replace Bn := Nx.keep Bn
          replace E := E.ext Nx.ext
          have Bx := Nx.blk
          refine WpL_nil (Wp_seq_region ?_)
          refine qF bx 0 2 rfl Tryz.underlying39 rfl siz37 rfl ?_
          refine qV (r_load (v := (.slice ra e.2.2.length rc)) rfl flat37 (Bx.cell rfl)) ?_
          refine WpL_enter rfl rfl (by decide) (r_callF (vs := [(.slice ra e.2.2.length rc)]) Tryz.func29 kQ kQ rfl) (cset_c _ _ e.2.2 (hsp.ext E)) ?_
          rintro _ w29 ⟨rfl, X29⟩
          replace Bn := X29.keep Bn
          replace Bx := X29.keep Bx
          replace E := E.ext X29
          refine qA (I6 (checkE e.2.2)) rfl ?_
          refine WpL_nil (Wp_seq_region ?_)
          refine qM (I6 (checkE e.2.2)) rfl ?_
          refine qV (r_neq (k := .i64) (a := checkE e.2.2) (b := 0) rfl rfl) ?_
          refine WpL_nil ?_
          refine Wp_cond (b := decide ((checkE e.2.2 : Int) ≠ 0)) rfl (fun h2 => ?_) (fun h2 => ?_)
          ·have kh2 := h2
           replace h2 := of_decide_eq_true h2
           refine Wp_seq_region ?_
           refine qM (I6 (checkE e.2.2)) rfl ?_
           refine qA (I6 (checkE e.2.2)) rfl ?_
           refine WpL_nil (Wp_ret (inB_ret (thn_ret (thn_ret (inB_ret (thn_ret ?_))))))
           refine fin_tmp Tryz.results5 (v := (.int .i64 (checkE e.2.2))) rfl ?_
           exact ⟨by unfold chkN; rw [if_neg h0, h1, hz2.2 h2]; rfl, E⟩
          ·have kh2 := h2
           replace h2 := of_decide_eq_false h2
           refine Wp_skip (inB_normal (thn_normal (Wp_region ?_)))
           refine qV (r_add (k := .i64) (a := (k3 : Int)) (b := 1) (c := (k3 : Int) + 1) rfl rfl (wI64 (by omega))) ?_
           refine qM (I6 ((k3 : Int) + 1)) rfl ?_
           refine WpL_nil (thn_normal ?_)
           exact ⟨n.edges.length - (k3 + 1), by omega, k3 + 1, Fits.out ⟨rfl, rfl, rfl, trivial⟩, E, Bn, (by omega), hz2.1 (by omega), rfl⟩
         ·have khlt3 := hlt3
          replace hlt3 := of_decide_eq_false hlt3
          have hkk3 : k3 = n.edges.length := by omega
          refine Wp_exit (thn_exit (thn_exit (inB_here (thn_normal (Wp_seq_region ?_)))))
          refine qA (I6 0) rfl ?_
          refine WpL_nil (Wp_ret ?_)
          refine fin_tmp Tryz.results5 (v := (.int .i64 0)) rfl ?_
          exact ⟨by unfold chkN; rw [if_neg h0, h1, hz, hkk3, List.drop_length]; rfl, E⟩
end Go.Proofs
namespace Go.Proofs
open Go Go.Eng Go.Sort
set_option maxRecDepth 100000
theorem gkOf_c (wb : World) : ∀ (n : Nat) (x : Re), x.size ≤ n → n ≤ 44 → okRe x → usesB [7, 8, 10] x = false → GkOf wb x := by
  intro n
  induction n with
  | zero => intro x h; have := x.size_pos; omega
  | succ n ih =>
  intro x hn hb hok hu
  have hN := node_inv (okRe_node hok)
  have hla := len_lt_size x
  obtain ⟨hk0, hua⟩ := usesB_arg hu
  have hof : ∀ y ∈ x.args, GkOf wb y := fun y hy => by
    obtain ⟨i, hi⟩ := List.getElem?_of_mem hy
    have h1 := Re.size_arg hi
    exact ih y (by omega) (by omega) (okRes_get (okRe_args hok) hi) (hua y hy)
  have hk := hN.k
  have hk7 : x.kind ≠ 7 ∧ x.kind ≠ 8 ∧ x.kind ≠ 10 := by
    simp at hk0
    exact ⟨hk0.1, hk0.2.1, hk0.2.2⟩
  by_cases h0 : x.kind = 0
  · exact gof0_c wb x h0
  by_cases h1 : x.kind = 1
  · exact gof1_c wb x h1
  by_cases h2 : x.kind = 2
  · exact gof2_c wb x h2
  by_cases h3 : x.kind = 3
  · exact gof3_c wb x h3 (by omega) hof
  by_cases h4 : x.kind = 4
  · exact gof4_c wb x h4 (by omega) hof
  by_cases h5 : x.kind = 5
  · exact gof5_c wb x h5 (hN.one (by omega)) (by omega) hof
  by_cases h6 : x.kind = 6
  · exact gof6_c wb x h6 (hN.one (by omega)) (by omega) (by have := (hN.rep h6).2.2; omega) hof
  · exact gof9_c wb x (by omega) (hN.one (by omega)) hof
/-- Sorted, without repeats. -/
def upS (l : List Int) : List Int := Lib.compact (l.mergeSort leB)
theorem upS_mem {l : List Int} {x : Int} : x ∈ upS l ↔ x ∈ l := (compact_sorted l).2 x
theorem upS_inc (l : List Int) : (upS l).Pairwise (· < ·) := (compact_sorted l).1
def gs0 : GS := ⟨[], [[]]⟩
theorem gi0 : GI gs0 := ⟨rfl, by decide⟩
theorem rowB0 : RowB 25000 gs0.fol := fun i l h => by
 have := List.mem_of_getElem? h
 rw [List.mem_singleton.1 (show l ∈ [[]] from this)]; exact Nat.zero_le _
def folG (g : GS) (p : Pt) : List (List Nat) := g.fol.set 0 p.fst
def ends0 (p : Pt) : List Int := if p.nul then [0] else []
def endsG (p : Pt) : List Int := upS (ends0 p ++ nZ p.lst)
def edgO (g : GS) (s : Nat) (t : Int) : Ed := ((s : Int), t, g.sets.getD (t.toNat - 1) [])
def rowE (g : GS) (p : Pt) (s : Nat) : List Ed := (upS (nZ ((folG g p).getD s []))).map (edgO g s)
def edgU (g : GS) (p : Pt) : Nat → List Ed
  | 0 => []
  | s + 1 => edgU g p s ++ rowE g p s
def edgG (g : GS) (p : Pt) : List Ed := edgU g p g.fol.length
def nfG (g : GS) (p : Pt) : Nf := ⟨((g.sets.length + 1 : Nat) : Int), 0, endsG p, [], edgG g p⟩
theorem edgU_le (g : GS) (p : Pt) : ∀ {s m : Nat}, s ≤ m → (edgU g p s).length ≤ (edgU g p m).length
  | s, 0, h => by obtain rfl : s = 0 := (by omega); exact Nat.le_refl _
  | s, m + 1, h => by
    rcases Nat.lt_or_ge m s with h1 | h1
    · obtain rfl : s = m + 1 := (by omega); exact Nat.le_refl _
    · have := edgU_le g p h1
      rw [edgU, List.length_append]; omega
/-- What Glushkov returns. -/
def GkP (t : Re) (n : Nf) (e : Int) : Prop := (simE t ≠ 0 ∧ n = nf0 ∧ e = simE t) ∨ (simE t = 0 ∧ gkO t gs0 = none ∧ n = nf0 ∧ e = 2) ∨
 (simE t = 0 ∧ ∃ g p, gkO t gs0 = some (g, p) ∧ GSt1 t.size gs0 g p ∧ ((e = 0 ∧ n = nfG g p ∧ (edgG g p).length ≤ 20000) ∨ (e = 2 ∧ n = nf0 ∧ 20000 < (edgG g p).length)))
/-- The positions in the rows are there. -/
theorem fol_in {c : Nat} {g : GS} {p : Pt} (h : GSt1 c gs0 g p) {s : Nat} {l : List Nat} (hl : (folG g p)[s]? = some l) : l.length ≤ c * 499 + 499 ∧ ∀ t ∈ l, 0 < t ∧ t ≤ g.sets.length := by
 unfold folG at hl
 rw [List.getElem?_set] at hl
 have h9 := h.inv.2
 have hz : gs0.sets.length = 0 := rfl
 split at hl
 ·split at hl
  ·cases hl
   have h1 := h.fst
   rw [hz] at h1
   exact ⟨by have := h1.2.2; omega, fun t ht => h1.2.1 t ht⟩
  ·cases hl
 ·have h1 := h.new s l (by rw [hz]; omega) hl
  rw [hz] at h1
  refine ⟨?_, h1.2⟩
  have : c * (g.sets.length - 0) ≤ c * 499 := Nat.mul_le_mul_left _ (by omega)
  omega
theorem gkst0 {w : World} {base bl pb : Nat} (hb : base ≤ bl) (hlt : bl < pb) (hB : Blk w bl #[.slice none 0 0] TDIs) (hP : Blk w pb #[.slice none 0 0, .slice (some ⟨bl, 0, none⟩) 1 1] TGk) :
  GkSt (fun y => y < bl) w base pb (.slice none 0 0) (.slice (some ⟨bl, 0, none⟩) 1 1) [.slice none 0 0] gs0 := by
 have hl := hB.lt
 have hq : ∀ y, LsQ (.slice (some ⟨bl, 0, none⟩) 1 1) [.slice none 0 0] y → y = bl := fun y hy => by
  rcases hy with h1 | ⟨i, v, h1, h2⟩
  ·cases h1; rfl
  ·have := List.mem_of_getElem? h1
   rw [List.mem_singleton.1 this] at h2
   cases h2
 have hG := GSt.made (To := TDIs) (e := TDI) (sz := 1) (base := base) (b := bl) (n := 1) (w := w) hB hb (by decide) hb
 exact ⟨hP, ⟨[], World.ownsRow_nil _ _ _ _, rfl, fun i u z hu => by simp at hu⟩, hG, fun b h => (by cases h), fun b h hf => by have := hq b h; omega, fun b h => (by cases h), fun hf => by omega, ⟨fun h => (by cases h), fun h => by have := hq pb h; omega⟩, by omega, fun y hy => by omega⟩
/-- The first row is put in: from here on all is only read. -/
theorem fol_end {F : Nat → Prop} {w w2 : World} {base pb gb n cap : Nat} {sv v0 : Value} {vs : List Value} {g : GS} {l0 : List Nat} {cur : Array Value} (h : GkSt F w base pb sv (.slice (some ⟨gb, 0, none⟩) n cap) vs g) (hn : n = g.fol.length) (hn0 : 0 < n) (hB : Blk w gb cur TDIs) (hp : FrI F w v0 l0) (P : Put w w2 gb (cur.setIfInBounds 0 v0) TDIs) :
  (∀ (s : Nat) l, (g.fol.set 0 l0)[s]? = some l → ∃ v, w2.cell? ⟨gb, 0 + s, none⟩ = some v ∧ IntsAt w2 v (nZ l)) ∧ (∃ us, w2.ownsRow base TSl 1 sv g.sets.length us ∧ SetF F w2 g.sets us) := by
 have hgb : LsQ (.slice (some ⟨gb, 0, none⟩) n cap) vs gb := .inl rfl
 obtain ⟨us, h3, h4⟩ := h.sets
 refine ⟨fun s l hl => ?_, us, own_chg h3 P.chg fun k hk e => h.apt k hk (by have e' : k = gb := e; rw [e']; exact hgb), h4.chg P.chg fun y hy e => h.hfF y (by have e' : y = gb := e; rw [e']; exact hgb) hy⟩
 have hlen : (g.fol.map nRow).length = g.fol.length := List.length_map _
 have hvl : vs.length = g.fol.length := by have := h.fol.l.len; omega
 have ho := own_writeG (h.fol.l.on (n := n) (by omega)) hB (i := 0) (v := v0) (by omega) P.blk
 obtain ⟨gg, hgg, _, hc⟩ := own_cells ho hn0
 simp only [Option.some.injEq, Addr.mk.injEq, and_true] at hgg
 subst hgg
 have hsl := lt_of_get hl
 rw [List.length_set] at hsl
 rw [List.getElem?_set] at hl
 split at hl
 ·rename_i e
  subst e
  split at hl
  ·cases hl
   exact ⟨v0, hc 0 v0 (by rw [List.getElem?_set, if_pos rfl, if_pos (by omega)]), (hp.chg P.chg fun y hy e => h.hfF y (by have e' : y = gb := e; rw [e']; exact hgb) hy).1⟩
  ·omega
 ·rename_i e
  obtain ⟨v, hv⟩ := get_of_lt (l := vs) (i := s) (by omega)
  have hin := h.fol.l.inn s v _ hv (by rw [List.getElem?_map, hl]; rfl)
  refine ⟨v, hc s v (by rw [List.getElem?_set, if_neg e]; exact hv), own_intsD (own_chg hin P.chg fun b hb e2 => h.fol.l.apo s v b hv hb (by have e' : b = gb := e2; rw [e']; rfl)) (nZ_len l).symm⟩
end Go.Proofs
namespace Go.Proofs
open Go Go.Eng Go.Sort
set_option maxRecDepth 100000
abbrev TNf : Nat := 26
theorem siz124 : Siz Tryz.prog 124 0 := by unfold Siz; kernel_rfl
theorem zer124 : Zer Tryz.prog 124 (.agg #[]) := by unfold Zer; kernel_rfl
end Go.Proofs
