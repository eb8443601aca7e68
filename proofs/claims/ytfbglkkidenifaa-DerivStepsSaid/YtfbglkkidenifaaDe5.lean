/- Contracts and plain lemmas, part 5. -/
import Derived.Tactics
import Derived.Deep.Quiet
import Derived.Laws.AppendOwn
import Derived.KernelRfl
import Derived.Laws.Entries
import Derived.Laws.Build
import Derived.Below
import Derived.RowKit3
import Derived.StillTail
import Derived.Sort.Grow
import Derived.Deep.Draws
import Derived.Test.YtfbglkkidenifaaChecked
import Derived.Laws.StructEq
import Derived.Shelf.SlSortCmp.WholeK
import Derived.Test.YtfbglkkidenifaaProg
import Derived.MapKept
import Derived.Laws.BytesArg
import Derived.Test.YtfbglkkidenifaaDe4
namespace Go.Proofs
open Go Go.Eng Go.Sort
set_option maxRecDepth 100000
theorem pre478 {k : Int} {l m : List Re} (hk : k = 4 ∨ k = 7 ∨ k = 8) (h8 : k = 8 → l.length = 1) (hl : m.length = l.length) : PreN k [] m 0 0 false := ⟨by omega, rfl, fun _ => rfl, fun _ => ⟨rfl, rfl⟩, by omega, by omega, fun h => by rw [hl]; exact h8 (by omega), by omega⟩
theorem steps_small {c : Int} {ts : List Re} (h : ∀ x ∈ ts, SimOk x) (hs : Re.sizes ts ≤ 300) : Re.sizes (ts.map (stepR c)) ≤ 200000 := by
 have h1 := steps_size c 300 (simOks_iff.2 h) hs
 have h2 : (300 + 6) * (2 * Re.sizes ts) ≤ (300 + 6) * 600 := Nat.mul_le_mul_left _ (by omega)
 rw [stepRs_map] at h1
 omega
set_option maxHeartbeats 2000000 in
theorem step_k4 (c : Int) (n : Nat) (ih : StepOk c n) (t : Re) (hn : t.size ≤ n) (h300 : t.size ≤ 300) (hok : SimOk t) (hk : t.kind = 4 ∨ t.kind = 7 ∨ t.kind = 8) (w0 : World) (S : Nat → Prop) (vs : List Value) (ht : ReIn S w0 t vs) (hS : ∀ x, S x → x < w0.heap.size) :
  Ret Try.prog 17 #[.agg vs.toArray, .int .i64 c] w0 fun r w => (∃ us, r = .agg us.toArray ∧ ReIn (fun b => S b ∨ w0.heap.size ≤ b) w (stepR c t) us) ∧ Ext w0 w := by
 have ht0 := ht
 obtain ⟨sa, sc, aa, ac, rfl, hset, hlen, hargs⟩ := ht.form
 have hal := len_lt_size t
 have hszt := t.size_eq
 obtain ⟨N, hN⟩ : ∃ N, N = nodeS (.mk t.kind [] (t.args.map (stepR c)) 0 0 false) := ⟨_, rfl⟩
 have hst : stepR c t = N := by rw [hN]; exact st478 hk
 rw [hst]
 clear hst
 have h8 : t.kind = 8 → t.args.length = 1 := fun h => by obtain ⟨y, hy, _⟩ := hok.n.k8 h; rw [hy]; rfl
 refine Ret_of Try.func17 rfl Try.ntmps17 (Nat.le_of_ble_eq_true rfl) ?_
 have E : Chg none1 w0 w0 := Chg.refl _ _
 refine Wp_seq_region ?_
 refine s_box (v := (.agg (R6 t sa sc aa ac))) (c := (R6 t sa sc aa ac)) (by decide) rfl rfl ?_
 intro br wr Nr
 have Fr := Nr.ge E
 replace E := E.ext Nr.ext
 have Br := Nr.blk
 refine s_alloc (c := #[(I6 0), (.slice none 0 0), (.slice none 0 0), (I6 0), (I6 0), (.bool false)]) (by decide) zer27 rfl ?_
 intro bo wo No
 have Fo := No.ge E
 have Oo_br := No.lt Br
 replace Br := No.keep Br
 replace E := E.ext No.ext
 have Bo := No.blk
 refine WpL_nil (Wp_seq (Wp_seq_region ?_))
 refine qF br 0 0 rfl Try.underlying27 rfl siz3 rfl ?_
 refine qV (r_load (v := (I6 t.kind)) rfl flat3 (Br.cell rfl)) ?_
 refine WpL_nil (Wp_block (Wp_seq_region ?_))
 refine qV (r_eql (k := .i64) (a := t.kind) (b := 2) rfl rfl) ?_
 refine qA (.bool (decide ((t.kind : Int) = 2))) rfl ?_
 refine WpL_nil ?_
 obtain ⟨n1, hn1⟩ : ∃ n1, n1 = wo.heap.size := ⟨_, rfl⟩
 have hob : br < n1 ∧ bo < n1 ∧ w0.heap.size ≤ bo ∧ w0.heap.size ≤ n1 := ⟨by rw [hn1]; exact Br.lt, by rw [hn1]; exact Bo.lt, by omega, by rw [hn1]; exact E.size⟩
 have hn1w : n1 ≤ wo.heap.size := by omega
 have hc1 : (decide ((t.kind : Int) = 2)) = false := decide_eq_false (by omega)
 refine Wp_cond_false (congrArg Value.bool hc1) ?_
 refine Wp_seq_region ?_
 refine qV (r_eql (k := .i64) (a := t.kind) (b := 3) rfl rfl) ?_
 refine qA (.bool (decide ((t.kind : Int) = 3))) rfl ?_
 refine WpL_nil ?_
 have hc2 : (decide ((t.kind : Int) = 3)) = false := decide_eq_false (by omega)
 refine Wp_cond_false (congrArg Value.bool hc2) ?_
 refine Wp_cut (fun σ W3 => ∃ (q : Bool), (∃ jj_, σ = upds jj_ [(1, (I6 c)), (2, (P6 br 0)), (4, (P6 bo 0)), (12, (I6 t.kind)), (50, (.bool q))]) ∧ Chg none1 w0 W3 ∧ Blk W3 br (R6 t sa sc aa ac) 27 ∧ Blk W3 bo #[(I6 0), (.slice none 0 0), (.slice none 0 0), (I6 0), (I6 0), (.bool false)] 27 ∧ (q = true) ∧ (n1 ≤ W3.heap.size)) ?_ ?_
 ·skip
  refine Wp_seq_region ?_
  refine qV (r_eql (k := .i64) (a := t.kind) (b := 4) rfl rfl) ?_
  refine qA (.bool (decide ((t.kind : Int) = 4))) rfl ?_
  refine WpL_nil ?_
  refine Wp_cond (b := decide ((t.kind : Int) = 4)) rfl (fun h4 => ?_) (fun h4 => ?_)
  ·have kh4 := h4
   replace h4 := of_decide_eq_true h4
   refine Wp_skip (thn_normal ?_)
   exact ⟨(decide ((t.kind : Int) = 4)), Fits.out ⟨rfl, rfl, rfl, rfl, rfl, trivial⟩, E, Br, Bo, decide_eq_true h4, hn1w⟩
  ·have kh4 := h4
   replace h4 := of_decide_eq_false h4
   refine Wp_seq_region ?_
   refine qV (r_eql (k := .i64) (a := t.kind) (b := 7) rfl rfl) ?_
   refine qA (.bool (decide ((t.kind : Int) = 7))) rfl ?_
   refine WpL_nil ?_
   refine Wp_cond (b := decide ((t.kind : Int) = 7)) rfl (fun h7 => ?_) (fun h7 => ?_)
   ·have kh7 := h7
    replace h7 := of_decide_eq_true h7
    refine Wp_skip (thn_normal ?_)
    exact ⟨(decide ((t.kind : Int) = 7)), Fits.out ⟨rfl, rfl, rfl, rfl, rfl, trivial⟩, E, Br, Bo, decide_eq_true h7, hn1w⟩
   ·have kh7 := h7
    replace h7 := of_decide_eq_false h7
    refine Wp_region ?_
    refine qV (r_eql (k := .i64) (a := t.kind) (b := 8) rfl rfl) ?_
    refine qA (.bool (decide ((t.kind : Int) = 8))) rfl ?_
    refine WpL_nil (thn_normal ?_)
    exact ⟨(decide ((t.kind : Int) = 8)), Fits.out ⟨rfl, rfl, rfl, rfl, rfl, trivial⟩, E, Br, Bo, decide_eq_true (by omega), hn1w⟩
 ·clear E Br Bo
  rintro _ W3 ⟨q, ⟨j3, rfl⟩, E, Br, Bo, hq, hn1w⟩
  have hc6 : (q) = true := hq
  refine Wp_cond_true (congrArg Value.bool hc6) ?_
  refine Wp_seq_region ?_
  refine qA (.slice none 0 0) rfl ?_
  refine WpL_nil (Wp_seq (Wp_seq_region ?_))
  refine qF br 0 2 rfl Try.underlying27 rfl siz25 rfl ?_
  refine qV (r_load (v := (.slice aa t.args.length ac)) rfl flat25 (Br.cell rfl)) ?_
  refine qV (r_lenSlice (ad := aa) (n := t.args.length) (cap := ac) Try.underlying25 rfl) ?_
  refine qM (I6 0) rfl ?_
  refine WpL_nil (Wp_block ?_)
  refine Wp_loop (fun nn_ σ W7 => ∃ (i : Nat) (la : Option Addr) (lc : Nat) (rows : List (List Value)) (T : Nat → Prop), (∃ jj_, σ = upds jj_ [(1, (I6 c)), (2, (P6 br 0)), (4, (P6 bo 0)), (55, (.slice aa t.args.length ac)), (56, (I6 (t.args.length : Int))), (57, (I6 (i : Int))), (7, (.slice la i lc))]) ∧ Chg none1 w0 W7 ∧ Blk W7 br (R6 t sa sc aa ac) 27 ∧ Blk W7 bo #[(I6 0), (.slice none 0 0), (.slice none 0 0), (I6 0), (I6 0), (.bool false)] 27 ∧ (i ≤ t.args.length) ∧ (W7.ownsRow n1 TRe 6 (.slice la i lc) i rows.flatten) ∧ (RowsIn T W7 ((t.args.take i).map (stepR c)) rows) ∧ (n1 ≤ W7.heap.size) ∧ (∀ y, T y → (S y ∨ n1 ≤ y) ∧ y < W7.heap.size) ∧ (∀ b, (Value.slice la i lc).ownBlock = some b → ¬ T b) ∧ nn_ = t.args.length - i) (n := t.args.length - 0) ?_ ?_
  ·exact ⟨0, none, 0, [], (fun _ => False), Fits.out ⟨rfl, rfl, rfl, rfl, rfl, rfl, rfl, trivial⟩, E, Br, Bo, Nat.zero_le _, World.ownsRow_nil _ _ _ _, rfl, hn1w, (fun y h => h.elim), (fun b _ h => h), rfl⟩
  ·clear E Br Bo
   rintro _ _ W7 ⟨i, la, lc, rows, T, ⟨j7, rfl⟩, E, Br, Bo, hi, hO, hR, hbs, hT, hTn, rfl⟩
   refine Wp_seq_region ?_
   refine qV (r_lss (k := .i64) (a := (i : Int)) (b := (t.args.length : Int)) rfl rfl) ?_
   refine WpL_nil (Wp_seq ?_)
   refine Wp_cond (b := decide (((i : Int) : Int) < (t.args.length : Int))) rfl (fun hlt => ?_) (fun hlt => ?_)
   ·have khlt := hlt
    replace hlt := of_decide_eq_true hlt
    obtain ⟨x, hx⟩ := get_of_lt (l := t.args) (i := i) (by omega)
    have hxo := hok.a x (List.mem_of_getElem? hx)
    have hxz := Re.size_arg hx
    obtain ⟨ab, ao, hab, rfl, hres⟩ := hargs.resolve_left (fun h => by rw [h] at hx; cases hx)
    obtain ⟨us, hus, hxt⟩ := hres.get hx
    have hxt0 := hxt
    obtain ⟨xsa, xsc, xaa, xac, rfl, _, _, _⟩ := hxt.form
    obtain ⟨M, hM⟩ : ∃ M, M = stepR c x := ⟨_, rfl⟩
    refine Wp_skip (thn_normal (Wp_seq (Wp_block (Wp_seq_region ?_))))
    refine qV (r_indexSlice (b := ab) (o := ao) (len := t.args.length) (cap := ac) (i := i) (o' := ao + i * 6) rfl rfl rfl Try.underlying25 siz27 (by omega) (by omega)) ?_
    refine qV (r_loadAgg (vs := [(I6 x.kind), (.slice xsa x.set.length xsc), (.slice xaa x.args.length xac), (I6 x.mn), (I6 x.mx), (.bool x.neg)]) rfl agg27 siz27 rfl (hus.ext E)) ?_
    refine s_allocStore (v := (.agg (R6 x xsa xsc xaa xac))) (c := (R6 x xsa xsc xaa xac)) (n := 6) (by decide) zer27 rfl siz27 rfl rfl rfl (by simp [Value.oneCell']) ?_
    intro bu wu Nu
    have Fu := Nu.ge E
    have Ou_br := Nu.lt Br
    have Ou_bo := Nu.lt Bo
    replace Br := Nu.keep Br
    replace Bo := Nu.keep Bo
    replace hO := own_ext hO Nu.ext
    replace hR := RowsIn.ext Nu.ext hR
    replace hbs := Nat.le_trans hbs Nu.ext.size
    replace hT := tl_ext hT Nu.ext
    replace E := E.ext Nu.ext
    have Bu := Nu.blk
    refine WpL_nil (Wp_region ?_)
    refine qM (.slice la i lc) rfl ?_
    refine qV (r_loadAgg (vs := [(I6 x.kind), (.slice xsa x.set.length xsc), (.slice xaa x.args.length xac), (I6 x.mn), (I6 x.mx), (.bool x.neg)]) rfl agg27 siz27 rfl (Bu.cells rfl)) ?_
    refine qM (I6 c) rfl ?_
    obtain ⟨n2, hn2⟩ : ∃ n2, n2 = (wu).heap.size := ⟨_, rfl⟩
    have hn12 : n1 ≤ n2 := by rw [hn2]; exact hbs
    have hOb : ∀ b, (Value.slice la i lc).ownBlock = some b → n1 ≤ b ∧ b < n2 := fun b hb => ⟨(hO.lt b hb).1, by rw [hn2]; exact (hO.lt b hb).2⟩
    refine WpL_enter rfl rfl (by decide) (r_callF (vs := [(.agg (R6 x xsa xsc xaa xac)), (I6 c)]) Try.func17 nm17 bd17 rfl) ((ih x _ S _ (by omega) hxo (ReIn.ext E x hxt0) (fun y hy => by have := hS y hy; have := E.size; omega)).mono (R' := fun r w => reG (fun b => S b ∨ n2 ≤ b) M r w ∧ Ext wu w) (fun r w h => ⟨reG_of (S' := fun b => S b ∨ _ ≤ b) (fun b hb => by rcases hb with h1 | h1; exact .inl h1; exact .inr (by rw [hn2]; exact h1)) (by rw [hM]; exact h.1), h.2⟩)) ?_
    rintro _ w9 ⟨⟨ma, mc, pa, pc, rfl, hX⟩, X9⟩
    replace Br := X9.keep Br
    replace Bo := X9.keep Bo
    replace Bu := X9.keep Bu
    replace hO := own_ext hO X9
    replace hR := RowsIn.ext X9 hR
    replace hbs := Nat.le_trans hbs X9.size
    replace hT := tl_ext hT X9
    replace E := E.ext X9
    have hXl := ReIn.lt M hX
    refine s_buildSlice (ps := [(0, (.agg (R6 M ma mc pa pc)))]) (c := (R6 M ma mc pa pc)) (by decide) rfl Try.underlying25 siz27 zer27 (by decide) (by decide) (by kernel_rfl) ?_
    intro bz wz Nz
    have Fz := Nz.ge E
    have Oz_br := Nz.lt Br
    have Oz_bo := Nz.lt Bo
    have Oz_bu := Nz.lt Bu
    replace Br := Nz.keep Br
    replace Bo := Nz.keep Bo
    replace Bu := Nz.keep Bu
    replace hO := own_ext hO Nz.ext
    replace hR := RowsIn.ext Nz.ext hR
    replace hbs := Nat.le_trans hbs Nz.ext.size
    replace hT := tl_ext hT Nz.ext
    replace hXl := ReIn.ext Nz.ext M hXl
    replace E := E.ext Nz.ext
    have Bz := Nz.blk
    have hQ9 : True := trivial
    refine s_append (base := n1) (n := i) (m := 1) (xs := rows.flatten) (news := [(I6 M.kind), (.slice ma M.set.length mc), (.slice pa M.args.length pc), (I6 M.mn), (I6 M.mx), (.bool M.neg)]) (size := 6) (bytes := 80) (v := (.slice la i lc)) (by decide) Try.underlying25 siz27 byt27 zer27 rfl (by decide) rfl hO rfl (rfl) (Bz.cells rfl) (by simp [Value.oneCell']) (by unfold maxLen; omega) (by omega) (hbs) ?_
    intro v9 w66 Ov9 Cv9 Dv9
    replace Br := Cv9.keep (fun h => by have := (hO.lt _ h).1; omega) Br
    replace Bo := Cv9.keep (fun h => by have := (hO.lt _ h).1; omega) Bo
    replace E := E.step Cv9 (fun x hx h => absurd (hO.lt x h).1 (by omega))
    obtain ⟨la2, lc2, rfl⟩ := own_form Ov9
    have hT2 : ∀ y, (T y ∨ ((S y ∨ n2 ≤ y) ∧ y < w9.heap.size)) → (S y ∨ n1 ≤ y) ∧ y < (w66).heap.size ∧ (Value.slice la i lc).ownBlock ≠ some y := by
     intro y hy
     have hz1 := Nz.ext.size
     have hz2 := Cv9.size
     rcases hy with hy | ⟨hy, hy2⟩
     ·exact ⟨(hT y hy).1, by have := (hT y hy).2; omega, fun hb => hTn y hb hy⟩
     ·refine ⟨hy.imp id (fun h => by have := X9.size; omega), by omega, fun hb => ?_⟩
      have h9 := hOb y hb
      rcases hy with h1 | h1
      ·have := hS y h1; omega
      ·omega
    have hR9 : RowsIn (fun y => T y ∨ ((S y ∨ n2 ≤ y) ∧ y < w9.heap.size)) (w66) ((t.args.take (i + 1)).map (stepR c)) (rows ++ [[.int .i64 M.kind, .slice ma M.set.length mc, .slice pa M.args.length pc, .int .i64 M.mn, .int .i64 M.mx, .bool M.neg]]) := by
     rw [List.take_add_one, hx, Option.toList_some, List.map_append, List.map_cons, List.map_nil, ← hM]
     exact rowsin_snoc (RowsIn.mono (fun y hy => .inl hy) (RowsIn.chg Cv9 (fun y hy hm => hTn y hm hy) hR)) (ReIn.mono (fun y hy => .inr hy) M (ReIn.chg Cv9 (fun y hy hm => (hT2 y (.inr hy)).2.2 hm) M hXl))
    refine qA (.slice la2 (i + 1) lc2) rfl ?_
    refine WpL_nil (inB_normal (thn_normal (Wp_region ?_)))
    refine qV (r_add (k := .i64) (a := (i : Int)) (b := 1) (c := (i : Int) + 1) rfl rfl (wI64 (by omega))) ?_
    refine qM (I6 ((i : Int) + 1)) rfl ?_
    refine WpL_nil (thn_normal ?_)
    exact ⟨t.args.length - (i + 1), by omega, i + 1, la2, lc2, rows ++ [[.int .i64 M.kind, .slice ma M.set.length mc, .slice pa M.args.length pc, .int .i64 M.mn, .int .i64 M.mx, .bool M.neg]], (fun y => T y ∨ ((S y ∨ n2 ≤ y) ∧ y < w9.heap.size)), Fits.out ⟨rfl, rfl, rfl, rfl, rfl, rfl, rfl, trivial⟩, E, Br, Bo, (by omega), (by simpa using Ov9), hR9, Nat.le_trans hbs Cv9.size, (fun y hy => ⟨(hT2 y hy).1, (hT2 y hy).2.1⟩), (fun b hb hy => by rcases Dv9 b hb with h | h; exact (hT2 b hy).2.2 h; have hz1 := Nz.ext.size; rcases hy with hy | hy; have := (hT b hy).2; omega; have := hy.2; omega), rfl⟩
   ·have khlt := hlt
    replace hlt := of_decide_eq_false hlt
    have hii : i = t.args.length := by omega
    rw [hii] at hO hR hTn
    rw [hii]
    rw [List.take_length] at hR
    refine Wp_exit (thn_exit (thn_exit (inB_here (thn_normal (Wp_seq_region ?_)))))
    refine qF br 0 0 rfl Try.underlying27 rfl siz3 rfl ?_
    refine qV (r_load (v := (I6 t.kind)) rfl flat3 (Br.cell rfl)) ?_
    refine qM (.slice la t.args.length lc) rfl ?_
    refine qV (r_build (ps := [(0, (I6 t.kind)), (2, (.slice la t.args.length lc))]) (v := (.agg #[(I6 t.kind), (.slice none 0 0), (.slice la t.args.length lc), (I6 0), (I6 0), (.bool false)])) rfl (by kernel_rfl)) ?_
    have hml : (t.args.map (stepR c)).length = t.args.length := List.length_map _
    obtain ⟨hoc, hocl⟩ := own_res hO hR hml
    have hTS : ReIn (fun y => (S y ∨ n1 ≤ y) ∧ y < (W7).heap.size) (W7) (.mk t.kind [] (t.args.map (stepR c)) 0 0 false) [.int .i64 t.kind, .slice none 0 0, .slice la t.args.length lc, .int .i64 0, .int .i64 0, .bool false] := by
     have h9 := ReIn.of (S := fun y => (S y ∨ n1 ≤ y) ∧ y < (W7).heap.size) (w := W7) (k := t.kind) (set := []) (args := t.args.map (stepR c)) (mn := 0) (mx := 0) (ng := false) (sa := none) (sc := 0) (aa := la) (ac := lc) (SlIn.nil _ _ _ _ _) (by rw [hml]; exact hoc) (by
      rcases hocl with h | ⟨ob, hob1, hob2, hob3, hclo⟩
      ·exact .inl h
      ·exact .inr ⟨ob, 0, ⟨.inr hob1, hob2⟩, hob3, resin_of fun i t ht => by obtain ⟨vs, h6, h7⟩ := hclo i t ht; exact ⟨vs, h6, ReIn.mono (fun y hy => hT y hy) t h7⟩⟩)
     rw [hml] at h9
     exact h9
    have hnb1 : n1 ≤ (W7).heap.size := hbs
    refine WpL_enter rfl rfl (by decide) (r_callF (vs := [(.agg #[(I6 t.kind), (.slice none 0 0), (.slice la t.args.length lc), (I6 0), (I6 0), (.bool false)])]) Try.func30 nm30 bd30 rfl) ((dnode_c _ _ _ _ hTS (fun y hy => hy.2) (pre478 hk h8 hml) (fun y hy => by obtain ⟨z, hz, rfl⟩ := List.mem_map.1 hy; exact step_ok c (hok.a z hz)) (by have := steps_small (c := c) hok.a (by omega); show Re.sizes (t.args.map (stepR c)) ≤ 1000000; omega)).mono (R' := fun r w => reG (fun b => S b ∨ n1 ≤ b) N r w ∧ Ext _ w) (fun r w h => ⟨reG_of (S' := fun b => ((S b ∨ n1 ≤ b) ∧ b < _) ∨ _ ≤ b) (fun b hb => by rcases hb with h1 | h1; exact h1.1; exact .inr (Nat.le_trans hnb1 h1)) (by rw [hN]; exact h.1), h.2⟩)) ?_
    rintro _ w49 ⟨⟨xa, xc, ya, yc, rfl, hR4⟩, X49⟩
    replace Br := X49.keep Br
    replace Bo := X49.keep Bo
    replace E := E.ext X49
    refine s_storeAgg (b := bo) (o := 0) (c' := (R6 N xa xc ya yc)) rfl rfl (by simp [Value.oneCell']) siz27 rfl Bo (by first | (simp; done) | exact Nat.le_of_ble_eq_true rfl) rfl ?_
    intro w9 S9
    replace hR4 := ReIn.chg S9.chg (fun y hy h => by have h2 : y = bo := h; rcases hy with h1 | h1; have := hS y h1; omega; omega) _ hR4
    replace Br := S9.keep (by omega) Br
    replace E := S9.step E (by first | exact Or.inl (by omega) | exact Or.inr rfl | exact Or.inr (by assumption) | exact Or.inr (by simp) | exact Or.inr (by omega) | exact Or.inr (by dsimp only; omega))
    replace Bo := S9.blk
    refine WpL_nil (Wp_ret (inB_ret (thn_ret ?_)))
    refine fin_agg Try.results17 (vs := [(.int .i64 N.kind), (.slice xa N.set.length xc), (.slice ya N.args.length yc), (.int .i64 N.mn), (.int .i64 N.mx), (.bool N.neg)]) (b := bo) rfl agg27 siz27 rfl (Bo.cells rfl) ?_
    exact ⟨⟨_, rfl, ReIn.mono (fun y hy => by rcases hy with h1 | h1; exact .inl h1; exact .inr (by omega)) _ hR4⟩, E⟩
end Go.Proofs
namespace Go.Proofs
open Go Go.Eng Go.Sort
set_option maxRecDepth 100000
theorem step_c (c : Int) : ∀ n, n ≤ 301 → StepOk c n
  | 0, _ => fun t _ _ _ h => absurd h (by omega)
  | n + 1, hn => fun t w0 S vs h hok ht hS => by
    have ih := step_c c n (by omega)
    have hks := hok.n.ks
    by_cases h0 : t.kind = 0 ∨ t.kind = 1
    · exact step_k0 c n ih t (by omega) (by omega) hok h0 w0 S vs ht hS
    by_cases h2 : t.kind = 2
    · exact step_k2 c n ih t (by omega) (by omega) hok h2 w0 S vs ht hS
    by_cases h3 : t.kind = 3
    · exact step_k3 c n ih t (by omega) (by omega) hok h3 w0 S vs ht hS
    by_cases h5 : t.kind = 5
    · exact step_k5 c n ih t (by omega) (by omega) hok h5 w0 S vs ht hS
    by_cases h6 : t.kind = 6
    · exact step_k6 c n ih t (by omega) (by omega) hok h6 w0 S vs ht hS
    exact step_k4 c n ih t (by omega) (by omega) hok (by omega) w0 S vs ht hS
mutual
theorem okv_sets : ∀ (t : Re), okRe t → setsOk t
  | .mk k set args mn mx ng, h => by
    have h1 := okRe_node h
    have h2 := okRe_form h
    have h3 := okRe_args h
    simp only [setsOk]
    refine ⟨?_, okvs_sets args h3⟩
    obtain ⟨ha, hb, hf⟩ := h2
    by_cases hk : k = 2
    · unfold nodeE at h1
      simp only [Re.kind] at ha hb
      rw [if_neg (by simp only [Re.kind]; omega), if_neg (by simp [hf]), if_pos (by simp only [Re.kind]; exact hk)] at h1
      split at h1
      · omega
      · rename_i hc
        simp only [Re.set] at hc
        unfold checkE at hc
        split at hc
        · omega
        · omega
    · simp only [formB, Bool.and_eq_true, Bool.or_eq_true, decide_eq_true_eq, Re.kind, Re.set] at hf
      have := hf.1.1.1.2.resolve_left (by simp [hk])
      simp at this
      rw [this]; simp
theorem okvs_sets : ∀ (ts : List Re), okRes ts → setsOks ts
  | [], _ => by simp only [setsOks]
  | t :: ts, h => by simp only [okRes] at h; simp only [setsOks]; exact ⟨okv_sets t h.1, okvs_sets ts h.2⟩
end
mutual
theorem tree_rein {S Z : Nat → Prop} {w : World} (hZ : ∀ x, Z x → S x) : ∀ (t : Re) {vs : List Value} {L : Nat → Prop}, Tree Z w t vs L → (∀ x, L x → S x) → ReIn S w t vs
  | .mk k set args mn mx ng, vs, L, h, hL => by
    simp only [Tree] at h
    obtain ⟨sa, sc, aa, ac, hv, hs, hn, ha⟩ := h
    simp only [ReIn]
    refine ⟨sa, sc, aa, ac, hv, hs.mono hZ, hn, ?_⟩
    rcases ha with h | ⟨b, rows, rest, L', h1, h2, h3, h4, h5, h6⟩
    · exact .inl h
    · refine .inr ⟨b, 0, hL b h1, h2, resin_of fun i t ht => ?_⟩
      obtain ⟨us, h7, h8⟩ := trees_rein hZ args h5 (fun x hx => hL x (h6 x hx).1) i t ht
      exact ⟨us, by rw [Nat.zero_add]; exact rows_at h3 h4 h7, h8⟩
theorem trees_rein {S Z : Nat → Prop} {w : World} (hZ : ∀ x, Z x → S x) : ∀ (ts : List Re) {rows : List (List Value)} {L : Nat → Prop}, Trees Z w ts rows L → (∀ x, L x → S x) → ∀ (i : Nat) (t : Re), ts[i]? = some t → ∃ vs, rows[i]? = some vs ∧ ReIn S w t vs
  | [], _, _, _, _, i, t, h => by simp at h
  | u :: ts, rows, L, h, hL, i, t, ht => by
    simp only [Trees] at h
    obtain ⟨vs, rs, L1, L2, rfl, h1, h2, h3, h4⟩ := h
    cases i with
    | zero => simp at ht; subst ht; exact ⟨vs, rfl, tree_rein hZ u h1 fun x hx => hL x (h3 x hx).1⟩
    | succ i =>
      obtain ⟨us, h5, h6⟩ := trees_rein hZ ts h2 (fun x hx => hL x (h4 x hx)) i t (by simpa using ht)
      exact ⟨us, by simpa using h5, h6⟩
end
set_option maxHeartbeats 1000000 in
theorem dchk_c (w0 : World) (t : Re) (vs : List Value) (ht : ReAt w0 t vs) :
  Ret Try.prog 14 #[.agg vs.toArray] w0 fun r w => r = .int .i64 (chkD t) ∧ Ext w0 w := by
 have ht0 := ht
 obtain ⟨sa, sc, aa, ac, rfl, hset, hlen, hargs⟩ := ht.form
 have hD : chkD t = if fitsE t 300 ≠ 0 then fitsE t 300 else if usesB [9, 10] t = true then 3 else 0 := rfl
 rw [hD]
 refine Ret_of Try.func14 rfl Try.ntmps14 (Nat.le_of_ble_eq_true rfl) ?_
 have E : Chg none1 w0 w0 := Chg.refl _ _
 refine Wp_seq_region ?_
 refine s_box (v := (.agg (R6 t sa sc aa ac))) (c := (R6 t sa sc aa ac)) (by decide) rfl rfl ?_
 intro br wr Nr
 have Fr := Nr.ge E
 replace E := E.ext Nr.ext
 have Br := Nr.blk
 refine qA (I6 0) rfl ?_
 refine WpL_nil (Wp_seq (Wp_seq_region ?_))
 refine qV (r_loadAgg (vs := [(I6 t.kind), (.slice sa t.set.length sc), (.slice aa t.args.length ac), (I6 t.mn), (I6 t.mx), (.bool t.neg)]) rfl agg27 siz27 rfl (Br.cells rfl)) ?_
 refine WpL_enter rfl rfl (by decide) (r_callF (vs := [(.agg (R6 t sa sc aa ac)), (I6 300)]) Try.func26 nm26 bd26 rfl) (fits_c _ t _ (ReAt.ext E t ht0) 300) ?_
 rintro _ w9 ⟨rfl, X9⟩
 replace Br := X9.keep Br
 replace E := E.ext X9
 refine qA (I6 (fitsE t 300)) rfl ?_
 refine WpL_nil (Wp_seq_region ?_)
 refine qM (I6 (fitsE t 300)) rfl ?_
 refine qV (r_neq (k := .i64) (a := fitsE t 300) (b := 0) rfl rfl) ?_
 refine WpL_nil ?_
 refine Wp_cond (b := decide ((fitsE t 300 : Int) ≠ 0)) rfl (fun hf => ?_) (fun hf => ?_)
 ·have khf := hf
  replace hf := of_decide_eq_true hf
  refine Wp_seq_region ?_
  refine qM (I6 (fitsE t 300)) rfl ?_
  refine qA (I6 (fitsE t 300)) rfl ?_
  refine WpL_nil (Wp_ret (thn_ret ?_))
  refine fin_tmp Try.results14 (v := (.int .i64 (fitsE t 300))) rfl ?_
  exact ⟨by rw [if_pos hf], E⟩
 ·have khf := hf
  replace hf := of_decide_eq_false hf
  refine Wp_skip (thn_normal (Wp_seq (Wp_seq_region ?_)))
  refine qV (r_loadAgg (vs := [(I6 t.kind), (.slice sa t.set.length sc), (.slice aa t.args.length ac), (I6 t.mn), (I6 t.mx), (.bool t.neg)]) rfl agg27 siz27 rfl (Br.cells rfl)) ?_
  refine s_buildSlice (ps := [(0, (I6 9)), (1, (I6 10))]) (c := #[(I6 9), (I6 10)]) (by decide) rfl Try.underlying22 siz3 zer3 (by decide) (by decide) (by kernel_rfl) ?_
  intro bk wk Nk
  have Fk := Nk.ge E
  have Ok_br := Nk.lt Br
  replace Br := Nk.keep Br
  replace E := E.ext Nk.ext
  have Bk := Nk.blk
  refine WpL_enter rfl rfl (by decide) (r_callF (vs := [(.agg (R6 t sa sc aa ac)), (.slice (some ⟨bk, 0, none⟩) 2 2)]) Try.func27 nm27 bd27 rfl) (uses_c _ t _ [9, 10] _ (ReAt.ext E t ht0) (ints_of_blk [9, 10] Bk (by simp) (by simp))) ?_
  rintro _ w19 ⟨rfl, X19⟩
  replace Br := X19.keep Br
  replace Bk := X19.keep Bk
  replace E := E.ext X19
  refine WpL_nil ?_
  refine Wp_cond (b := usesB [9, 10] t) rfl (fun hu => ?_) (fun hu => ?_)
  ·have khu := hu
   refine Wp_seq_region ?_
   refine qA (I6 3) rfl ?_
   refine WpL_nil (Wp_ret (thn_ret ?_))
   refine fin_tmp Try.results14 (v := (.int .i64 3)) rfl ?_
   exact ⟨by rw [if_neg hf, if_pos hu], E⟩
  ·have khu := hu
   refine Wp_skip (thn_normal (Wp_seq_region ?_))
   refine qA (I6 0) rfl ?_
   refine WpL_nil (Wp_ret ?_)
   refine fin_tmp Try.results14 (v := (.int .i64 0)) rfl ?_
   exact ⟨by rw [if_neg hf, if_neg (by rw [hu]; decide)], E⟩
end Go.Proofs
namespace Go.Proofs
open Go Go.Eng Go.Sort
set_option maxRecDepth 100000
theorem re_z {S : Nat → Prop} {w : World} : ReIn S w noneT [.int .i64 0, .slice none 0 0, .slice none 0 0, .int .i64 0, .int .i64 0, .bool false] := re_empty _ _ 0
set_option maxHeartbeats 1000000 in
theorem dby_c (w0 : World) (S : Nat → Prop) (t : Re) (vs : List Value) (c : Int) (ht : ReIn S w0 t vs) (hS : ∀ x, S x → x < w0.heap.size) :
  Ret Try.prog 8 #[.agg vs.toArray, .int .i64 c] w0 fun r w => (∃ us, r = .tuple #[.agg us.toArray, .int .i64 (byE t c)] ∧ ReIn (fun b => w0.heap.size ≤ b) w (byD t c) us) ∧ Ext w0 w := by
 have ht0 := ht
 obtain ⟨sa, sc, aa, ac, rfl, hset, hlen, hargs⟩ := ht.form
 have hE : byE t c = if chkD t ≠ 0 then chkD t else if runeB c = false then 1 else if 300 < (stepR c (simR t)).size then 2 else 0 := rfl
 have hB : byD t c = if byE t c = 0 then stepR c (simR t) else noneT := rfl
 refine Ret_of Try.func8 rfl Try.ntmps8 (Nat.le_of_ble_eq_true rfl) ?_
 have E : Chg none1 w0 w0 := Chg.refl _ _
 refine Wp_seq_region ?_
 refine s_box (v := (.agg (R6 t sa sc aa ac))) (c := (R6 t sa sc aa ac)) (by decide) rfl rfl ?_
 intro br wr Nr
 have Fr := Nr.ge E
 replace E := E.ext Nr.ext
 have Br := Nr.blk
 refine s_alloc (c := #[(I6 0), (.slice none 0 0), (.slice none 0 0), (I6 0), (I6 0), (.bool false)]) (by decide) zer27 rfl ?_
 intro bo wo No
 have Fo := No.ge E
 have Oo_br := No.lt Br
 replace Br := No.keep Br
 replace E := E.ext No.ext
 have Bo := No.blk
 refine qA (I6 0) rfl ?_
 refine WpL_nil (Wp_seq (Wp_seq_region ?_))
 refine qV (r_loadAgg (vs := [(I6 t.kind), (.slice sa t.set.length sc), (.slice aa t.args.length ac), (I6 t.mn), (I6 t.mx), (.bool t.neg)]) rfl agg27 siz27 rfl (Br.cells rfl)) ?_
 refine WpL_enter rfl rfl (by decide) (r_callF (vs := [(.agg (R6 t sa sc aa ac))]) Try.func14 nm14 bd14 rfl) (dchk_c _ t _ (ReIn.at t (ReIn.ext E t ht0))) ?_
 rintro _ w9 ⟨rfl, X9⟩
 replace Br := X9.keep Br
 replace Bo := X9.keep Bo
 replace E := E.ext X9
 refine qA (I6 (chkD t)) rfl ?_
 refine WpL_nil (Wp_seq_region ?_)
 refine qM (I6 (chkD t)) rfl ?_
 refine qV (r_neq (k := .i64) (a := chkD t) (b := 0) rfl rfl) ?_
 refine WpL_nil ?_
 refine Wp_cond (b := decide ((chkD t : Int) ≠ 0)) rfl (fun hf => ?_) (fun hf => ?_)
 ·have khf := hf
  replace hf := of_decide_eq_true hf
  refine Wp_seq_region ?_
  refine qV (r_build (ps := []) (v := (.agg #[(I6 0), (.slice none 0 0), (.slice none 0 0), (I6 0), (I6 0), (.bool false)])) rfl (by kernel_rfl)) ?_
  refine qM (I6 (chkD t)) rfl ?_
  refine s_storeAgg (b := bo) (o := 0) (c' := #[(I6 0), (.slice none 0 0), (.slice none 0 0), (I6 0), (I6 0), (.bool false)]) rfl rfl (by simp [Value.oneCell']) siz27 rfl Bo (by first | (simp; done) | exact Nat.le_of_ble_eq_true rfl) rfl ?_
  intro w2 S2
  replace Br := S2.keep (by omega) Br
  replace E := S2.step E (by first | exact Or.inl (by omega) | exact Or.inr rfl | exact Or.inr (by assumption) | exact Or.inr (by simp) | exact Or.inr (by omega) | exact Or.inr (by dsimp only; omega))
  replace Bo := S2.blk
  refine qA (I6 (chkD t)) rfl ?_
  refine WpL_nil (Wp_ret (thn_ret ?_))
  refine fin_agg_tmp Try.results8 (vs := [(.int .i64 0), (.slice none 0 0), (.slice none 0 0), (.int .i64 0), (.int .i64 0), (.bool false)]) (b := bo) (v' := (.int .i64 (chkD t))) rfl agg27 siz27 rfl (Bo.cells rfl) rfl ?_
  exact ⟨⟨_, by rw [hE, if_pos hf], by rw [hB, if_neg (by rw [hE, if_pos hf]; exact hf)]; exact re_z⟩, E⟩
 ·have khf := hf
  replace hf := of_decide_eq_false hf
  have hc0 : chkD t = 0 := by omega
  obtain ⟨hok, hsz, hu, hsim, hsimz⟩ := chkD_zero hc0
  refine Wp_skip (thn_normal (Wp_seq (Wp_seq_region ?_)))
  refine qM (I6 c) rfl ?_
  refine WpL_enter rfl rfl (by decide) (r_callF (vs := [(I6 c)]) Try.func20 nm20 bd20 rfl) (rune_c _ _) ?_
  rintro _ w19 ⟨rfl, X19⟩
  replace Br := X19.keep Br
  replace Bo := X19.keep Bo
  replace E := E.ext X19
  refine qV (r_not (b := runeB c) rfl) ?_
  refine WpL_nil ?_
  refine Wp_cond (b := !(runeB c)) rfl (fun hr => ?_) (fun hr => ?_)
  ·have khr := hr
   replace hr := by simpa using hr
   have hr0 : runeB c = false := by simpa using hr
   refine Wp_seq_region ?_
   refine qV (r_build (ps := []) (v := (.agg #[(I6 0), (.slice none 0 0), (.slice none 0 0), (I6 0), (I6 0), (.bool false)])) rfl (by kernel_rfl)) ?_
   refine s_storeAgg (b := bo) (o := 0) (c' := #[(I6 0), (.slice none 0 0), (.slice none 0 0), (I6 0), (I6 0), (.bool false)]) rfl rfl (by simp [Value.oneCell']) siz27 rfl Bo (by first | (simp; done) | exact Nat.le_of_ble_eq_true rfl) rfl ?_
   intro w4 S4
   replace Br := S4.keep (by omega) Br
   replace E := S4.step E (by first | exact Or.inl (by omega) | exact Or.inr rfl | exact Or.inr (by assumption) | exact Or.inr (by simp) | exact Or.inr (by omega) | exact Or.inr (by dsimp only; omega))
   replace Bo := S4.blk
   refine qA (I6 1) rfl ?_
   refine WpL_nil (Wp_ret (thn_ret ?_))
   refine fin_agg_tmp Try.results8 (vs := [(.int .i64 0), (.slice none 0 0), (.slice none 0 0), (.int .i64 0), (.int .i64 0), (.bool false)]) (b := bo) (v' := (.int .i64 1)) rfl agg27 siz27 rfl (Bo.cells rfl) rfl ?_
   exact ⟨⟨_, by rw [hE, if_neg hf, if_pos hr0], by rw [hB, if_neg (by rw [hE, if_neg hf, if_pos hr0]; decide)]; exact re_z⟩, E⟩
  ·have khr := hr
   replace hr := by simpa using hr
   have hr0 : ¬ runeB c = false := by simpa using hr
   obtain ⟨M, hM⟩ : ∃ M, M = simR t := ⟨_, rfl⟩
   obtain ⟨D, hD⟩ : ∃ D, D = stepR c M := ⟨_, rfl⟩
   have hDz : D.size ≤ 200000 := by rw [hD, hM]; exact step_small hsim (by omega)
   have hDo : SimOk D := by rw [hD, hM]; exact step_ok c hsim
   refine Wp_skip (thn_normal (Wp_seq_region ?_))
   refine qV (r_loadAgg (vs := [(I6 t.kind), (.slice sa t.set.length sc), (.slice aa t.args.length ac), (I6 t.mn), (I6 t.mx), (.bool t.neg)]) rfl agg27 siz27 rfl (Br.cells rfl)) ?_
   obtain ⟨n1, hn1⟩ : ∃ n1, n1 = w19.heap.size := ⟨_, rfl⟩
   have hob : bo < n1 ∧ w0.heap.size ≤ bo := ⟨by rw [hn1]; exact Bo.lt, by omega⟩
   refine WpL_enter rfl rfl (by decide) (r_callF (vs := [(.agg (R6 t sa sc aa ac))]) Try.func16 nm16 bd16 rfl) ((dsim_c 300 t _ S _ hsz (by omega) hok hu (ReIn.ext E t ht0) (fun y hy => by have := hS y hy; have := E.size; omega)).mono (R' := fun r w => reG (fun b => S b ∨ n1 ≤ b) M r w ∧ Ext w19 w) (fun r w h => ⟨reG_of (S' := fun b => S b ∨ w19.heap.size ≤ b) (fun b hb => by rcases hb with h1 | h1; exact .inl h1; exact .inr (by omega)) (by rw [hM]; exact h.1), h.2⟩)) ?_
   rintro _ w29 ⟨⟨xa, xc, ya, yc, rfl, hR4⟩, X29⟩
   replace Br := X29.keep Br
   replace Bo := X29.keep Bo
   replace E := E.ext X29
   refine qM (I6 c) rfl ?_
   refine WpL_enter rfl rfl (by decide) (r_callF (vs := [(.agg (R6 M xa xc ya yc)), (I6 c)]) Try.func17 nm17 bd17 rfl) ((step_c c 301 (by omega) M _ _ _ (by rw [hM]; omega) (by rw [hM]; exact hsim) (ReIn.lt _ hR4) (fun y hy => hy.2)).mono (R' := fun r w => reG (fun _ => True) D r w ∧ Ext w29 w) (fun r w h => ⟨reG_of (S' := fun b => ((S b ∨ n1 ≤ b) ∧ b < w29.heap.size) ∨ w29.heap.size ≤ b) (fun b hb => trivial) (by rw [hD]; exact h.1), h.2⟩)) ?_
   rintro _ w39 ⟨⟨da, dc, ea, ec, rfl, hR5⟩, X39⟩
   replace Br := X39.keep Br
   replace Bo := X39.keep Bo
   replace E := E.ext X39
   have hR6 := ReIn.lt D hR5
   obtain ⟨h39, hh39⟩ : ∃ h, h = w39.heap.size := ⟨_, rfl⟩
   rw [← hh39] at hR6
   have E3 : Chg none1 w39 w39 := Chg.refl _ _
   refine s_allocStore (v := (.agg (R6 D da dc ea ec))) (c := (R6 D da dc ea ec)) (n := 6) (by decide) zer27 rfl siz27 rfl rfl rfl (by simp [Value.oneCell']) ?_
   intro bq wq Nq
   have Fq := Nq.ge E
   have Fq_E3 := Nq.ge E3
   have Oq_br := Nq.lt Br
   have Oq_bo := Nq.lt Bo
   replace Br := Nq.keep Br
   replace Bo := Nq.keep Bo
   replace hR6 := ReIn.ext Nq.ext _ hR6
   replace E := E.ext Nq.ext
   have Bq := Nq.blk
   replace E3 := E3.ext Nq.ext
   refine WpL_nil (Wp_seq (Wp_seq_region ?_))
   refine qV (r_loadAgg (vs := [(I6 D.kind), (.slice da D.set.length dc), (.slice ea D.args.length ec), (I6 D.mn), (I6 D.mx), (.bool D.neg)]) rfl agg27 siz27 rfl (Bq.cells rfl)) ?_
   refine WpL_enter rfl rfl (by decide) (r_callF (vs := [(.agg (R6 D da dc ea ec))]) Try.func18 nm18 bd18 rfl) (size_c _ D _ (ReIn.at D hR6) (by omega)) ?_
   rintro _ w49 ⟨rfl, X49⟩
   replace Br := X49.keep Br
   replace Bo := X49.keep Bo
   replace Bq := X49.keep Bq
   replace hR6 := ReIn.ext X49 _ hR6
   replace E := E.ext X49
   replace E3 := E3.ext X49
   refine qV (r_gtr (k := .i64) (a := (D.size : Int)) (b := 300) rfl rfl) ?_
   refine WpL_nil ?_
   refine Wp_cond (b := decide ((300 : Int) < (D.size : Int))) rfl (fun hz => ?_) (fun hz => ?_)
   ·have khz := hz
    replace hz := of_decide_eq_true hz
    refine Wp_seq_region ?_
    refine qV (r_build (ps := []) (v := (.agg #[(I6 0), (.slice none 0 0), (.slice none 0 0), (I6 0), (I6 0), (.bool false)])) rfl (by kernel_rfl)) ?_
    refine s_storeAgg (b := bo) (o := 0) (c' := #[(I6 0), (.slice none 0 0), (.slice none 0 0), (I6 0), (I6 0), (.bool false)]) rfl rfl (by simp [Value.oneCell']) siz27 rfl Bo (by first | (simp; done) | exact Nat.le_of_ble_eq_true rfl) rfl ?_
    intro w6 S6
    replace Br := S6.keep (by omega) Br
    replace Bq := S6.keep (by omega) Bq
    replace E := S6.step E (by first | exact Or.inl (by omega) | exact Or.inr rfl | exact Or.inr (by assumption) | exact Or.inr (by simp) | exact Or.inr (by omega) | exact Or.inr (by dsimp only; omega))
    replace Bo := S6.blk
    refine qA (I6 2) rfl ?_
    refine WpL_nil (Wp_ret (thn_ret ?_))
    refine fin_agg_tmp Try.results8 (vs := [(.int .i64 0), (.slice none 0 0), (.slice none 0 0), (.int .i64 0), (.int .i64 0), (.bool false)]) (b := bo) (v' := (.int .i64 2)) rfl agg27 siz27 rfl (Bo.cells rfl) rfl ?_
    exact ⟨⟨_, by rw [hE, if_neg hf, if_neg hr0, if_pos (by rw [← hM, ← hD]; omega)], by rw [hB, if_neg (by rw [hE, if_neg hf, if_neg hr0, if_pos (by rw [← hM, ← hD]; omega)]; decide)]; exact re_z⟩, E⟩
   ·have khz := hz
    replace hz := of_decide_eq_false hz
    have hbo49 : bo < (w49).heap.size := by have := E3.size; have := X29.size; have := X39.size; omega
    refine Wp_skip (thn_normal (Wp_seq_region ?_))
    refine qV (r_loadAgg (vs := [(I6 D.kind), (.slice da D.set.length dc), (.slice ea D.args.length ec), (I6 D.mn), (I6 D.mx), (.bool D.neg)]) rfl agg27 siz27 rfl (Bq.cells rfl)) ?_
    refine WpL_enter rfl rfl (by decide) (r_callF (vs := [(.agg (R6 D da dc ea ec))]) Try.func21 nm21 bd21 rfl) (copy_c D.size D _ _ (Nat.le_refl _) (by omega) (okv_sets D (sim_valid hDo).1) (ReIn.at D hR6)) ?_
    rintro _ w59 ⟨⟨us, Z, L, rfl, hTr, hZL, hnew⟩, X59⟩
    replace Br := X59.keep Br
    replace Bo := X59.keep Bo
    replace Bq := X59.keep Bq
    replace hR6 := ReIn.ext X59 _ hR6
    replace E := E.ext X59
    replace E3 := E3.ext X59
    have hR7 := tree_rein (S := fun b => bo < b) (fun x hx => by have := (hnew x (.inl hx)).1; omega) D hTr (fun x hx => by have := (hnew x (.inr hx)).1; omega)
    obtain ⟨fa, fc, ga, gc, rfl, _, _, _⟩ := hTr.form
    refine s_storeAgg (b := bo) (o := 0) (c' := (R6 D fa fc ga gc)) rfl rfl (by simp [Value.oneCell']) siz27 rfl Bo (by first | (simp; done) | exact Nat.le_of_ble_eq_true rfl) rfl ?_
    intro w7 S7
    replace hR7 := ReIn.chg S7.chg (fun y hy h => by have h2 : y = bo := h; have h3 : bo < y := hy; omega) _ hR7
    replace Br := S7.keep (by omega) Br
    replace Bq := S7.keep (by omega) Bq
    replace E := S7.step E (by first | exact Or.inl (by omega) | exact Or.inr rfl | exact Or.inr (by assumption) | exact Or.inr (by simp) | exact Or.inr (by omega) | exact Or.inr (by dsimp only; omega))
    replace Bo := S7.blk
    refine qA (I6 0) rfl ?_
    refine WpL_nil (Wp_ret ?_)
    refine fin_agg_tmp Try.results8 (vs := [(.int .i64 D.kind), (.slice fa D.set.length fc), (.slice ga D.args.length gc), (.int .i64 D.mn), (.int .i64 D.mx), (.bool D.neg)]) (b := bo) (v' := (.int .i64 0)) rfl agg27 siz27 rfl (Bo.cells rfl) rfl ?_
    exact ⟨⟨_, by rw [hE, if_neg hf, if_neg hr0, if_neg (by rw [← hM, ← hD]; omega)], by rw [hB, if_pos (by rw [hE, if_neg hf, if_neg hr0, if_neg (by rw [← hM, ← hD]; omega)]), ← hM, ← hD]; exact ReIn.mono (fun y (hy : bo < y) => by omega) _ hR7⟩, E⟩
end Go.Proofs
namespace Go.Proofs
open Go Go.Eng Go.Sort
set_option maxRecDepth 100000
theorem runD_cons {t : Re} {c : Int} {l : List Int} : runD t (c :: l) = if 300 < (stepR c t).size then none else runD (stepR c t) l := rfl
set_option maxHeartbeats 2000000 in
theorem dmat_c (w0 : World) (S : Nat → Prop) (t : Re) (vs : List Value) (v : Value) (text : List Int) (ht : ReIn S w0 t vs) (hS : ∀ x, S x → x < w0.heap.size) (hx : IntsAt w0 v text) :
  Ret Try.prog 7 #[.agg vs.toArray, v] w0 fun r w => r = .tuple #[.bool (matD t text), .int .i64 (matE t text)] ∧ Ext w0 w := by
 have ht0 := ht
 obtain ⟨sa, sc, aa, ac, rfl, hset, hlen, hargs⟩ := ht.form
 obtain ⟨xa, xc, rfl⟩ := SlAt.form hx
 have hxl : text.length ≤ 9223372036854775807 := by simpa using SlAt.le hx
 simp only [List.length_map] at hx ⊢
 have hE : matE t text = if chkD t ≠ 0 then chkD t else if 100 < text.length then 2 else if text.any (fun r => !runeB r) = true then 1 else if (runD (simR t) text).isNone = true then 2 else 0 := rfl
 have hB : matD t text = if matE t text = 0 then ((runD (simR t) text).map emptR).getD false else false := rfl
 refine Ret_of Try.func7 rfl Try.ntmps7 (Nat.le_of_ble_eq_true rfl) ?_
 have E : Chg none1 w0 w0 := Chg.refl _ _
 refine Wp_seq_region ?_
 refine s_box (v := (.agg (R6 t sa sc aa ac))) (c := (R6 t sa sc aa ac)) (by decide) rfl rfl ?_
 intro br wr Nr
 have Fr := Nr.ge E
 replace E := E.ext Nr.ext
 have Br := Nr.blk
 refine qA (.bool false) rfl ?_
 refine qA (I6 0) rfl ?_
 refine WpL_nil (Wp_seq (Wp_seq_region ?_))
 refine qV (r_loadAgg (vs := [(I6 t.kind), (.slice sa t.set.length sc), (.slice aa t.args.length ac), (I6 t.mn), (I6 t.mx), (.bool t.neg)]) rfl agg27 siz27 rfl (Br.cells rfl)) ?_
 refine WpL_enter rfl rfl (by decide) (r_callF (vs := [(.agg (R6 t sa sc aa ac))]) Try.func14 nm14 bd14 rfl) (dchk_c _ t _ (ReIn.at t (ReIn.ext E t ht0))) ?_
 rintro _ w9 ⟨rfl, X9⟩
 replace Br := X9.keep Br
 replace E := E.ext X9
 refine qA (I6 (chkD t)) rfl ?_
 refine WpL_nil (Wp_seq_region ?_)
 refine qM (I6 (chkD t)) rfl ?_
 refine qV (r_neq (k := .i64) (a := chkD t) (b := 0) rfl rfl) ?_
 refine WpL_nil ?_
 refine Wp_cond (b := decide ((chkD t : Int) ≠ 0)) rfl (fun hf => ?_) (fun hf => ?_)
 ·have khf := hf
  replace hf := of_decide_eq_true hf
  refine Wp_seq_region ?_
  refine qM (I6 (chkD t)) rfl ?_
  refine qA (.bool false) rfl ?_
  refine qA (I6 (chkD t)) rfl ?_
  refine WpL_nil (Wp_ret (thn_ret ?_))
  refine fin_tmp2 Try.results7 (v := (.bool false)) (v' := (.int .i64 (chkD t))) rfl rfl ?_
  exact ⟨by rw [hB, if_neg (by rw [hE, if_pos hf]; exact hf), hE, if_pos hf], E⟩
 ·have khf := hf
  replace hf := of_decide_eq_false hf
  have hc0 : chkD t = 0 := by omega
  obtain ⟨hok, hsz, hu, hsim, hsimz⟩ := chkD_zero hc0
  refine Wp_skip (thn_normal (Wp_seq (Wp_seq_region ?_)))
  refine qM (.slice xa text.length xc) rfl ?_
  refine qV (r_lenSlice (ad := xa) (n := text.length) (cap := xc) Try.underlying22 rfl) ?_
  refine qV (r_gtr (k := .i64) (a := (text.length : Int)) (b := 100) rfl rfl) ?_
  refine WpL_nil ?_
  refine Wp_cond (b := decide ((100 : Int) < (text.length : Int))) rfl (fun hl => ?_) (fun hl => ?_)
  ·have khl := hl
   replace hl := of_decide_eq_true hl
   have hEl : matE t text = 2 := by rw [hE, if_neg hf, if_pos (by omega)]
   refine Wp_seq_region ?_
   refine qA (.bool false) rfl ?_
   refine qA (I6 2) rfl ?_
   refine WpL_nil (Wp_ret (thn_ret ?_))
   refine fin_tmp2 Try.results7 (v := (.bool false)) (v' := (.int .i64 2)) rfl rfl ?_
   exact ⟨by rw [hB, hEl, if_neg (by decide)], E⟩
  ·have khl := hl
   replace hl := of_decide_eq_false hl
   refine Wp_skip (thn_normal (Wp_seq (Wp_seq_region ?_)))
   refine qM (.slice xa text.length xc) rfl ?_
   refine WpL_enter rfl rfl (by decide) (r_callF (vs := [(.slice xa text.length xc)]) Try.func15 nm15 bd15 rfl) (runes_c _ _ text (hx.ext E)) ?_
   rintro _ w19 ⟨rfl, X19⟩
   replace Br := X19.keep Br
   replace E := E.ext X19
   refine qV (r_not (b := !(text.any fun r => !runeB r)) rfl) ?_
   refine WpL_nil ?_
   refine Wp_cond (b := !(!(text.any fun r => !runeB r))) rfl (fun hr => ?_) (fun hr => ?_)
   ·have khr := hr
    replace hr := by simpa using hr
    replace hr := by simpa using hr
    have hr1 : (text.any fun r => !runeB r) = true := by simpa using hr
    have hEl : matE t text = 1 := by rw [hE, if_neg hf, if_neg (by omega), if_pos hr1]
    refine Wp_seq_region ?_
    refine qA (.bool false) rfl ?_
    refine qA (I6 1) rfl ?_
    refine WpL_nil (Wp_ret (thn_ret ?_))
    refine fin_tmp2 Try.results7 (v := (.bool false)) (v' := (.int .i64 1)) rfl rfl ?_
    exact ⟨by rw [hB, hEl, if_neg (by decide)], E⟩
   ·have khr := hr
    replace hr := by simpa using hr
    replace hr := by simpa using hr
    have hr1 : ¬ (text.any fun r => !runeB r) = true := by simpa using hr
    have hE2 : matE t text = if (runD (simR t) text).isNone = true then 2 else 0 := by rw [hE, if_neg hf, if_neg (by omega), if_neg hr1]
    clear hE
    obtain ⟨M, hM⟩ : ∃ M, M = simR t := ⟨_, rfl⟩
    rw [← hM] at hE2 hB hsim hsimz
    refine Wp_skip (thn_normal (Wp_seq_region ?_))
    refine qV (r_loadAgg (vs := [(I6 t.kind), (.slice sa t.set.length sc), (.slice aa t.args.length ac), (I6 t.mn), (I6 t.mx), (.bool t.neg)]) rfl agg27 siz27 rfl (Br.cells rfl)) ?_
    refine WpL_enter rfl rfl (by decide) (r_callF (vs := [(.agg (R6 t sa sc aa ac))]) Try.func16 nm16 bd16 rfl) ((dsim_c 300 t _ S _ hsz (by omega) hok hu (ReIn.ext E t ht0) (fun y hy => by have := hS y hy; have := E.size; omega)).mono (R' := fun r w => reG (fun _ => True) M r w ∧ Ext w19 w) (fun r w h => ⟨reG_of (S' := fun b => S b ∨ w19.heap.size ≤ b) (fun b hb => trivial) (by rw [hM]; exact h.1), h.2⟩)) ?_
    rintro _ w29 ⟨⟨ma, mc, na, nc, rfl, hR4⟩, X29⟩
    replace Br := X29.keep Br
    replace E := E.ext X29
    have hR6 := ReIn.lt M hR4
    obtain ⟨h29, hh29⟩ : ∃ h, h = w29.heap.size := ⟨_, rfl⟩
    rw [← hh29] at hR6
    have E3 : Chg none1 w29 w29 := Chg.refl _ _
    refine s_allocStore (v := (.agg (R6 M ma mc na nc))) (c := (R6 M ma mc na nc)) (n := 6) (by decide) zer27 rfl siz27 rfl rfl rfl (by simp [Value.oneCell']) ?_
    intro bq wq Nq
    have Fq := Nq.ge E
    have Fq_E3 := Nq.ge E3
    have Oq_br := Nq.lt Br
    replace Br := Nq.keep Br
    replace hR6 := ReIn.ext Nq.ext _ hR6
    replace E := E.ext Nq.ext
    have Bq := Nq.blk
    replace E3 := E3.ext Nq.ext
    refine WpL_nil (Wp_seq (Wp_seq_region ?_))
    refine qM (.slice xa text.length xc) rfl ?_
    refine qV (r_lenSlice (ad := xa) (n := text.length) (cap := xc) Try.underlying22 rfl) ?_
    refine qM (I6 0) rfl ?_
    refine WpL_nil (Wp_block ?_)
    refine Wp_loop (fun nn_ σ W4 => ∃ (k : Nat) (D : Re) (da : Option Addr) (dc : Nat) (ea : Option Addr) (ec : Nat), (∃ jj_, σ = upds jj_ [(7, (P6 bq 0)), (23, (.slice xa text.length xc)), (24, (I6 (text.length : Int))), (25, (I6 (k : Int)))]) ∧ Chg none1 w0 W4 ∧ Chg none1 w29 W4 ∧ Blk W4 br (R6 t sa sc aa ac) 27 ∧ Blk W4 bq (#[.int .i64 D.kind, .slice da D.set.length dc, .slice ea D.args.length ec, .int .i64 D.mn, .int .i64 D.mx, .bool D.neg]) 27 ∧ (k ≤ text.length) ∧ (ReIn (fun b => b ≠ bq) W4 D [.int .i64 D.kind, .slice da D.set.length dc, .slice ea D.args.length ec, .int .i64 D.mn, .int .i64 D.mx, .bool D.neg]) ∧ (SimOk D) ∧ (D.size ≤ 300) ∧ (runD M text = runD D (text.drop k)) ∧ nn_ = text.length - k) (n := text.length - 0) ?_ ?_
    ·exact ⟨0, M, ma, mc, na, nc, Fits.out ⟨rfl, rfl, rfl, rfl, trivial⟩, E, E3, Br, Bq, Nat.zero_le _, ReIn.mono (fun y hy => by have := hy.2; omega) _ hR6, hsim, hsimz, rfl, rfl⟩
    ·clear E E3 Br Bq
     rintro _ _ W4 ⟨k, D, da, dc, ea, ec, ⟨j4, rfl⟩, E, E3, Br, Bq, hk, hRk, hDo, hDz, hrun, rfl⟩
     refine Wp_seq_region ?_
     refine qV (r_lss (k := .i64) (a := (k : Int)) (b := (text.length : Int)) rfl rfl) ?_
     refine WpL_nil (Wp_seq ?_)
     refine Wp_cond (b := decide (((k : Int) : Int) < (text.length : Int))) rfl (fun hlt => ?_) (fun hlt => ?_)
     ·have khlt := hlt
      replace hlt := of_decide_eq_true hlt
      obtain ⟨c, hc⟩ := get_of_lt (l := text) (i := k) (by omega)
      obtain ⟨xb, xo, rfl, hcl⟩ := ints_cells (n := text.length) hx (by omega)
      refine Wp_skip (thn_normal (Wp_seq (Wp_block (Wp_seq_region ?_))))
      refine qV (r_indexSlice (b := xb) (o := xo) (len := text.length) (cap := xc) (i := k) (o' := xo + k) rfl rfl rfl Try.underlying22 siz3 (by omega) (by omega)) ?_
      refine qV (r_load (v := (I6 c)) rfl flat3 (E.cell (fun f => f) (hcl k c hc))) ?_
      obtain ⟨F, hF⟩ : ∃ F, F = stepR c D := ⟨_, rfl⟩
      have hFo : SimOk F := by rw [hF]; exact step_ok c hDo
      have hFz : F.size ≤ 200000 := by rw [hF]; exact step_small hDo hDz
      have hdr : text.drop k = c :: text.drop (k + 1) := by obtain ⟨hlt9, rfl⟩ := List.getElem?_eq_some_iff.1 hc; exact List.drop_eq_getElem_cons hlt9
      have hbqW : bq < (W4).heap.size := Bq.lt
      refine qA (I6 c) rfl ?_
      refine WpL_nil (Wp_seq_region ?_)
      refine qV (r_loadAgg (vs := [(I6 D.kind), (.slice da D.set.length dc), (.slice ea D.args.length ec), (I6 D.mn), (I6 D.mx), (.bool D.neg)]) rfl agg27 siz27 rfl (Bq.cells rfl)) ?_
      refine qM (I6 c) rfl ?_
      refine WpL_enter rfl rfl (by decide) (r_callF (vs := [(.agg (R6 D da dc ea ec)), (I6 c)]) Try.func17 nm17 bd17 rfl) ((step_c c 301 (by omega) D _ _ _ (by omega) hDo (ReIn.lt _ hRk) (fun y hy => hy.2)).mono (R' := fun r w => reG (fun b => b ≠ bq) F r w ∧ Ext _ w) (fun r w h => ⟨reG_of (S' := fun b => (b ≠ bq ∧ b < _) ∨ _ ≤ b) (fun b hb => by rcases hb with h1 | h1; exact h1.1; exact fun e => by rw [e] at h1; exact absurd hbqW (Nat.not_lt.2 h1)) (by rw [hF]; exact h.1), h.2⟩)) ?_
      rintro _ w39 ⟨⟨fa, fc, ga, gc, rfl, hR5⟩, X39⟩
      replace Br := X39.keep Br
      replace Bq := X39.keep Bq
      replace E := E.ext X39
      replace E3 := E3.ext X39
      refine s_storeAgg (b := bq) (o := 0) (c' := (R6 F fa fc ga gc)) rfl rfl (by simp [Value.oneCell']) siz27 rfl Bq (by first | (simp; done) | exact Nat.le_of_ble_eq_true rfl) rfl ?_
      intro w6 S6
      replace hR5 := ReIn.chg S6.chg (fun y hy h => hy h) _ hR5
      replace Br := S6.keep (by omega) Br
      replace E := S6.step E (by first | exact Or.inl (by omega) | exact Or.inr rfl | exact Or.inr (by assumption) | exact Or.inr (by simp) | exact Or.inr (by omega) | exact Or.inr (by dsimp only; omega))
      replace E3 := S6.step E3 (Or.inl (by omega))
      replace Bq := S6.blk
      refine WpL_nil (Wp_seq_region ?_)
      refine qV (r_loadAgg (vs := [(I6 F.kind), (.slice fa F.set.length fc), (.slice ga F.args.length gc), (I6 F.mn), (I6 F.mx), (.bool F.neg)]) rfl agg27 siz27 rfl (Bq.cells rfl)) ?_
      refine WpL_enter rfl rfl (by decide) (r_callF (vs := [(.agg (R6 F fa fc ga gc))]) Try.func18 nm18 bd18 rfl) (size_c _ F _ (ReIn.at F hR5) (by omega)) ?_
      rintro _ w49 ⟨rfl, X49⟩
      replace Br := X49.keep Br
      replace Bq := X49.keep Bq
      replace hR5 := ReIn.ext X49 _ hR5
      replace E := E.ext X49
      replace E3 := E3.ext X49
      refine qV (r_gtr (k := .i64) (a := (F.size : Int)) (b := 300) rfl rfl) ?_
      refine WpL_nil ?_
      refine Wp_cond (b := decide ((300 : Int) < (F.size : Int))) rfl (fun hz => ?_) (fun hz => ?_)
      ·have khz := hz
       replace hz := of_decide_eq_true hz
       have hn9 : runD M text = none := by rw [hrun, hdr, runD_cons, if_pos (by rw [← hF]; omega)]
       have hE9 : matE t text = 2 := by rw [hE2, hn9]; rfl
       refine Wp_seq_region ?_
       refine qA (.bool false) rfl ?_
       refine qA (I6 2) rfl ?_
       refine WpL_nil (Wp_ret (inB_ret (thn_ret (thn_ret (inB_ret (thn_ret ?_))))))
       refine fin_tmp2 Try.results7 (v := (.bool false)) (v' := (.int .i64 2)) rfl rfl ?_
       exact ⟨by rw [hB, hE9, if_neg (by decide)], E⟩
      ·have khz := hz
       replace hz := of_decide_eq_false hz
       refine Wp_skip (inB_normal (thn_normal (Wp_region ?_)))
       refine qV (r_add (k := .i64) (a := (k : Int)) (b := 1) (c := (k : Int) + 1) rfl rfl (wI64 (by omega))) ?_
       refine qM (I6 ((k : Int) + 1)) rfl ?_
       refine WpL_nil (thn_normal ?_)
       exact ⟨text.length - (k + 1), by omega, k + 1, F, fa, fc, ga, gc, Fits.out ⟨rfl, rfl, rfl, rfl, trivial⟩, E, E3, Br, Bq, (by omega), hR5, hFo, (by omega), (by rw [hrun, hdr, runD_cons, if_neg (by rw [← hF]; omega), ← hF]), rfl⟩
     ·have khlt := hlt
      replace hlt := of_decide_eq_false hlt
      have hkk : k = text.length := by omega
      have hn9 : runD M text = some D := by rw [hrun, hkk, List.drop_length]; rfl
      have hE9 : matE t text = 0 := by rw [hE2, hn9]; rfl
      refine Wp_exit (thn_exit (thn_exit (inB_here (thn_normal (Wp_seq_region ?_)))))
      refine qV (r_loadAgg (vs := [(I6 D.kind), (.slice da D.set.length dc), (.slice ea D.args.length ec), (I6 D.mn), (I6 D.mx), (.bool D.neg)]) rfl agg27 siz27 rfl (Bq.cells rfl)) ?_
      refine WpL_enter rfl rfl (by decide) (r_callF (vs := [(.agg (R6 D da dc ea ec))]) Try.func19 nm19 bd19 rfl) (empt_c 300 D _ _ hDz (by omega) (ReIn.at D hRk)) ?_
      rintro _ w59 ⟨rfl, X59⟩
      replace Br := X59.keep Br
      replace Bq := X59.keep Bq
      replace E := E.ext X59
      replace E3 := E3.ext X59
      refine qA (.bool (emptR D)) rfl ?_
      refine qA (I6 0) rfl ?_
      refine WpL_nil (Wp_ret ?_)
      refine fin_tmp2 Try.results7 (v := (.bool (emptR D))) (v' := (.int .i64 0)) rfl rfl ?_
      exact ⟨by rw [hB, hE9, if_pos rfl, hn9]; rfl, E⟩
end Go.Proofs
namespace Go.Proofs
open Go Go.Eng Go.Sort
set_option maxRecDepth 100000
def begD : Re := .mk 3 [] [oneT 97, oneT 98] 0 0 false
theorem begD_by : byE begD 97 = 0 ∧ byD begD 97 = oneT 98 := ⟨by decide +kernel, (sameT_iff _ _).1 (by decide +kernel)⟩
set_option maxHeartbeats 1000000 in
theorem dbegun_c (w0 : World) : Ret Try.prog 4 #[] w0 fun v w => v = .bool true ∧ Ext w0 w := by
 obtain ⟨hb1, hb2⟩ := begD_by
 refine Ret_of Try.func4 rfl Try.ntmps4 (Nat.le_of_ble_eq_true rfl) ?_
 have E : Chg none1 w0 w0 := Chg.refl _ _
 refine Wp_seq_region ?_
 refine qA (.bool false) rfl ?_
 refine WpL_nil (Wp_seq_region ?_)
 refine WpL_enter rfl rfl (by decide) (r_callF (vs := [(I6 97)]) Try.func10 nm10 bd10 rfl) (one_c _ 97) ?_
 rintro _ w9 ⟨b, rfl, hsp, X9⟩
 replace E := E.ext X9
 refine WpL_enter rfl rfl (by decide) (r_callF (vs := [(I6 98)]) Try.func10 nm10 bd10 rfl) (one_c _ 98) ?_
 rintro _ w19 ⟨b2, rfl, hsp2, X19⟩
 replace E := E.ext X19
 refine s_buildSlice (ps := [(0, (.agg #[(I6 2), (.slice (some ⟨b, 0, none⟩) 1 1), (.slice none 0 0), (I6 0), (I6 0), (.bool false)])), (1, (.agg #[(I6 2), (.slice (some ⟨b2, 0, none⟩) 1 1), (.slice none 0 0), (I6 0), (I6 0), (.bool false)]))]) (c := #[(I6 2), (.slice (some ⟨b, 0, none⟩) 1 1), (.slice none 0 0), (I6 0), (I6 0), (.bool false), (I6 2), (.slice (some ⟨b2, 0, none⟩) 1 1), (.slice none 0 0), (I6 0), (I6 0), (.bool false)]) (by decide) rfl Try.underlying25 siz27 zer27 (by decide) (by decide) (by kernel_rfl) ?_
 intro bp wp Np
 have Fp := Np.ge E
 replace E := E.ext Np.ext
 have Bp := Np.blk
 refine WpL_enter rfl rfl (by decide) (r_callF (vs := [(I6 3), (.slice (some ⟨bp, 0, none⟩) 2 2)]) Try.func9 nm9 bd9 rfl) (re_c _ 3 (some ⟨bp, 0, none⟩) 2 2) ?_
 rintro _ w29 ⟨rfl, X29⟩
 replace Bp := X29.keep Bp
 replace E := E.ext X29
 have hat : ReAt w29 begD [.int .i64 3, .slice none 0 0, .slice (some ⟨bp, 0, none⟩) 2 2, .int .i64 0, .int .i64 0, .bool false] := ReAt.of (set := []) (args := [oneT 97, oneT 98]) (SlAt.nil _ _ _ _) (by simp) (.inr ⟨bp, 0, rfl, by simp only [ResAt]; exact ⟨⟨_, Bp.cells rfl, one_at (((hsp.ext X19).ext Np.ext).ext X29)⟩, ⟨_, Bp.cells rfl, one_at ((hsp2.ext Np.ext).ext X29)⟩, trivial⟩⟩)
 refine WpL_enter rfl rfl (by decide) (r_callF (vs := [(.agg #[(I6 3), (.slice none 0 0), (.slice (some ⟨bp, 0, none⟩) 2 2), (I6 0), (I6 0), (.bool false)]), (I6 97)]) Try.func8 nm8 bd8 rfl) ((dby_c _ (fun x => x < w29.heap.size) begD _ 97 (ReIn.of_at begD hat) (fun y hy => hy)).mono (R' := fun r w => (∃ sa sc aa ac, r = .tuple #[.agg #[.int .i64 2, .slice sa 1 sc, .slice aa 0 ac, .int .i64 0, .int .i64 0, .bool false], .int .i64 0] ∧ ReAt w (oneT 98) [.int .i64 2, .slice sa 1 sc, .slice aa 0 ac, .int .i64 0, .int .i64 0, .bool false]) ∧ Ext w29 w) (fun r w h => ⟨by obtain ⟨⟨us, h1, h2⟩, _⟩ := h; rw [hb2] at h2; rw [hb1] at h1; obtain ⟨sa, sc, aa, ac, rfl, _⟩ := h2.form; exact ⟨sa, sc, aa, ac, h1, ReIn.at _ h2⟩, h.2⟩)) ?_
 rintro _ w39 ⟨⟨sa, sc, aa, ac, rfl, hR⟩, X39⟩
 replace Bp := X39.keep Bp
 replace E := E.ext X39
 refine qM (.tuple #[(.agg #[(I6 2), (.slice sa 1 sc), (.slice aa 0 ac), (I6 0), (I6 0), (.bool false)]), (I6 0)]) rfl ?_
 refine qV (r_extract (vs := #[(.agg #[(I6 2), (.slice sa 1 sc), (.slice aa 0 ac), (I6 0), (I6 0), (.bool false)]), (I6 0)]) (v := (.agg #[(I6 2), (.slice sa 1 sc), (.slice aa 0 ac), (I6 0), (I6 0), (.bool false)])) rfl rfl) ?_
 refine qV (r_extract (vs := #[(.agg #[(I6 2), (.slice sa 1 sc), (.slice aa 0 ac), (I6 0), (I6 0), (.bool false)]), (I6 0)]) (v := (I6 0)) rfl rfl) ?_
 refine s_allocStore (v := (.agg #[(I6 2), (.slice sa 1 sc), (.slice aa 0 ac), (I6 0), (I6 0), (.bool false)])) (c := #[(I6 2), (.slice sa 1 sc), (.slice aa 0 ac), (I6 0), (I6 0), (.bool false)]) (n := 6) (by decide) zer27 rfl siz27 rfl rfl rfl (by simp [Value.oneCell']) ?_
 intro bq wq Nq
 have Fq := Nq.ge E
 have Oq_bp := Nq.lt Bp
 replace Bp := Nq.keep Bp
 replace hR := ReAt.ext Nq.ext _ hR
 replace E := E.ext Nq.ext
 have Bq := Nq.blk
 refine qA (I6 0) rfl ?_
 refine WpL_nil (Wp_seq ?_)
 obtain ⟨Fs1, hFs1⟩ : ∃ Fs : List Fact, Fs = [.eq (I6 0), .eq (.bool true), .eq (.bool true), .re (oneT 98), .re (oneT 98), .eq (.bool true), .eq (.bool true), .eq (.bool true)] := ⟨_, rfl⟩
 refine Wp_dag [11, 12, 13, 14, 15, 16, 17, 0] [[], [0], [1], [2], [2], [2, 3, 4], [2, 5], [0, 1, 2, 3, 4, 5, 6]] Fs1 hFs1 mixed (by kernel_rfl) (by kernel_rfl) ?_ ?_
 ·intro wd X0
  refine DagSteps.cons (fun s' w' X U H => Or.inl ⟨?_, ?_⟩) ?_
  ·exact Guarded_none rfl
  ·exact Does_val (r_move (v := (I6 0)) (U 2 rfl)) (Ext.refl _) rfl
  refine DagSteps.cons (fun s' w' X U H => Or.inl ⟨?_, ?_⟩) ?_
  ·exact Guarded_none rfl
  ·have e11 : s' 11 = (.int .i64 0) := H 0 rfl 11 (.eq (.int .i64 0)) rfl (by rw [hFs1]; rfl)
   exact Does_val (r_eql (k := .i64) (a := 0) (b := 0) e11 rfl) (Ext.refl _) rfl
  refine DagSteps.cons (fun s' w' X U H => Or.inl ⟨?_, ?_⟩) ?_
  ·exact Guarded_none rfl
  ·have e12 : s' 12 = (.bool true) := H 1 rfl 12 (.eq (.bool true)) rfl (by rw [hFs1]; rfl)
   exact Does_val (r_move (v := (.bool true)) e12) (Ext.refl _) rfl
  refine DagSteps.cons (fun s' w' X U H => Or.inl ⟨?_, ?_⟩) ?_
  ·exact Guarded_some rfl rfl (d := 13) (H 2 rfl 13 (.eq (.bool true)) rfl (by rw [hFs1]; rfl))
  ·exact Does_val (r_loadAgg (vs := [(I6 2), (.slice sa 1 sc), (.slice aa 0 ac), (I6 0), (I6 0), (.bool false)]) (U 1 rfl) agg27 siz27 rfl ((X0.trans X).keep Bq |>.cells rfl)) (Ext.refl _) ⟨_, rfl, ReAt.ext (X0.trans X) _ hR⟩
  refine DagSteps.cons (fun s' w' X U H => Or.inl ⟨?_, ?_⟩) ?_
  ·exact Guarded_some rfl rfl (d := 13) (H 2 rfl 13 (.eq (.bool true)) rfl (by rw [hFs1]; rfl))
  ·exact Does_enter (r_callF (vs := [(I6 98)]) Try.func10 nm10 bd10 (lst1 rfl)) ((one_c _ 98).mono (fun v w h => by obtain ⟨b, h1, h2, h3⟩ := h; exact ⟨⟨_, h1, one_at h2⟩, h3⟩))
  refine DagSteps.cons (fun s' w' X U H => Or.inl ⟨?_, ?_⟩) ?_
  ·exact Guarded_some rfl rfl (d := 13) (H 2 rfl 13 (.eq (.bool true)) rfl (by rw [hFs1]; rfl))
  ·obtain ⟨v14, e14, r14⟩ : (Fact.re (oneT 98)).In (s' 14) w' := H 3 rfl 14 (.re (oneT 98)) rfl (by rw [hFs1]; rfl)
   obtain ⟨v15, e15, r15⟩ : (Fact.re (oneT 98)).In (s' 15) w' := H 4 rfl 15 (.re (oneT 98)) rfl (by rw [hFs1]; rfl)
   exact Does_enter (r_callF (vs := [(.agg v14.toArray), (.agg v15.toArray)]) Try.func11 nm11 bd11 (lst2 e14 e15)) ((resame_c (oneT 98).size (oneT 98) (oneT 98) _ _ _ (Nat.le_refl _) r14 r15).mono (fun v w h => ⟨by rw [h.1]; rfl, h.2⟩))
  refine DagSteps.cons (fun s' w' X U H => Or.inl ⟨?_, ?_⟩) ?_
  ·exact Guarded_none rfl
  ·have e13 : s' 13 = (.bool true) := H 2 rfl 13 (.eq (.bool true)) rfl (by rw [hFs1]; rfl)
   have e16 : s' 16 = (.bool true) := H 5 rfl 16 (.eq (.bool true)) rfl (by rw [hFs1]; rfl)
   exact Does_val (r_pick (b := true) (v := (.bool true)) e13 e16) (Ext.refl _) rfl
  refine DagSteps.cons (fun s' w' X U H => Or.inl ⟨?_, ?_⟩) ?_
  ·exact Guarded_none rfl
  ·have e17 : s' 17 = (.bool true) := H 6 rfl 17 (.eq (.bool true)) rfl (by rw [hFs1]; rfl)
   exact Does_val (r_assign (v := (.bool true)) e17) (Ext.refl _) rfl
  exact DagSteps.nil
 ·intro s' w1 X1 U H
  obtain ⟨j1, rfl⟩ := Fits.out (σ := s') (l := [(0, (.bool true))]) ⟨(show s' 0 = (.bool true) from H 7 0 (.eq (.bool true)) rfl (by rw [hFs1]; rfl)), trivial⟩
  clear U H
  replace Bp := X1.keep Bp
  replace Bq := X1.keep Bq
  replace hR := ReAt.ext X1 _ hR
  replace E := E.ext X1
  refine thn_normal (Wp_ret ?_)
  refine fin_tmp Try.results4 (v := (.bool true)) rfl ?_
  exact ⟨rfl, E⟩
end Go.Proofs
namespace Go.Proofs
open Go Go.Eng Go.Sort
set_option maxRecDepth 100000
def tupG (S : Nat → Prop) (x : Re) (e : Int) : Fct := fun v w => ∃ sa sc aa ac, v = .tuple #[.agg #[.int .i64 x.kind, .slice sa x.set.length sc, .slice aa x.args.length ac, .int .i64 x.mn, .int .i64 x.mx, .bool x.neg], .int .i64 e] ∧ ReIn S w x [.int .i64 x.kind, .slice sa x.set.length sc, .slice aa x.args.length ac, .int .i64 x.mn, .int .i64 x.mx, .bool x.neg]
theorem tupG_ext (S : Nat → Prop) (x : Re) (e : Int) : Stable (tupG S x e) := by
 rintro v w w' e ⟨sa, sc, aa, ac, h1, h2⟩
 exact ⟨sa, sc, aa, ac, h1, ReIn.ext e x h2⟩
theorem tupG_ne {S : Nat → Prop} {x : Re} {c : Int} {v : Value} {w : World} {n : Nat} (e : w.heap.size = n) (h : tupG S x c v w) : tupG (fun y => S y ∧ y ≠ n) x c v w := by
 obtain ⟨sa, sc, aa, ac, h1, h2⟩ := h
 exact ⟨sa, sc, aa, ac, h1, ReIn.mono (fun y hy => ⟨hy.1, by omega⟩) x (ReIn.lt x h2)⟩
theorem tupG_of {S S' : Nat → Prop} {x : Re} {e : Int} {v : Value} {w : World} (hS : ∀ b, S' b → S b) (h : ∃ us : List Value, v = .tuple #[.agg us.toArray, .int .i64 e] ∧ ReIn S' w x us) : tupG S x e v w := by
 obtain ⟨us, rfl, h⟩ := h
 have h2 := ReIn.mono hS x h
 obtain ⟨sa, sc, aa, ac, rfl, _⟩ := h2.form
 exact ⟨sa, sc, aa, ac, rfl, h2⟩
theorem ints_from {w : World} {xb xo c n : Nat} {x : Int} {rest : List Int} (h : IntsAt w (.slice (some ⟨xb, xo, none⟩) n c) (x :: rest)) : IntsAt w (.slice (some ⟨xb, if c = 1 then xo else xo + 1, none⟩) rest.length (c - 1)) rest := by
 obtain ⟨a, cap, hv, hl, hc, h4⟩ := h
 simp only [Value.slice.injEq] at hv
 obtain ⟨rfl, _, rfl⟩ := hv
 simp only [List.length_map, List.length_cons] at hl hc
 refine ⟨_, _, by rw [List.length_map], by rw [List.length_map]; omega, by rw [List.length_map]; omega, ?_⟩
 by_cases h1 : c = 1
 ·left
  have : rest = [] := List.eq_nil_of_length_eq_zero (by omega)
  rw [this]; rfl
 right
 obtain ⟨b, o, ha, hcl⟩ := h4.resolve_left (by simp)
 simp only [Option.some.injEq, Addr.mk.injEq] at ha
 obtain ⟨rfl, rfl, _⟩ := ha
 refine ⟨_, _, rfl, fun i r hr => ?_⟩
 have h5 := hcl (i + 1) r (by simpa using hr)
 rw [if_neg h1, show xo + 1 + i * 1 = xo + (i + 1) * 1 by omega]
 exact h5
set_option maxHeartbeats 2000000 in
theorem dsteps_c (w0 : World) (v1 v2 : Value) (l t : List Int) (h1 : IntsAt w0 v1 l) (h2 : IntsAt w0 v2 t) :
  Ret Try.prog 3 #[v1, v2] w0 fun v w => v = .bool true ∧ Ext w0 w := by
 obtain ⟨a1, c1, rfl⟩ := SlAt.form h1
 obtain ⟨a2, c2, rfl⟩ := SlAt.form h2
 simp only [List.length_map] at h1 h2 ⊢
 refine Ret_of Try.func3 rfl Try.ntmps3 (Nat.le_of_ble_eq_true rfl) ?_
 have E : Chg none1 w0 w0 := Chg.refl _ _
 refine Wp_seq_region ?_
 refine qA (.bool false) rfl ?_
 refine WpL_nil (Wp_seq (Wp_seq_region ?_))
 refine WpL_enter rfl rfl (by decide) (r_callF (vs := []) Try.func4 nm4 bd4 rfl) (dbegun_c _) ?_
 rintro _ w9 ⟨rfl, X9⟩
 replace E := E.ext X9
 refine qV (r_not (b := true) rfl) ?_
 refine WpL_nil ?_
 refine Wp_cond_false rfl ?_
 refine Wp_skip (thn_normal (Wp_seq_region ?_))
 refine qM (.slice a1 l.length c1) rfl ?_
 refine WpL_enter rfl rfl (by decide) (r_callF (vs := [(.slice a1 l.length c1)]) Try.func5 nm5 bd5 rfl) (mkRe_c _ _ l (h1.ext E)) ?_
 rintro _ wa ⟨a, us, rfl, ga, za, ha, Xa⟩
 replace E := E.ext Xa
 have hat := ReIn.of_at a (ReIn.at a ha)
 obtain ⟨sa, sc, aa, ac, rfl, _, _, _⟩ := ha.form
 refine qM (.slice a2 t.length c2) rfl ?_
 refine WpL_enter rfl rfl (by decide) (r_callF (vs := [(.slice a2 t.length c2)]) Try.func6 nm6 bd6 rfl) (text_c _ _ t (h2.ext E)) ?_
 rintro _ wt ⟨ta, tc, text, rfl, htx, htl, htr, Xt⟩
 replace E := E.ext Xt
 replace hat := ReIn.mono (fun y (hy : y < wa.heap.size) => (by have := Xt.size; omega : y < wt.heap.size)) a (ReIn.ext Xt a hat)
 obtain ⟨n1, hn1⟩ : ∃ n, n = wt.heap.size := ⟨_, rfl⟩
 rw [← hn1] at hat
 refine s_allocStore (v := (.agg (R6 a sa sc aa ac))) (c := (R6 a sa sc aa ac)) (n := 6) (by decide) zer27 rfl siz27 rfl rfl rfl (by simp [Value.oneCell']) ?_
 intro bq wq Nq
 have Fq := Nq.ge E
 replace hat := ReIn.ext Nq.ext _ hat
 replace htx := htx.ext Nq.ext
 replace E := E.ext Nq.ext
 have Bq := Nq.blk
 refine qA (.slice ta text.length tc) rfl ?_
 refine WpL_nil (Wp_seq (Wp_seq_region ?_))
 refine qM (.slice ta text.length tc) rfl ?_
 refine qV (r_lenSlice (ad := ta) (n := text.length) (cap := tc) Try.underlying22 rfl) ?_
 refine qV (r_eql (k := .i64) (a := (text.length : Int)) (b := 0) rfl rfl) ?_
 refine WpL_nil ?_
 refine Wp_cond (b := decide (((text.length : Int) : Int) = 0)) rfl (fun hl => ?_) (fun hl => ?_)
 ·have khl := hl
  replace hl := of_decide_eq_true hl
  refine Wp_seq_region ?_
  refine qA (.bool true) rfl ?_
  refine WpL_nil (Wp_ret (thn_ret ?_))
  refine fin_tmp Try.results3 (v := (.bool true)) rfl ?_
  exact ⟨rfl, E⟩
 ·have khl := hl
  replace hl := of_decide_eq_false hl
  refine Wp_skip (thn_normal (Wp_seq_region ?_))
  refine qV (r_loadAgg (vs := [(I6 a.kind), (.slice sa a.set.length sc), (.slice aa a.args.length ac), (I6 a.mn), (I6 a.mx), (.bool a.neg)]) rfl agg27 siz27 rfl (Bq.cells rfl)) ?_
  refine qM (.slice ta text.length tc) rfl ?_
  refine WpL_enter rfl rfl (by decide) (r_callF (vs := [(.agg (R6 a sa sc aa ac)), (.slice ta text.length tc)]) Try.func7 nm7 bd7 rfl) (dmat_c _ (fun y => y < n1) a _ _ text hat (fun y (hy : y < n1) => by have := Nq.ext.size; omega) htx) ?_
  rintro _ w29 ⟨rfl, X29⟩
  replace Bq := X29.keep Bq
  replace hat := ReIn.ext X29 _ hat
  replace htx := htx.ext X29
  replace E := E.ext X29
  obtain ⟨c, rest, hcr⟩ : ∃ c rest, text = c :: rest := by cases text with | nil => simp at hl | cons c r => exact ⟨c, r, rfl⟩
  have hc0 : text[0]? = some c := by rw [hcr]; rfl
  have hrl : text.length = rest.length + 1 := by rw [hcr]; rfl
  obtain ⟨xb, xo, rfl, hcl⟩ := ints_cells (n := text.length) htx (by omega)
  obtain ⟨n2, hn2⟩ : ∃ n, n = (w29).heap.size := ⟨_, rfl⟩
  have hn12 : n1 ≤ n2 := by have := Nq.ext.size; have := X29.size; omega
  have hxb : xb < n2 := by rw [hn2]; exact World.block_lt_of_cell? _ _ (hcl 0 c hc0)
  refine qM (.tuple #[(.bool (matD a text)), (I6 (matE a text))]) rfl ?_
  refine qV (r_extract (vs := #[(.bool (matD a text)), (I6 (matE a text))]) (v := (.bool (matD a text))) rfl rfl) ?_
  refine qV (r_extract (vs := #[(.bool (matD a text)), (I6 (matE a text))]) (v := (I6 (matE a text))) rfl rfl) ?_
  refine qA (.bool (matD a text)) rfl ?_
  refine qA (I6 (matE a text)) rfl ?_
  refine WpL_nil ?_
  refine Wp_cut (fun σ W2 => ∃ (b9 : Nat) (xa : Option Addr) (xc : Nat) (ya : Option Addr) (yc : Nat), (∃ jj_, σ = upds jj_ [(6, (.slice (some ⟨xb, xo, none⟩) text.length tc)), (7, (.bool (matD a text))), (8, (I6 (matE a text))), (9, (P6 b9 0)), (10, (I6 (byE a c)))]) ∧ Chg none1 w0 W2 ∧ Blk W2 bq (R6 a sa sc aa ac) 27 ∧ (Blk W2 b9 #[.int .i64 (byD a c).kind, .slice xa (byD a c).set.length xc, .slice ya (byD a c).args.length yc, .int .i64 (byD a c).mn, .int .i64 (byD a c).mx, .bool (byD a c).neg] 27) ∧ (ReIn (fun y => y ≠ b9) W2 (byD a c) [.int .i64 (byD a c).kind, .slice xa (byD a c).set.length xc, .slice ya (byD a c).args.length yc, .int .i64 (byD a c).mn, .int .i64 (byD a c).mx, .bool (byD a c).neg]) ∧ (IntsAt W2 (.slice (some ⟨xb, xo, none⟩) text.length tc) text)) ?_ ?_
  ·skip
   have hz_3 : w0.heap.size ≤ w29.heap.size := E.size
   have lz_3_bq : bq < w29.heap.size := Bq.lt
   obtain ⟨Fs3, hFs3⟩ : ∃ Fs : (Nat → Prop) → List Fact, Fs = fun RR => [.eq (.agg (R6 a sa sc aa ac)), .eq (.slice (some ⟨xb, xo, none⟩) text.length tc), .eq (.pointer (some ⟨xb, xo + 0, none⟩)), .eq (I6 c), .gen (tupG RR (byD a c) (byE a c)) (tupG_ext _ _ _), .gen (tupG RR (byD a c) (byE a c)) (tupG_ext _ _ _), .gen (reG RR (byD a c)) (reG_ext _ _), .eq (I6 (byE a c)), .gen (alF 27 #[(I6 0), (.slice none 0 0), (.slice none 0 0), (I6 0), (I6 0), (.bool false)] w29.heap.size) (alF_ext _ _ _), .eq undef, .eq undef] := ⟨_, rfl⟩
   refine Wp_dagA [true, true, true, true, true, true, true, true, true, false, false] [9, 10] 7 9 [7, 10] [29, 30, 31, 32, 33, 28, 34, 35, 9, 67, 68] [[], [], [1], [2], [0, 3], [4], [5], [5], [], [], []] Fs3 hFs3 (fun _ => True) (fun y hy => trivial) 8 9 (lo := w29.heap.size) (Nat.le_refl _) rfl rfl (AlOp.mk' zer27 rfl) (fun RR => ⟨_, by rw [hFs3]; rfl⟩) (fun n => by rw [hFs3]; repeat (first | exact Cvs.nil | refine Cvs.same ?_ | refine Cvs.cons (fun v w e h => by first | exact reG_ne e h | exact rsG_ne e h | exact tupG_ne e h) ?_)) mixed (by kernel_rfl) (by kernel_rfl) rfl (by kernel_rfl) (by kernel_rfl) (by kernel_rfl) ?_ ?_ ?_
   ·intro wd X0 RR hRR1 hRR2
    refine DagStepsP.cons (fun s' w' X U H => Or.inl ⟨?_, ?_⟩) ?_
    ·exact Guarded_none rfl
    ·exact Does_val (r_loadAgg (vs := [(I6 a.kind), (.slice sa a.set.length sc), (.slice aa a.args.length ac), (I6 a.mn), (I6 a.mx), (.bool a.neg)]) (U 5 rfl) agg27 siz27 rfl (((X0.trans X).keep Bq).cells rfl)) (Ext.refl _) rfl
    refine DagStepsP.cons (fun s' w' X U H => Or.inl ⟨?_, ?_⟩) ?_
    ·exact Guarded_none rfl
    ·exact Does_val (r_move (v := (.slice (some ⟨xb, xo, none⟩) text.length tc)) (U 6 rfl)) (Ext.refl _) rfl
    refine DagStepsP.cons (fun s' w' X U H => Or.inl ⟨?_, ?_⟩) ?_
    ·exact Guarded_none rfl
    ·have e30 : s' 30 = (.slice (some ⟨xb, xo, none⟩) text.length tc) := H 1 rfl 30 (.eq (.slice (some ⟨xb, xo, none⟩) text.length tc)) rfl (by rw [hFs3]; rfl)
     exact Does_val (r_indexSlice (b := xb) (o := xo) (len := text.length) (cap := tc) (i := 0) (o' := xo + 0) e30 rfl rfl Try.underlying22 siz3 (by omega) (by omega)) (Ext.refl _) rfl
    refine DagStepsP.cons (fun s' w' X U H => Or.inl ⟨?_, ?_⟩) ?_
    ·exact Guarded_none rfl
    ·have e31 : s' 31 = (.pointer (some ⟨xb, xo + 0, none⟩)) := H 2 rfl 31 (.eq (.pointer (some ⟨xb, xo + 0, none⟩))) rfl (by rw [hFs3]; rfl)
     exact Does_val (r_load (v := (I6 c)) e31 flat3 (Ext.cell (X0.trans X) (hcl 0 c hc0))) (Ext.refl _) rfl
    refine DagStepsP.cons (fun s' w' X U H => Or.inl ⟨?_, ?_⟩) ?_
    ·exact Guarded_none rfl
    ·have e29 : s' 29 = (.agg #[(.int .i64 a.kind), (.slice sa a.set.length sc), (.slice aa a.args.length ac), (.int .i64 a.mn), (.int .i64 a.mx), (.bool a.neg)]) := H 0 rfl 29 (.eq (.agg #[(.int .i64 a.kind), (.slice sa a.set.length sc), (.slice aa a.args.length ac), (.int .i64 a.mn), (.int .i64 a.mx), (.bool a.neg)])) rfl (by rw [hFs3]; rfl)
     have e32 : s' 32 = (.int .i64 c) := H 3 rfl 32 (.eq (.int .i64 c)) rfl (by rw [hFs3]; rfl)
     exact Does_enter (r_callF (vs := [(.agg (R6 a sa sc aa ac)), (I6 c)]) Try.func8 nm8 bd8 (lst2 e29 e32)) ((dby_c _ (fun y => y < n1) a _ c (ReIn.ext (X0.trans X) a hat) (fun y (hy : y < n1) => by have := X0.size; have := X.size; omega)).mono (fun v w h => ⟨tupG_of (S' := fun b => w'.heap.size ≤ b) (fun b hb => hRR2 b (by have := X.size; omega)) h.1, h.2⟩))
    refine DagStepsP.cons (fun s' w' X U H => Or.inl ⟨?_, ?_⟩) ?_
    ·exact Guarded_none rfl
    ·obtain ⟨xa33, xc33, ya33, yc33, e33, r33⟩ := H 4 rfl 33 (.gen (tupG RR (byD a c) (byE a c)) (tupG_ext _ _ _)) rfl (by rw [hFs3]; rfl)
     exact Does_val (r_move e33) (Ext.refl _) ⟨_, _, _, _, rfl, r33⟩
    refine DagStepsP.cons (fun s' w' X U H => Or.inl ⟨?_, ?_⟩) ?_
    ·exact Guarded_none rfl
    ·obtain ⟨xa28, xc28, ya28, yc28, e28, r28⟩ := H 5 rfl 28 (.gen (tupG RR (byD a c) (byE a c)) (tupG_ext _ _ _)) rfl (by rw [hFs3]; rfl)
     exact Does_val (r_extract e28 rfl) (Ext.refl _) ⟨_, _, _, _, rfl, r28⟩
    refine DagStepsP.cons (fun s' w' X U H => Or.inl ⟨?_, ?_⟩) ?_
    ·exact Guarded_none rfl
    ·obtain ⟨xa28, xc28, ya28, yc28, e28, r28⟩ := H 5 rfl 28 (.gen (tupG RR (byD a c) (byE a c)) (tupG_ext _ _ _)) rfl (by rw [hFs3]; rfl)
     exact Does_val (r_extract (vs := #[(.agg #[(I6 ((byD a c).kind)), (.slice xa28 ((byD a c).set.length) xc28), (.slice ya28 ((byD a c).args.length) yc28), (I6 ((byD a c).mn)), (I6 ((byD a c).mx)), (.bool ((byD a c).neg))]), (I6 (byE a c))]) (v := (I6 (byE a c))) e28 rfl) (Ext.refl _) rfl
    refine DagStepsP.cons (fun s' w' X U H => Or.inl ⟨?_, ?_⟩) ?_
    ·exact Guarded_none rfl
    ·exact Does_alloc (c := #[(I6 0), (.slice none 0 0), (.slice none 0 0), (I6 0), (I6 0), (.bool false)]) zer27 rfl (by have := X0.size; have := X.size; omega)
    refine DagStepsP.tail (DagStepsP.tail ?_)
    exact DagStepsP.nil
   ·intro s' w3 RR β X3 U hRA hβ H
    obtain ⟨xa34, xc34, ya34, yc34, e34, r34⟩ := H 6 rfl 34 (.gen (reG RR (byD a c)) (reG_ext _ _)) rfl (by rw [hFs3]; rfl)
    obtain ⟨b9, e9, B9, g9⟩ := H 8 rfl 9 (.gen (alF 27 #[(.int .i64 0), (.slice none 0 0), (.slice none 0 0), (.int .i64 0), (.int .i64 0), (.bool false)] w29.heap.size) (alF_ext _ _ _)) rfl (by rw [hFs3]; rfl)
    have hβ2 : β = b9 := by have h9 := e9.symm.trans hβ; simpa using h9.symm
    rw [hβ2] at hRA
    clear hβ hβ2 β
    obtain ⟨j3, rfl⟩ := Fits.out (σ := s') (l := [(6, (.slice (some ⟨xb, xo, none⟩) text.length tc)), (7, (.bool (matD a text))), (8, (.int .i64 (matE a text))), (34, (.agg #[(.int .i64 ((byD a c).kind)), (.slice xa34 ((byD a c).set.length) xc34), (.slice ya34 ((byD a c).args.length) yc34), (.int .i64 ((byD a c).mn)), (.int .i64 ((byD a c).mx)), (.bool ((byD a c).neg))])), (35, (.int .i64 (byE a c))), (9, (.pointer (some ⟨b9, 0, none⟩)))]) ⟨U 6 rfl, U 7 rfl, U 8 rfl, e34, (show s' 35 = (.int .i64 (byE a c)) from H 7 rfl 35 (.eq (.int .i64 (byE a c))) rfl (by rw [hFs3]; rfl)), e9, trivial⟩
    clear U H
    replace Bq := X3.keep Bq
    replace htx := htx.ext X3
    replace E := E.ext X3
    refine s_storeAgg (b := b9) (o := 0) (c' := #[(I6 ((byD a c).kind)), (.slice xa34 ((byD a c).set.length) xc34), (.slice ya34 ((byD a c).args.length) yc34), (I6 ((byD a c).mn)), (I6 ((byD a c).mx)), (.bool ((byD a c).neg))]) rfl rfl (by simp [Value.oneCell']) siz27 rfl B9 (by first | (simp; done) | exact Nat.le_of_ble_eq_true rfl) rfl ?_
    intro w4 S4
    replace htx := ((SlIn.mk htx (S := fun x => x = xb) rfl).chg S4.chg (fun x hx h => by have h2 : x = b9 := h; omega)).at
    replace r34 := ReIn.chg S4.chg (fun y hy h => by have h2 : y = b9 := h; exact (hRA y hy).2 h2) _ r34
    replace Bq := S4.keep (by omega) Bq
    replace E := S4.step E (by first | exact Or.inl (by omega) | exact Or.inr rfl | exact Or.inr (by assumption) | exact Or.inr (by simp) | exact Or.inr (by omega) | exact Or.inr (by dsimp only; omega))
    replace B9 := S4.blk
    refine qA (I6 (byE a c)) rfl ?_
    refine WpL_nil (thn_normal ?_)
    exact ⟨b9, xa34, xc34, ya34, yc34, Fits.out ⟨rfl, rfl, rfl, rfl, rfl, trivial⟩, E, Bq, B9, ReIn.mono (fun y hy => (hRA y hy).2) _ r34, htx⟩
   ·intro _ s' w3 RR β X3 U hRA hβ H
    obtain ⟨xa28, xc28, ya28, yc28, e28, r28⟩ := H 5 rfl (by decide) 28 (.gen (tupG RR (byD a c) (byE a c)) (tupG_ext _ _ _)) rfl (by rw [hFs3]; rfl)
    obtain ⟨xa34, xc34, ya34, yc34, e34, r34⟩ := H 6 rfl (by decide) 34 (.gen (reG RR (byD a c)) (reG_ext _ _)) rfl (by rw [hFs3]; rfl)
    obtain ⟨b9, e9, B9, g9⟩ := H 8 rfl (by decide) 9 (.gen (alF 27 #[(.int .i64 0), (.slice none 0 0), (.slice none 0 0), (.int .i64 0), (.int .i64 0), (.bool false)] w29.heap.size) (alF_ext _ _ _)) rfl (by rw [hFs3]; rfl)
    have hβ2 : β = b9 := by have h9 := e9.symm.trans hβ; simpa using h9.symm
    rw [hβ2] at hRA
    clear hβ hβ2 β
    obtain ⟨j3, rfl⟩ := Fits.out (σ := s') (l := [(6, (.slice (some ⟨xb, xo, none⟩) text.length tc)), (7, (.bool (matD a text))), (8, (.int .i64 (matE a text))), (28, (.tuple #[(.agg #[(.int .i64 ((byD a c).kind)), (.slice xa28 ((byD a c).set.length) xc28), (.slice ya28 ((byD a c).args.length) yc28), (.int .i64 ((byD a c).mn)), (.int .i64 ((byD a c).mx)), (.bool ((byD a c).neg))]), (.int .i64 (byE a c))])), (34, (.agg #[(.int .i64 ((byD a c).kind)), (.slice xa34 ((byD a c).set.length) xc34), (.slice ya34 ((byD a c).args.length) yc34), (.int .i64 ((byD a c).mn)), (.int .i64 ((byD a c).mx)), (.bool ((byD a c).neg))])), (9, (.pointer (some ⟨b9, 0, none⟩)))]) ⟨U 6 rfl, U 7 rfl, U 8 rfl, e28, e34, e9, trivial⟩
    clear U H
    replace Bq := X3.keep Bq
    replace htx := htx.ext X3
    replace E := E.ext X3
    refine s_storeAgg (b := b9) (o := 0) (c' := #[(I6 ((byD a c).kind)), (.slice xa34 ((byD a c).set.length) xc34), (.slice ya34 ((byD a c).args.length) yc34), (I6 ((byD a c).mn)), (I6 ((byD a c).mx)), (.bool ((byD a c).neg))]) rfl rfl (by simp [Value.oneCell']) siz27 rfl B9 (by first | (simp; done) | exact Nat.le_of_ble_eq_true rfl) rfl ?_
    intro w5 S5
    replace htx := ((SlIn.mk htx (S := fun x => x = xb) rfl).chg S5.chg (fun x hx h => by have h2 : x = b9 := h; omega)).at
    replace r34 := ReIn.chg S5.chg (fun y hy h => by have h2 : y = b9 := h; exact (hRA y hy).2 h2) _ r34
    replace Bq := S5.keep (by omega) Bq
    replace E := S5.step E (by first | exact Or.inl (by omega) | exact Or.inr rfl | exact Or.inr (by assumption) | exact Or.inr (by simp) | exact Or.inr (by omega) | exact Or.inr (by dsimp only; omega))
    replace B9 := S5.blk
    refine qV (r_extract (vs := #[(.agg #[(I6 ((byD a c).kind)), (.slice xa28 ((byD a c).set.length) xc28), (.slice ya28 ((byD a c).args.length) yc28), (I6 ((byD a c).mn)), (I6 ((byD a c).mx)), (.bool ((byD a c).neg))]), (I6 (byE a c))]) (v := (I6 (byE a c))) rfl rfl) ?_
    refine qA (I6 (byE a c)) rfl ?_
    refine WpL_nil (thn_normal ?_)
    exact ⟨b9, xa34, xc34, ya34, yc34, Fits.out ⟨rfl, rfl, rfl, rfl, rfl, trivial⟩, E, Bq, B9, ReIn.mono (fun y hy => (hRA y hy).2) _ r34, htx⟩
  ·clear E Bq
   rintro _ W2 ⟨b9, xa, xc, ya, yc, ⟨j2, rfl⟩, E, Bq, hB9, hXI, htx⟩
   refine Wp_seq (Wp_seq_region ?_)
   refine qM (I6 (matE a text)) rfl ?_
   obtain ⟨e6, he6⟩ : ∃ e, (decide ((matE a text : Int) ≠ 0)) = e := ⟨_, rfl⟩
   refine qV ((r_neq (k := .i64) (a := matE a text) (b := 0) rfl rfl).trans (by rw [he6]; try rfl)) ?_
   refine qM (.bool e6) rfl ?_
   refine qG (.bool e6) (nU e6 (I6 (byE a c))) (by cases e6 <;> first | exact gA | exact gB | exact .inl ⟨rfl, r_move (v := (I6 (byE a c))) rfl⟩) ?_
   obtain ⟨e7, he7⟩ : ∃ e, (decide ((byE a c : Int) ≠ 0)) = e := ⟨_, rfl⟩
   refine qG (.bool e6) (nU e6 (.bool e7)) (by cases e6 <;> first | exact gA | exact gB | exact .inl ⟨rfl, (r_neq (k := .i64) (a := byE a c) (b := 0) rfl rfl).trans (by rw [he7]; try rfl)⟩) ?_
   obtain ⟨e8, he8⟩ : ∃ e, (e6 || e7) = e := ⟨_, rfl⟩
   refine qV (r_pick (b := e6) (v := .bool e8) rfl (by rw [← he8]; cases e6 <;> rfl)) ?_
   refine WpL_nil ?_
   subst he8
   subst he7
   subst he6
   refine Wp_cond (b := ((decide ((matE a text : Int) ≠ 0)) || (decide ((byE a c : Int) ≠ 0)))) rfl (fun g2 => ?_) (fun g2 => ?_)
   ·have kg2 := g2
    refine Wp_seq_region ?_
    refine qM (I6 (matE a text)) rfl ?_
    refine qV (r_neq (k := .i64) (a := matE a text) (b := 0) rfl rfl) ?_
    refine qA (.bool (decide ((matE a text : Int) ≠ 0))) rfl ?_
    refine WpL_nil (Wp_ret (thn_ret ?_))
    refine fin_tmp Try.results3 (v := (.bool (decide ((matE a text : Int) ≠ 0)))) rfl ?_
    refine ⟨bool_eq ?_, E⟩
    by_cases hm : matE a text = 0
    ·have h1 := (steps_law (t := a) (c := c) (l := rest) (by rw [← hcr]; exact hm)).1
     simp [hm, h1] at g2
    ·simp [hm]
   ·have kg2 := g2
    have hm : matE a text = 0 := by by_cases hm : matE a text = 0; exact hm; simp [hm] at g2
    obtain ⟨hby, hm2, hd2⟩ := steps_law (t := a) (c := c) (l := rest) (by rw [← hcr]; exact hm)
    rw [← hcr] at hd2
    obtain ⟨o2, ho2⟩ : ∃ o2, o2 = if tc = 1 then xo else xo + 1 := ⟨_, rfl⟩
    have hsl : (if tc = 1 then (some ⟨xb, xo, none⟩ : Option Addr) else Option.map (fun q : Addr => q.add (1 * 1)) (some ⟨xb, xo, none⟩)) = some ⟨xb, o2, none⟩ := by rw [ho2]; split <;> simp [Addr.add]
    have hrx : IntsAt (W2) (.slice (some ⟨xb, o2, none⟩) rest.length (tc - 1)) rest := by rw [ho2]; exact ints_from (x := c) (by rw [← hcr]; exact htx)
    have htcl : text.length ≤ tc := (SlAt.cap htx).1
    have hXI2 := ReIn.lt _ hXI
    refine Wp_skip (thn_normal (Wp_seq ?_))
    obtain ⟨Fs10, hFs10⟩ : ∃ Fs : List Fact, Fs = [.eq (.agg #[(I6 ((byD a c).kind)), (.slice xa ((byD a c).set.length) xc), (.slice ya ((byD a c).args.length) yc), (I6 ((byD a c).mn)), (I6 ((byD a c).mx)), (.bool ((byD a c).neg))]), .eq (.slice (some ⟨xb, xo, none⟩) text.length tc), .eq (.slice (some ⟨xb, o2, none⟩) rest.length (tc - 1)), .eq (.tuple #[(.bool (matD a text)), (I6 0)]), .eq (.tuple #[(.bool (matD a text)), (I6 0)]), .eq (.bool (matD a text)), .eq (I6 0), .eq (.bool (matD a text)), .eq (I6 0)] := ⟨_, rfl⟩
    refine Wp_dag [45, 46, 47, 48, 44, 49, 50, 11, 12] [[], [], [1], [0, 2], [3], [4], [4], [0, 1, 2, 3, 4, 5], [0, 1, 2, 3, 4, 5, 6, 7]] Fs10 hFs10 mixed (by kernel_rfl) (by kernel_rfl) ?_ ?_
    ·intro wd X0
     refine DagSteps.cons (fun s' w' X U H => Or.inl ⟨?_, ?_⟩) ?_
     ·exact Guarded_none rfl
     ·exact Does_val (r_loadAgg (vs := [(I6 ((byD a c).kind)), (.slice xa ((byD a c).set.length) xc), (.slice ya ((byD a c).args.length) yc), (I6 ((byD a c).mn)), (I6 ((byD a c).mx)), (.bool ((byD a c).neg))]) (U 9 rfl) agg27 siz27 rfl (((X0.trans X).keep hB9).cells rfl)) (Ext.refl _) rfl
     refine DagSteps.cons (fun s' w' X U H => Or.inl ⟨?_, ?_⟩) ?_
     ·exact Guarded_none rfl
     ·exact Does_val (r_move (v := (.slice (some ⟨xb, xo, none⟩) text.length tc)) (U 6 rfl)) (Ext.refl _) rfl
     refine DagSteps.cons (fun s' w' X U H => Or.inl ⟨?_, ?_⟩) ?_
     ·exact Guarded_none rfl
     ·have e46 : s' 46 = (.slice (some ⟨xb, xo, none⟩) text.length tc) := H 1 rfl 46 (.eq (.slice (some ⟨xb, xo, none⟩) text.length tc)) rfl (by rw [hFs10]; rfl)
      exact Does_val (r_sliceLo (a := some ⟨xb, xo, none⟩) (len := text.length) (cap := tc) (lo := 1) (l := 1) (n' := rest.length) (c' := tc - 1) Try.underlying22 siz3 e46 rfl rfl (by omega) hsl (by omega) rfl) (Ext.refl _) rfl
     refine DagSteps.cons (fun s' w' X U H => Or.inl ⟨?_, ?_⟩) ?_
     ·exact Guarded_none rfl
     ·have e45 : s' 45 = (.agg #[(.int .i64 ((byD a c).kind)), (.slice xa ((byD a c).set.length) xc), (.slice ya ((byD a c).args.length) yc), (.int .i64 ((byD a c).mn)), (.int .i64 ((byD a c).mx)), (.bool ((byD a c).neg))]) := H 0 rfl 45 (.eq (.agg #[(.int .i64 ((byD a c).kind)), (.slice xa ((byD a c).set.length) xc), (.slice ya ((byD a c).args.length) yc), (.int .i64 ((byD a c).mn)), (.int .i64 ((byD a c).mx)), (.bool ((byD a c).neg))])) rfl (by rw [hFs10]; rfl)
      have e47 : s' 47 = (.slice (some ⟨xb, o2, none⟩) rest.length (tc - 1)) := H 2 rfl 47 (.eq (.slice (some ⟨xb, o2, none⟩) rest.length (tc - 1))) rfl (by rw [hFs10]; rfl)
      exact Does_enter (r_callF (vs := [(.agg #[(I6 ((byD a c).kind)), (.slice xa ((byD a c).set.length) xc), (.slice ya ((byD a c).args.length) yc), (I6 ((byD a c).mn)), (I6 ((byD a c).mx)), (.bool ((byD a c).neg))]), (.slice (some ⟨xb, o2, none⟩) rest.length (tc - 1))]) Try.func7 nm7 bd7 (lst2 e45 e47)) ((dmat_c _ (fun y => y ≠ b9 ∧ y < W2.heap.size) (byD a c) _ _ rest (ReIn.ext (X0.trans X) _ hXI2) (fun y hy => by have := X0.size; have := X.size; omega) (hrx.ext (X0.trans X))).mono (fun v w h => ⟨by rw [h.1, hm2, hd2]; rfl, h.2⟩))
     refine DagSteps.cons (fun s' w' X U H => Or.inl ⟨?_, ?_⟩) ?_
     ·exact Guarded_none rfl
     ·have e48 : s' 48 = (.tuple #[(.bool (matD a text)), (.int .i64 0)]) := H 3 rfl 48 (.eq (.tuple #[(.bool (matD a text)), (.int .i64 0)])) rfl (by rw [hFs10]; rfl)
      exact Does_val (r_move (v := (.tuple #[(.bool (matD a text)), (I6 0)])) e48) (Ext.refl _) rfl
     refine DagSteps.cons (fun s' w' X U H => Or.inl ⟨?_, ?_⟩) ?_
     ·exact Guarded_none rfl
     ·have e44 : s' 44 = (.tuple #[(.bool (matD a text)), (.int .i64 0)]) := H 4 rfl 44 (.eq (.tuple #[(.bool (matD a text)), (.int .i64 0)])) rfl (by rw [hFs10]; rfl)
      exact Does_val (r_extract (vs := #[(.bool (matD a text)), (I6 0)]) (v := (.bool (matD a text))) e44 rfl) (Ext.refl _) rfl
     refine DagSteps.cons (fun s' w' X U H => Or.inl ⟨?_, ?_⟩) ?_
     ·exact Guarded_none rfl
     ·have e44 : s' 44 = (.tuple #[(.bool (matD a text)), (.int .i64 0)]) := H 4 rfl 44 (.eq (.tuple #[(.bool (matD a text)), (.int .i64 0)])) rfl (by rw [hFs10]; rfl)
      exact Does_val (r_extract (vs := #[(.bool (matD a text)), (I6 0)]) (v := (I6 0)) e44 rfl) (Ext.refl _) rfl
     refine DagSteps.cons (fun s' w' X U H => Or.inl ⟨?_, ?_⟩) ?_
     ·exact Guarded_none rfl
     ·have e49 : s' 49 = (.bool (matD a text)) := H 5 rfl 49 (.eq (.bool (matD a text))) rfl (by rw [hFs10]; rfl)
      exact Does_val (r_assign (v := (.bool (matD a text))) e49) (Ext.refl _) rfl
     refine DagSteps.cons (fun s' w' X U H => Or.inl ⟨?_, ?_⟩) ?_
     ·exact Guarded_none rfl
     ·have e50 : s' 50 = (.int .i64 0) := H 6 rfl 50 (.eq (.int .i64 0)) rfl (by rw [hFs10]; rfl)
      exact Does_val (r_assign (v := (I6 0)) e50) (Ext.refl _) rfl
     exact DagSteps.nil
    ·intro s' w10 X10 U H
     obtain ⟨j10, rfl⟩ := Fits.out (σ := s') (l := [(7, (.bool (matD a text))), (11, (.bool (matD a text))), (12, (.int .i64 0))]) ⟨U 7 rfl, (show s' 11 = (.bool (matD a text)) from H 7 11 (.eq (.bool (matD a text))) rfl (by rw [hFs10]; rfl)), (show s' 12 = (.int .i64 0) from H 8 12 (.eq (.int .i64 0)) rfl (by rw [hFs10]; rfl)), trivial⟩
     clear U H
     replace Bq := X10.keep Bq
     replace hB9 := X10.keep hB9
     replace E := E.ext X10
     refine thn_normal (Wp_seq_region ?_)
     refine qM (I6 0) rfl ?_
     refine qV (r_eql (k := .i64) (a := 0) (b := 0) rfl rfl) ?_
     refine qM (.bool true) rfl ?_
     refine WpL_guard_yes (oj := _) rfl rfl (by decide) rfl ?_
     obtain ⟨e11, he11⟩ : ∃ e, (matD a text) = e := ⟨_, rfl⟩
     refine qV (r_move (v := .bool e11) (congrArg Value.bool he11)) ?_
     refine WpL_guard_yes (oj := _) rfl rfl (by decide) rfl ?_
     obtain ⟨e12, he12⟩ : ∃ e, (matD a text) = e := ⟨_, rfl⟩
     refine qV (r_move (v := .bool e12) (congrArg Value.bool he12)) ?_
     refine WpL_guard_yes (oj := _) rfl rfl (by decide) rfl ?_
     refine qV (r_eqlB (p := e11) (q := e12) Try.underlying4 rfl rfl) ?_
     refine qV (r_pick (b := true) (v := (.bool (e11 == e12))) rfl rfl) ?_
     obtain ⟨e13, he13⟩ : ∃ e, (e11 == e12) = e := ⟨_, rfl⟩
     refine qV (r_assign (v := .bool e13) (congrArg Value.bool he13)) ?_
     refine WpL_nil ?_
     subst he13
     subst he12
     subst he11
     refine Wp_ret ?_
     refine fin_tmp Try.results3 (v := (.bool ((matD a text) == (matD a text)))) rfl ?_
     exact ⟨bool_eq (by simp), E⟩
end Go.Proofs
