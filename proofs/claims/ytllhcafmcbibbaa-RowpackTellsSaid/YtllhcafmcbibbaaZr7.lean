/- Contracts and plain lemmas, part 7. -/
import Derived.Tactics
import Derived.Deep.Quiet
import Derived.Laws.AppendOwn
import Derived.KernelRfl
import Derived.Laws.Entries
import Derived.Laws.Build
import Derived.Below
import Derived.RowKit3
import Derived.StillTail
import Derived.Sort.Grow
import Derived.Deep.Draws
import Derived.Test.YtllhcafmcbibbaaChecked
import Derived.Laws.StructEq
import Derived.Laws.MakeOwn
import Derived.MapKept
import Derived.Laws.BytesArg
import Derived.Laws.CopyRow
import Derived.DeepKeys3
import Derived.OpenShut
import Derived.ChangeSlices
import Derived.Test.YtllhcafmcbibbaaZr6
namespace Go.Proofs
open Go Go.Eng Go.Sort
set_option maxRecDepth 100000
theorem r_eqStr9 {P : Program} {σ : Env} {w : World} {dst : Option Tmp} {ty t t' : TypeId} {pos : String} {af : Array Edge} {g : Option (Nat × Bool)} {x y : Operand} {a : ByteArray} (hx : ev σ x = .string a) (hy : ev σ y = .string a) : (execOp (ev σ) ⟨dst, .binOp .eql t x y t', ty, pos, af, g⟩).run P w = .ok (.value (.bool true)) w := by
  have h : (a.toList == a.toList) = true := beq_self_eq_true _
  simp only [execOp, hx, hy, eqGuard, binOp]; simp [Op.stringOp, h]
theorem r_bytesAt {P : Program} {σ : Env} {w : World} {ty t : TypeId} {pos : String} {af : Array Edge} {x : Operand} {dst : Option Tmp} {g : Option (Nat × Bool)} {s e n c : Nat} {a : Option Addr} {l : List Nat} (hs : P.underlying s = some (.slice e)) (he : P.underlying e = some (.int .u8)) (ht : P.underlying t = some .string) (hx : ev σ x = .slice a n c)
    (hB : ByAt w (.slice a n c) l) (hl : l.length = n) (h0 : 0 < n) : (execOp (ev σ) ⟨dst, .convert s t x, ty, pos, af, g⟩).run P w = .ok (.value (.string (strOfNums (l.map fun x => ((x : Nat) : Int))))) w := by
  obtain ⟨b, o, rfl, hc⟩ := by_cells hB h0
  have h := run_convert_bytes_arg (P := P) w s e hs he b o n c (l.map fun x => ((x : Nat) : Int)) (by simpa using hl) (fun i hi => by
    have h1 : l[i]? = some l[i] := List.getElem?_eq_getElem (by omega)
    have h2 := hc i l[i] h1
    simpa [List.getD_eq_getElem?_getD, h1] using h2) t ht
  simp only [execOp, hx, Sem.run_bind, h, Result.andThen_ok]
  rfl
def evnT : Tab := ⟨0, 1, [0, -1], [0, 1], [0, 1], [1, 0]⟩
theorem idx1 (x : Int) (h : 0 ≤ x) : idxs [x] = [0] := by
  have : (0 : Nat) ∈ idxs [x] := mem_idxs.2 ⟨x, rfl, h⟩
  unfold idxs idxsN at this ⊢
  simp only [List.length_cons, List.length_nil, Nat.zero_add, List.range_succ, List.range_zero, List.nil_append] at this ⊢
  rw [List.filter_cons_of_pos (by simpa using h)]
  rfl
theorem evn_ref : RefO evnD.next [0, 1] 0 0 := by
  have c0 : cntR evnD.next 0 = 1 := by unfold cntR; rw [show evnD.next.getD 0 [] = [1] from rfl, idx1 1 (by decide)]; rfl
  have c1 : cntR evnD.next 1 = 1 := by unfold cntR; rw [show evnD.next.getD 1 [] = [0] from rfl, idx1 0 (by decide)]; rfl
  refine ⟨?_, fun u => ?_⟩
  · refine List.pairwise_cons.2 ⟨fun v hv => ?_, List.pairwise_singleton _ _⟩
    rw [List.mem_singleton] at hv
    subst hv
    exact .inr ⟨by rw [c0, c1], by decide⟩
  · show u ∈ [0, 1] ↔ u < 2 ∧ _
    match u with
    | 0 => simp [c0]
    | 1 => simp [c1]
    | u + 2 => simp; omega
theorem evn_fin : RFin evnD.next [0, 1] [0, 1] [1, 0] [0, 1] := by
  have i1 := idx1 1 (by decide)
  have i0 := idx1 0 (by decide)
  have h1 : PkR evnD.next [0] (putO (fun _ => -1) 0 [1] 0) (putX (fun _ => -1) [1] 0) (fun t => if t = 0 then 0 else 0) := PkR.cons PkR.nil rfl (fun c _ => by decide) (fun b' h => absurd h (Nat.not_lt_zero _))
  have h2 : PkR evnD.next [1, 0] _ _ _ := PkR.cons (s := 1) (b := 1) (row := [0]) h1 rfl (fun c hc => by
    rw [i0, List.mem_singleton] at hc
    subst hc
    unfold putO; rw [i1, if_neg (by decide)]; decide) (fun b' hb hf => by
    obtain rfl : b' = 0 := by omega
    have := hf 0 (by rw [i0]; simp)
    unfold putO at this
    rw [i1, if_pos (by decide)] at this
    exact absurd this (by decide))
  refine ⟨⟨_, _, _, h2, fun i => ?_, fun i => ?_, fun t ht => ?_, fun i hi => ⟨1, by simp at hi; omega, ?_⟩⟩, rfl⟩
  · unfold putO
    rw [i0, i1]
    match i with
    | 0 => rfl
    | 1 => rfl
    | i + 2 => rw [if_neg (by simp), if_neg (by simp)]; rfl
  · unfold putX
    rw [i0, i1]
    match i with
    | 0 => rfl
    | 1 => rfl
    | i + 2 => rw [if_neg (by simp), if_neg (by simp)]; rfl
  · match t with
    | 0 => rfl
    | 1 => rfl
    | t + 2 => exact absurd ht (by show ¬ t + 2 < 2; omega)
  · unfold putO
    rw [i0, if_pos (by decide)]; decide
theorem evn_tab {t : Tab} (hX : PkX evnD.next t.ow t.nx t.bs) (hs : t.start = 0) (hc : t.cols = 1) (ha : t.acc = [0, -1]) (hb : t.bs.length = 2) : t = evnT := by
  obtain ⟨h1, h2, h3⟩ := pk_eq hX evn_ref evn_fin hb rfl
  obtain ⟨s, c, a, b, o, x⟩ := t
  simp only at h1 h2 h3 hs hc ha
  subst h1 h2 h3 hs hc ha
  rfl
theorem bytesE : bytesT evnT = [1, 2, 3, 3, 1, 0, 1, 2, 1, 2, 2, 1] := by
  unfold bytesT intsT evnT encI1 natV
  simp [encN_small]
theorem rpack_f (w0 : World) (n c : Nat) (d : Dfa) (vs : List Value) (hd : DfaAt w0 d vs) (ok : OkD n c d) (hn : 1 ≤ n ∧ n ≤ 200) (hc : 1 ≤ c ∧ c ≤ 16) (t : Tab) (hX : PkX d.next t.ow t.nx t.bs) (hs : t.start = d.start) (hcl : t.cols = c) (ha : t.acc = d.accept) (hb : t.bs.length = n) :
    Ret Try.prog 19 #[.agg vs.toArray] w0 fun r w => (∃ (aa ba oa na : Option Addr) (ac bc oc nc : Nat), r = .agg #[.int .i64 t.start, .int .i64 ((t.cols : Nat) : Int), .slice aa t.acc.length ac, .slice ba t.bs.length bc, .slice oa t.ow.length oc, .slice na t.nx.length nc] ∧ TabAt w t (tabVs t aa ba oa na ac bc oc nc)) ∧ Ext w0 w := by
  refine (rpackof_c w0 n c d vs hd ok hn hc).mono fun r w h => ?_
  obtain ⟨⟨va, vb, vo, vn, bs, ow, nx, dn, rfl, hA, hB, hO, hN, hbl, hR, hF⟩, e⟩ := h
  obtain ⟨rfl, rfl, rfl⟩ := pk_eq hX hR hF (by rw [hb, ok.nl]) (by rw [hbl, ok.nl])
  rw [← ha] at hA
  obtain ⟨aa, ac, rfl⟩ := SlAt.form hA
  obtain ⟨ba, bc, rfl⟩ := SlAt.form hB
  obtain ⟨oa, oc, rfl⟩ := SlAt.form hO
  obtain ⟨na, nc, rfl⟩ := SlAt.form hN
  simp only [List.length_map, natV_len] at hA hB hO hN ⊢
  exact ⟨⟨aa, ba, oa, na, ac, bc, oc, nc, by rw [hs, hcl], ⟨aa, ac, ba, bc, oa, oc, na, nc, rfl, hA, hB, hO, hN⟩⟩, e⟩
theorem packbegun_c (w0 : World) : Ret Try.prog 16 #[] w0 fun r w => r = .bool true ∧ Ext w0 w := by
  refine Ret_of Try.func16 rfl Try.ntmps16 (Nat.le_of_ble_eq_true rfl) ?_
  have E : Chg none1 w0 w0 := Chg.refl _ _
  refine Wp_seq_region ?_
  refine WpL_val rfl rfl (by decide) (r_assign (v := (.bool false)) rfl) ?_
  refine WpL_nil ?_
  refine Wp_seq_region ?_
  refine WpL_enter rfl rfl (by decide) (r_callF (vs := []) Try.func57 nm57 bd57 rfl) (dtwo_c _) ?_
  rintro _ w9 ⟨⟨aa, ac, na, nc, rfl, hev⟩, X9⟩
  replace E := E.ext X9
  refine WpL_enter rfl rfl (by decide) (r_callF (vs := [(.agg #[(.int .i64 0), (.slice aa 2 ac), (.slice na 2 nc)])]) Try.func15 nm15 bd15 rfl) (pack_f _ 2 1 evnD _ hev evn_ok (by omega) (by omega)) ?_
  rintro _ w19 ⟨⟨t, xa, ya, za, ua, xc, yc, zc, uc, rfl, hT0, hG, hU, hNw, hX, hs, hcl, hac, hb⟩, X19⟩
  replace E := E.ext X19
  have het := evn_tab hX hs hcl hac hb
  refine WpL_val rfl rfl (by decide) (r_move (v := (.tuple #[(.agg #[(.int .i64 t.start), (.int .i64 ((t.cols : Nat) : Int)), (.slice xa t.acc.length xc), (.slice ya t.bs.length yc), (.slice za t.ow.length zc), (.slice ua t.nx.length uc)]), (.int .i64 0)])) rfl) ?_
  refine WpL_val rfl rfl (by decide) (r_extract (vs := #[(.agg #[(.int .i64 t.start), (.int .i64 ((t.cols : Nat) : Int)), (.slice xa t.acc.length xc), (.slice ya t.bs.length yc), (.slice za t.ow.length zc), (.slice ua t.nx.length uc)]), (.int .i64 0)]) (v := (.agg #[(.int .i64 t.start), (.int .i64 ((t.cols : Nat) : Int)), (.slice xa t.acc.length xc), (.slice ya t.bs.length yc), (.slice za t.ow.length zc), (.slice ua t.nx.length uc)])) rfl rfl) ?_
  refine WpL_val rfl rfl (by decide) (r_extract (vs := #[(.agg #[(.int .i64 t.start), (.int .i64 ((t.cols : Nat) : Int)), (.slice xa t.acc.length xc), (.slice ya t.bs.length yc), (.slice za t.ow.length zc), (.slice ua t.nx.length uc)]), (.int .i64 0)]) (v := (.int .i64 0)) rfl rfl) ?_
  refine s_allocStore (v := (.agg #[(.int .i64 t.start), (.int .i64 ((t.cols : Nat) : Int)), (.slice xa t.acc.length xc), (.slice ya t.bs.length yc), (.slice za t.ow.length zc), (.slice ua t.nx.length uc)])) (c := #[(.int .i64 t.start), (.int .i64 ((t.cols : Nat) : Int)), (.slice xa t.acc.length xc), (.slice ya t.bs.length yc), (.slice za t.ow.length zc), (.slice ua t.nx.length uc)]) (n := 6) (by decide) zer46 rfl siz46 rfl rfl rfl (by simp [Value.oneCell']) ?_
  intro bx wx Nx
  have Fx := Nx.ge E
  replace hT0 := hT0.ext Nx.ext
  replace E := E.ext Nx.ext
  have Bx := Nx.blk
  refine WpL_val rfl rfl (by decide) (r_assign (v := (.int .i64 0)) rfl) ?_
  refine WpL_nil ?_
  refine Wp_seq_region ?_
  refine WpL_val rfl rfl (by decide) (r_loadAgg (vs := [(.int .i64 t.start), (.int .i64 ((t.cols : Nat) : Int)), (.slice xa t.acc.length xc), (.slice ya t.bs.length yc), (.slice za t.ow.length zc), (.slice ua t.nx.length uc)]) rfl agg46 siz46 rfl (Bx.cells rfl)) ?_
  refine WpL_enter rfl rfl (by decide) (r_callF (vs := [(.agg #[(.int .i64 t.start), (.int .i64 ((t.cols : Nat) : Int)), (.slice xa t.acc.length xc), (.slice ya t.bs.length yc), (.slice za t.ow.length zc), (.slice ua t.nx.length uc)]), (.int .i64 0), (.int .i64 0)]) Try.func58 nm58 bd58 rfl) (At_c _ t _ 0 0 hT0 hG (by omega) (by omega)) ?_
  rintro _ w29 ⟨rfl, X29⟩
  replace Bx := X29.keep Bx
  replace hT0 := hT0.ext X29
  replace E := E.ext X29
  have hWt : ∀ z ∈ t.acc, z ≤ 9223372036854775807 := by rw [hac]; decide
  refine WpL_val rfl rfl (by decide) (r_move (v := (.tuple #[(.int .i64 (atT t.ow t.nx t.bs 0 0)), (.int .i64 0)])) rfl) ?_
  refine WpL_val rfl rfl (by decide) (r_extract (vs := #[(.int .i64 (atT t.ow t.nx t.bs 0 0)), (.int .i64 0)]) (v := (.int .i64 (atT t.ow t.nx t.bs 0 0))) rfl rfl) ?_
  refine WpL_val rfl rfl (by decide) (r_extract (vs := #[(.int .i64 (atT t.ow t.nx t.bs 0 0)), (.int .i64 0)]) (v := (.int .i64 0)) rfl rfl) ?_
  refine WpL_val rfl rfl (by decide) (r_assign (v := (.int .i64 (atT t.ow t.nx t.bs 0 0))) rfl) ?_
  refine WpL_val rfl rfl (by decide) (r_assign (v := (.int .i64 0)) rfl) ?_
  refine WpL_nil ?_
  refine Wp_seq_region ?_
  refine WpL_val rfl rfl (by decide) (r_loadAgg (vs := [(.int .i64 t.start), (.int .i64 ((t.cols : Nat) : Int)), (.slice xa t.acc.length xc), (.slice ya t.bs.length yc), (.slice za t.ow.length zc), (.slice ua t.nx.length uc)]) rfl agg46 siz46 rfl (Bx.cells rfl)) ?_
  refine WpL_enter rfl rfl (by decide) (r_callF (vs := [(.agg #[(.int .i64 t.start), (.int .i64 ((t.cols : Nat) : Int)), (.slice xa t.acc.length xc), (.slice ya t.bs.length yc), (.slice za t.ow.length zc), (.slice ua t.nx.length uc)])]) Try.func20 nm20 bd20 rfl) (bytes_c _ t _ hT0 hG hWt) ?_
  rintro _ w39 ⟨⟨ba, bc, rfl, hB⟩, X39⟩
  replace Bx := X39.keep Bx
  replace hT0 := hT0.ext X39
  replace E := E.ext X39
  have hat : atT t.ow t.nx t.bs 0 0 = 1 := by rw [het]; rfl
  have hbl : (bytesT t).length = 12 := by rw [het, bytesE]; rfl
  obtain ⟨bb, bo, rfl, hbc⟩ := by_cells hB (by omega)
  have hb0 := hbc 0 1 (by rw [het, bytesE]; rfl)
  refine WpL_val rfl rfl (by decide) (r_move (v := (.tuple #[(.slice (some ⟨bb, bo, none⟩) ((bytesT t).length) bc), (.int .i64 0)])) rfl) ?_
  refine WpL_val rfl rfl (by decide) (r_extract (vs := #[(.slice (some ⟨bb, bo, none⟩) ((bytesT t).length) bc), (.int .i64 0)]) (v := (.slice (some ⟨bb, bo, none⟩) ((bytesT t).length) bc)) rfl rfl) ?_
  refine WpL_val rfl rfl (by decide) (r_extract (vs := #[(.slice (some ⟨bb, bo, none⟩) ((bytesT t).length) bc), (.int .i64 0)]) (v := (.int .i64 0)) rfl rfl) ?_
  refine WpL_val rfl rfl (by decide) (r_assign (v := (.slice (some ⟨bb, bo, none⟩) ((bytesT t).length) bc)) rfl) ?_
  refine WpL_val rfl rfl (by decide) (r_assign (v := (.int .i64 0)) rfl) ?_
  refine WpL_nil ?_
  refine Wp_seq_region ?_
  refine WpL_val rfl rfl (by decide) (r_move (v := (.int .i64 0)) rfl) ?_
  refine WpL_val rfl rfl (by decide) (r_eql (k := .i64) (a := 0) (b := 0) rfl rfl) ?_
  refine WpL_val rfl rfl (by decide) (r_move (v := (.bool true)) rfl) ?_
  refine WpL_guard_yes (oj := _) rfl rfl (by decide) rfl ?_
  refine WpL_val rfl rfl (by decide) (r_move (v := (.int .i64 0)) rfl) ?_
  refine WpL_guard_yes (oj := _) rfl rfl (by decide) rfl ?_
  refine WpL_val rfl rfl (by decide) (r_eql (k := .i64) (a := 0) (b := 0) rfl rfl) ?_
  refine WpL_val rfl rfl (by decide) (r_pick (b := true) (v := (.bool true)) rfl rfl) ?_
  refine WpL_val rfl rfl (by decide) (r_move (v := (.bool true)) rfl) ?_
  refine WpL_guard_yes (oj := _) rfl rfl (by decide) rfl ?_
  refine WpL_val rfl rfl (by decide) (r_move (v := (.int .i64 0)) rfl) ?_
  refine WpL_guard_yes (oj := _) rfl rfl (by decide) rfl ?_
  refine WpL_val rfl rfl (by decide) (r_eql (k := .i64) (a := 0) (b := 0) rfl rfl) ?_
  refine WpL_val rfl rfl (by decide) (r_pick (b := true) (v := (.bool true)) rfl rfl) ?_
  refine WpL_val rfl rfl (by decide) (r_move (v := (.bool true)) rfl) ?_
  refine WpL_guard_yes (oj := _) rfl rfl (by decide) rfl ?_
  refine WpL_val rfl rfl (by decide) (r_move (v := (.int .i64 (atT t.ow t.nx t.bs 0 0))) rfl) ?_
  refine WpL_guard_yes (oj := _) rfl rfl (by decide) rfl ?_
  obtain ⟨e1, he1⟩ : ∃ e, (decide ((atT t.ow t.nx t.bs 0 0 : Int) = 1)) = e := ⟨_, rfl⟩
  refine WpL_val rfl rfl (by decide) ((r_eql (k := .i64) (a := atT t.ow t.nx t.bs 0 0) (b := 1) rfl rfl).trans (by rw [he1]; try rfl)) ?_
  refine WpL_val rfl rfl (by decide) (r_pick (b := true) (v := (.bool e1)) rfl rfl) ?_
  refine WpL_val rfl rfl (by decide) (r_move (v := (.bool e1)) rfl) ?_
  refine WpL_guard_any (oj := _) (gv := (.bool e1)) (u := (bif e1 then (.slice (some ⟨bb, bo, none⟩) ((bytesT t).length) bc) else undef)) rfl rfl (by decide) (by decide) rfl (by cases e1 <;> first | exact Or.inr ⟨Or.inl rfl, rfl⟩ | exact Or.inr ⟨Or.inr rfl, rfl⟩ | exact Or.inl ⟨rfl, r_move (v := (.slice (some ⟨bb, bo, none⟩) ((bytesT t).length) bc)) rfl⟩) ?_
  refine WpL_guard_any (oj := _) (gv := (.bool e1)) (u := (bif e1 then (.int .i64 (((bytesT t).length : Nat) : Int)) else undef)) rfl rfl (by decide) (by decide) rfl (by cases e1 <;> first | exact Or.inr ⟨Or.inl rfl, rfl⟩ | exact Or.inr ⟨Or.inr rfl, rfl⟩ | exact Or.inl ⟨rfl, r_lenSlice (ad := some ⟨bb, bo, none⟩) (n := (bytesT t).length) (cap := bc) Try.underlying52 rfl⟩) ?_
  obtain ⟨e2, he2⟩ : ∃ e, (decide (((((bytesT t).length : Nat) : Int) : Int) = 12)) = e := ⟨_, rfl⟩
  refine WpL_guard_any (oj := _) (gv := (.bool e1)) (u := (bif e1 then (.bool e2) else undef)) rfl rfl (by decide) (by decide) rfl (by cases e1 <;> first | exact Or.inr ⟨Or.inl rfl, rfl⟩ | exact Or.inr ⟨Or.inr rfl, rfl⟩ | exact Or.inl ⟨rfl, (r_eql (k := .i64) (a := (((bytesT t).length : Nat) : Int)) (b := 12) rfl rfl).trans (by rw [he2]; try rfl)⟩) ?_
  obtain ⟨e3, he3⟩ : ∃ e, (e1 && e2) = e := ⟨_, rfl⟩
  refine WpL_val rfl rfl (by decide) (r_pick (b := e1) (v := .bool e3) rfl (by rw [← he3]; cases e1 <;> rfl)) ?_
  refine WpL_val rfl rfl (by decide) (r_move (v := (.bool e3)) rfl) ?_
  refine WpL_guard_any (oj := _) (gv := (.bool e3)) (u := (bif e3 then (.slice (some ⟨bb, bo, none⟩) ((bytesT t).length) bc) else undef)) rfl rfl (by decide) (by decide) rfl (by cases e3 <;> first | exact Or.inr ⟨Or.inl rfl, rfl⟩ | exact Or.inr ⟨Or.inr rfl, rfl⟩ | exact Or.inl ⟨rfl, r_move (v := (.slice (some ⟨bb, bo, none⟩) ((bytesT t).length) bc)) rfl⟩) ?_
  refine WpL_guard_any (oj := _) (gv := (.bool e3)) (u := (bif e3 then (.pointer (some ⟨bb, bo + 0, none⟩)) else undef)) rfl rfl (by decide) (by decide) rfl (by cases e3 <;> first | exact Or.inr ⟨Or.inl rfl, rfl⟩ | exact Or.inr ⟨Or.inr rfl, rfl⟩ | exact Or.inl ⟨rfl, r_indexSlice (b := bb) (o := bo) (len := (bytesT t).length) (cap := bc) (i := 0) (o' := bo + 0) rfl rfl rfl Try.underlying52 siz5 (by omega) (by omega)⟩) ?_
  refine WpL_guard_any (oj := _) (gv := (.bool e3)) (u := (bif e3 then (.int .u8 1) else undef)) rfl rfl (by decide) (by decide) rfl (by cases e3 <;> first | exact Or.inr ⟨Or.inl rfl, rfl⟩ | exact Or.inr ⟨Or.inr rfl, rfl⟩ | exact Or.inl ⟨rfl, r_load (v := (.int .u8 1)) rfl flat5 (hb0)⟩) ?_
  refine WpL_guard_any (oj := _) (gv := (.bool e3)) (u := (bif e3 then (.bool true) else undef)) rfl rfl (by decide) (by decide) rfl (by cases e3 <;> first | exact Or.inr ⟨Or.inl rfl, rfl⟩ | exact Or.inr ⟨Or.inr rfl, rfl⟩ | exact Or.inl ⟨rfl, r_eql (k := .u8) (a := 1) (b := 1) rfl rfl⟩) ?_
  obtain ⟨e4, he4⟩ : ∃ e, (e3 || false) = e := ⟨_, rfl⟩
  refine WpL_val rfl rfl (by decide) (r_pick (b := e3) (v := .bool e4) rfl (by rw [← he4]; cases e3 <;> rfl)) ?_
  refine WpL_val rfl rfl (by decide) (r_assign (v := (.bool e4)) rfl) ?_
  refine WpL_nil ?_
  subst he4
  subst he3
  subst he2
  subst he1
  refine Wp_ret ?_
  refine fin_tmp Try.results16 (v := (.bool (((decide ((atT t.ow t.nx t.bs 0 0 : Int) = 1)) && (decide (((((bytesT t).length : Nat) : Int) : Int) = 12))) || false))) rfl ?_
  exact ⟨bool_eq (by rw [hat, hbl]; rfl), E⟩
theorem tabAt_zero (w : World) : TabAt w ⟨0, 0, [], [], [], []⟩ [.int .i64 0, .int .i64 0, .slice none 0 0, .slice none 0 0, .slice none 0 0, .slice none 0 0] := ⟨none, 0, none, 0, none, 0, none, 0, rfl, SlAt.nil _ _ _ _, SlAt.nil _ _ _ _, SlAt.nil _ _ _ _, SlAt.nil _ _ _ _⟩
def byF (l : List Nat) : Fct := fun v w => ∃ a c, v = .slice a l.length c ∧ ByAt w (.slice a l.length c) l
theorem byF_ext (l : List Nat) : ∀ v w w', Ext w w' → byF l v w → byF l v w' := by
  rintro v w w' x ⟨a, c, h1, h2⟩
  exact ⟨a, c, h1, h2.ext x⟩
theorem rptells_bad (w0 : World) (d : Dfa) (dv : List Value) (hd : DfaAt w0 d dv) (h1 : checkD d ≠ 0) :
    Ret Try.prog 4 #[.agg dv.toArray] w0 fun r w => r = .bool true ∧ Ext w0 w := by
  obtain ⟨aa, ac, na, nc, rfl, _, _⟩ := id hd
  refine Ret_of Try.func4 rfl Try.ntmps4 (Nat.le_of_ble_eq_true rfl) ?_
  have E : Chg none1 w0 w0 := Chg.refl _ _
  refine Wp_seq_region ?_
  refine s_box (v := (.agg #[(.int .i64 d.start), (.slice aa d.accept.length ac), (.slice na d.next.length nc)])) (c := #[(.int .i64 d.start), (.slice aa d.accept.length ac), (.slice na d.next.length nc)]) (by decide) rfl rfl ?_
  intro bd wd Nd
  have Fd := Nd.ge E
  replace E := E.ext Nd.ext
  have Bd := Nd.blk
  refine WpL_val rfl rfl (by decide) (r_assign (v := (.bool false)) rfl) ?_
  refine WpL_nil ?_
  refine Wp_seq_region ?_
  refine WpL_val rfl rfl (by decide) (r_loadAgg (vs := [(.int .i64 d.start), (.slice aa d.accept.length ac), (.slice na d.next.length nc)]) rfl agg44 siz44 rfl (Bd.cells rfl)) ?_
  refine WpL_enter rfl rfl (by decide) (r_callF (vs := [(.agg #[(.int .i64 d.start), (.slice aa d.accept.length ac), (.slice na d.next.length nc)])]) Try.func15 nm15 bd15 rfl) (pack_bad _ d _ (hd.ext E) h1) ?_
  rintro _ w39 ⟨rfl, X39⟩
  replace Bd := X39.keep Bd
  replace E := E.ext X39
  refine WpL_val rfl rfl (by decide) (r_move (v := (.tuple #[(.agg #[(.int .i64 0), (.int .i64 0), (.slice none 0 0), (.slice none 0 0), (.slice none 0 0), (.slice none 0 0)]), (.int .i64 (checkD d))])) rfl) ?_
  refine WpL_val rfl rfl (by decide) (r_extract (vs := #[(.agg #[(.int .i64 0), (.int .i64 0), (.slice none 0 0), (.slice none 0 0), (.slice none 0 0), (.slice none 0 0)]), (.int .i64 (checkD d))]) (v := (.agg #[(.int .i64 0), (.int .i64 0), (.slice none 0 0), (.slice none 0 0), (.slice none 0 0), (.slice none 0 0)])) rfl rfl) ?_
  refine WpL_val rfl rfl (by decide) (r_extract (vs := #[(.agg #[(.int .i64 0), (.int .i64 0), (.slice none 0 0), (.slice none 0 0), (.slice none 0 0), (.slice none 0 0)]), (.int .i64 (checkD d))]) (v := (.int .i64 (checkD d))) rfl rfl) ?_
  refine s_allocStore (v := (.agg #[(.int .i64 0), (.int .i64 0), (.slice none 0 0), (.slice none 0 0), (.slice none 0 0), (.slice none 0 0)])) (c := #[(.int .i64 0), (.int .i64 0), (.slice none 0 0), (.slice none 0 0), (.slice none 0 0), (.slice none 0 0)]) (n := 6) (by decide) zer46 rfl siz46 rfl rfl rfl (by simp [Value.oneCell']) ?_
  intro bt wt Nt
  have Ft := Nt.ge E
  have Ot_bd := Nt.lt Bd
  replace Bd := Nt.keep Bd
  replace E := E.ext Nt.ext
  have Bt := Nt.blk
  refine WpL_val rfl rfl (by decide) (r_assign (v := (.int .i64 (checkD d))) rfl) ?_
  refine WpL_nil ?_
  refine Wp_seq ?_
  refine Wp_seq_region ?_
  refine WpL_enter rfl rfl (by decide) (r_callF (vs := []) Try.func16 nm16 bd16 rfl) (packbegun_c _) ?_
  rintro _ w49 ⟨rfl, X49⟩
  replace Bd := X49.keep Bd
  replace Bt := X49.keep Bt
  replace E := E.ext X49
  refine WpL_val rfl rfl (by decide) (r_not (b := true) rfl) ?_
  refine WpL_nil ?_
  refine Wp_cond_false rfl ?_
  refine Wp_skip ?_
  refine thn_normal ?_
  refine Wp_seq ?_
  refine Wp_seq_region ?_
  refine WpL_val rfl rfl (by decide) (r_loadAgg (vs := [(.int .i64 d.start), (.slice aa d.accept.length ac), (.slice na d.next.length nc)]) rfl agg44 siz44 rfl (Bd.cells rfl)) ?_
  refine WpL_enter rfl rfl (by decide) (r_callF (vs := [(.agg #[(.int .i64 d.start), (.slice aa d.accept.length ac), (.slice na d.next.length nc)])]) Try.func17 nm17 bd17 rfl) (rcheckd_c _ d _ (hd.ext E)) ?_
  rintro _ w59 ⟨rfl, X59⟩
  replace Bd := X59.keep Bd
  replace Bt := X59.keep Bt
  replace E := E.ext X59
  refine WpL_val rfl rfl (by decide) (r_assign (v := (.int .i64 (checkD d))) rfl) ?_
  refine WpL_nil ?_
  refine Wp_seq_region ?_
  refine WpL_val rfl rfl (by decide) (r_move (v := (.int .i64 (checkD d))) rfl) ?_
  refine WpL_val rfl rfl (by decide) (r_neq (k := .i64) (a := checkD d) (b := 0) rfl rfl) ?_
  refine WpL_nil ?_
  have hc1 : (decide ((checkD d : Int) ≠ 0)) = true := decide_eq_true h1
  refine Wp_cond_true (congrArg Value.bool hc1) ?_
  refine Wp_seq_region ?_
  refine WpL_val rfl rfl (by decide) (r_move (v := (.int .i64 (checkD d))) rfl) ?_
  refine WpL_val rfl rfl (by decide) (r_move (v := (.int .i64 (checkD d))) rfl) ?_
  refine WpL_val rfl rfl (by decide) (r_eql (k := .i64) (a := checkD d) (b := checkD d) rfl rfl) ?_
  refine WpL_val rfl rfl (by decide) (r_move (v := (.bool (decide ((checkD d : Int) = checkD d)))) rfl) ?_
  have hg2 : (decide ((checkD d : Int) = checkD d)) = true := decide_eq_true rfl
  refine WpL_guard_yes (oj := _) rfl rfl (by decide) (congrArg Value.bool hg2) ?_
  refine WpL_val rfl rfl (by decide) (r_loadAgg (vs := [(.int .i64 0), (.int .i64 0), (.slice none 0 0), (.slice none 0 0), (.slice none 0 0), (.slice none 0 0)]) rfl agg46 siz46 rfl (Bt.cells rfl)) ?_
  refine WpL_guard_yes (oj := _) rfl rfl (by decide) (congrArg Value.bool hg2) ?_
  refine WpL_val rfl rfl (by decide) (r_build (ps := []) (v := (.agg #[(.int .i64 0), (.int .i64 0), (.slice none 0 0), (.slice none 0 0), (.slice none 0 0), (.slice none 0 0)])) rfl (by kernel_rfl)) ?_
  refine WpL_guard_yes (oj := _) rfl rfl (by decide) (congrArg Value.bool hg2) ?_
  refine WpL_enter rfl rfl (by decide) (r_callF (vs := [(.agg #[(.int .i64 0), (.int .i64 0), (.slice none 0 0), (.slice none 0 0), (.slice none 0 0), (.slice none 0 0)]), (.agg #[(.int .i64 0), (.int .i64 0), (.slice none 0 0), (.slice none 0 0), (.slice none 0 0), (.slice none 0 0)])]) Try.func18 nm18 bd18 rfl) (tabeq_c _ ⟨0, 0, [], [], [], []⟩ ⟨0, 0, [], [], [], []⟩ _ _ (tabAt_zero _) (tabAt_zero _)) ?_
  rintro _ w69 ⟨rfl, X69⟩
  replace Bd := X69.keep Bd
  replace Bt := X69.keep Bt
  replace E := E.ext X69
  refine WpL_val rfl rfl (by decide) (r_pick (b := decide ((checkD d : Int) = checkD d)) (v := (.bool true)) rfl (by rw [hg2]; rfl)) ?_
  refine WpL_val rfl rfl (by decide) (r_assign (v := (.bool true)) rfl) ?_
  refine WpL_nil ?_
  refine Wp_ret ?_
  refine thn_ret ?_
  refine fin_tmp Try.results4 (v := (.bool true)) rfl ?_
  exact ⟨rfl, E⟩
theorem rpcheck0_c (w0 : World) (d : Dfa) (vs : List Value) (hd : DfaAt w0 d vs) (h0 : checkD d = 0) : Ret Try.prog 17 #[.agg vs.toArray] w0 fun r w => r = .int .i64 0 ∧ Ext w0 w :=
  (rcheckd_c w0 d vs hd).mono fun r w h => ⟨h.1.trans (by rw [h0]), h.2⟩
theorem tabB_self (t : Tab) : tabB t t = true := by simp [tabB]
theorem tabsame_c (w0 : World) (t : Tab) (tv uv : List Value) (ht : TabAt w0 t tv) (hu : TabAt w0 t uv) : Ret Try.prog 18 #[.agg tv.toArray, .agg uv.toArray] w0 fun v w => v = .bool true ∧ Ext w0 w :=
  (tabeq_c w0 t t tv uv ht hu).mono fun v w h => ⟨h.1.trans (by rw [tabB_self]), h.2⟩
theorem dfsame_c (w0 : World) (d : Dfa) (av bv : List Value) (ha : DfaAt w0 d av) (hb : DfaAt w0 d bv) : Ret Try.prog 23 #[.agg av.toArray, .agg bv.toArray] w0 fun v w => v = .bool true ∧ Ext w0 w :=
  (dfaeq_c w0 d d av bv ha hb).mono fun v w h => by
    obtain ⟨⟨b, h1, h2⟩, e⟩ := h
    exact ⟨h1.trans (by rw [h2.2 rfl]), e⟩
set_option maxHeartbeats 2000000 in
theorem rptells_good (w0 : World) (d : Dfa) (dv : List Value) (hd : DfaAt w0 d dv) (h1 : checkD d = 0) (hW : ∀ x ∈ d.accept, x ≤ 9223372036854775807) :
    Ret Try.prog 4 #[.agg dv.toArray] w0 fun r w => r = .bool true ∧ Ext w0 w := by
  obtain ⟨okd, hn1, hc1⟩ := okD_of_check h1
  obtain ⟨aa, ac, na, nc, rfl, _, _⟩ := id hd
  refine Ret_of Try.func4 rfl Try.ntmps4 (Nat.le_of_ble_eq_true rfl) ?_
  have E : Chg none1 w0 w0 := Chg.refl _ _
  refine Wp_seq_region ?_
  refine s_box (v := (.agg #[(.int .i64 d.start), (.slice aa d.accept.length ac), (.slice na d.next.length nc)])) (c := #[(.int .i64 d.start), (.slice aa d.accept.length ac), (.slice na d.next.length nc)]) (by decide) rfl rfl ?_
  intro bd wd Nd
  have Fd := Nd.ge E
  replace E := E.ext Nd.ext
  have Bd := Nd.blk
  refine WpL_val rfl rfl (by decide) (r_assign (v := (.bool false)) rfl) ?_
  refine WpL_nil ?_
  refine Wp_seq_region ?_
  refine WpL_val rfl rfl (by decide) (r_loadAgg (vs := [(.int .i64 d.start), (.slice aa d.accept.length ac), (.slice na d.next.length nc)]) rfl agg44 siz44 rfl (Bd.cells rfl)) ?_
  refine WpL_enter rfl rfl (by decide) (r_callF (vs := [(.agg #[(.int .i64 d.start), (.slice aa d.accept.length ac), (.slice na d.next.length nc)])]) Try.func15 nm15 bd15 rfl) (pack_f _ _ _ d _ (hd.ext E) okd hn1 hc1) ?_
  rintro _ w39 ⟨⟨t, xa, ya, za, ua, xc, yc, zc, uc, rfl, hT, hG, hU, hNw, hX, hs, hcl, hac, hb⟩, X39⟩
  replace Bd := X39.keep Bd
  replace E := E.ext X39
  have hWt : ∀ z ∈ t.acc, z ≤ 9223372036854775807 := tab_acc hU hW
  refine WpL_val rfl rfl (by decide) (r_move (v := (.tuple #[(.agg #[(.int .i64 t.start), (.int .i64 ((t.cols : Nat) : Int)), (.slice xa t.acc.length xc), (.slice ya t.bs.length yc), (.slice za t.ow.length zc), (.slice ua t.nx.length uc)]), (.int .i64 0)])) rfl) ?_
  refine WpL_val rfl rfl (by decide) (r_extract (vs := #[(.agg #[(.int .i64 t.start), (.int .i64 ((t.cols : Nat) : Int)), (.slice xa t.acc.length xc), (.slice ya t.bs.length yc), (.slice za t.ow.length zc), (.slice ua t.nx.length uc)]), (.int .i64 0)]) (v := (.agg #[(.int .i64 t.start), (.int .i64 ((t.cols : Nat) : Int)), (.slice xa t.acc.length xc), (.slice ya t.bs.length yc), (.slice za t.ow.length zc), (.slice ua t.nx.length uc)])) rfl rfl) ?_
  refine WpL_val rfl rfl (by decide) (r_extract (vs := #[(.agg #[(.int .i64 t.start), (.int .i64 ((t.cols : Nat) : Int)), (.slice xa t.acc.length xc), (.slice ya t.bs.length yc), (.slice za t.ow.length zc), (.slice ua t.nx.length uc)]), (.int .i64 0)]) (v := (.int .i64 0)) rfl rfl) ?_
  refine s_allocStore (v := (.agg #[(.int .i64 t.start), (.int .i64 ((t.cols : Nat) : Int)), (.slice xa t.acc.length xc), (.slice ya t.bs.length yc), (.slice za t.ow.length zc), (.slice ua t.nx.length uc)])) (c := #[(.int .i64 t.start), (.int .i64 ((t.cols : Nat) : Int)), (.slice xa t.acc.length xc), (.slice ya t.bs.length yc), (.slice za t.ow.length zc), (.slice ua t.nx.length uc)]) (n := 6) (by decide) zer46 rfl siz46 rfl rfl rfl (by simp [Value.oneCell']) ?_
  intro bt wt Nt
  have Ft := Nt.ge E
  have Ot_bd := Nt.lt Bd
  replace Bd := Nt.keep Bd
  replace hT := hT.ext Nt.ext
  replace E := E.ext Nt.ext
  have Bt := Nt.blk
  refine WpL_val rfl rfl (by decide) (r_assign (v := (.int .i64 0)) rfl) ?_
  refine WpL_nil ?_
  refine Wp_seq ?_
  refine Wp_seq_region ?_
  refine WpL_enter rfl rfl (by decide) (r_callF (vs := []) Try.func16 nm16 bd16 rfl) (packbegun_c _) ?_
  rintro _ w49 ⟨rfl, X49⟩
  replace Bd := X49.keep Bd
  replace Bt := X49.keep Bt
  replace hT := hT.ext X49
  replace E := E.ext X49
  refine WpL_val rfl rfl (by decide) (r_not (b := true) rfl) ?_
  refine WpL_nil ?_
  refine Wp_cond_false rfl ?_
  refine Wp_skip ?_
  refine thn_normal ?_
  refine Wp_seq ?_
  refine Wp_seq_region ?_
  refine WpL_val rfl rfl (by decide) (r_loadAgg (vs := [(.int .i64 d.start), (.slice aa d.accept.length ac), (.slice na d.next.length nc)]) rfl agg44 siz44 rfl (Bd.cells rfl)) ?_
  refine WpL_enter rfl rfl (by decide) (r_callF (vs := [(.agg #[(.int .i64 d.start), (.slice aa d.accept.length ac), (.slice na d.next.length nc)])]) Try.func17 nm17 bd17 rfl) (rpcheck0_c _ d _ (hd.ext E) h1) ?_
  rintro _ w59 ⟨rfl, X59⟩
  replace Bd := X59.keep Bd
  replace Bt := X59.keep Bt
  replace hT := hT.ext X59
  replace E := E.ext X59
  refine WpL_val rfl rfl (by decide) (r_assign (v := (.int .i64 0)) rfl) ?_
  refine WpL_nil ?_
  refine Wp_seq_region ?_
  refine WpL_val rfl rfl (by decide) (r_move (v := (.int .i64 0)) rfl) ?_
  refine WpL_val rfl rfl (by decide) (r_neq (k := .i64) (a := 0) (b := 0) rfl rfl) ?_
  refine WpL_nil ?_
  refine Wp_cond_false rfl ?_
  refine Wp_skip ?_
  refine thn_normal ?_
  refine Wp_seq_region ?_
  refine WpL_val rfl rfl (by decide) (r_loadAgg (vs := [(.int .i64 d.start), (.slice aa d.accept.length ac), (.slice na d.next.length nc)]) rfl agg44 siz44 rfl (Bd.cells rfl)) ?_
  refine WpL_enter rfl rfl (by decide) (r_callF (vs := [(.agg #[(.int .i64 d.start), (.slice aa d.accept.length ac), (.slice na d.next.length nc)])]) Try.func19 nm19 bd19 rfl) (rpack_f _ _ _ d _ (hd.ext E) okd hn1 hc1 t hX hs hcl hac hb) ?_
  rintro _ w69 ⟨⟨pa, qa, ra, sa, pc, qc, rc, sc, rfl, hT2⟩, X69⟩
  replace Bd := X69.keep Bd
  replace Bt := X69.keep Bt
  replace hT := hT.ext X69
  replace E := E.ext X69
  refine s_allocStore (v := (.agg #[(.int .i64 t.start), (.int .i64 ((t.cols : Nat) : Int)), (.slice pa t.acc.length pc), (.slice qa t.bs.length qc), (.slice ra t.ow.length rc), (.slice sa t.nx.length sc)])) (c := #[(.int .i64 t.start), (.int .i64 ((t.cols : Nat) : Int)), (.slice pa t.acc.length pc), (.slice qa t.bs.length qc), (.slice ra t.ow.length rc), (.slice sa t.nx.length sc)]) (n := 6) (by decide) zer46 rfl siz46 rfl rfl rfl (by simp [Value.oneCell']) ?_
  intro bu wu Nu
  have Fu := Nu.ge E
  have Ou_bd := Nu.lt Bd
  have Ou_bt := Nu.lt Bt
  replace Bd := Nu.keep Bd
  replace Bt := Nu.keep Bt
  replace hT := hT.ext Nu.ext
  replace hT2 := hT2.ext Nu.ext
  replace E := E.ext Nu.ext
  have Bu := Nu.blk
  refine WpL_nil ?_
  refine Wp_seq ?_
  refine Wp_seq_region ?_
  refine WpL_val rfl rfl (by decide) (r_move (v := (.int .i64 0)) rfl) ?_
  refine WpL_val rfl rfl (by decide) (r_neq (k := .i64) (a := 0) (b := 0) rfl rfl) ?_
  refine WpL_val rfl rfl (by decide) (r_move (v := (.bool false)) rfl) ?_
  refine WpL_guard_yes (oj := _) rfl rfl (by decide) rfl ?_
  refine WpL_val rfl rfl (by decide) (r_loadAgg (vs := [(.int .i64 t.start), (.int .i64 ((t.cols : Nat) : Int)), (.slice xa t.acc.length xc), (.slice ya t.bs.length yc), (.slice za t.ow.length zc), (.slice ua t.nx.length uc)]) rfl agg46 siz46 rfl (Bt.cells rfl)) ?_
  refine WpL_guard_yes (oj := _) rfl rfl (by decide) rfl ?_
  refine WpL_val rfl rfl (by decide) (r_loadAgg (vs := [(.int .i64 t.start), (.int .i64 ((t.cols : Nat) : Int)), (.slice pa t.acc.length pc), (.slice qa t.bs.length qc), (.slice ra t.ow.length rc), (.slice sa t.nx.length sc)]) rfl agg46 siz46 rfl (Bu.cells rfl)) ?_
  refine WpL_guard_yes (oj := _) rfl rfl (by decide) rfl ?_
  refine WpL_enter rfl rfl (by decide) (r_callF (vs := [(.agg #[(.int .i64 t.start), (.int .i64 ((t.cols : Nat) : Int)), (.slice xa t.acc.length xc), (.slice ya t.bs.length yc), (.slice za t.ow.length zc), (.slice ua t.nx.length uc)]), (.agg #[(.int .i64 t.start), (.int .i64 ((t.cols : Nat) : Int)), (.slice pa t.acc.length pc), (.slice qa t.bs.length qc), (.slice ra t.ow.length rc), (.slice sa t.nx.length sc)])]) Try.func18 nm18 bd18 rfl) (tabsame_c _ t _ _ hT hT2) ?_
  rintro _ w79 ⟨rfl, X79⟩
  replace Bd := X79.keep Bd
  replace Bt := X79.keep Bt
  replace Bu := X79.keep Bu
  replace hT := hT.ext X79
  replace hT2 := hT2.ext X79
  replace E := E.ext X79
  refine WpL_guard_yes (oj := _) rfl rfl (by decide) rfl ?_
  refine WpL_val rfl rfl (by decide) (r_not (b := true) rfl) ?_
  refine WpL_val rfl rfl (by decide) (r_pick (b := false) (v := (.bool false)) rfl rfl) ?_
  refine WpL_nil ?_
  refine Wp_cond_false rfl ?_
  refine Wp_skip ?_
  refine thn_normal ?_
  refine Wp_seq_region ?_
  refine WpL_val rfl rfl (by decide) (r_loadAgg (vs := [(.int .i64 t.start), (.int .i64 ((t.cols : Nat) : Int)), (.slice xa t.acc.length xc), (.slice ya t.bs.length yc), (.slice za t.ow.length zc), (.slice ua t.nx.length uc)]) rfl agg46 siz46 rfl (Bt.cells rfl)) ?_
  refine WpL_enter rfl rfl (by decide) (r_callF (vs := [(.agg #[(.int .i64 t.start), (.int .i64 ((t.cols : Nat) : Int)), (.slice xa t.acc.length xc), (.slice ya t.bs.length yc), (.slice za t.ow.length zc), (.slice ua t.nx.length uc)])]) Try.func20 nm20 bd20 rfl) (bytes_c _ t _ hT hG hWt) ?_
  rintro _ w89 ⟨⟨ba, bc, rfl, hB⟩, X89⟩
  replace Bd := X89.keep Bd
  replace Bt := X89.keep Bt
  replace Bu := X89.keep Bu
  replace hT := hT.ext X89
  replace hT2 := hT2.ext X89
  replace E := E.ext X89
  refine WpL_val rfl rfl (by decide) (r_move (v := (.tuple #[(.slice ba ((bytesT t).length) bc), (.int .i64 0)])) rfl) ?_
  refine WpL_val rfl rfl (by decide) (r_extract (vs := #[(.slice ba ((bytesT t).length) bc), (.int .i64 0)]) (v := (.slice ba ((bytesT t).length) bc)) rfl rfl) ?_
  refine WpL_val rfl rfl (by decide) (r_extract (vs := #[(.slice ba ((bytesT t).length) bc), (.int .i64 0)]) (v := (.int .i64 0)) rfl rfl) ?_
  refine WpL_val rfl rfl (by decide) (r_assign (v := (.slice ba ((bytesT t).length) bc)) rfl) ?_
  refine WpL_val rfl rfl (by decide) (r_assign (v := (.int .i64 0)) rfl) ?_
  refine WpL_nil ?_
  refine Wp_seq_region ?_
  refine WpL_val rfl rfl (by decide) (r_loadAgg (vs := [(.int .i64 t.start), (.int .i64 ((t.cols : Nat) : Int)), (.slice xa t.acc.length xc), (.slice ya t.bs.length yc), (.slice za t.ow.length zc), (.slice ua t.nx.length uc)]) rfl agg46 siz46 rfl (Bt.cells rfl)) ?_
  refine WpL_enter rfl rfl (by decide) (r_callF (vs := [(.agg #[(.int .i64 t.start), (.int .i64 ((t.cols : Nat) : Int)), (.slice xa t.acc.length xc), (.slice ya t.bs.length yc), (.slice za t.ow.length zc), (.slice ua t.nx.length uc)])]) Try.func21 nm21 bd21 rfl) (unpack_f _ t d _ hT hG hU) ?_
  rintro _ w99 ⟨⟨ya1, yc1, ya2, yc2, rfl, hD1⟩, X99⟩
  replace Bd := X99.keep Bd
  replace Bt := X99.keep Bt
  replace Bu := X99.keep Bu
  replace hT := hT.ext X99
  replace hT2 := hT2.ext X99
  replace hB := hB.ext X99
  replace E := E.ext X99
  have hbl : 0 < (bytesT t).length := by unfold bytesT intsT; simp [encI1]; have := encN_pos (t.start + 1).toNat; omega
  skip
  refine WpL_val rfl rfl (by decide) (r_move (v := (.tuple #[(.agg #[(.int .i64 d.start), (.slice ya1 d.accept.length yc1), (.slice ya2 d.next.length yc2)]), (.int .i64 0)])) rfl) ?_
  refine WpL_val rfl rfl (by decide) (r_extract (vs := #[(.agg #[(.int .i64 d.start), (.slice ya1 d.accept.length yc1), (.slice ya2 d.next.length yc2)]), (.int .i64 0)]) (v := (.agg #[(.int .i64 d.start), (.slice ya1 d.accept.length yc1), (.slice ya2 d.next.length yc2)])) rfl rfl) ?_
  refine WpL_val rfl rfl (by decide) (r_extract (vs := #[(.agg #[(.int .i64 d.start), (.slice ya1 d.accept.length yc1), (.slice ya2 d.next.length yc2)]), (.int .i64 0)]) (v := (.int .i64 0)) rfl rfl) ?_
  refine s_allocStore (v := (.agg #[(.int .i64 d.start), (.slice ya1 d.accept.length yc1), (.slice ya2 d.next.length yc2)])) (c := #[(.int .i64 d.start), (.slice ya1 d.accept.length yc1), (.slice ya2 d.next.length yc2)]) (n := 3) (by decide) zer44 rfl siz44 rfl rfl rfl (by simp [Value.oneCell']) ?_
  intro bv wv Nv
  have Fv := Nv.ge E
  have Ov_bd := Nv.lt Bd
  have Ov_bt := Nv.lt Bt
  have Ov_bu := Nv.lt Bu
  replace Bd := Nv.keep Bd
  replace Bt := Nv.keep Bt
  replace Bu := Nv.keep Bu
  replace hT := hT.ext Nv.ext
  replace hT2 := hT2.ext Nv.ext
  replace hB := hB.ext Nv.ext
  replace hD1 := hD1.ext Nv.ext
  replace E := E.ext Nv.ext
  have Bv := Nv.blk
  refine WpL_val rfl rfl (by decide) (r_assign (v := (.int .i64 0)) rfl) ?_
  refine WpL_nil ?_
  have hz_1 : w0.heap.size ≤ wv.heap.size := E.size
  have lz_1_bd : bd < wv.heap.size := Bd.lt
  have lz_1_bt : bt < wv.heap.size := Bt.lt
  have lz_1_bu : bu < wv.heap.size := Bu.lt
  have lz_1_bv : bv < wv.heap.size := Bv.lt
  refine Wp_seq ?_
  obtain ⟨Fs1, hFs1⟩ : ∃ Fs : List FctS, Fs = [(fun _ _ v _ => v = (.int .i64 0)), (fun _ _ v _ => v = (.bool true)), (fun _ _ v _ => v = (.bool true)), (fun _ _ v _ => v = (.int .i64 0)), (fun _ _ v _ => v = (.bool true)), (fun _ _ v _ => v = (.bool true)), (fun _ _ v _ => v = (.bool true)), (fun _ _ v _ => v = (.slice ba ((bytesT t).length) bc)), (fun _ _ v _ => v = (.string (strOfNums ((bytesT t).map fun x => ((x : Nat) : Int))))), (fun _ _ v _ => v = (.agg #[(.int .i64 t.start), (.int .i64 ((t.cols : Nat) : Int)), (.slice pa t.acc.length pc), (.slice qa t.bs.length qc), (.slice ra t.ow.length rc), (.slice sa t.nx.length sc)])), (fun _ _ => byF (bytesT t)), (fun _ _ v _ => v = (.string (strOfNums ((bytesT t).map fun x => ((x : Nat) : Int))))), (fun _ _ v _ => v = (.bool true)), (fun _ _ v _ => v = (.bool true)), (fun _ _ v _ => v = (.bool true)), (fun _ _ v _ => v = (.agg #[(.int .i64 d.start), (.slice ya1 d.accept.length yc1), (.slice ya2 d.next.length yc2)])), (fun _ _ v _ => v = (.agg #[(.int .i64 d.start), (.slice aa d.accept.length ac), (.slice na d.next.length nc)])), (fun _ _ v _ => v = (.bool true)), (fun _ _ v _ => v = (.bool true)), (fun _ _ v _ => v = (.bool true))] := ⟨_, rfl⟩
  refine Wp_dagS (MsL []) [true, true, true, true, true, true, true, true, true, true, true, true, true, true, true, true, true, true, true, true] [] [49, 50, 51, 52, 53, 54, 55, 56, 57, 58, 59, 60, 61, 62, 63, 64, 65, 66, 67, 2] [[], [0], [1], [2], [2, 3], [2, 4], [2, 5], [6], [6, 7], [6], [6, 9], [6, 10], [6, 8, 11], [6, 12], [10, 13], [14], [14], [14, 15, 16], [14, 17], [0, 1, 2, 3, 4, 5, 6, 7, 8, 9, 10, 11, 12, 13, 14, 15, 16, 17, 18]] [[], [0], [1, 0], [2, 1, 0], [2, 1, 0, 3], [2, 1, 0, 4, 3], [2, 1, 0, 5, 4, 3], [6, 2, 1, 0, 5, 4, 3], [6, 2, 1, 0, 5, 4, 3, 7], [6, 2, 1, 0, 5, 4, 3], [6, 2, 1, 0, 5, 4, 3, 9], [6, 2, 1, 0, 5, 4, 3, 10, 9], [6, 2, 1, 0, 5, 4, 3, 8, 7, 11, 10, 9], [6, 2, 1, 0, 5, 4, 3, 12, 8, 7, 11, 10, 9], [10, 6, 2, 1, 0, 5, 4, 3, 9, 13, 12, 8, 7, 11], [14, 10, 6, 2, 1, 0, 5, 4, 3, 9, 13, 12, 8, 7, 11], [14, 10, 6, 2, 1, 0, 5, 4, 3, 9, 13, 12, 8, 7, 11], [14, 10, 6, 2, 1, 0, 5, 4, 3, 9, 13, 12, 8, 7, 11, 15, 16], [14, 10, 6, 2, 1, 0, 5, 4, 3, 9, 13, 12, 8, 7, 11, 17, 15, 16], [0, 1, 2, 3, 4, 5, 6, 7, 8, 9, 10, 11, 12, 13, 14, 15, 16, 17, 18]] Fs1 hFs1 (by kernel_rfl) mixed (by kernel_rfl) (by kernel_rfl) (by kernel_rfl) (by kernel_rfl) ?_ ?_
  · intro wd X0
    refine DagStepsS.cons (StabS.eq) (LocS.const) (fun S s' w' hi hN X U V H => Or.inl ⟨Guarded_none rfl, ?_⟩) ?_
    · replace X := X.mono (M' := none1) (fun y _ h => by
          obtain ⟨j, hj, h⟩ := h
          exact h.elim)
      exact DoesT_pure (r_move (v := (.int .i64 0)) (U 4 rfl)) rfl
    refine DagStepsS.cons (StabS.eq) (LocS.const) (fun S s' w' hi hN X U V H => Or.inl ⟨Guarded_none rfl, ?_⟩) ?_
    · replace X := X.mono (M' := none1) (fun y _ h => by
          obtain ⟨j, hj, h⟩ := h
          exact h.elim)
      have e49 : s' 49 = (.int .i64 0) := (H 0 rfl).2 49 (fun _ _ v _ => v = (.int .i64 0)) rfl (by rw [hFs1]; rfl)
      exact DoesT_pure (r_eql (k := .i64) (a := 0) (b := 0) e49 rfl) rfl
    refine DagStepsS.cons (StabS.eq) (LocS.const) (fun S s' w' hi hN X U V H => Or.inl ⟨Guarded_none rfl, ?_⟩) ?_
    · replace X := X.mono (M' := none1) (fun y _ h => by
          obtain ⟨j, hj, h⟩ := h
          exact h.elim)
      have e50 : s' 50 = (.bool true) := (H 1 rfl).2 50 (fun _ _ v _ => v = (.bool true)) rfl (by rw [hFs1]; rfl)
      exact DoesT_pure (r_move (v := (.bool true)) e50) rfl
    refine DagStepsS.cons (StabS.eq) (LocS.const) (fun S s' w' hi hN X U V H => Or.inl ⟨Guarded_some rfl rfl (d := 51) ((H 2 rfl).2 51 (fun _ _ v _ => v = (.bool true)) rfl (by rw [hFs1]; rfl)), ?_⟩) ?_
    · replace X := X.mono (M' := none1) (fun y _ h => by
          obtain ⟨j, hj, h⟩ := h
          exact h.elim)
      exact DoesT_pure (r_move (v := (.int .i64 0)) (U 9 rfl)) rfl
    refine DagStepsS.cons (StabS.eq) (LocS.const) (fun S s' w' hi hN X U V H => Or.inl ⟨Guarded_some rfl rfl (d := 51) ((H 2 rfl).2 51 (fun _ _ v _ => v = (.bool true)) rfl (by rw [hFs1]; rfl)), ?_⟩) ?_
    · replace X := X.mono (M' := none1) (fun y _ h => by
          obtain ⟨j, hj, h⟩ := h
          exact h.elim)
      have e52 : s' 52 = (.int .i64 0) := (H 3 rfl).2 52 (fun _ _ v _ => v = (.int .i64 0)) rfl (by rw [hFs1]; rfl)
      exact DoesT_pure (r_eql (k := .i64) (a := 0) (b := 0) e52 rfl) rfl
    refine DagStepsS.cons (StabS.eq) (LocS.const) (fun S s' w' hi hN X U V H => Or.inl ⟨Guarded_none rfl, ?_⟩) ?_
    · replace X := X.mono (M' := none1) (fun y _ h => by
          obtain ⟨j, hj, h⟩ := h
          exact h.elim)
      have e51 : s' 51 = (.bool true) := (H 2 rfl).2 51 (fun _ _ v _ => v = (.bool true)) rfl (by rw [hFs1]; rfl)
      have e53 : s' 53 = (.bool true) := (H 4 rfl).2 53 (fun _ _ v _ => v = (.bool true)) rfl (by rw [hFs1]; rfl)
      exact DoesT_pure (r_pick (b := true) (v := (.bool true)) e51 e53) rfl
    refine DagStepsS.cons (StabS.eq) (LocS.const) (fun S s' w' hi hN X U V H => Or.inl ⟨Guarded_none rfl, ?_⟩) ?_
    · replace X := X.mono (M' := none1) (fun y _ h => by
          obtain ⟨j, hj, h⟩ := h
          exact h.elim)
      have e54 : s' 54 = (.bool true) := (H 5 rfl).2 54 (fun _ _ v _ => v = (.bool true)) rfl (by rw [hFs1]; rfl)
      exact DoesT_pure (r_move (v := (.bool true)) e54) rfl
    refine DagStepsS.cons (StabS.eq) (LocS.const) (fun S s' w' hi hN X U V H => Or.inl ⟨Guarded_some rfl rfl (d := 55) ((H 6 rfl).2 55 (fun _ _ v _ => v = (.bool true)) rfl (by rw [hFs1]; rfl)), ?_⟩) ?_
    · replace X := X.mono (M' := none1) (fun y _ h => by
          obtain ⟨j, hj, h⟩ := h
          exact h.elim)
      exact DoesT_pure (r_move (v := (.slice ba ((bytesT t).length) bc)) (U 7 rfl)) rfl
    refine DagStepsS.cons (StabS.eq) (LocS.const) (fun S s' w' hi hN X U V H => Or.inl ⟨Guarded_some rfl rfl (d := 55) ((H 6 rfl).2 55 (fun _ _ v _ => v = (.bool true)) rfl (by rw [hFs1]; rfl)), ?_⟩) ?_
    · replace X := X.mono (M' := none1) (fun y _ h => by
          obtain ⟨j, hj, h⟩ := h
          exact h.elim)
      have e56 : s' 56 = (.slice ba ((bytesT t).length) bc) := (H 7 rfl).2 56 (fun _ _ v _ => v = (.slice ba ((bytesT t).length) bc)) rfl (by rw [hFs1]; rfl)
      exact DoesT_pure (r_bytesAt (l := bytesT t) Try.underlying52 Try.underlying5 Try.underlying9 e56 (hB.ext (X0.trans X)) rfl hbl) rfl
    refine DagStepsS.cons (StabS.eq) (LocS.const) (fun S s' w' hi hN X U V H => Or.inl ⟨Guarded_some rfl rfl (d := 55) ((H 6 rfl).2 55 (fun _ _ v _ => v = (.bool true)) rfl (by rw [hFs1]; rfl)), ?_⟩) ?_
    · replace X := X.mono (M' := none1) (fun y _ h => by
          obtain ⟨j, hj, h⟩ := h
          exact h.elim)
      exact DoesT_pure (r_loadAgg (vs := [(.int .i64 t.start), (.int .i64 ((t.cols : Nat) : Int)), (.slice pa t.acc.length pc), (.slice qa t.bs.length qc), (.slice ra t.ow.length rc), (.slice sa t.nx.length sc)]) (U 6 rfl) agg46 siz46 rfl (((X0.trans X).keep Bu).cells rfl)) rfl
    refine DagStepsS.cons (StabS.chg (U := none1) (byF_ext _) (fun p y hp hw h => by
          exact h.elim)) (LocS.const) (fun S s' w' hi hN X U V H => Or.inl ⟨Guarded_some rfl rfl (d := 55) ((H 6 rfl).2 55 (fun _ _ v _ => v = (.bool true)) rfl (by rw [hFs1]; rfl)), ?_⟩) ?_
    · replace X := X.mono (M' := none1) (fun y _ h => by
          obtain ⟨j, hj, h⟩ := h
          exact h.elim)
      have e58 : s' 58 = (.agg #[(.int .i64 t.start), (.int .i64 ((t.cols : Nat) : Int)), (.slice pa t.acc.length pc), (.slice qa t.bs.length qc), (.slice ra t.ow.length rc), (.slice sa t.nx.length sc)]) := (H 9 rfl).2 58 (fun _ _ v _ => v = (.agg #[(.int .i64 t.start), (.int .i64 ((t.cols : Nat) : Int)), (.slice pa t.acc.length pc), (.slice qa t.bs.length qc), (.slice ra t.ow.length rc), (.slice sa t.nx.length sc)])) rfl (by rw [hFs1]; rfl)
      exact DoesT_callE (r_callF (vs := [(.agg #[(.int .i64 t.start), (.int .i64 ((t.cols : Nat) : Int)), (.slice pa t.acc.length pc), (.slice qa t.bs.length qc), (.slice ra t.ow.length rc), (.slice sa t.nx.length sc)])]) Try.func22 nm22 bd22 (lst1 e58)) ((tabytes_c _ t _ (hT2.ext (X0.trans X)) hG hWt).mono (fun v w h => h))
    refine DagStepsS.cons (StabS.eq) (LocS.const) (fun S s' w' hi hN X U V H => Or.inl ⟨Guarded_some rfl rfl (d := 55) ((H 6 rfl).2 55 (fun _ _ v _ => v = (.bool true)) rfl (by rw [hFs1]; rfl)), ?_⟩) ?_
    · replace X := X.mono (M' := none1) (fun y _ h => by
          obtain ⟨j, hj, h⟩ := h
          exact h.elim)
      obtain ⟨a59, c59, e59, B59⟩ := (show ((fun _ _ => byF (bytesT t)) : FctS) S s' (s' 59) w' from (H 10 rfl).2 59 (fun _ _ => byF (bytesT t)) rfl (by rw [hFs1]; rfl))
      exact DoesT_pure (r_bytesAt (l := bytesT t) Try.underlying52 Try.underlying5 Try.underlying9 e59 B59 rfl hbl) rfl
    refine DagStepsS.cons (StabS.eq) (LocS.const) (fun S s' w' hi hN X U V H => Or.inl ⟨Guarded_some rfl rfl (d := 55) ((H 6 rfl).2 55 (fun _ _ v _ => v = (.bool true)) rfl (by rw [hFs1]; rfl)), ?_⟩) ?_
    · replace X := X.mono (M' := none1) (fun y _ h => by
          obtain ⟨j, hj, h⟩ := h
          exact h.elim)
      have e57 : s' 57 = (.string (strOfNums ((bytesT t).map fun x => ((x : Nat) : Int)))) := (H 8 rfl).2 57 (fun _ _ v _ => v = (.string (strOfNums ((bytesT t).map fun x => ((x : Nat) : Int))))) rfl (by rw [hFs1]; rfl)
      have e60 : s' 60 = (.string (strOfNums ((bytesT t).map fun x => ((x : Nat) : Int)))) := (H 11 rfl).2 60 (fun _ _ v _ => v = (.string (strOfNums ((bytesT t).map fun x => ((x : Nat) : Int))))) rfl (by rw [hFs1]; rfl)
      exact DoesT_pure (r_eqStr9 e57 e60) rfl
    refine DagStepsS.cons (StabS.eq) (LocS.const) (fun S s' w' hi hN X U V H => Or.inl ⟨Guarded_none rfl, ?_⟩) ?_
    · replace X := X.mono (M' := none1) (fun y _ h => by
          obtain ⟨j, hj, h⟩ := h
          exact h.elim)
      have e55 : s' 55 = (.bool true) := (H 6 rfl).2 55 (fun _ _ v _ => v = (.bool true)) rfl (by rw [hFs1]; rfl)
      have e61 : s' 61 = (.bool true) := (H 12 rfl).2 61 (fun _ _ v _ => v = (.bool true)) rfl (by rw [hFs1]; rfl)
      exact DoesT_pure (r_pick (b := true) (v := (.bool true)) e55 e61) rfl
    refine DagStepsS.cons (StabS.eq) (LocS.const) (fun S s' w' hi hN X U V H => Or.inl ⟨Guarded_none rfl, ?_⟩) ?_
    · replace X := X.mono (M' := none1) (fun y _ h => by
          obtain ⟨j, hj, h⟩ := h
          exact h.elim)
      have e62 : s' 62 = (.bool true) := (H 13 rfl).2 62 (fun _ _ v _ => v = (.bool true)) rfl (by rw [hFs1]; rfl)
      exact DoesT_pure (r_move (v := (.bool true)) e62) rfl
    refine DagStepsS.cons (StabS.eq) (LocS.const) (fun S s' w' hi hN X U V H => Or.inl ⟨Guarded_some rfl rfl (d := 63) ((H 14 rfl).2 63 (fun _ _ v _ => v = (.bool true)) rfl (by rw [hFs1]; rfl)), ?_⟩) ?_
    · replace X := X.mono (M' := none1) (fun y _ h => by
          obtain ⟨j, hj, h⟩ := h
          exact h.elim)
      exact DoesT_pure (r_loadAgg (vs := [(.int .i64 d.start), (.slice ya1 d.accept.length yc1), (.slice ya2 d.next.length yc2)]) (U 8 rfl) agg44 siz44 rfl (((X0.trans X).keep Bv).cells rfl)) rfl
    refine DagStepsS.cons (StabS.eq) (LocS.const) (fun S s' w' hi hN X U V H => Or.inl ⟨Guarded_some rfl rfl (d := 63) ((H 14 rfl).2 63 (fun _ _ v _ => v = (.bool true)) rfl (by rw [hFs1]; rfl)), ?_⟩) ?_
    · replace X := X.mono (M' := none1) (fun y _ h => by
          obtain ⟨j, hj, h⟩ := h
          exact h.elim)
      exact DoesT_pure (r_loadAgg (vs := [(.int .i64 d.start), (.slice aa d.accept.length ac), (.slice na d.next.length nc)]) (U 1 rfl) agg44 siz44 rfl (((X0.trans X).keep Bd).cells rfl)) rfl
    refine DagStepsS.cons (StabS.eq) (LocS.const) (fun S s' w' hi hN X U V H => Or.inl ⟨Guarded_some rfl rfl (d := 63) ((H 14 rfl).2 63 (fun _ _ v _ => v = (.bool true)) rfl (by rw [hFs1]; rfl)), ?_⟩) ?_
    · replace X := X.mono (M' := none1) (fun y _ h => by
          obtain ⟨j, hj, h⟩ := h
          exact h.elim)
      have e64 : s' 64 = (.agg #[(.int .i64 d.start), (.slice ya1 d.accept.length yc1), (.slice ya2 d.next.length yc2)]) := (H 15 rfl).2 64 (fun _ _ v _ => v = (.agg #[(.int .i64 d.start), (.slice ya1 d.accept.length yc1), (.slice ya2 d.next.length yc2)])) rfl (by rw [hFs1]; rfl)
      have e65 : s' 65 = (.agg #[(.int .i64 d.start), (.slice aa d.accept.length ac), (.slice na d.next.length nc)]) := (H 16 rfl).2 65 (fun _ _ v _ => v = (.agg #[(.int .i64 d.start), (.slice aa d.accept.length ac), (.slice na d.next.length nc)])) rfl (by rw [hFs1]; rfl)
      exact DoesT_callE (r_callF (vs := [(.agg #[(.int .i64 d.start), (.slice ya1 d.accept.length yc1), (.slice ya2 d.next.length yc2)]), (.agg #[(.int .i64 d.start), (.slice aa d.accept.length ac), (.slice na d.next.length nc)])]) Try.func23 nm23 bd23 (lst2 e64 e65)) (dfsame_c _ d _ _ (hD1.ext (X0.trans X)) (hd.ext (Ext.trans E (X0.trans X))))
    refine DagStepsS.cons (StabS.eq) (LocS.const) (fun S s' w' hi hN X U V H => Or.inl ⟨Guarded_none rfl, ?_⟩) ?_
    · replace X := X.mono (M' := none1) (fun y _ h => by
          obtain ⟨j, hj, h⟩ := h
          exact h.elim)
      have e63 : s' 63 = (.bool true) := (H 14 rfl).2 63 (fun _ _ v _ => v = (.bool true)) rfl (by rw [hFs1]; rfl)
      have e66 : s' 66 = (.bool true) := (H 17 rfl).2 66 (fun _ _ v _ => v = (.bool true)) rfl (by rw [hFs1]; rfl)
      exact DoesT_pure (r_pick (b := true) (v := (.bool true)) e63 e66) rfl
    refine DagStepsS.cons (StabS.eq) (LocS.const) (fun S s' w' hi hN X U V H => Or.inl ⟨Guarded_none rfl, ?_⟩) ?_
    · replace X := X.mono (M' := none1) (fun y _ h => by
          obtain ⟨j, hj, h⟩ := h
          exact h.elim)
      have e67 : s' 67 = (.bool true) := (H 18 rfl).2 67 (fun _ _ v _ => v = (.bool true)) rfl (by rw [hFs1]; rfl)
      exact DoesT_pure (r_assign (v := (.bool true)) e67) rfl
    exact DagStepsS.nil
  · intro s' wd1 w1 X0 X1 U H
    replace X1 := X1.mono (M' := none1) (fun y _ h => by
        obtain ⟨j, hj, h⟩ := h
        exact h.elim)
    have e2 : s' 2 = (.bool true) := H 19 rfl 2 (fun _ _ v _ => v = (.bool true)) rfl (by rw [hFs1]; rfl)
    obtain ⟨j1, rfl⟩ := Fits.out (σ := s') (l := [(2, (.bool true))]) ⟨e2, trivial⟩
    clear U H
    replace Bd := (X0.trans X1).keep Bd
    replace Bt := (X0.trans X1).keep Bt
    replace Bu := (X0.trans X1).keep Bu
    replace Bv := (X0.trans X1).keep Bv
    replace hT := hT.ext (X0.trans X1)
    replace hT2 := hT2.ext (X0.trans X1)
    replace hB := hB.ext (X0.trans X1)
    replace hD1 := hD1.ext (X0.trans X1)
    replace X1 := X0.trans X1
    replace E := E.ext X1
    refine WpL_nil ?_
    refine thn_normal ?_
    refine Wp_ret ?_
    refine fin_tmp Try.results4 (v := (.bool true)) rfl ?_
    exact ⟨rfl, E⟩
theorem rptells_c (w0 : World) (d : Dfa) (dv : List Value) (hd : DfaAt w0 d dv) (hW : ∀ x ∈ d.accept, x ≤ 9223372036854775807) :
    Ret Try.prog 4 #[.agg dv.toArray] w0 fun r w => r = .bool true ∧ Ext w0 w := by
  by_cases h1 : checkD d = 0
  · exact rptells_good w0 d dv hd h1 hW
  · exact rptells_bad w0 d dv hd h1
end Go.Proofs
namespace Go.Proofs
open Go Go.Eng
set_option maxRecDepth 100000
section
variable {H : Type} {enc : TypeId × Value → H} {P : Program} {w : World} {base : Nat} {spare : Nat → Bool} {held : Bool}
theorem cells_at {a : Addr} {k : Nat} {cs : List Value} (hk : 0 < k) (h : w.cells? base a k = some cs) : ∃ b o, a = ⟨b, o, none⟩ ∧ cs.length = k ∧ CellsAt w b o cs := by
  obtain ⟨h1, h2, h3⟩ := World.cells?_some h
  obtain ⟨b, o, s⟩ := a
  have hlen : cs.length = k := by first | exact h2 | exact h1 | omega
  have h0 := h3 0 (by omega)
  have hs : s = none := by
    cases s with
    | none => rfl
    | some s =>
      exfalso
      have hc : ∃ v, w.cell? ⟨b, o, some s⟩ = some v := ⟨_, by simpa [Addr.add, List.getElem?_eq_getElem (show 0 < cs.length by omega)] using h0⟩
      obtain ⟨v, hv⟩ := hc
      simp [World.cell?] at hv
      cases hh : w.heap[b]? <;> simp [hh] at hv
      split at hv <;> simp at hv
  subst hs
  refine ⟨b, o, rfl, hlen, fun i v hv => ?_⟩
  have := h3 i (by have := lt_of_get hv; omega)
  rw [Addr.add_lit] at this
  rw [this, hv]
theorem rows_map {α : Type} {f : α → List Value} : ∀ {rows : List (List Value)}, (∀ r ∈ rows, ∃ y, r = f y) → ∃ l : List α, rows = l.map f
  | [], _ => ⟨[], rfl⟩
  | r :: rows, h => by
    obtain ⟨y, hy⟩ := h r (by simp)
    obtain ⟨l, hl⟩ := rows_map (rows := rows) (f := f) fun r' hr' => h r' (List.mem_cons_of_mem _ hr')
    exact ⟨y :: l, by rw [hy, hl]; rfl⟩
/-- A slice, if each of its elements is read. -/
theorem open_rows {t e k fuel : Nat} {cs : List Value} {x : DataW H × List MemPlace} {R : List Value → Prop} (ht : P.underlying t = some (.slice e)) (hc : P.cellsOf e = k) (hk : 0 < k)
    (h : DataW.trod enc P w base spare held fuel t cs = some x) (hR : ∀ n cs' y, n < fuel → DataW.trod enc P w base spare held n e cs' = some y → R cs') :
    ∃ a rows cap, cs = [.slice a rows.length cap] ∧ SlAt w k (.slice a rows.length cap) rows ∧ (∀ r ∈ rows, R r ∧ r.length = k) ∧ rows.length ≤ cap ∧ cap ≤ maxLen := by
  rcases DataW.trod_slice ht h with ⟨rfl, _⟩ | ⟨a, len, cap, elems, rest, n, rfl, rfl, _, hb, hl, hm, hlen, hel, _, _⟩
  · exact ⟨none, [], 0, rfl, SlAt.nil _ _ _ _, by simp, by simp, by simp [maxLen]⟩
  · have each : ∀ i, i < len → ∃ cs', w.cells? base (a.add (i * k)) k = some cs' ∧ R cs' := by
      intro i hi
      have := hel i hi
      rw [List.getElem?_eq_getElem (by omega), hc, Option.bind_eq_some_iff] at this
      obtain ⟨cs', h1, h2⟩ := this
      exact ⟨cs', h1, hR n cs' _ (by omega) h2⟩
    have fam : ∀ m, m ≤ len → ∃ rows : List (List Value), rows.length = m ∧ ∀ i r, rows[i]? = some r → w.cells? base (a.add (i * k)) k = some r ∧ R r := by
      intro m
      induction m with
      | zero => intro _; exact ⟨[], rfl, by simp⟩
      | succ m ih =>
        intro hm
        obtain ⟨rows, h1, h2⟩ := ih (by omega)
        obtain ⟨cs', h3, h4⟩ := each m (by omega)
        refine ⟨rows ++ [cs'], by simp [h1], fun i r hr => ?_⟩
        rcases Nat.lt_or_ge i rows.length with hi | hi
        · rw [List.getElem?_append_left hi] at hr; exact h2 i r hr
        · rw [List.getElem?_append_right hi] at hr
          have hi' := lt_of_get hr
          simp at hi'
          obtain rfl : i = m := by omega
          simp [h1] at hr
          subst hr
          exact ⟨h3, h4⟩
    obtain ⟨rows, hrl, hrows⟩ := fam len (Nat.le_refl _)
    have hmax : rows.length ≤ 9223372036854775807 := by simp only [maxLen] at hm; omega
    refine ⟨some a, rows, cap, by rw [hrl], ⟨some a, cap, rfl, hmax, by omega, ?_⟩, ?_, by omega, hm⟩
    · rcases Nat.eq_zero_or_pos len with h0 | h0
      · left; exact List.eq_nil_of_length_eq_zero (by omega)
      · right
        obtain ⟨r0, hr0⟩ := get_of_lt (l := rows) (i := 0) (by omega)
        have h1 := (hrows 0 r0 hr0).1
        have hz : a.add (0 * k) = a := by simp [Addr.add]
        rw [hz] at h1
        obtain ⟨b, o, rfl, _, _⟩ := cells_at hk h1
        refine ⟨b, o, rfl, fun i r hr => ?_⟩
        have h2 := (hrows i r hr).1
        rw [Addr.add_lit] at h2
        obtain ⟨b', o', he, _, h3⟩ := cells_at hk h2
        cases he
        exact h3
    · intro r hr
      obtain ⟨i, hi⟩ := List.mem_iff_getElem?.1 hr
      have h2 := hrows i r hi
      obtain ⟨_, _, _, h3, _⟩ := cells_at hk h2.1
      exact ⟨h2.2, h3⟩
theorem open_intsL {t e fuel : Nat} {cs : List Value} {x : DataW H × List MemPlace} (ht : P.underlying t = some (.slice e)) (he : P.underlying e = some (.int .i64)) (hc : P.cellsOf e = 1)
    (h : DataW.trod enc P w base spare held fuel t cs = some x) : ∃ a l cap, cs = [.slice a l.length cap] ∧ IntsAt w (.slice a l.length cap) l := by
  obtain ⟨a, rows, cap, rfl, h1, h2, _⟩ := open_rows (R := fun cs => ∃ n : Int, cs = intV n) ht hc (by decide) h (fun n cs' y _ hy => by
    obtain ⟨m, rfl, _⟩ := DataW.trod_int he hy; exact ⟨m, rfl⟩)
  obtain ⟨l, rfl⟩ := rows_map fun r hr => (h2 r hr).1
  exact ⟨a, l, cap, by simp, by simpa [IntsAt] using h1⟩
end
end Go.Proofs
namespace Go.Proofs
open Go Go.Eng
set_option maxRecDepth 100000
section
variable {H : Type} {enc : TypeId × Value → H} {w : World} {base : Nat} {spare : Nat → Bool} {held : Bool}
theorem cellsOne9 : Try.prog.cellsOf 3 = 1 := by kernel_rfl
theorem cellsRow9 : Try.prog.cellsOf 26 = 1 := by kernel_rfl
theorem cellsRows9 : Try.prog.cellsOf 42 = 1 := by kernel_rfl
theorem cellsDfa9 : Try.prog.cellsOf 44 = 3 := by kernel_rfl
theorem intss_rows : ∀ (rows : List (List Value)), (∀ r ∈ rows, ∃ a l cap, r = [.slice a (List.length (α := Int) l) cap] ∧ IntsAt w (.slice a l.length cap) l) →
    ∃ (vs : List Value) (ll : List (List Int)), rows = vs.map (fun x => [x]) ∧ vs.length = ll.length ∧ ∀ (i : Nat) u l, vs[i]? = some u → ll[i]? = some l → IntsAt w u l
  | [], _ => ⟨[], [], rfl, rfl, fun i u l h => by simp at h⟩
  | r :: rows, h => by
    obtain ⟨a, l, cap, rfl, h1⟩ := h r (by simp)
    obtain ⟨vs, ll, h3, h4, h5⟩ := intss_rows rows fun r hr => h r (by simp [hr])
    refine ⟨.slice a l.length cap :: vs, l :: ll, by rw [h3]; rfl, by simp [h4], fun i u q hu hq => ?_⟩
    cases i with
    | zero => simp at hu hq; subst hu; subst hq; exact h1
    | succ i => exact h5 i u q (by simpa using hu) (by simpa using hq)
theorem open_intss {fuel : Nat} {cs : List Value} {x : DataW H × List MemPlace} (h : DataW.trod enc Try.prog w base spare held fuel 42 cs = some x) : ∃ a ll cap, cs = [.slice a (List.length (α := List Int) ll) cap] ∧ IntssAt w (.slice a ll.length cap) ll := by
  obtain ⟨a, rows, cap, rfl, h1, h2, _⟩ := open_rows (R := fun cs => ∃ a l cap, cs = [.slice a (List.length (α := Int) l) cap] ∧ IntsAt w (.slice a l.length cap) l) Try.underlying42 cellsRow9 (by decide) h (fun n cs' y _ hy => open_intsL Try.underlying26 Try.underlying3 cellsOne9 hy)
  obtain ⟨vs, ll, rfl, h7, h8⟩ := intss_rows rows fun r hr => (h2 r hr).1
  exact ⟨a, ll, cap, by simp [h7], vs, by simpa [h7] using h1, h7, h8⟩
theorem open_dfa {fuel : Nat} {cs : List Value} {x : DataW H × List MemPlace} (h : DataW.trod enc Try.prog w base spare held fuel 44 cs = some x) : ∃ d : Dfa, DfaAt w d cs := by
  obtain ⟨xs, n, rfl, _, hl, hx, hf⟩ := DataW.trod_struct Try.underlying44 h
  rw [cellsDfa9] at hl
  match cs, hl with
  | [c0, c1, c2], _ =>
    have h0 : DataW.trod enc Try.prog w base spare held n 3 (([c0, c1, c2].drop 0).take (Try.prog.cellsOf 3)) = xs[0]? := hf 0 _ rfl
    have h1 : DataW.trod enc Try.prog w base spare held n 26 (([c0, c1, c2].drop 1).take (Try.prog.cellsOf 26)) = xs[1]? := hf 1 _ rfl
    have h2 : DataW.trod enc Try.prog w base spare held n 42 (([c0, c1, c2].drop 2).take (Try.prog.cellsOf 42)) = xs[2]? := hf 2 _ rfl
    simp only [cellsOne9, cellsRow9, cellsRows9, List.drop, List.take] at h0 h1 h2
    rw [List.getElem?_eq_getElem (by rw [hx]; decide)] at h0 h1 h2
    obtain ⟨st, e0, _⟩ := DataW.trod_int Try.underlying3 h0
    obtain ⟨aa, la, ac, e1, ha⟩ := open_intsL Try.underlying26 Try.underlying3 cellsOne9 h1
    obtain ⟨na, ln, nc, e2, hn⟩ := open_intss h2
    simp at e0 e1 e2
    subst e0; subst e1; subst e2
    exact ⟨⟨st, la, ln⟩, aa, ac, na, nc, rfl, ha, hn⟩
theorem rows_mapW : ∀ {rows : List (List Value)}, (∀ r ∈ rows, ∃ n : Int, r = intV n ∧ n ≤ 9223372036854775807) → ∃ l : List Int, rows = l.map intV ∧ ∀ x ∈ l, x ≤ 9223372036854775807
  | [], _ => ⟨[], rfl, fun x hx => by cases hx⟩
  | r :: rows, h => by
    obtain ⟨n, rfl, h1⟩ := h r (by simp)
    obtain ⟨l, rfl, h2⟩ := rows_mapW (rows := rows) fun r hr => h r (by simp [hr])
    exact ⟨n :: l, rfl, fun x hx => by rcases List.mem_cons.1 hx with rfl | hx; exact h1; exact h2 x hx⟩
theorem open_intsW {fuel : Nat} {cs : List Value} {x : DataW H × List MemPlace} (h : DataW.trod enc Try.prog w base spare held fuel 26 cs = some x) : ∃ a l cap, cs = [.slice a (List.length (α := Int) l) cap] ∧ IntsAt w (.slice a l.length cap) l ∧ ∀ x ∈ l, x ≤ 9223372036854775807 := by
  obtain ⟨a, rows, cap, rfl, h1, h2, _⟩ := open_rows (R := fun cs => ∃ n : Int, cs = intV n ∧ n ≤ 9223372036854775807) Try.underlying26 cellsOne9 (by decide) h (fun n cs' y _ hy => by
    obtain ⟨m, rfl, _, hw⟩ := DataW.trod_int Try.underlying3 hy
    refine ⟨m, rfl, ?_⟩
    simp only [Lit.wf, Bool.and_eq_true, decide_eq_true_eq] at hw
    exact hw.2)
  obtain ⟨l, rfl, h3⟩ := rows_mapW fun r hr => (h2 r hr).1
  exact ⟨a, l, cap, by simp, by simpa [IntsAt] using h1, h3⟩
theorem open_dfaW {fuel : Nat} {cs : List Value} {x : DataW H × List MemPlace} (h : DataW.trod enc Try.prog w base spare held fuel 44 cs = some x) : ∃ d : Dfa, DfaAt w d cs ∧ ∀ x ∈ d.accept, x ≤ 9223372036854775807 := by
  obtain ⟨xs, n, rfl, _, hl, hx, hf⟩ := DataW.trod_struct Try.underlying44 h
  rw [cellsDfa9] at hl
  match cs, hl with
  | [c0, c1, c2], _ =>
    have h0 : DataW.trod enc Try.prog w base spare held n 3 (([c0, c1, c2].drop 0).take (Try.prog.cellsOf 3)) = xs[0]? := hf 0 _ rfl
    have h1 : DataW.trod enc Try.prog w base spare held n 26 (([c0, c1, c2].drop 1).take (Try.prog.cellsOf 26)) = xs[1]? := hf 1 _ rfl
    have h2 : DataW.trod enc Try.prog w base spare held n 42 (([c0, c1, c2].drop 2).take (Try.prog.cellsOf 42)) = xs[2]? := hf 2 _ rfl
    simp only [cellsOne9, cellsRow9, cellsRows9, List.drop, List.take] at h0 h1 h2
    rw [List.getElem?_eq_getElem (by rw [hx]; decide)] at h0 h1 h2
    obtain ⟨st, e0, _⟩ := DataW.trod_int Try.underlying3 h0
    obtain ⟨aa, la, ac, e1, ha, hw⟩ := open_intsW h1
    obtain ⟨na, ln, nc, e2, hn⟩ := open_intss h2
    simp at e0 e1 e2
    subst e0; subst e1; subst e2
    exact ⟨⟨st, la, ln⟩, ⟨aa, ac, na, nc, rfl, ha, hn⟩, hw⟩
end
end Go.Proofs
