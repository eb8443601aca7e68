/- The law PackTight. -/
import Derived.Test.YtcbkbogcaglcoaaWt
namespace Go.Proofs
open Go Go.Eng
set_option maxRecDepth 100000

theorem ok_check {n c : Nat} {d : Dfa} (h : okDfa n c d) (hn : 1 ≤ n ∧ n ≤ 200) (hc : 1 ≤ c ∧ c ≤ 16) : checkD d = 0 := by
  obtain ⟨h1, h2, h3, h4, h5⟩ := h
  have hne : d.next ≠ [] := fun he => by rw [he] at h1; simp at h1; omega
  have hcol : colsD d = c := by
    unfold colsD
    cases hq : d.next with
    | nil => exact absurd hq hne
    | cons y l => exact (h5 y (by rw [hq]; simp)).1
  unfold checkD
  rw [if_neg (by omega), if_neg (by omega), if_neg (by omega), if_neg, if_neg]
  · rw [Bool.or_eq_true]
    rintro (hb | hb)
    · unfold bad0 at hb
      have hane : d.accept ≠ [] := fun he => by rw [he] at h2; simp at h2; omega
      have := (minL_lt hane (z := -1)).2 (fun x hx => (h4 x hx).1)
      simp only [Bool.or_eq_true, decide_eq_true_eq] at hb
      omega
    · obtain ⟨row, hr, hb⟩ := List.any_eq_true.1 hb
      obtain ⟨hl, hx⟩ := h5 row hr
      have hrne : row ≠ [] := fun he => by rw [he] at hl; simp at hl; omega
      have h6 := (minL_lt hrne (z := -1)).2 (fun x hx' => (hx x hx').1)
      have h7 := (maxL_lt hrne (z := ((n : Nat) : Int))).2 (fun x hx' => (hx x hx').2)
      simp only [badRow, Bool.or_eq_true, decide_eq_true_eq] at hb
      omega
  · intro hb
    obtain ⟨row, hr, hb⟩ := List.any_eq_true.1 hb
    obtain ⟨hl, _⟩ := h5 row hr
    simp only [formRow, Bool.or_eq_true, decide_eq_true_eq] at hb
    omega
theorem pst_good {n c : Nat} {d : Dfa} {order : List Nat} {owner nxt : List Int} {bs : List Nat} (h : okDfa n c d) (hn : 1 ≤ n ∧ n < 20) (hc : 1 ≤ c ∧ c ≤ 16) (hP : PSt d.next order c n owner nxt bs) : GoodT ⟨d.start, c, d.accept, bs, owner, nxt⟩ := by
  obtain ⟨h1, h2, h3, h4, h5⟩ := h
  have hnc : n * c ≤ 19 * 16 := Nat.mul_le_mul (by omega) hc.2
  have hol := hP.ol
  have hbl := hP.bl
  have hlen := hP.pk.len
  refine ⟨by show 1 ≤ bs.length; omega, by show bs.length ≤ 200; omega, hc.1, hc.2, by show owner.length ≤ 3200; omega, hlen.symm, by show d.accept.length = bs.length; omega, by show 0 ≤ d.start ∧ d.start < (bs.length : Int); rw [hbl, h1]; exact h3, fun x hx => (h4 x hx).1, fun b hb => by have := hP.bm b hb; rw [h1] at this; omega, ?_⟩
  intro i o x ho hx
  show (-1 ≤ o ∧ o < (bs.length : Int)) ∧ (-1 ≤ x ∧ x < (bs.length : Int)) ∧ _ ∧ _
  replace ho : owner[i]? = some o := ho
  replace hx : nxt[i]? = some x := hx
  rcases hP.pk.slot i (lt_of_get ho) with ⟨e1, e2⟩ | ⟨s, c', b, y, row, e1, e2, e3, e4, e5, e6, e7, e8⟩
  · rw [ho] at e1; rw [hx] at e2
    simp at e1 e2
    subst e1; subst e2
    exact ⟨⟨by omega, by omega⟩, ⟨by omega, by omega⟩, Iff.rfl, fun h => absurd h (by decide)⟩
  · rw [ho] at e4; rw [hx] at e8
    simp at e4 e8
    subst e4; subst e8
    have hs := lt_of_get e5
    obtain ⟨hl, hxx⟩ := h5 row (List.mem_of_getElem? e5)
    have hx2 := hxx x (List.mem_of_getElem? e6)
    have hc' := lt_of_get e6
    refine ⟨⟨by omega, by omega⟩, ⟨by omega, by omega⟩, ⟨by omega, by omega⟩, fun _ b' hb' => ?_⟩
    replace hb' : bs[((s : Nat) : Int).toNat]? = some b' := hb'
    rw [Int.toNat_natCast, e2] at hb'
    cases hb'
    show b ≤ i ∧ i < b + c
    omega
theorem many_succ {rows : List (List Int)} {k : Nat} {row : List Int} (h : rows[k]? = some row) : (allF rows (List.range (k + 1))).length = (allF rows (List.range k)).length + (idxs row).length := by
  unfold allF
  rw [List.range_succ, List.flatMap_append, List.length_append]
  simp [rowF, h]
theorem allF_le (rows : List (List Int)) (m : Nat) (h : ∀ row ∈ rows, row.length = m) : ∀ q, (allF rows (List.range q)).length ≤ q * m := by
  intro q
  induction q with
  | zero => simp [allF]
  | succ q ih =>
    unfold allF at ih ⊢
    rw [List.range_succ, List.flatMap_append, List.length_append, Nat.succ_mul]
    have : (rowF rows q).length ≤ m := by
      unfold rowF
      rw [List.length_map]
      cases hq : rows[q]? with
      | none => rw [List.getD_eq_getElem?_getD, hq]; simp [idxs, idxsN]
      | some row => rw [getD_of hq]; have := idxsN_le row row.length; have h2 := h row (List.mem_of_getElem? hq); unfold idxs; omega
    simp at ih ⊢
    omega
theorem TabAt.owner {w : World} {t : Tab} {x0 x1 va vb vo vn : Value} (h : TabAt w t [x0, x1, va, vb, vo, vn]) : IntsAt w vo t.ow := by
  obtain ⟨aa, ac, ba, bc, oa, oc, na, nc, h1, h2, h3, h4, h5⟩ := h
  simp only [List.cons.injEq] at h1
  rw [h1.2.2.2.2.1]; exact h4
theorem used_succ {l : List Int} {k : Nat} {x : Int} (h : l[k]? = some x) : (l.take (k + 1)).countP (fun o => decide (0 ≤ o)) = (l.take k).countP (fun o => decide (0 ≤ o)) + (if 0 ≤ x then 1 else 0) := by
  rw [List.take_add_one, h, List.countP_append]
  by_cases h0 : 0 ≤ x <;> simp [h0]
theorem pack_d (w0 : World) (n c : Nat) (d : Dfa) (vs : List Value) (hd : DfaAt w0 d vs) (h : okDfa n c d) (hn : 1 ≤ n ∧ n < 20) (hc : 1 ≤ c ∧ c ≤ 16) :
    Ret Try.prog 7 #[.agg vs.toArray] w0 fun r w => (∃ (owner nxt : List Int) (bs : List Nat) (aa ba oa na : Option Addr) (ac bc oc nc : Nat), r = .tuple #[.agg #[.int .i64 d.start, .int .i64 ((c : Nat) : Int), .slice aa d.accept.length ac, .slice ba bs.length bc, .slice oa owner.length oc, .slice na nxt.length nc], .int .i64 0] ∧
      TabAt w ⟨d.start, c, d.accept, bs, owner, nxt⟩ [.int .i64 d.start, .int .i64 ((c : Nat) : Int), .slice aa d.accept.length ac, .slice ba bs.length bc, .slice oa owner.length oc, .slice na nxt.length nc] ∧ GoodT ⟨d.start, c, d.accept, bs, owner, nxt⟩ ∧ bs.length = n ∧ owner.length ≤ n * c ∧
      owner.countP (fun o => decide (0 ≤ o)) = (allF d.next (List.range n)).length ∧ (∀ s c' row x, d.next[s]? = some row → row[c']? = some x → atT owner nxt bs s c' = x)) ∧ Ext w0 w := by
  obtain ⟨h1, h2, h3, h4, h5⟩ := h
  obtain ⟨row0, hrow0⟩ := get_of_lt (l := d.next) (i := 0) (by omega)
  have hr0 := (h5 row0 (List.mem_of_getElem? hrow0)).1
  refine (pack_c w0 d vs hd (ok_check ⟨h1, h2, h3, h4, h5⟩ (by omega) hc) (by omega) row0 hrow0 (fun row hr => by rw [hr0]; exact (h5 row hr).1) (by omega)).mono fun r w hr => ?_
  obtain ⟨va, vb, vo, vn, order, owner, nxt, bs, rfl, hA, hB, hO, hN, hperm, hP, hE⟩ := hr
  rw [hr0, h1] at hP
  rw [h1] at hperm
  obtain ⟨aa, ac, rfl⟩ := SlAt.form hA
  obtain ⟨ba, bc, rfl⟩ := SlAt.form hB
  obtain ⟨oa, oc, rfl⟩ := SlAt.form hO
  obtain ⟨na, nc, rfl⟩ := SlAt.form hN
  simp only [List.length_map, natV_len] at hA hB hO hN ⊢
  have hpk := hP.pk
  have hl : order.length = n := by rw [hperm.length_eq]; simp
  rw [← hl, List.take_length] at hpk
  refine ⟨⟨owner, nxt, bs, aa, ba, oa, na, ac, bc, oc, nc, by rw [hr0], ⟨aa, ac, ba, bc, oa, oc, na, nc, rfl, hA, hB, hO, hN⟩, pst_good ⟨h1, h2, h3, h4, h5⟩ hn hc hP, by rw [hP.bl, h1], hP.ol, by rw [hpk.count]; exact allF_perm hperm, ?_⟩, hE⟩
  intro s c' row x hs hx
  have hsl := lt_of_get hs
  exact hpk.at hs hx ((h5 row (List.mem_of_getElem? hs)).2 x (List.mem_of_getElem? hx)).1 (hperm.mem_iff.2 (by simp; omega)) (by rw [hP.bl]; exact hsl)
theorem even_ok : okDfa 2 1 evenD := by
  refine ⟨rfl, rfl, by decide, ?_, ?_⟩
  · intro x hx; simp [evenD] at hx; omega
  · intro row hr
    simp [evenD] at hr
    rcases hr with rfl | rfl <;> simp
set_option maxHeartbeats 8000000 in
theorem tight_c (w0 : World) (v : Value) (l : List Int) (s c : Int) (hl : IntsAt w0 v l) :
    Ret Try.prog 3 #[v, .int .i64 s, .int .i64 c] w0 fun r w => r = .bool true ∧ Ext w0 w := by
  refine Ret_of Try.func3 rfl Try.ntmps3 (Nat.le_of_ble_eq_true rfl) ?_
  have E : Chg none1 w0 w0 := Chg.refl _ _
  refine Wp_seq_region ?_
  refine WpL_val rfl rfl (by decide) (r_assign (v := (.bool false)) rfl) ?_
  refine WpL_nil ?_
  refine Wp_seq ?_
  refine Wp_seq_region ?_
  refine WpL_enter rfl rfl (by decide) (r_callF (vs := []) Try.func8 nm8 bd8 rfl) (even_c _) ?_
  rintro _ w9 ⟨⟨vs0, rfl, hev⟩, X9⟩
  replace E := E.ext X9
  refine WpL_enter rfl rfl (by decide) (r_callF (vs := [(.agg vs0.toArray)]) Try.func7 nm7 bd7 rfl) (pack_d _ 2 1 evenD _ hev even_ok (by omega) (by omega)) ?_
  rintro _ w19 ⟨⟨ow0, nx0, bs0, aa0, ba0, oa0, na0, ac0, bc0, oc0, nc0, rfl, hT0, hG0, hb0, hle0, hcn0, _⟩, X19⟩
  replace E := E.ext X19
  refine WpL_val rfl rfl (by decide) (r_move (v := (.tuple #[(.agg #[(.int .i64 0), (.int .i64 ((1 : Nat) : Int)), (.slice aa0 2 ac0), (.slice ba0 bs0.length bc0), (.slice oa0 ow0.length oc0), (.slice na0 nx0.length nc0)]), (.int .i64 0)])) rfl) ?_
  refine WpL_val rfl rfl (by decide) (r_extract (vs := #[(.agg #[(.int .i64 0), (.int .i64 ((1 : Nat) : Int)), (.slice aa0 2 ac0), (.slice ba0 bs0.length bc0), (.slice oa0 ow0.length oc0), (.slice na0 nx0.length nc0)]), (.int .i64 0)]) (v := (.agg #[(.int .i64 0), (.int .i64 ((1 : Nat) : Int)), (.slice aa0 2 ac0), (.slice ba0 bs0.length bc0), (.slice oa0 ow0.length oc0), (.slice na0 nx0.length nc0)])) rfl rfl) ?_
  refine WpL_val rfl rfl (by decide) (r_extract (vs := #[(.agg #[(.int .i64 0), (.int .i64 ((1 : Nat) : Int)), (.slice aa0 2 ac0), (.slice ba0 bs0.length bc0), (.slice oa0 ow0.length oc0), (.slice na0 nx0.length nc0)]), (.int .i64 0)]) (v := (.int .i64 0)) rfl rfl) ?_
  refine s_allocStore (v := (.agg #[(.int .i64 0), (.int .i64 ((1 : Nat) : Int)), (.slice aa0 2 ac0), (.slice ba0 bs0.length bc0), (.slice oa0 ow0.length oc0), (.slice na0 nx0.length nc0)])) (c := #[(.int .i64 0), (.int .i64 ((1 : Nat) : Int)), (.slice aa0 2 ac0), (.slice ba0 bs0.length bc0), (.slice oa0 ow0.length oc0), (.slice na0 nx0.length nc0)]) (n := 6) (by decide) zer24 rfl siz24 rfl rfl rfl (by simp [Value.oneCell']) ?_
  intro bt wt Nt
  have Ft := Nt.ge E
  replace E := E.ext Nt.ext
  have Bt := Nt.blk
  refine WpL_val rfl rfl (by decide) (r_assign (v := (.int .i64 0)) rfl) ?_
  refine WpL_nil ?_
  refine Wp_seq_region ?_
  refine WpL_val rfl rfl (by decide) (r_move (v := (.int .i64 0)) rfl) ?_
  refine WpL_val rfl rfl (by decide) (r_neq (k := .i64) (a := 0) (b := 0) rfl rfl) ?_
  refine WpL_val rfl rfl (by decide) (r_move (v := (.bool false)) rfl) ?_
  refine WpL_guard_yes (oj := _) rfl rfl (by decide) rfl ?_
  refine WpL_val rfl rfl (by decide) (r_fieldAddr (b := bt) (o := 0) (o' := 4) rfl Try.underlying24 rfl siz22 rfl) ?_
  refine WpL_guard_yes (oj := _) rfl rfl (by decide) rfl ?_
  refine WpL_val rfl rfl (by decide) (r_load (v := (.slice oa0 ow0.length oc0)) rfl flat22 (Bt.cell rfl)) ?_
  refine WpL_guard_yes (oj := _) rfl rfl (by decide) rfl ?_
  refine WpL_val rfl rfl (by decide) (r_lenSlice (ad := oa0) (n := ow0.length) (cap := oc0) Try.underlying22 rfl) ?_
  refine WpL_guard_yes (oj := _) rfl rfl (by decide) rfl ?_
  refine WpL_val rfl rfl (by decide) (r_neq (k := .i64) (a := ((ow0.length : Nat) : Int)) (b := 2) rfl rfl) ?_
  refine WpL_val rfl rfl (by decide) (r_pick (b := false) (v := (.bool (decide ((((ow0.length : Nat) : Int) : Int) ≠ 2)))) rfl rfl) ?_
  refine WpL_nil ?_
  have hl0 : ow0.length = 2 := by have h9 := List.countP_le_length (p := fun o : Int => decide (0 ≤ o)) (l := ow0); have h8 : (allF evenD.next (List.range 2)).length = 2 := (by decide); omega
  have hc1 : (decide ((((ow0.length : Nat) : Int) : Int) ≠ 2)) = false := decide_eq_false (by omega)
  refine Wp_cond_false (congrArg Value.bool hc1) ?_
  refine Wp_skip ?_
  refine thn_normal ?_
  refine Wp_seq_region ?_
  refine WpL_val rfl rfl (by decide) (r_move (v := v) rfl) ?_
  refine WpL_enter rfl rfl (by decide) (r_callF (vs := [v]) Try.func9 nm9 bd9 rfl) (mkDfa_c _ v l (hl.ext E)) ?_
  rintro _ w29 ⟨n, m, d, _, hn, hm, hok, rfl, ⟨aa, ac, na, nc, rfl, haa, hnn⟩, X29⟩
  replace Bt := X29.keep Bt
  replace E := E.ext X29
  obtain ⟨k1, k2, k3, k4, k5⟩ := hok
  have hda : DfaAt w29 d _ := ⟨aa, ac, na, nc, rfl, haa, hnn⟩
  obtain ⟨nb, no, rfl, hncl⟩ := intss_cells hnn (by omega)
  obtain ⟨row0, hrow0⟩ := get_of_lt (l := d.next) (i := 0) (by omega)
  obtain ⟨ra0, rc0, hcell0, hints0⟩ := hncl 0 row0 hrow0
  have hr0 := (k5 row0 (List.mem_of_getElem? hrow0)).1
  obtain ⟨wz, hwz⟩ : ∃ wz, wz = w29 := ⟨_, rfl⟩
  rw [← hwz] at hda hncl hcell0 hints0
  have E5 : Chg none1 wz w29 := by rw [hwz]; exact Chg.refl _ _
  refine s_allocStore (v := (.agg #[(.int .i64 d.start), (.slice aa d.accept.length ac), (.slice (some ⟨nb, no, none⟩) d.next.length nc)])) (c := #[(.int .i64 d.start), (.slice aa d.accept.length ac), (.slice (some ⟨nb, no, none⟩) d.next.length nc)]) (n := 3) (by decide) zer30 rfl siz30 rfl rfl rfl (by simp [Value.oneCell']) ?_
  intro bd wd Nd
  have Fd := Nd.ge E
  have Fd_E5 := Nd.ge E5
  have Od_bt := Nd.lt Bt
  replace Bt := Nd.keep Bt
  replace E := E.ext Nd.ext
  have Bd := Nd.blk
  replace E5 := E5.ext Nd.ext
  refine WpL_nil ?_
  refine Wp_seq_region ?_
  refine WpL_val rfl rfl (by decide) (r_loadAgg (vs := [(.int .i64 d.start), (.slice aa d.accept.length ac), (.slice (some ⟨nb, no, none⟩) d.next.length nc)]) rfl agg30 siz30 rfl (Bd.cells rfl)) ?_
  refine WpL_enter rfl rfl (by decide) (r_callF (vs := [(.agg #[(.int .i64 d.start), (.slice aa d.accept.length ac), (.slice (some ⟨nb, no, none⟩) d.next.length nc)])]) Try.func7 nm7 bd7 rfl) (pack_d _ n m d _ (hda.ext E5) ⟨k1, k2, k3, k4, k5⟩ (by omega) (by omega)) ?_
  rintro _ w39 ⟨⟨ow, nx, bs, aa2, ba2, oa2, na2, ac2, bc2, oc2, nc2, rfl, hT, hG, hbl, hle, hcn, hat⟩, X39⟩
  replace Bt := X39.keep Bt
  replace Bd := X39.keep Bd
  replace E := E.ext X39
  replace E5 := E5.ext X39
  have hnm : n * m ≤ 6 * 3 := Nat.mul_le_mul hn.2 hm.2
  have hal : ∀ q, (allF d.next (List.range q)).length ≤ q * m := allF_le d.next m (fun row hr => (k5 row hr).1)
  refine WpL_val rfl rfl (by decide) (r_move (v := (.tuple #[(.agg #[(.int .i64 d.start), (.int .i64 ((m : Nat) : Int)), (.slice aa2 d.accept.length ac2), (.slice ba2 bs.length bc2), (.slice oa2 ow.length oc2), (.slice na2 nx.length nc2)]), (.int .i64 0)])) rfl) ?_
  refine WpL_val rfl rfl (by decide) (r_extract (vs := #[(.agg #[(.int .i64 d.start), (.int .i64 ((m : Nat) : Int)), (.slice aa2 d.accept.length ac2), (.slice ba2 bs.length bc2), (.slice oa2 ow.length oc2), (.slice na2 nx.length nc2)]), (.int .i64 0)]) (v := (.agg #[(.int .i64 d.start), (.int .i64 ((m : Nat) : Int)), (.slice aa2 d.accept.length ac2), (.slice ba2 bs.length bc2), (.slice oa2 ow.length oc2), (.slice na2 nx.length nc2)])) rfl rfl) ?_
  refine WpL_val rfl rfl (by decide) (r_extract (vs := #[(.agg #[(.int .i64 d.start), (.int .i64 ((m : Nat) : Int)), (.slice aa2 d.accept.length ac2), (.slice ba2 bs.length bc2), (.slice oa2 ow.length oc2), (.slice na2 nx.length nc2)]), (.int .i64 0)]) (v := (.int .i64 0)) rfl rfl) ?_
  refine s_allocStore (v := (.agg #[(.int .i64 d.start), (.int .i64 ((m : Nat) : Int)), (.slice aa2 d.accept.length ac2), (.slice ba2 bs.length bc2), (.slice oa2 ow.length oc2), (.slice na2 nx.length nc2)])) (c := #[(.int .i64 d.start), (.int .i64 ((m : Nat) : Int)), (.slice aa2 d.accept.length ac2), (.slice ba2 bs.length bc2), (.slice oa2 ow.length oc2), (.slice na2 nx.length nc2)]) (n := 6) (by decide) zer24 rfl siz24 rfl rfl rfl (by simp [Value.oneCell']) ?_
  intro be we Ne
  have Fe := Ne.ge E
  have Fe_E5 := Ne.ge E5
  have Oe_bt := Ne.lt Bt
  have Oe_bd := Ne.lt Bd
  replace Bt := Ne.keep Bt
  replace Bd := Ne.keep Bd
  replace hT := hT.ext Ne.ext
  replace E := E.ext Ne.ext
  have Be := Ne.blk
  replace E5 := E5.ext Ne.ext
  refine WpL_val rfl rfl (by decide) (r_assign (v := (.int .i64 0)) rfl) ?_
  refine WpL_nil ?_
  refine Wp_seq ?_
  refine Wp_seq_region ?_
  refine WpL_val rfl rfl (by decide) (r_move (v := (.int .i64 0)) rfl) ?_
  refine WpL_val rfl rfl (by decide) (r_neq (k := .i64) (a := 0) (b := 0) rfl rfl) ?_
  refine WpL_nil ?_
  refine Wp_cond_false rfl ?_
  refine Wp_skip ?_
  refine thn_normal ?_
  refine Wp_seq_region ?_
  refine WpL_val rfl rfl (by decide) (r_assign (v := (.int .i64 0)) rfl) ?_
  refine WpL_val rfl rfl (by decide) (r_assign (v := (.int .i64 0)) rfl) ?_
  refine WpL_nil ?_
  refine Wp_seq ?_
  refine Wp_seq_region ?_
  refine WpL_val rfl rfl (by decide) (r_fieldAddr (b := bd) (o := 0) (o' := 2) rfl Try.underlying30 rfl siz28 rfl) ?_
  refine WpL_val rfl rfl (by decide) (r_load (v := (.slice (some ⟨nb, no, none⟩) d.next.length nc)) rfl flat28 (Bd.cell rfl)) ?_
  refine WpL_val rfl rfl (by decide) (r_lenSlice (ad := some ⟨nb, no, none⟩) (n := d.next.length) (cap := nc) Try.underlying28 rfl) ?_
  refine WpL_val rfl rfl (by decide) (r_move (v := (.int .i64 0)) rfl) ?_
  refine WpL_nil ?_
  refine Wp_block ?_
  refine Wp_loop (fun nn_ σ W2 => ∃ (k u : Nat), (∃ jj_, σ = upds jj_ [(1, (.int .i64 s)), (2, (.int .i64 c)), (9, (.pointer (some ⟨bd, 0, none⟩))), (10, (.pointer (some ⟨be, 0, none⟩))), (13, (.int .i64 0)), (44, (.slice (some ⟨nb, no, none⟩) d.next.length nc)), (45, (.int .i64 ((d.next.length : Nat) : Int))), (46, (.int .i64 ((k : Nat) : Int))), (12, (.int .i64 ((u : Nat) : Int)))]) ∧ Chg none1 w0 W2 ∧ Chg none1 wz W2 ∧ Blk W2 bt #[(.int .i64 0), (.int .i64 ((1 : Nat) : Int)), (.slice aa0 2 ac0), (.slice ba0 bs0.length bc0), (.slice oa0 ow0.length oc0), (.slice na0 nx0.length nc0)] 24 ∧ Blk W2 bd #[(.int .i64 d.start), (.slice aa d.accept.length ac), (.slice (some ⟨nb, no, none⟩) d.next.length nc)] 30 ∧ Blk W2 be #[(.int .i64 d.start), (.int .i64 ((m : Nat) : Int)), (.slice aa2 d.accept.length ac2), (.slice ba2 bs.length bc2), (.slice oa2 ow.length oc2), (.slice na2 nx.length nc2)] 24 ∧ (k ≤ d.next.length) ∧ (u = (allF d.next (List.range k)).length) ∧ (TabAt W2 ⟨d.start, m, d.accept, bs, ow, nx⟩ [.int .i64 d.start, .int .i64 ((m : Nat) : Int), .slice aa2 d.accept.length ac2, .slice ba2 bs.length bc2, .slice oa2 ow.length oc2, .slice na2 nx.length nc2]) ∧ nn_ = d.next.length - k) (n := d.next.length - 0) ?_ ?_
  · exact ⟨0, 0, Fits.out ⟨rfl, rfl, rfl, rfl, rfl, rfl, rfl, rfl, rfl, trivial⟩, E, E5, Bt, Bd, Be, Nat.zero_le _, rfl, hT, rfl⟩
  · clear E E5 Bt Bd Be
    rintro _ _ W2 ⟨k, u, ⟨j2, rfl⟩, E, E5, Bt, Bd, Be, hk, hu, hT, rfl⟩
    refine Wp_seq_region ?_
    refine WpL_val rfl rfl (by decide) (r_lss (k := .i64) (a := ((k : Nat) : Int)) (b := ((d.next.length : Nat) : Int)) rfl rfl) ?_
    refine WpL_nil ?_
    refine Wp_seq ?_
    refine Wp_cond (b := decide ((((k : Nat) : Int) : Int) < ((d.next.length : Nat) : Int))) rfl (fun hlt => ?_) (fun hlt => ?_)
    · have khlt := hlt
      replace hlt := of_decide_eq_true hlt
      obtain ⟨row, hrow⟩ := get_of_lt (l := d.next) (i := k) (by omega)
      obtain ⟨ra, rc, hcell, hints⟩ := hncl k row hrow
      have hrl := (k5 row (List.mem_of_getElem? hrow)).1
      have hkm : (k + 1) * m ≤ 6 * 3 := Nat.mul_le_mul (by omega) hm.2
      have hak := hal (k + 1)
      have hsu := many_succ hrow
      refine Wp_skip ?_
      refine thn_normal ?_
      refine Wp_seq ?_
      refine Wp_block ?_
      refine Wp_seq_region ?_
      refine WpL_val rfl rfl (by decide) (r_indexSlice (b := nb) (o := no) (len := d.next.length) (cap := nc) (i := k) (o' := no + k) rfl rfl rfl Try.underlying28 siz22 (by omega) (by omega)) ?_
      refine WpL_val rfl rfl (by decide) (r_load (v := (.slice ra row.length rc)) rfl flat22 (E5.cell (fun f => f) hcell)) ?_
      refine WpL_val rfl rfl (by decide) (r_assign (v := (.slice ra row.length rc)) rfl) ?_
      refine WpL_nil ?_
      refine Wp_seq_region ?_
      refine WpL_val rfl rfl (by decide) (r_move (v := (.slice ra row.length rc)) rfl) ?_
      refine WpL_val rfl rfl (by decide) (r_lenSlice (ad := ra) (n := row.length) (cap := rc) Try.underlying22 rfl) ?_
      refine WpL_val rfl rfl (by decide) (r_move (v := (.int .i64 0)) rfl) ?_
      refine WpL_nil ?_
      refine Wp_block ?_
      refine Wp_loop (fun nn_ σ W4 => ∃ (i u2 : Nat), (∃ jj_, σ = upds jj_ [(1, (.int .i64 s)), (2, (.int .i64 c)), (9, (.pointer (some ⟨bd, 0, none⟩))), (10, (.pointer (some ⟨be, 0, none⟩))), (13, (.int .i64 0)), (44, (.slice (some ⟨nb, no, none⟩) d.next.length nc)), (45, (.int .i64 ((d.next.length : Nat) : Int))), (46, (.int .i64 ((k : Nat) : Int))), (50, (.slice ra row.length rc)), (51, (.int .i64 ((row.length : Nat) : Int))), (52, (.int .i64 ((i : Nat) : Int))), (12, (.int .i64 ((u2 : Nat) : Int)))]) ∧ Chg none1 w0 W4 ∧ Chg none1 wz W4 ∧ Blk W4 bt #[(.int .i64 0), (.int .i64 ((1 : Nat) : Int)), (.slice aa0 2 ac0), (.slice ba0 bs0.length bc0), (.slice oa0 ow0.length oc0), (.slice na0 nx0.length nc0)] 24 ∧ Blk W4 bd #[(.int .i64 d.start), (.slice aa d.accept.length ac), (.slice (some ⟨nb, no, none⟩) d.next.length nc)] 30 ∧ Blk W4 be #[(.int .i64 d.start), (.int .i64 ((m : Nat) : Int)), (.slice aa2 d.accept.length ac2), (.slice ba2 bs.length bc2), (.slice oa2 ow.length oc2), (.slice na2 nx.length nc2)] 24 ∧ (i ≤ row.length) ∧ (u2 = (allF d.next (List.range k)).length + (idxsN row i).length) ∧ (TabAt W4 ⟨d.start, m, d.accept, bs, ow, nx⟩ [.int .i64 d.start, .int .i64 ((m : Nat) : Int), .slice aa2 d.accept.length ac2, .slice ba2 bs.length bc2, .slice oa2 ow.length oc2, .slice na2 nx.length nc2]) ∧ nn_ = row.length - i) (n := row.length - 0) ?_ ?_
      · exact ⟨0, u, Fits.out ⟨rfl, rfl, rfl, rfl, rfl, rfl, rfl, rfl, rfl, rfl, rfl, rfl, trivial⟩, E, E5, Bt, Bd, Be, Nat.zero_le _, (by rw [hu]; rfl), hT, rfl⟩
      · clear E E5 Bt Bd Be
        rintro _ _ W4 ⟨i, u2, ⟨j4, rfl⟩, E, E5, Bt, Bd, Be, hi, hu2, hT, rfl⟩
        refine Wp_seq_region ?_
        refine WpL_val rfl rfl (by decide) (r_lss (k := .i64) (a := ((i : Nat) : Int)) (b := ((row.length : Nat) : Int)) rfl rfl) ?_
        refine WpL_nil ?_
        refine Wp_seq ?_
        refine Wp_cond (b := decide ((((i : Nat) : Int) : Int) < ((row.length : Nat) : Int))) rfl (fun hlt2 => ?_) (fun hlt2 => ?_)
        · have khlt2 := hlt2
          replace hlt2 := of_decide_eq_true hlt2
          obtain ⟨x, hx⟩ := get_of_lt (l := row) (i := i) (by omega)
          obtain ⟨rb, ro, hra, hrc⟩ := ints_cells hints (by omega)
          subst hra
          have hsucc := idxsN_succ hx
          have hmle := idxsN_le row i
          have hamk := hal k
          have hkm2 : k * m ≤ 6 * 3 := Nat.mul_le_mul (by omega) hm.2
          refine Wp_skip ?_
          refine thn_normal ?_
          refine Wp_seq ?_
          refine Wp_block ?_
          refine Wp_seq_region ?_
          refine WpL_val rfl rfl (by decide) (r_indexSlice (b := rb) (o := ro) (len := row.length) (cap := rc) (i := i) (o' := ro + i) rfl rfl rfl Try.underlying22 siz3 (by omega) (by omega)) ?_
          refine WpL_val rfl rfl (by decide) (r_load (v := (.int .i64 x)) rfl flat3 (E5.cell (fun f => f) (hrc i x hx))) ?_
          refine WpL_val rfl rfl (by decide) (r_assign (v := (.int .i64 x)) rfl) ?_
          refine WpL_nil ?_
          refine Wp_seq_region ?_
          refine WpL_val rfl rfl (by decide) (r_move (v := (.int .i64 x)) rfl) ?_
          refine WpL_val rfl rfl (by decide) (r_geq (k := .i64) (a := x) (b := 0) rfl rfl) ?_
          refine WpL_nil ?_
          refine Wp_cond (b := decide ((0 : Int) ≤ x)) rfl (fun h0 => ?_) (fun h0 => ?_)
          · have kh0 := h0
            replace h0 := of_decide_eq_true h0
            refine Wp_region ?_
            refine WpL_val rfl rfl (by decide) (r_move (v := (.int .i64 ((u2 : Nat) : Int))) rfl) ?_
            refine WpL_val rfl rfl (by decide) (r_add (k := .i64) (a := ((u2 : Nat) : Int)) (b := 1) (c := ((u2 : Nat) : Int) + 1) rfl rfl (wI64 (by omega))) ?_
            refine WpL_val rfl rfl (by decide) (r_assign (v := (.int .i64 (((u2 : Nat) : Int) + 1))) rfl) ?_
            refine WpL_nil ?_
            refine inB_normal ?_
            refine thn_normal ?_
            refine Wp_region ?_
            refine WpL_val rfl rfl (by decide) (r_add (k := .i64) (a := ((i : Nat) : Int)) (b := 1) (c := ((i : Nat) : Int) + 1) rfl rfl (wI64 (by omega))) ?_
            refine WpL_val rfl rfl (by decide) (r_move (v := (.int .i64 (((i : Nat) : Int) + 1))) rfl) ?_
            refine WpL_nil ?_
            refine thn_normal ?_
            exact ⟨row.length - (i + 1), by omega, i + 1, u2 + 1, Fits.out ⟨rfl, rfl, rfl, rfl, rfl, rfl, rfl, rfl, rfl, rfl, rfl, rfl, trivial⟩, E, E5, Bt, Bd, Be, (by omega), (by rw [hsucc, if_pos h0, hu2]; simp; omega), hT, rfl⟩
          · have kh0 := h0
            replace h0 := of_decide_eq_false h0
            refine Wp_skip ?_
            refine inB_normal ?_
            refine thn_normal ?_
            refine Wp_region ?_
            refine WpL_val rfl rfl (by decide) (r_add (k := .i64) (a := ((i : Nat) : Int)) (b := 1) (c := ((i : Nat) : Int) + 1) rfl rfl (wI64 (by omega))) ?_
            refine WpL_val rfl rfl (by decide) (r_move (v := (.int .i64 (((i : Nat) : Int) + 1))) rfl) ?_
            refine WpL_nil ?_
            refine thn_normal ?_
            exact ⟨row.length - (i + 1), by omega, i + 1, u2, Fits.out ⟨rfl, rfl, rfl, rfl, rfl, rfl, rfl, rfl, rfl, rfl, rfl, rfl, trivial⟩, E, E5, Bt, Bd, Be, (by omega), (by rw [hsucc, if_neg h0, hu2]; simp), hT, rfl⟩
        · have khlt2 := hlt2
          replace hlt2 := of_decide_eq_false hlt2
          have hii : i = row.length := by omega
          refine Wp_exit ?_
          refine thn_exit ?_
          refine thn_exit ?_
          refine inB_here ?_
          refine inB_normal ?_
          refine thn_normal ?_
          refine Wp_region ?_
          refine WpL_val rfl rfl (by decide) (r_add (k := .i64) (a := ((k : Nat) : Int)) (b := 1) (c := ((k : Nat) : Int) + 1) rfl rfl (wI64 (by omega))) ?_
          refine WpL_val rfl rfl (by decide) (r_move (v := (.int .i64 (((k : Nat) : Int) + 1))) rfl) ?_
          refine WpL_nil ?_
          refine thn_normal ?_
          exact ⟨d.next.length - (k + 1), by omega, k + 1, u2, Fits.out ⟨rfl, rfl, rfl, rfl, rfl, rfl, rfl, rfl, rfl, trivial⟩, E, E5, Bt, Bd, Be, (by omega), (by rw [hsu, hu2, hii]; rfl), hT, rfl⟩
    · have khlt := hlt
      replace hlt := of_decide_eq_false hlt
      have hkk : k = n := by omega
      refine Wp_exit ?_
      refine thn_exit ?_
      refine thn_exit ?_
      refine inB_here ?_
      refine thn_normal ?_
      refine Wp_seq ?_
      refine Wp_seq_region ?_
      refine WpL_val rfl rfl (by decide) (r_fieldAddr (b := be) (o := 0) (o' := 4) rfl Try.underlying24 rfl siz22 rfl) ?_
      refine WpL_val rfl rfl (by decide) (r_load (v := (.slice oa2 ow.length oc2)) rfl flat22 (Be.cell rfl)) ?_
      refine WpL_val rfl rfl (by decide) (r_lenSlice (ad := oa2) (n := ow.length) (cap := oc2) Try.underlying22 rfl) ?_
      refine WpL_val rfl rfl (by decide) (r_move (v := (.int .i64 0)) rfl) ?_
      refine WpL_nil ?_
      refine Wp_block ?_
      refine Wp_loop (fun nn_ σ W7 => ∃ (j u3 : Nat), (∃ jj_, σ = upds jj_ [(1, (.int .i64 s)), (2, (.int .i64 c)), (9, (.pointer (some ⟨bd, 0, none⟩))), (10, (.pointer (some ⟨be, 0, none⟩))), (12, (.int .i64 ((u : Nat) : Int))), (63, (.slice oa2 ow.length oc2)), (64, (.int .i64 ((ow.length : Nat) : Int))), (65, (.int .i64 ((j : Nat) : Int))), (13, (.int .i64 ((u3 : Nat) : Int)))]) ∧ Chg none1 w0 W7 ∧ Chg none1 wz W7 ∧ Blk W7 bt #[(.int .i64 0), (.int .i64 ((1 : Nat) : Int)), (.slice aa0 2 ac0), (.slice ba0 bs0.length bc0), (.slice oa0 ow0.length oc0), (.slice na0 nx0.length nc0)] 24 ∧ Blk W7 bd #[(.int .i64 d.start), (.slice aa d.accept.length ac), (.slice (some ⟨nb, no, none⟩) d.next.length nc)] 30 ∧ Blk W7 be #[(.int .i64 d.start), (.int .i64 ((m : Nat) : Int)), (.slice aa2 d.accept.length ac2), (.slice ba2 bs.length bc2), (.slice oa2 ow.length oc2), (.slice na2 nx.length nc2)] 24 ∧ (j ≤ ow.length) ∧ (u3 = (ow.take j).countP (fun o => decide (0 ≤ o))) ∧ (TabAt W7 ⟨d.start, m, d.accept, bs, ow, nx⟩ [.int .i64 d.start, .int .i64 ((m : Nat) : Int), .slice aa2 d.accept.length ac2, .slice ba2 bs.length bc2, .slice oa2 ow.length oc2, .slice na2 nx.length nc2]) ∧ nn_ = ow.length - j) (n := ow.length - 0) ?_ ?_
      · exact ⟨0, 0, Fits.out ⟨rfl, rfl, rfl, rfl, rfl, rfl, rfl, rfl, rfl, trivial⟩, E, E5, Bt, Bd, Be, Nat.zero_le _, rfl, hT, rfl⟩
      · clear E E5 Bt Bd Be
        rintro _ _ W7 ⟨j, u3, ⟨j7, rfl⟩, E, E5, Bt, Bd, Be, hj, hu3, hT, rfl⟩
        refine Wp_seq_region ?_
        refine WpL_val rfl rfl (by decide) (r_lss (k := .i64) (a := ((j : Nat) : Int)) (b := ((ow.length : Nat) : Int)) rfl rfl) ?_
        refine WpL_nil ?_
        refine Wp_seq ?_
        refine Wp_cond (b := decide ((((j : Nat) : Int) : Int) < ((ow.length : Nat) : Int))) rfl (fun hlt => ?_) (fun hlt => ?_)
        · have khlt := hlt
          replace hlt := of_decide_eq_true hlt
          obtain ⟨x, hx⟩ := get_of_lt (l := ow) (i := j) (by omega)
          have hus := used_succ hx
          have hcl := List.countP_le_length (p := fun o : Int => decide (0 ≤ o)) (l := ow.take j)
          have hcl2 : (ow.take j).length ≤ j := by simp; omega
          obtain ⟨ob, oo, hoa, hocl⟩ := ints_cells hT.owner (by show 0 < ow.length; omega)
          subst hoa
          refine Wp_skip ?_
          refine thn_normal ?_
          refine Wp_seq ?_
          refine Wp_block ?_
          refine Wp_seq_region ?_
          refine WpL_val rfl rfl (by decide) (r_indexSlice (b := ob) (o := oo) (len := ow.length) (cap := oc2) (i := j) (o' := oo + j) rfl rfl rfl Try.underlying22 siz3 (by omega) (by omega)) ?_
          refine WpL_val rfl rfl (by decide) (r_load (v := (.int .i64 x)) rfl flat3 (hocl j x hx)) ?_
          refine WpL_val rfl rfl (by decide) (r_assign (v := (.int .i64 x)) rfl) ?_
          refine WpL_nil ?_
          refine Wp_seq_region ?_
          refine WpL_val rfl rfl (by decide) (r_move (v := (.int .i64 x)) rfl) ?_
          refine WpL_val rfl rfl (by decide) (r_geq (k := .i64) (a := x) (b := 0) rfl rfl) ?_
          refine WpL_nil ?_
          refine Wp_cond (b := decide ((0 : Int) ≤ x)) rfl (fun h0 => ?_) (fun h0 => ?_)
          · have kh0 := h0
            replace h0 := of_decide_eq_true h0
            refine Wp_region ?_
            refine WpL_val rfl rfl (by decide) (r_move (v := (.int .i64 ((u3 : Nat) : Int))) rfl) ?_
            refine WpL_val rfl rfl (by decide) (r_add (k := .i64) (a := ((u3 : Nat) : Int)) (b := 1) (c := ((u3 : Nat) : Int) + 1) rfl rfl (wI64 (by omega))) ?_
            refine WpL_val rfl rfl (by decide) (r_assign (v := (.int .i64 (((u3 : Nat) : Int) + 1))) rfl) ?_
            refine WpL_nil ?_
            refine inB_normal ?_
            refine thn_normal ?_
            refine Wp_region ?_
            refine WpL_val rfl rfl (by decide) (r_add (k := .i64) (a := ((j : Nat) : Int)) (b := 1) (c := ((j : Nat) : Int) + 1) rfl rfl (wI64 (by omega))) ?_
            refine WpL_val rfl rfl (by decide) (r_move (v := (.int .i64 (((j : Nat) : Int) + 1))) rfl) ?_
            refine WpL_nil ?_
            refine thn_normal ?_
            exact ⟨ow.length - (j + 1), by omega, j + 1, u3 + 1, Fits.out ⟨rfl, rfl, rfl, rfl, rfl, rfl, rfl, rfl, rfl, trivial⟩, E, E5, Bt, Bd, Be, (by omega), (by rw [hus, if_pos h0, hu3]), hT, rfl⟩
          · have kh0 := h0
            replace h0 := of_decide_eq_false h0
            refine Wp_skip ?_
            refine inB_normal ?_
            refine thn_normal ?_
            refine Wp_region ?_
            refine WpL_val rfl rfl (by decide) (r_add (k := .i64) (a := ((j : Nat) : Int)) (b := 1) (c := ((j : Nat) : Int) + 1) rfl rfl (wI64 (by omega))) ?_
            refine WpL_val rfl rfl (by decide) (r_move (v := (.int .i64 (((j : Nat) : Int) + 1))) rfl) ?_
            refine WpL_nil ?_
            refine thn_normal ?_
            exact ⟨ow.length - (j + 1), by omega, j + 1, u3, Fits.out ⟨rfl, rfl, rfl, rfl, rfl, rfl, rfl, rfl, rfl, trivial⟩, E, E5, Bt, Bd, Be, (by omega), (by rw [hus, if_neg h0, hu3]; rfl), hT, rfl⟩
        · have khlt := hlt
          replace hlt := of_decide_eq_false hlt
          have hjj : j = ow.length := by omega
          have hue : u = u3 := by rw [hu, hu3, hjj, List.take_length, hcn, hkk]
          have z1 := Int.emod_nonneg s (b := ((d.next.length : Nat) : Int)) (by omega)
          have z2 := Int.emod_lt_of_pos s (b := ((d.next.length : Nat) : Int)) (by omega)
          have z3 := Int.emod_nonneg c (b := ((row0.length : Nat) : Int)) (by omega)
          have z4 := Int.emod_lt_of_pos c (b := ((row0.length : Nat) : Int)) (by omega)
          obtain ⟨s1, hs1⟩ : ∃ s1 : Nat, s % ((d.next.length : Nat) : Int) = ((s1 : Nat) : Int) := ⟨_, (Int.toNat_of_nonneg z1).symm⟩
          obtain ⟨c1, hc1⟩ : ∃ c1 : Nat, c % ((row0.length : Nat) : Int) = ((c1 : Nat) : Int) := ⟨_, (Int.toNat_of_nonneg z3).symm⟩
          obtain ⟨row, hrow⟩ := get_of_lt (l := d.next) (i := s1) (by omega)
          obtain ⟨ra, rc, hcell, hints⟩ := hncl s1 row hrow
          have hrl := (k5 row (List.mem_of_getElem? hrow)).1
          obtain ⟨x, hx⟩ := get_of_lt (l := row) (i := c1) (by omega)
          obtain ⟨rb, ro, hra, hrc⟩ := ints_cells hints (by omega)
          subst hra
          refine Wp_exit ?_
          refine thn_exit ?_
          refine thn_exit ?_
          refine inB_here ?_
          refine thn_normal ?_
          refine Wp_seq ?_
          obtain ⟨Fs10, hFs10⟩ : ∃ Fs : List (FactT (none1)), Fs = [.eq (.int .i64 s), .eq (.pointer (some ⟨bd, 2, none⟩)), .eq (.slice (some ⟨nb, no, none⟩) d.next.length nc), .eq (.int .i64 ((d.next.length : Nat) : Int)), .gen (fun v _ => v = .int .i64 ((s1 : Nat) : Int)) (fun _ _ _ _ h => h), .eq (.int .i64 c), .eq (.pointer (some ⟨bd, 2, none⟩)), .eq (.slice (some ⟨nb, no, none⟩) d.next.length nc), .eq (.pointer (some ⟨nb, no + 0, none⟩)), .eq (.slice ra0 row0.length rc0), .eq (.int .i64 ((row0.length : Nat) : Int)), .gen (fun v _ => v = .int .i64 ((c1 : Nat) : Int)) (fun _ _ _ _ h => h)] := ⟨_, rfl⟩
          refine Wp_dagT (none1) 12 11 [74, 75, 76, 77, 78, 79, 80, 81, 82, 83, 84, 85] [[], [], [1], [2], [0, 3], [], [], [6], [7], [8], [9], [4, 5, 10]] Fs10 hFs10 rfl mixed (by kernel_rfl) (by kernel_rfl) (by kernel_rfl) ?_ ?_
          · intro wd X0
            refine DagStepsT.cons (fun s' w' X U H => ?_) ?_
            · exact DoesT_val (r_move (v := (.int .i64 s)) (U 1 rfl)) (Chg.refl _ _) rfl
            refine DagStepsT.cons (fun s' w' X U H => ?_) ?_
            · exact DoesT_val (r_fieldAddr (b := bd) (o := 0) (o' := 2) (U 9 rfl) Try.underlying30 rfl siz28 rfl) (Chg.refl _ _) rfl
            refine DagStepsT.cons (fun s' w' X U H => ?_) ?_
            · have e75 : s' 75 = (.pointer (some ⟨bd, 2, none⟩)) := H 1 rfl 75 (.eq (.pointer (some ⟨bd, 2, none⟩))) rfl (by rw [hFs10]; rfl)
              exact DoesT_val (r_load (v := (.slice (some ⟨nb, no, none⟩) d.next.length nc)) e75 flat28 ((Chg.keep X (fun f => f) (X0.keep Bd)).cell rfl)) (Chg.refl _ _) rfl
            refine DagStepsT.cons (fun s' w' X U H => ?_) ?_
            · have e76 : s' 76 = (.slice (some ⟨nb, no, none⟩) d.next.length nc) := H 2 rfl 76 (.eq (.slice (some ⟨nb, no, none⟩) d.next.length nc)) rfl (by rw [hFs10]; rfl)
              exact DoesT_val (r_lenSlice (ad := some ⟨nb, no, none⟩) (n := d.next.length) (cap := nc) Try.underlying28 e76) (Chg.refl _ _) rfl
            refine DagStepsT.cons (fun s' w' X U H => ?_) ?_
            · have e74 : s' 74 = (.int .i64 s) := H 0 rfl 74 (.eq (.int .i64 s)) rfl (by rw [hFs10]; rfl)
              have e77 : s' 77 = (.int .i64 ((d.next.length : Nat) : Int)) := H 3 rfl 77 (.eq (.int .i64 ((d.next.length : Nat) : Int))) rfl (by rw [hFs10]; rfl)
              exact DoesT_enter (r_callF (vs := [(.int .i64 s), (.int .i64 ((d.next.length : Nat) : Int))]) Try.func10 nm10 bd10 (lst2 e74 e77)) ((below_c s _ (by omega) (by omega) _).mono (fun v w h => ⟨h.1.trans (by rw [hs1]), by rw [h.2]; exact Chg.refl _ _⟩))
            refine DagStepsT.cons (fun s' w' X U H => ?_) ?_
            · exact DoesT_val (r_move (v := (.int .i64 c)) (U 2 rfl)) (Chg.refl _ _) rfl
            refine DagStepsT.cons (fun s' w' X U H => ?_) ?_
            · exact DoesT_val (r_fieldAddr (b := bd) (o := 0) (o' := 2) (U 9 rfl) Try.underlying30 rfl siz28 rfl) (Chg.refl _ _) rfl
            refine DagStepsT.cons (fun s' w' X U H => ?_) ?_
            · have e80 : s' 80 = (.pointer (some ⟨bd, 2, none⟩)) := H 6 rfl 80 (.eq (.pointer (some ⟨bd, 2, none⟩))) rfl (by rw [hFs10]; rfl)
              exact DoesT_val (r_load (v := (.slice (some ⟨nb, no, none⟩) d.next.length nc)) e80 flat28 ((Chg.keep X (fun f => f) (X0.keep Bd)).cell rfl)) (Chg.refl _ _) rfl
            refine DagStepsT.cons (fun s' w' X U H => ?_) ?_
            · have e81 : s' 81 = (.slice (some ⟨nb, no, none⟩) d.next.length nc) := H 7 rfl 81 (.eq (.slice (some ⟨nb, no, none⟩) d.next.length nc)) rfl (by rw [hFs10]; rfl)
              exact DoesT_val (r_indexSlice (b := nb) (o := no) (len := d.next.length) (cap := nc) (i := 0) (o' := no + 0) e81 rfl rfl Try.underlying28 siz22 (by omega) (by omega)) (Chg.refl _ _) rfl
            refine DagStepsT.cons (fun s' w' X U H => ?_) ?_
            · have e82 : s' 82 = (.pointer (some ⟨nb, no + 0, none⟩)) := H 8 rfl 82 (.eq (.pointer (some ⟨nb, no + 0, none⟩))) rfl (by rw [hFs10]; rfl)
              exact DoesT_val (r_load (v := (.slice ra0 row0.length rc0)) e82 flat22 ((by rw [Nat.add_zero]; exact (Ext.trans E5 (X0.trans X)).cell (by simpa using hcell0)))) (Chg.refl _ _) rfl
            refine DagStepsT.cons (fun s' w' X U H => ?_) ?_
            · have e83 : s' 83 = (.slice ra0 row0.length rc0) := H 9 rfl 83 (.eq (.slice ra0 row0.length rc0)) rfl (by rw [hFs10]; rfl)
              exact DoesT_val (r_lenSlice (ad := ra0) (n := row0.length) (cap := rc0) Try.underlying22 e83) (Chg.refl _ _) rfl
            refine DagStepsT.cons (fun s' w' X U H => ?_) ?_
            · have e79 : s' 79 = (.int .i64 c) := H 5 rfl 79 (.eq (.int .i64 c)) rfl (by rw [hFs10]; rfl)
              have e84 : s' 84 = (.int .i64 ((row0.length : Nat) : Int)) := H 10 rfl 84 (.eq (.int .i64 ((row0.length : Nat) : Int))) rfl (by rw [hFs10]; rfl)
              exact DoesT_enter (r_callF (vs := [(.int .i64 c), (.int .i64 ((row0.length : Nat) : Int))]) Try.func10 nm10 bd10 (lst2 e79 e84)) ((below_c c _ (by omega) (by omega) _).mono (fun v w h => ⟨h.1.trans (by rw [hc1]), by rw [h.2]; exact Chg.refl _ _⟩))
            exact DagStepsT.nil
          · intro s' wd10 w10 X0 X10 U H
            obtain e78 := (show (.gen (fun v _ => v = .int .i64 ((s1 : Nat) : Int)) (fun _ _ _ _ h => h) : FactT (none1)).In (s' 78) w10 from H 4 78 (.gen (fun v _ => v = .int .i64 ((s1 : Nat) : Int)) (fun _ _ _ _ h => h)) rfl (by rw [hFs10]; rfl))
            obtain e85 := (show (.gen (fun v _ => v = .int .i64 ((c1 : Nat) : Int)) (fun _ _ _ _ h => h) : FactT (none1)).In (s' 85) w10 from H 11 85 (.gen (fun v _ => v = .int .i64 ((c1 : Nat) : Int)) (fun _ _ _ _ h => h)) rfl (by rw [hFs10]; rfl))
            obtain ⟨j10, rfl⟩ := Fits.out (σ := s') (l := [(9, (.pointer (some ⟨bd, 0, none⟩))), (10, (.pointer (some ⟨be, 0, none⟩))), (12, (.int .i64 ((u : Nat) : Int))), (13, (.int .i64 ((u3 : Nat) : Int))), (78, (.int .i64 ((s1 : Nat) : Int))), (85, (.int .i64 ((c1 : Nat) : Int)))]) ⟨U 9 rfl, U 10 rfl, U 12 rfl, U 13 rfl, e78, e85, trivial⟩
            clear U H
            replace Bt := Chg.keep X10 (fun f => f) (X0.keep Bt)
            replace Bd := Chg.keep X10 (fun f => f) (X0.keep Bd)
            replace Be := Chg.keep X10 (fun f => f) (X0.keep Be)
            replace hT := hT.ext X0
            replace hT := hT.ext X10
            replace E := (E.ext X0).step X10 (fun _ _ f => f.elim)
            replace E5 := (E5.ext X0).ext X10
            refine WpL_val rfl rfl (by decide) (r_assign (v := (.int .i64 ((s1 : Nat) : Int))) rfl) ?_
            refine WpL_val rfl rfl (by decide) (r_assign (v := (.int .i64 ((c1 : Nat) : Int))) rfl) ?_
            refine WpL_nil ?_
            refine thn_normal ?_
            refine Wp_seq_region ?_
            refine WpL_val rfl rfl (by decide) (r_loadAgg (vs := [(.int .i64 d.start), (.int .i64 ((m : Nat) : Int)), (.slice aa2 d.accept.length ac2), (.slice ba2 bs.length bc2), (.slice oa2 ow.length oc2), (.slice na2 nx.length nc2)]) rfl agg24 siz24 rfl (Be.cells rfl)) ?_
            refine WpL_val rfl rfl (by decide) (r_move (v := (.int .i64 ((s1 : Nat) : Int))) rfl) ?_
            refine WpL_val rfl rfl (by decide) (r_move (v := (.int .i64 ((c1 : Nat) : Int))) rfl) ?_
            refine WpL_enter rfl rfl (by decide) (r_callF (vs := [(.agg #[(.int .i64 d.start), (.int .i64 ((m : Nat) : Int)), (.slice aa2 d.accept.length ac2), (.slice ba2 bs.length bc2), (.slice oa2 ow.length oc2), (.slice na2 nx.length nc2)]), (.int .i64 ((s1 : Nat) : Int)), (.int .i64 ((c1 : Nat) : Int))]) Try.func11 nm11 bd11 rfl) (At_c _ ⟨d.start, m, d.accept, bs, ow, nx⟩ _ s1 c1 hT hG (by show s1 < bs.length; omega) (by show c1 < m; omega)) ?_
            rintro _ w59 ⟨rfl, X59⟩
            replace Bt := X59.keep Bt
            replace Bd := X59.keep Bd
            replace Be := X59.keep Be
            replace hT := hT.ext X59
            replace E := E.ext X59
            replace E5 := E5.ext X59
            have y1 : decide (atT ow nx bs s1 c1 = x) = true := decide_eq_true (hat s1 c1 row x hrow hx)
            have y2 : decide (((u : Nat) : Int) = ((u3 : Nat) : Int)) = true := decide_eq_true (by rw [hue])
            have y4 : ((d.next.length : Nat) : Int) * ((row0.length : Nat) : Int) = ((n * m : Nat) : Int) := by rw [k1, hr0]; simp
            have y3 : decide (((ow.length : Nat) : Int) ≤ ((d.next.length : Nat) : Int) * ((row0.length : Nat) : Int)) = true := decide_eq_true (by rw [y4]; omega)
            refine WpL_val rfl rfl (by decide) (r_move (v := (.tuple #[(.int .i64 (atT ow nx bs s1 c1)), (.int .i64 0)])) rfl) ?_
            refine WpL_val rfl rfl (by decide) (r_extract (vs := #[(.int .i64 (atT ow nx bs s1 c1)), (.int .i64 0)]) (v := (.int .i64 (atT ow nx bs s1 c1))) rfl rfl) ?_
            refine WpL_val rfl rfl (by decide) (r_extract (vs := #[(.int .i64 (atT ow nx bs s1 c1)), (.int .i64 0)]) (v := (.int .i64 0)) rfl rfl) ?_
            refine WpL_val rfl rfl (by decide) (r_assign (v := (.int .i64 (atT ow nx bs s1 c1))) rfl) ?_
            refine WpL_val rfl rfl (by decide) (r_assign (v := (.int .i64 0)) rfl) ?_
            refine WpL_nil ?_
            refine Wp_seq ?_
            obtain ⟨Fs11, hFs11⟩ : ∃ Fs : List Fact, Fs = [.eq (.int .i64 0), .eq (.bool true), .eq (.bool true), .eq (.int .i64 (atT ow nx bs s1 c1)), .eq (.pointer (some ⟨bd, 2, none⟩)), .eq (.slice (some ⟨nb, no, none⟩) d.next.length nc), .eq (.int .i64 ((s1 : Nat) : Int)), .eq (.pointer (some ⟨nb, no + s1, none⟩)), .eq (.slice (some ⟨rb, ro, none⟩) row.length rc), .eq (.int .i64 ((c1 : Nat) : Int)), .eq (.pointer (some ⟨rb, ro + c1, none⟩)), .eq (.int .i64 x), .eq (.bool true), .eq (.bool true), .eq (.bool true), .eq (.int .i64 ((u : Nat) : Int)), .eq (.int .i64 ((u3 : Nat) : Int)), .eq (.bool true), .eq (.bool true), .eq (.bool true), .eq (.pointer (some ⟨be, 4, none⟩)), .eq (.slice oa2 ow.length oc2), .eq (.int .i64 ((ow.length : Nat) : Int)), .eq (.pointer (some ⟨bd, 2, none⟩)), .eq (.slice (some ⟨nb, no, none⟩) d.next.length nc), .eq (.int .i64 ((d.next.length : Nat) : Int)), .eq (.pointer (some ⟨bd, 2, none⟩)), .eq (.slice (some ⟨nb, no, none⟩) d.next.length nc), .eq (.pointer (some ⟨nb, no + 0, none⟩)), .eq (.slice ra0 row0.length rc0), .eq (.int .i64 ((row0.length : Nat) : Int)), .eq (.int .i64 (((d.next.length : Nat) : Int) * ((row0.length : Nat) : Int))), .eq (.bool true), .eq (.bool true), .eq (.bool true)] := ⟨_, rfl⟩
            refine Wp_dag [93, 94, 95, 96, 97, 98, 99, 100, 101, 102, 103, 104, 105, 106, 107, 108, 109, 110, 111, 112, 113, 114, 115, 116, 117, 118, 119, 120, 121, 122, 123, 124, 125, 126, 6] [[], [0], [1], [2], [2], [2, 4], [2], [2, 5, 6], [2, 7], [2], [2, 8, 9], [2, 10], [2, 3, 11], [2, 12], [2, 13], [14], [14], [14, 15, 16], [14, 17], [14, 18], [19], [19, 20], [19, 21], [19], [19, 23], [19, 24], [19], [19, 26], [19, 27], [19, 28], [19, 29], [19, 25, 30], [19, 22, 31], [19, 32], [0, 1, 2, 3, 4, 5, 6, 7, 8, 9, 10, 11, 12, 13, 14, 15, 16, 17, 18, 19, 20, 21, 22, 23, 24, 25, 26, 27, 28, 29, 30, 31, 32, 33]] Fs11 hFs11 mixed (by kernel_rfl) (by kernel_rfl) ?_ ?_
            · intro wd X0
              refine DagSteps.cons (fun s' w' X U H => Or.inl ⟨?_, ?_⟩) ?_
              · exact Guarded_none rfl
              · exact Does_val (r_move (v := (.int .i64 0)) (U 11 rfl)) (Ext.refl _) rfl
              refine DagSteps.cons (fun s' w' X U H => Or.inl ⟨?_, ?_⟩) ?_
              · exact Guarded_none rfl
              · have e93 : s' 93 = (.int .i64 0) := H 0 rfl 93 (.eq (.int .i64 0)) rfl (by rw [hFs11]; rfl)
                exact Does_val (r_eql (k := .i64) (a := 0) (b := 0) e93 rfl) (Ext.refl _) rfl
              refine DagSteps.cons (fun s' w' X U H => Or.inl ⟨?_, ?_⟩) ?_
              · exact Guarded_none rfl
              · have e94 : s' 94 = (.bool true) := H 1 rfl 94 (.eq (.bool true)) rfl (by rw [hFs11]; rfl)
                exact Does_val (r_move (v := (.bool true)) e94) (Ext.refl _) rfl
              refine DagSteps.cons (fun s' w' X U H => Or.inl ⟨?_, ?_⟩) ?_
              · exact Guarded_some rfl rfl (d := 95) (H 2 rfl 95 (.eq (.bool true)) rfl (by rw [hFs11]; rfl))
              · exact Does_val (r_move (v := (.int .i64 (atT ow nx bs s1 c1))) (U 20 rfl)) (Ext.refl _) rfl
              refine DagSteps.cons (fun s' w' X U H => Or.inl ⟨?_, ?_⟩) ?_
              · exact Guarded_some rfl rfl (d := 95) (H 2 rfl 95 (.eq (.bool true)) rfl (by rw [hFs11]; rfl))
              · exact Does_val (r_fieldAddr (b := bd) (o := 0) (o' := 2) (U 9 rfl) Try.underlying30 rfl siz28 rfl) (Ext.refl _) rfl
              refine DagSteps.cons (fun s' w' X U H => Or.inl ⟨?_, ?_⟩) ?_
              · exact Guarded_some rfl rfl (d := 95) (H 2 rfl 95 (.eq (.bool true)) rfl (by rw [hFs11]; rfl))
              · have e97 : s' 97 = (.pointer (some ⟨bd, 2, none⟩)) := H 4 rfl 97 (.eq (.pointer (some ⟨bd, 2, none⟩))) rfl (by rw [hFs11]; rfl)
                exact Does_val (r_load (v := (.slice (some ⟨nb, no, none⟩) d.next.length nc)) e97 flat28 (((X0.trans X).keep Bd).cell rfl)) (Ext.refl _) rfl
              refine DagSteps.cons (fun s' w' X U H => Or.inl ⟨?_, ?_⟩) ?_
              · exact Guarded_some rfl rfl (d := 95) (H 2 rfl 95 (.eq (.bool true)) rfl (by rw [hFs11]; rfl))
              · exact Does_val (r_move (v := (.int .i64 ((s1 : Nat) : Int))) (U 1 rfl)) (Ext.refl _) rfl
              refine DagSteps.cons (fun s' w' X U H => Or.inl ⟨?_, ?_⟩) ?_
              · exact Guarded_some rfl rfl (d := 95) (H 2 rfl 95 (.eq (.bool true)) rfl (by rw [hFs11]; rfl))
              · have e98 : s' 98 = (.slice (some ⟨nb, no, none⟩) d.next.length nc) := H 5 rfl 98 (.eq (.slice (some ⟨nb, no, none⟩) d.next.length nc)) rfl (by rw [hFs11]; rfl)
                have e99 : s' 99 = (.int .i64 ((s1 : Nat) : Int)) := H 6 rfl 99 (.eq (.int .i64 ((s1 : Nat) : Int))) rfl (by rw [hFs11]; rfl)
                exact Does_val (r_indexSlice (b := nb) (o := no) (len := d.next.length) (cap := nc) (i := s1) (o' := no + s1) e98 e99 rfl Try.underlying28 siz22 (by omega) (by omega)) (Ext.refl _) rfl
              refine DagSteps.cons (fun s' w' X U H => Or.inl ⟨?_, ?_⟩) ?_
              · exact Guarded_some rfl rfl (d := 95) (H 2 rfl 95 (.eq (.bool true)) rfl (by rw [hFs11]; rfl))
              · have e100 : s' 100 = (.pointer (some ⟨nb, no + s1, none⟩)) := H 7 rfl 100 (.eq (.pointer (some ⟨nb, no + s1, none⟩))) rfl (by rw [hFs11]; rfl)
                exact Does_val (r_load (v := (.slice (some ⟨rb, ro, none⟩) row.length rc)) e100 flat22 (Chg.cell (Ext.trans E5 (X0.trans X)) (fun f => f) hcell)) (Ext.refl _) rfl
              refine DagSteps.cons (fun s' w' X U H => Or.inl ⟨?_, ?_⟩) ?_
              · exact Guarded_some rfl rfl (d := 95) (H 2 rfl 95 (.eq (.bool true)) rfl (by rw [hFs11]; rfl))
              · exact Does_val (r_move (v := (.int .i64 ((c1 : Nat) : Int))) (U 2 rfl)) (Ext.refl _) rfl
              refine DagSteps.cons (fun s' w' X U H => Or.inl ⟨?_, ?_⟩) ?_
              · exact Guarded_some rfl rfl (d := 95) (H 2 rfl 95 (.eq (.bool true)) rfl (by rw [hFs11]; rfl))
              · have e101 : s' 101 = (.slice (some ⟨rb, ro, none⟩) row.length rc) := H 8 rfl 101 (.eq (.slice (some ⟨rb, ro, none⟩) row.length rc)) rfl (by rw [hFs11]; rfl)
                have e102 : s' 102 = (.int .i64 ((c1 : Nat) : Int)) := H 9 rfl 102 (.eq (.int .i64 ((c1 : Nat) : Int))) rfl (by rw [hFs11]; rfl)
                exact Does_val (r_indexSlice (b := rb) (o := ro) (len := row.length) (cap := rc) (i := c1) (o' := ro + c1) e101 e102 rfl Try.underlying22 siz3 (by omega) (by omega)) (Ext.refl _) rfl
              refine DagSteps.cons (fun s' w' X U H => Or.inl ⟨?_, ?_⟩) ?_
              · exact Guarded_some rfl rfl (d := 95) (H 2 rfl 95 (.eq (.bool true)) rfl (by rw [hFs11]; rfl))
              · have e103 : s' 103 = (.pointer (some ⟨rb, ro + c1, none⟩)) := H 10 rfl 103 (.eq (.pointer (some ⟨rb, ro + c1, none⟩))) rfl (by rw [hFs11]; rfl)
                exact Does_val (r_load (v := (.int .i64 x)) e103 flat3 (Chg.cell (Ext.trans E5 (X0.trans X)) (fun f => f) (hrc c1 x hx))) (Ext.refl _) rfl
              refine DagSteps.cons (fun s' w' X U H => Or.inl ⟨?_, ?_⟩) ?_
              · exact Guarded_some rfl rfl (d := 95) (H 2 rfl 95 (.eq (.bool true)) rfl (by rw [hFs11]; rfl))
              · have e96 : s' 96 = (.int .i64 (atT ow nx bs s1 c1)) := H 3 rfl 96 (.eq (.int .i64 (atT ow nx bs s1 c1))) rfl (by rw [hFs11]; rfl)
                have e104 : s' 104 = (.int .i64 x) := H 11 rfl 104 (.eq (.int .i64 x)) rfl (by rw [hFs11]; rfl)
                exact Does_val (Eq.trans (r_eql (k := .i64) (a := atT ow nx bs s1 c1) (b := x) e96 e104) (by rw [y1])) (Ext.refl _) rfl
              refine DagSteps.cons (fun s' w' X U H => Or.inl ⟨?_, ?_⟩) ?_
              · exact Guarded_none rfl
              · have e95 : s' 95 = (.bool true) := H 2 rfl 95 (.eq (.bool true)) rfl (by rw [hFs11]; rfl)
                have e105 : s' 105 = (.bool true) := H 12 rfl 105 (.eq (.bool true)) rfl (by rw [hFs11]; rfl)
                exact Does_val (r_pick (b := true) (v := (.bool true)) e95 e105) (Ext.refl _) rfl
              refine DagSteps.cons (fun s' w' X U H => Or.inl ⟨?_, ?_⟩) ?_
              · exact Guarded_none rfl
              · have e106 : s' 106 = (.bool true) := H 13 rfl 106 (.eq (.bool true)) rfl (by rw [hFs11]; rfl)
                exact Does_val (r_move (v := (.bool true)) e106) (Ext.refl _) rfl
              refine DagSteps.cons (fun s' w' X U H => Or.inl ⟨?_, ?_⟩) ?_
              · exact Guarded_some rfl rfl (d := 107) (H 14 rfl 107 (.eq (.bool true)) rfl (by rw [hFs11]; rfl))
              · exact Does_val (r_move (v := (.int .i64 ((u : Nat) : Int))) (U 12 rfl)) (Ext.refl _) rfl
              refine DagSteps.cons (fun s' w' X U H => Or.inl ⟨?_, ?_⟩) ?_
              · exact Guarded_some rfl rfl (d := 107) (H 14 rfl 107 (.eq (.bool true)) rfl (by rw [hFs11]; rfl))
              · exact Does_val (r_move (v := (.int .i64 ((u3 : Nat) : Int))) (U 13 rfl)) (Ext.refl _) rfl
              refine DagSteps.cons (fun s' w' X U H => Or.inl ⟨?_, ?_⟩) ?_
              · exact Guarded_some rfl rfl (d := 107) (H 14 rfl 107 (.eq (.bool true)) rfl (by rw [hFs11]; rfl))
              · have e108 : s' 108 = (.int .i64 ((u : Nat) : Int)) := H 15 rfl 108 (.eq (.int .i64 ((u : Nat) : Int))) rfl (by rw [hFs11]; rfl)
                have e109 : s' 109 = (.int .i64 ((u3 : Nat) : Int)) := H 16 rfl 109 (.eq (.int .i64 ((u3 : Nat) : Int))) rfl (by rw [hFs11]; rfl)
                exact Does_val (Eq.trans (r_eql (k := .i64) (a := ((u : Nat) : Int)) (b := ((u3 : Nat) : Int)) e108 e109) (by rw [y2])) (Ext.refl _) rfl
              refine DagSteps.cons (fun s' w' X U H => Or.inl ⟨?_, ?_⟩) ?_
              · exact Guarded_none rfl
              · have e107 : s' 107 = (.bool true) := H 14 rfl 107 (.eq (.bool true)) rfl (by rw [hFs11]; rfl)
                have e110 : s' 110 = (.bool true) := H 17 rfl 110 (.eq (.bool true)) rfl (by rw [hFs11]; rfl)
                exact Does_val (r_pick (b := true) (v := (.bool true)) e107 e110) (Ext.refl _) rfl
              refine DagSteps.cons (fun s' w' X U H => Or.inl ⟨?_, ?_⟩) ?_
              · exact Guarded_none rfl
              · have e111 : s' 111 = (.bool true) := H 18 rfl 111 (.eq (.bool true)) rfl (by rw [hFs11]; rfl)
                exact Does_val (r_move (v := (.bool true)) e111) (Ext.refl _) rfl
              refine DagSteps.cons (fun s' w' X U H => Or.inl ⟨?_, ?_⟩) ?_
              · exact Guarded_some rfl rfl (d := 112) (H 19 rfl 112 (.eq (.bool true)) rfl (by rw [hFs11]; rfl))
              · exact Does_val (r_fieldAddr (b := be) (o := 0) (o' := 4) (U 10 rfl) Try.underlying24 rfl siz22 rfl) (Ext.refl _) rfl
              refine DagSteps.cons (fun s' w' X U H => Or.inl ⟨?_, ?_⟩) ?_
              · exact Guarded_some rfl rfl (d := 112) (H 19 rfl 112 (.eq (.bool true)) rfl (by rw [hFs11]; rfl))
              · have e113 : s' 113 = (.pointer (some ⟨be, 4, none⟩)) := H 20 rfl 113 (.eq (.pointer (some ⟨be, 4, none⟩))) rfl (by rw [hFs11]; rfl)
                exact Does_val (r_load (v := (.slice oa2 ow.length oc2)) e113 flat22 (((X0.trans X).keep Be).cell rfl)) (Ext.refl _) rfl
              refine DagSteps.cons (fun s' w' X U H => Or.inl ⟨?_, ?_⟩) ?_
              · exact Guarded_some rfl rfl (d := 112) (H 19 rfl 112 (.eq (.bool true)) rfl (by rw [hFs11]; rfl))
              · have e114 : s' 114 = (.slice oa2 ow.length oc2) := H 21 rfl 114 (.eq (.slice oa2 ow.length oc2)) rfl (by rw [hFs11]; rfl)
                exact Does_val (r_lenSlice (ad := oa2) (n := ow.length) (cap := oc2) Try.underlying22 e114) (Ext.refl _) rfl
              refine DagSteps.cons (fun s' w' X U H => Or.inl ⟨?_, ?_⟩) ?_
              · exact Guarded_some rfl rfl (d := 112) (H 19 rfl 112 (.eq (.bool true)) rfl (by rw [hFs11]; rfl))
              · exact Does_val (r_fieldAddr (b := bd) (o := 0) (o' := 2) (U 9 rfl) Try.underlying30 rfl siz28 rfl) (Ext.refl _) rfl
              refine DagSteps.cons (fun s' w' X U H => Or.inl ⟨?_, ?_⟩) ?_
              · exact Guarded_some rfl rfl (d := 112) (H 19 rfl 112 (.eq (.bool true)) rfl (by rw [hFs11]; rfl))
              · have e116 : s' 116 = (.pointer (some ⟨bd, 2, none⟩)) := H 23 rfl 116 (.eq (.pointer (some ⟨bd, 2, none⟩))) rfl (by rw [hFs11]; rfl)
                exact Does_val (r_load (v := (.slice (some ⟨nb, no, none⟩) d.next.length nc)) e116 flat28 (((X0.trans X).keep Bd).cell rfl)) (Ext.refl _) rfl
              refine DagSteps.cons (fun s' w' X U H => Or.inl ⟨?_, ?_⟩) ?_
              · exact Guarded_some rfl rfl (d := 112) (H 19 rfl 112 (.eq (.bool true)) rfl (by rw [hFs11]; rfl))
              · have e117 : s' 117 = (.slice (some ⟨nb, no, none⟩) d.next.length nc) := H 24 rfl 117 (.eq (.slice (some ⟨nb, no, none⟩) d.next.length nc)) rfl (by rw [hFs11]; rfl)
                exact Does_val (r_lenSlice (ad := some ⟨nb, no, none⟩) (n := d.next.length) (cap := nc) Try.underlying28 e117) (Ext.refl _) rfl
              refine DagSteps.cons (fun s' w' X U H => Or.inl ⟨?_, ?_⟩) ?_
              · exact Guarded_some rfl rfl (d := 112) (H 19 rfl 112 (.eq (.bool true)) rfl (by rw [hFs11]; rfl))
              · exact Does_val (r_fieldAddr (b := bd) (o := 0) (o' := 2) (U 9 rfl) Try.underlying30 rfl siz28 rfl) (Ext.refl _) rfl
              refine DagSteps.cons (fun s' w' X U H => Or.inl ⟨?_, ?_⟩) ?_
              · exact Guarded_some rfl rfl (d := 112) (H 19 rfl 112 (.eq (.bool true)) rfl (by rw [hFs11]; rfl))
              · have e119 : s' 119 = (.pointer (some ⟨bd, 2, none⟩)) := H 26 rfl 119 (.eq (.pointer (some ⟨bd, 2, none⟩))) rfl (by rw [hFs11]; rfl)
                exact Does_val (r_load (v := (.slice (some ⟨nb, no, none⟩) d.next.length nc)) e119 flat28 (((X0.trans X).keep Bd).cell rfl)) (Ext.refl _) rfl
              refine DagSteps.cons (fun s' w' X U H => Or.inl ⟨?_, ?_⟩) ?_
              · exact Guarded_some rfl rfl (d := 112) (H 19 rfl 112 (.eq (.bool true)) rfl (by rw [hFs11]; rfl))
              · have e120 : s' 120 = (.slice (some ⟨nb, no, none⟩) d.next.length nc) := H 27 rfl 120 (.eq (.slice (some ⟨nb, no, none⟩) d.next.length nc)) rfl (by rw [hFs11]; rfl)
                exact Does_val (r_indexSlice (b := nb) (o := no) (len := d.next.length) (cap := nc) (i := 0) (o' := no + 0) e120 rfl rfl Try.underlying28 siz22 (by omega) (by omega)) (Ext.refl _) rfl
              refine DagSteps.cons (fun s' w' X U H => Or.inl ⟨?_, ?_⟩) ?_
              · exact Guarded_some rfl rfl (d := 112) (H 19 rfl 112 (.eq (.bool true)) rfl (by rw [hFs11]; rfl))
              · have e121 : s' 121 = (.pointer (some ⟨nb, no + 0, none⟩)) := H 28 rfl 121 (.eq (.pointer (some ⟨nb, no + 0, none⟩))) rfl (by rw [hFs11]; rfl)
                exact Does_val (r_load (v := (.slice ra0 row0.length rc0)) e121 flat22 ((by rw [Nat.add_zero]; exact (Ext.trans E5 (X0.trans X)).cell (by simpa using hcell0)))) (Ext.refl _) rfl
              refine DagSteps.cons (fun s' w' X U H => Or.inl ⟨?_, ?_⟩) ?_
              · exact Guarded_some rfl rfl (d := 112) (H 19 rfl 112 (.eq (.bool true)) rfl (by rw [hFs11]; rfl))
              · have e122 : s' 122 = (.slice ra0 row0.length rc0) := H 29 rfl 122 (.eq (.slice ra0 row0.length rc0)) rfl (by rw [hFs11]; rfl)
                exact Does_val (r_lenSlice (ad := ra0) (n := row0.length) (cap := rc0) Try.underlying22 e122) (Ext.refl _) rfl
              refine DagSteps.cons (fun s' w' X U H => Or.inl ⟨?_, ?_⟩) ?_
              · exact Guarded_some rfl rfl (d := 112) (H 19 rfl 112 (.eq (.bool true)) rfl (by rw [hFs11]; rfl))
              · have e118 : s' 118 = (.int .i64 ((d.next.length : Nat) : Int)) := H 25 rfl 118 (.eq (.int .i64 ((d.next.length : Nat) : Int))) rfl (by rw [hFs11]; rfl)
                have e123 : s' 123 = (.int .i64 ((row0.length : Nat) : Int)) := H 30 rfl 123 (.eq (.int .i64 ((row0.length : Nat) : Int))) rfl (by rw [hFs11]; rfl)
                exact Does_val (r_mul (k := .i64) (a := ((d.next.length : Nat) : Int)) (b := ((row0.length : Nat) : Int)) (c := ((d.next.length : Nat) : Int) * ((row0.length : Nat) : Int)) e118 e123 (wI64 (by omega))) (Ext.refl _) rfl
              refine DagSteps.cons (fun s' w' X U H => Or.inl ⟨?_, ?_⟩) ?_
              · exact Guarded_some rfl rfl (d := 112) (H 19 rfl 112 (.eq (.bool true)) rfl (by rw [hFs11]; rfl))
              · have e115 : s' 115 = (.int .i64 ((ow.length : Nat) : Int)) := H 22 rfl 115 (.eq (.int .i64 ((ow.length : Nat) : Int))) rfl (by rw [hFs11]; rfl)
                have e124 : s' 124 = (.int .i64 (((d.next.length : Nat) : Int) * ((row0.length : Nat) : Int))) := H 31 rfl 124 (.eq (.int .i64 (((d.next.length : Nat) : Int) * ((row0.length : Nat) : Int)))) rfl (by rw [hFs11]; rfl)
                exact Does_val (Eq.trans (r_leq (k := .i64) (a := ((ow.length : Nat) : Int)) (b := ((d.next.length : Nat) : Int) * ((row0.length : Nat) : Int)) e115 e124) (by rw [y3])) (Ext.refl _) rfl
              refine DagSteps.cons (fun s' w' X U H => Or.inl ⟨?_, ?_⟩) ?_
              · exact Guarded_none rfl
              · have e112 : s' 112 = (.bool true) := H 19 rfl 112 (.eq (.bool true)) rfl (by rw [hFs11]; rfl)
                have e125 : s' 125 = (.bool true) := H 32 rfl 125 (.eq (.bool true)) rfl (by rw [hFs11]; rfl)
                exact Does_val (r_pick (b := true) (v := (.bool true)) e112 e125) (Ext.refl _) rfl
              refine DagSteps.cons (fun s' w' X U H => Or.inl ⟨?_, ?_⟩) ?_
              · exact Guarded_none rfl
              · have e126 : s' 126 = (.bool true) := H 33 rfl 126 (.eq (.bool true)) rfl (by rw [hFs11]; rfl)
                exact Does_val (r_assign (v := (.bool true)) e126) (Ext.refl _) rfl
              exact DagSteps.nil
            · intro s' w11 X11 U H
              obtain ⟨j11, rfl⟩ := Fits.out (σ := s') (l := [(6, (.bool true))]) ⟨(show s' 6 = (.bool true) from H 34 6 (.eq (.bool true)) rfl (by rw [hFs11]; rfl)), trivial⟩
              clear U H
              replace Bt := X11.keep Bt
              replace Bd := X11.keep Bd
              replace Be := X11.keep Be
              replace hT := hT.ext X11
              replace E := E.ext X11
              replace E5 := E5.ext X11
              refine thn_normal ?_
              refine Wp_ret ?_
              refine fin_tmp Try.results3 (v := (.bool true)) rfl ?_
              exact ⟨rfl, E⟩
end Go.Proofs
