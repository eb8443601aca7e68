/- Walks: Uses, Rev, copies and searches of lists, and the law RetreeMirrors. -/
import Derived.Test.YtiepeobnpmoghaaW31
import Derived.Test.YtiepeobnpmoghaaW30
namespace Go.Proofs
open Go Go.Eng
set_option maxRecDepth 100000

mutual
def usesB (ks : List Int) : Re → Bool
  | .mk k _ args _ _ _ => ks.contains k || usesBs ks args
def usesBs (ks : List Int) : List Re → Bool
  | [] => false
  | t :: ts => usesB ks t || usesBs ks ts
end
def useF (ks : List Int) : Unit → Re → Bool × Unit := fun _ t => (!ks.contains t.kind, ())
mutual
theorem walk_use (ks : List Int) : ∀ (t : Re), (walkF (useF ks) t ()).1 = !usesB ks t
  | .mk k set args mn mx ng => by
    have h := walks_use ks args
    rw [walkF_eq]
    split
    · rename_i hk
      have hk : ks.contains k = false := by simpa only [useF, Re.kind, Bool.not_eq_true'] using hk
      show (walkFs (useF ks) args ()).1 = _
      rw [h]
      simp only [usesB, hk, Bool.false_or]
    · rename_i hk
      have hk : ks.contains k = true := by
        cases hc : ks.contains k with
        | true => rfl
        | false => exact absurd (show (useF ks () (.mk k set args mn mx ng)).1 = true by simp only [useF, Re.kind, hc, Bool.not_false]) hk
      simp only [usesB, hk, Bool.true_or, Bool.not_true]
theorem walks_use (ks : List Int) : ∀ (ts : List Re), (walkFs (useF ks) ts ()).1 = !usesBs ks ts
  | [] => rfl
  | t :: ts => by
    have h1 := walk_use ks t
    have h := walks_use ks ts
    rw [walkFs_cons]
    split
    · rename_i hk
      rw [hk] at h1
      have hu : usesB ks t = false := by simpa using h1.symm
      show (walkFs (useF ks) ts ()).1 = _
      rw [h]
      simp only [usesBs, hu, Bool.false_or]
    · rename_i hk
      have hu : usesB ks t = true := by
        cases hc : usesB ks t with
        | true => rfl
        | false => rw [hc] at h1; exact absurd h1 hk
      simp only [usesBs, hu, Bool.true_or, Bool.not_true]
end
mutual
theorem uses_none {ks : List Int} {p : Re → Prop} (hp : ∀ t, p t → ks.contains t.kind = false) : ∀ (t : Re), allRe p t → usesB ks t = false
  | .mk k set args mn mx ng, h => by
    simp only [allRe] at h
    have h1 := hp _ h.1
    simp only [Re.kind] at h1
    simp only [usesB, h1, Bool.false_or]
    exact uses_nones hp args h.2
theorem uses_nones {ks : List Int} {p : Re → Prop} (hp : ∀ t, p t → ks.contains t.kind = false) : ∀ (ts : List Re), allRes p ts → usesBs ks ts = false
  | [], _ => rfl
  | t :: ts, h => by
    simp only [allRes] at h
    simp only [usesBs, uses_none hp t h.1, uses_nones hp ts h.2, Bool.or_self]
end
mutual
theorem uses_look : ∀ (t : Re), usesB [10] t = false → noLook t
  | .mk k set args mn mx ng, h => by
    simp only [usesB, Bool.or_eq_false_iff] at h
    simp only [noLook]
    exact ⟨by intro hk; subst hk; simp at h, uses_looks args h.2⟩
theorem uses_looks : ∀ (ts : List Re), usesBs [10] ts = false → noLooks ts
  | [], _ => by simp only [noLooks]
  | t :: ts, h => by
    simp only [usesBs, Bool.or_eq_false_iff] at h
    simp only [noLooks]
    exact ⟨uses_look t h.1, uses_looks ts h.2⟩
end
theorem usesBs_any (ks : List Int) (ts : List Re) : usesBs ks ts = ts.any (usesB ks) := by
  induction ts with
  | nil => rfl
  | cons t ts ih => simp [usesBs, ih]
mutual
theorem uses_rev (ks : List Int) : ∀ (t : Re), usesB ks (revT t) = usesB ks t
  | .mk k set args mn mx ng => by
    have h := usess_rev ks args
    rw [revT_mk]
    simp only [usesB]
    congr 1
    rw [usesBs_any] at h ⊢
    unfold revA
    split
    · rw [List.any_reverse]; exact h
    · exact h
theorem usess_rev (ks : List Int) : ∀ (ts : List Re), usesBs ks (ts.map revT) = usesBs ks ts
  | [] => rfl
  | t :: ts => by simp only [List.map_cons, usesBs, uses_rev ks t, usess_rev ks ts]
end

theorem idxi_c (w0 : World) (v : Value) (x : Int) (l : List Int) (hs : IntsAt w0 v l) :
    Ret Try.prog 45 #[v, .int .i64 x] w0 fun r w => r = .int .i64 (idx (fun y => decide (x = y)) l) ∧ Ext w0 w := by
  obtain ⟨a, c, rfl⟩ := SlAt.form hs
  have hlen : l.length ≤ 9223372036854775807 := by simpa using SlAt.le hs
  simp only [List.length_map] at hs ⊢
  refine Ret_of Try.func45 rfl Try.ntmps45 (Nat.le_of_ble_eq_true rfl) ?_
  have E : Chg none1 w0 w0 := Chg.refl _ _
  refine Wp_seq_region ?_
  refine WpL_val rfl rfl (by decide) (r_assign (v := (.int .i64 0)) rfl) ?_
  refine WpL_nil ?_
  refine Wp_seq ?_
  refine Wp_seq_region ?_
  refine WpL_val rfl rfl (by decide) (r_move (v := (.slice a l.length c)) rfl) ?_
  refine WpL_val rfl rfl (by decide) (r_lenSlice (ad := a) (n := l.length) (cap := c) Try.underlying50 rfl) ?_
  refine WpL_val rfl rfl (by decide) (r_move (v := (.int .i64 0)) rfl) ?_
  refine WpL_nil ?_
  refine Wp_block ?_
  refine Wp_loop (fun nn_ σ W1 => ∃ (k : Nat), (∃ jj_, σ = upds jj_ [(0, (.slice a l.length c)), (1, (.int .i64 x)), (7, (.int .i64 ((l.length : Nat) : Int))), (8, (.int .i64 ((k : Nat) : Int)))]) ∧ Chg none1 w0 W1 ∧ (k ≤ l.length) ∧ (∀ (i : Nat) (y : Int), i < k → l[i]? = some y → decide (x = y) = false) ∧ nn_ = l.length - k) (n := l.length - 0) ?_ ?_
  · exact ⟨0, Fits.out ⟨rfl, rfl, rfl, rfl, trivial⟩, E, Nat.zero_le _, (fun i y h => absurd h (Nat.not_lt_zero _)), rfl⟩
  · clear E
    rintro _ _ W1 ⟨k, ⟨j1, rfl⟩, E, hk, hno, rfl⟩
    refine Wp_seq_region ?_
    refine WpL_val rfl rfl (by decide) (r_lss (k := .i64) (a := ((k : Nat) : Int)) (b := ((l.length : Nat) : Int)) rfl rfl) ?_
    refine WpL_nil ?_
    refine Wp_seq ?_
    refine Wp_cond (b := decide ((((k : Nat) : Int) : Int) < ((l.length : Nat) : Int))) rfl (fun hlt => ?_) (fun hlt => ?_)
    · have khlt := hlt
      replace hlt := of_decide_eq_true hlt
      obtain ⟨y, hy⟩ := get_of_lt (l := l) (i := k) (by omega)
      obtain ⟨b, o, rfl, hcells⟩ := ints_cells hs (by omega)
      refine Wp_skip ?_
      refine thn_normal ?_
      refine Wp_seq ?_
      refine Wp_block ?_
      refine Wp_seq_region ?_
      refine WpL_val rfl rfl (by decide) (r_move (v := (.int .i64 ((k : Nat) : Int))) rfl) ?_
      refine WpL_val rfl rfl (by decide) (r_assign (v := (.int .i64 ((k : Nat) : Int))) rfl) ?_
      refine WpL_nil ?_
      refine Wp_seq_region ?_
      refine WpL_val rfl rfl (by decide) (r_move (v := (.int .i64 x)) rfl) ?_
      refine WpL_val rfl rfl (by decide) (r_move (v := (.slice (some ⟨b, o, none⟩) l.length c)) rfl) ?_
      refine WpL_val rfl rfl (by decide) (r_move (v := (.int .i64 ((k : Nat) : Int))) rfl) ?_
      refine WpL_val rfl rfl (by decide) (r_indexSlice (b := b) (o := o) (len := l.length) (cap := c) (i := k) (o' := o + k) rfl rfl rfl Try.underlying50 siz3 (by omega) (by omega)) ?_
      refine WpL_val rfl rfl (by decide) (r_load (v := (.int .i64 y)) rfl flat3 (E.cell (fun f => f) (hcells k y hy))) ?_
      refine WpL_val rfl rfl (by decide) (r_eql (k := .i64) (a := x) (b := y) rfl rfl) ?_
      refine WpL_nil ?_
      refine Wp_cond (b := decide ((x : Int) = y)) rfl (fun hp => ?_) (fun hp => ?_)
      · have khp := hp
        replace hp := of_decide_eq_true hp
        refine Wp_seq_region ?_
        refine WpL_val rfl rfl (by decide) (r_move (v := (.int .i64 ((k : Nat) : Int))) rfl) ?_
        refine WpL_val rfl rfl (by decide) (r_assign (v := (.int .i64 ((k : Nat) : Int))) rfl) ?_
        refine WpL_nil ?_
        refine Wp_ret ?_
        refine inB_ret ?_
        refine thn_ret ?_
        refine thn_ret ?_
        refine inB_ret ?_
        refine thn_ret ?_
        refine fin_tmp Try.results45 (v := (.int .i64 ((k : Nat) : Int))) rfl ?_
        exact ⟨int_eq (idx_hit hy (by simpa using hp) hno).symm, E⟩
      · have khp := hp
        replace hp := of_decide_eq_false hp
        refine Wp_skip ?_
        refine inB_normal ?_
        refine thn_normal ?_
        refine Wp_region ?_
        refine WpL_val rfl rfl (by decide) (r_add (k := .i64) (a := ((k : Nat) : Int)) (b := 1) (c := ((k : Nat) : Int) + 1) rfl rfl (wI64 (by omega))) ?_
        refine WpL_val rfl rfl (by decide) (r_move (v := (.int .i64 (((k : Nat) : Int) + 1))) rfl) ?_
        refine WpL_nil ?_
        refine thn_normal ?_
        exact ⟨l.length - (k + 1), by omega, k + 1, Fits.out ⟨rfl, rfl, rfl, rfl, trivial⟩, E, (by omega), below_next hy (by simpa using hp) hno, rfl⟩
    · have khlt := hlt
      replace hlt := of_decide_eq_false hlt
      have hkk : k = l.length := by omega
      refine Wp_exit ?_
      refine thn_exit ?_
      refine thn_exit ?_
      refine inB_here ?_
      refine thn_normal ?_
      refine Wp_seq_region ?_
      refine WpL_val rfl rfl (by decide) (r_assign (v := (.int .i64 (-1))) rfl) ?_
      refine WpL_nil ?_
      refine Wp_ret ?_
      refine fin_tmp Try.results45 (v := (.int .i64 (-1))) rfl ?_
      exact ⟨int_eq (idx_miss fun i y hy => hno i y (by have := lt_of_get hy; omega) hy).symm, E⟩
theorem hasi_c (w0 : World) (v : Value) (x : Int) (l : List Int) (hs : IntsAt w0 v l) :
    Ret Try.prog 28 #[v, .int .i64 x] w0 fun r w => r = .bool (l.contains x) ∧ Ext w0 w := by
  refine Ret_of Try.func28 rfl Try.ntmps28 (Nat.le_of_ble_eq_true rfl) ?_
  have E : Chg none1 w0 w0 := Chg.refl _ _
  refine Wp_seq_region ?_
  refine WpL_val rfl rfl (by decide) (r_assign (v := (.bool false)) rfl) ?_
  refine WpL_nil ?_
  refine Wp_seq_region ?_
  refine WpL_val rfl rfl (by decide) (r_move (v := v) rfl) ?_
  refine WpL_val rfl rfl (by decide) (r_move (v := (.int .i64 x)) rfl) ?_
  refine WpL_enter rfl rfl (by decide) (r_callF (vs := [v, (.int .i64 x)]) Try.func45 nm45 bd45 rfl) (idxi_c _ v x l hs) ?_
  rintro _ w9 ⟨rfl, X9⟩
  replace E := E.ext X9
  refine WpL_val rfl rfl (by decide) (r_geq (k := .i64) (a := idx (fun y => decide (x = y)) l) (b := 0) rfl rfl) ?_
  refine WpL_val rfl rfl (by decide) (r_assign (v := (.bool (decide ((0 : Int) ≤ idx (fun y => decide (x = y)) l)))) rfl) ?_
  refine WpL_nil ?_
  refine Wp_ret ?_
  refine fin_tmp Try.results28 (v := (.bool (decide ((0 : Int) ≤ idx (fun y => decide (x = y)) l)))) rfl ?_
  exact ⟨bool_eq ((idx_any _ l).trans (by rw [List.contains_eq_any_beq]; congr 1)), E⟩
theorem uses1_c (w0 : World) (t : Re) (vs : List Value) (ks : List Int) (v : Value) (b : Nat) (ht : ReAt w0 t vs) (hB : Blk w0 b #[v] 50) (hks : IntsAt w0 v ks) :
    Ret Try.prog 27 #[.agg vs.toArray, .pointer (some ⟨b, 0, none⟩)] w0 fun r w => r = .bool (!ks.contains t.kind) ∧ Ext w0 w := by
  obtain ⟨sa, sc, aa, ac, rfl, _, _, _⟩ := ht.form
  refine Ret_of Try.func27 rfl Try.ntmps27 (Nat.le_of_ble_eq_true rfl) ?_
  have E : Chg none1 w0 w0 := Chg.refl _ _
  refine Wp_seq_region ?_
  refine s_box (v := (.agg #[(.int .i64 t.kind), (.slice sa t.set.length sc), (.slice aa t.args.length ac), (.int .i64 t.mn), (.int .i64 t.mx), (.bool t.neg)])) (c := #[(.int .i64 t.kind), (.slice sa t.set.length sc), (.slice aa t.args.length ac), (.int .i64 t.mn), (.int .i64 t.mx), (.bool t.neg)]) (by decide) rfl rfl ?_
  intro b1 w1 N1
  have F1 := N1.ge E
  have O1_b := N1.lt hB
  replace hB := N1.keep hB
  replace E := E.ext N1.ext
  have B1 := N1.blk
  refine WpL_val rfl rfl (by decide) (r_assign (v := (.bool false)) rfl) ?_
  refine WpL_nil ?_
  refine Wp_seq_region ?_
  refine WpL_val rfl rfl (by decide) (r_load (v := v) rfl flat50 (hB.cell rfl)) ?_
  refine WpL_val rfl rfl (by decide) (r_fieldAddr (b := b1) (o := 0) (o' := 0) rfl Try.underlying25 rfl siz3 rfl) ?_
  refine WpL_val rfl rfl (by decide) (r_load (v := (.int .i64 t.kind)) rfl flat3 (B1.cell rfl)) ?_
  refine WpL_enter rfl rfl (by decide) (r_callF (vs := [v, (.int .i64 t.kind)]) Try.func28 nm28 bd28 rfl) (hasi_c _ v t.kind ks (hks.ext E)) ?_
  rintro _ w9 ⟨rfl, X9⟩
  replace hB := X9.keep hB
  replace B1 := X9.keep B1
  replace E := E.ext X9
  refine WpL_val rfl rfl (by decide) (r_not (b := ks.contains t.kind) rfl) ?_
  refine WpL_val rfl rfl (by decide) (r_assign (v := (.bool (!(ks.contains t.kind)))) rfl) ?_
  refine WpL_nil ?_
  refine Wp_ret ?_
  refine fin_tmp Try.results27 (v := (.bool (!(ks.contains t.kind)))) rfl ?_
  exact ⟨rfl, E⟩
set_option maxHeartbeats 1000000 in
theorem uses_c (w0 : World) (t : Re) (vs : List Value) (ks : List Int) (v : Value) (ht : ReAt w0 t vs) (hks : IntsAt w0 v ks) :
    Ret Try.prog 15 #[.agg vs.toArray, v] w0 fun r w => r = .bool (usesB ks t) ∧ Ext w0 w := by
  have ht0 := ht
  obtain ⟨sa, sc, aa, ac, rfl, _, _, _⟩ := ht.form
  obtain ⟨ka, kc, rfl⟩ := SlAt.form hks
  simp only [List.length_map] at hks ⊢
  refine Ret_of Try.func15 rfl Try.ntmps15 (Nat.le_of_ble_eq_true rfl) ?_
  have E : Chg none1 w0 w0 := Chg.refl _ _
  refine Wp_seq_region ?_
  refine s_box (v := (.agg #[(.int .i64 t.kind), (.slice sa t.set.length sc), (.slice aa t.args.length ac), (.int .i64 t.mn), (.int .i64 t.mx), (.bool t.neg)])) (c := #[(.int .i64 t.kind), (.slice sa t.set.length sc), (.slice aa t.args.length ac), (.int .i64 t.mn), (.int .i64 t.mx), (.bool t.neg)]) (by decide) rfl rfl ?_
  intro br wr Nr
  have Fr := Nr.ge E
  replace E := E.ext Nr.ext
  have Br := Nr.blk
  refine s_box (v := (.slice ka ks.length kc)) (c := #[(.slice ka ks.length kc)]) (by decide) rfl rfl ?_
  intro bp wp Np
  have Fp := Np.ge E
  have Op_br := Np.lt Br
  replace Br := Np.keep Br
  replace E := E.ext Np.ext
  have Bp := Np.blk
  refine WpL_val rfl rfl (by decide) (r_assign (v := (.bool false)) rfl) ?_
  refine WpL_nil ?_
  refine Wp_seq_region ?_
  refine WpL_val rfl rfl (by decide) (r_loadAgg (vs := [(.int .i64 t.kind), (.slice sa t.set.length sc), (.slice aa t.args.length ac), (.int .i64 t.mn), (.int .i64 t.mx), (.bool t.neg)]) rfl agg25 siz25 rfl (Br.cells rfl)) ?_
  refine WpL_val rfl rfl (by decide) (r_makeFunc (vs := []) (us := [(.pointer (some ⟨bp, 0, none⟩))]) rfl rfl) ?_
  have hf : ∀ (s : Unit) (w : World) (t : Re) (vs : List Value), bp + 1 ≤ w.heap.size → Ext wp w → Blk w bp #[.slice ka ks.length kc] 50 → ReAt wp t vs → CallV Try.prog (.func (.func 27) #[] #[.pointer (some ⟨bp, 0, none⟩)]) #[.agg vs.toArray] w fun r w' => r = .bool (useF ks s t).1 ∧ Chg none1 w w' ∧ Blk w' bp #[.slice ka ks.length kc] 50 := fun s w t vs _ hE hI ht => CallV.mk (first := #[]) (cap := #[.pointer (some ⟨bp, 0, none⟩)]) Try.func27 nm27 bd27 rfl ((uses1_c w t vs ks (.slice ka ks.length kc) bp (ReAt.ext hE t ht) hI ((hks.ext E).ext hE)).mono fun r w' h => ⟨h.1, h.2, Ext.keep h.2 hI⟩)
  refine WpL_enter rfl rfl (by decide) (r_callF (vs := [(.agg #[(.int .i64 t.kind), (.slice sa t.set.length sc), (.slice aa t.args.length ac), (.int .i64 t.mn), (.int .i64 t.mx), (.bool t.neg)]), (.func (.func 27) #[] #[(.pointer (some ⟨bp, 0, none⟩))])]) Try.func25 nm25 bd25 rfl) ((walk_c (useF ks) (fun _ w => Blk w bp #[.slice ka ks.length kc] 50) none1 (bp + 1) _ wp (fun b hb => hb.elim) (fun s w w' hI e => e.keep hI) hf t.size t (Nat.le_refl _) () _ _ (by have := Bp.lt; omega) (Ext.refl _) Bp (ReAt.ext E t ht0)).mono (R' := fun r w => r = .bool (walkF (useF ks) t ()).1 ∧ Ext wp w) (fun r w h => ⟨h.1, h.2.1⟩)) ?_
  rintro _ w9 ⟨rfl, X9⟩
  replace Br := X9.keep Br
  replace Bp := X9.keep Bp
  replace E := E.ext X9
  refine WpL_val rfl rfl (by decide) (r_not (b := (walkF (useF ks) t ()).1) rfl) ?_
  refine WpL_val rfl rfl (by decide) (r_assign (v := (.bool (!((walkF (useF ks) t ()).1)))) rfl) ?_
  refine WpL_nil ?_
  refine Wp_ret ?_
  refine fin_tmp Try.results15 (v := (.bool (!((walkF (useF ks) t ()).1)))) rfl ?_
  exact ⟨bool_eq (by rw [walk_use]; simp), E⟩

theorem ints_own {w : World} {b T c : Nat} {l : List Int} {rest : List Value} (h : Blk w b (l.map (Value.int .i64) ++ rest).toArray T) (hl : l.length ≤ c) (hm : l.length ≤ 2000000) : IntsAt w (.slice (some ⟨b, 0, none⟩) l.length c) l := by
  refine ⟨_, c, by simp, by simp; omega, by simpa using hl, .inr ⟨b, 0, rfl, fun i r hr => ?_⟩⟩
  rw [List.getElem?_map, Option.map_eq_some_iff] at hr
  obtain ⟨x, hx, rfl⟩ := hr
  intro j u hu
  match j, hu with
  | 0, hu =>
    simp [intV] at hu; subst hu
    have := ints_get h hx
    simpa using this

def pairB (x y : Int) : Nat × Nat → Bool := fun q => decide (x = (q.1 : Int)) && decide (y = (q.2 : Int))
end Go.Proofs
