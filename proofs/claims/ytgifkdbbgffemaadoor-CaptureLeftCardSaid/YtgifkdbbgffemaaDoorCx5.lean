/- Contracts and plain lemmas, part 5. -/
import Derived.Tactics
import Derived.Deep.Quiet
import Derived.Laws.AppendOwn
import Derived.KernelRfl
import Derived.Laws.Entries
import Derived.Laws.Build
import Derived.Below
import Derived.RowKit3
import Derived.StillTail
import Derived.Sort.Grow
import Derived.Deep.Draws
import Derived.Test.YtgifkdbbgffemaaDoorChecked
import Derived.Laws.StructEq
import Derived.MapKept
import Derived.Laws.BytesArg
import Derived.DeepKeys3
import Derived.Test.YtgifkdbbgffemaaDoorCx4
namespace Go.Proofs
open Go Go.Eng
set_option maxRecDepth 100000
mutual
def usesB (ks : List Int) : Re → Bool
  | .mk k _ args _ _ _ => ks.contains k || usesBs ks args
def usesBs (ks : List Int) : List Re → Bool
  | [] => false
  | t :: ts => usesB ks t || usesBs ks ts
end
def useF (ks : List Int) : Unit → Re → Bool × Unit := fun _ t => (!ks.contains t.kind, ())
mutual
theorem walk_use (ks : List Int) : ∀ (t : Re), (walkF (useF ks) t ()).1 = !usesB ks t
  | .mk k set args mn mx ng => by
    have h := walks_use ks args
    rw [walkF_eq]
    split
    · rename_i hk
      have hk : ks.contains k = false := by simpa only [useF, Re.kind, Bool.not_eq_true'] using hk
      show (walkFs (useF ks) args ()).1 = _
      rw [h]
      simp only [usesB, hk, Bool.false_or]
    · rename_i hk
      have hk : ks.contains k = true := by
        cases hc : ks.contains k with
        | true => rfl
        | false => exact absurd (show (useF ks () (.mk k set args mn mx ng)).1 = true by simp only [useF, Re.kind, hc, Bool.not_false]) hk
      simp only [usesB, hk, Bool.true_or, Bool.not_true]
theorem walks_use (ks : List Int) : ∀ (ts : List Re), (walkFs (useF ks) ts ()).1 = !usesBs ks ts
  | [] => rfl
  | t :: ts => by
    have h1 := walk_use ks t
    have h := walks_use ks ts
    rw [walkFs_cons]
    split
    · rename_i hk
      rw [hk] at h1
      have hu : usesB ks t = false := by simpa using h1.symm
      show (walkFs (useF ks) ts ()).1 = _
      rw [h]
      simp only [usesBs, hu, Bool.false_or]
    · rename_i hk
      have hu : usesB ks t = true := by
        cases hc : usesB ks t with
        | true => rfl
        | false => rw [hc] at h1; exact absurd h1 hk
      simp only [usesBs, hu, Bool.true_or, Bool.not_true]
end
theorem uses1_c (w0 : World) (t : Re) (vs : List Value) (ks : List Int) (v : Value) (b : Nat) (ht : ReAt w0 t vs) (hB : Blk w0 b #[v] 22) (hks : IntsAt w0 v ks) :
    Ret Tryd.prog 34 #[.agg vs.toArray, .pointer (some ⟨b, 0, none⟩)] w0 fun r w => r = .bool (!ks.contains t.kind) ∧ Ext w0 w := by
  obtain ⟨sa, sc, aa, ac, rfl, _, _, _⟩ := ht.form
  refine Ret_of Tryd.func34 rfl Tryd.ntmps34 (Nat.le_of_ble_eq_true rfl) ?_
  have E : Chg none1 w0 w0 := Chg.refl _ _
  refine Wp_seq_region ?_
  refine s_box (v := (.agg #[(.int .i64 t.kind), (.slice sa t.set.length sc), (.slice aa t.args.length ac), (.int .i64 t.mn), (.int .i64 t.mx), (.bool t.neg)])) (c := #[(.int .i64 t.kind), (.slice sa t.set.length sc), (.slice aa t.args.length ac), (.int .i64 t.mn), (.int .i64 t.mx), (.bool t.neg)]) (by decide) rfl rfl ?_
  intro b1 w1 N1
  have F1 := N1.ge E
  have O1_b := N1.lt hB
  replace hB := N1.keep hB
  replace E := E.ext N1.ext
  have B1 := N1.blk
  refine WpL_val rfl rfl (by decide) (r_assign (v := (.bool false)) rfl) ?_
  refine WpL_nil ?_
  refine Wp_seq_region ?_
  refine WpL_val rfl rfl (by decide) (r_load (v := v) rfl flat22 (hB.cell rfl)) ?_
  refine WpL_val rfl rfl (by decide) (r_fieldAddr (b := b1) (o := 0) (o' := 0) rfl Tryd.underlying27 rfl siz3 rfl) ?_
  refine WpL_val rfl rfl (by decide) (r_load (v := (.int .i64 t.kind)) rfl flat3 (B1.cell rfl)) ?_
  refine WpL_enter rfl rfl (by decide) (r_callF (vs := [v, (.int .i64 t.kind)]) Tryd.func35 nm35 bd35 rfl) (hasi_c _ v t.kind ks (hks.ext E)) ?_
  rintro _ w9 ⟨rfl, X9⟩
  replace hB := X9.keep hB
  replace B1 := X9.keep B1
  replace E := E.ext X9
  refine WpL_val rfl rfl (by decide) (r_not (b := ks.contains t.kind) rfl) ?_
  refine WpL_val rfl rfl (by decide) (r_assign (v := (.bool (!(ks.contains t.kind)))) rfl) ?_
  refine WpL_nil ?_
  refine Wp_ret ?_
  refine fin_tmp Tryd.results34 (v := (.bool (!(ks.contains t.kind)))) rfl ?_
  exact ⟨rfl, E⟩
set_option maxHeartbeats 1000000 in
theorem uses_c (w0 : World) (t : Re) (vs : List Value) (ks : List Int) (v : Value) (ht : ReAt w0 t vs) (hks : IntsAt w0 v ks) :
    Ret Tryd.prog 15 #[.agg vs.toArray, v] w0 fun r w => r = .bool (usesB ks t) ∧ Ext w0 w := by
  have ht0 := ht
  obtain ⟨sa, sc, aa, ac, rfl, _, _, _⟩ := ht.form
  obtain ⟨ka, kc, rfl⟩ := SlAt.form hks
  simp only [List.length_map] at hks ⊢
  refine Ret_of Tryd.func15 rfl Tryd.ntmps15 (Nat.le_of_ble_eq_true rfl) ?_
  have E : Chg none1 w0 w0 := Chg.refl _ _
  refine Wp_seq_region ?_
  refine s_box (v := (.agg #[(.int .i64 t.kind), (.slice sa t.set.length sc), (.slice aa t.args.length ac), (.int .i64 t.mn), (.int .i64 t.mx), (.bool t.neg)])) (c := #[(.int .i64 t.kind), (.slice sa t.set.length sc), (.slice aa t.args.length ac), (.int .i64 t.mn), (.int .i64 t.mx), (.bool t.neg)]) (by decide) rfl rfl ?_
  intro br wr Nr
  have Fr := Nr.ge E
  replace E := E.ext Nr.ext
  have Br := Nr.blk
  refine s_box (v := (.slice ka ks.length kc)) (c := #[(.slice ka ks.length kc)]) (by decide) rfl rfl ?_
  intro bp wp Np
  have Fp := Np.ge E
  have Op_br := Np.lt Br
  replace Br := Np.keep Br
  replace E := E.ext Np.ext
  have Bp := Np.blk
  refine WpL_val rfl rfl (by decide) (r_assign (v := (.bool false)) rfl) ?_
  refine WpL_nil ?_
  refine Wp_seq_region ?_
  refine WpL_val rfl rfl (by decide) (r_loadAgg (vs := [(.int .i64 t.kind), (.slice sa t.set.length sc), (.slice aa t.args.length ac), (.int .i64 t.mn), (.int .i64 t.mx), (.bool t.neg)]) rfl agg27 siz27 rfl (Br.cells rfl)) ?_
  refine WpL_val rfl rfl (by decide) (r_makeFunc (vs := []) (us := [(.pointer (some ⟨bp, 0, none⟩))]) rfl rfl) ?_
  have hf : ∀ (s : Unit) (w : World) (t : Re) (vs : List Value), bp + 1 ≤ w.heap.size → Ext wp w → Blk w bp #[.slice ka ks.length kc] 22 → ReAt wp t vs → CallV Tryd.prog (.func (.func 34) #[] #[.pointer (some ⟨bp, 0, none⟩)]) #[.agg vs.toArray] w fun r w' => r = .bool (useF ks s t).1 ∧ Chg none1 w w' ∧ Blk w' bp #[.slice ka ks.length kc] 22 := fun s w t vs _ hE hI ht => CallV.mk (first := #[]) (cap := #[.pointer (some ⟨bp, 0, none⟩)]) Tryd.func34 nm34 bd34 rfl ((uses1_c w t vs ks (.slice ka ks.length kc) bp (ReAt.ext hE t ht) hI ((hks.ext E).ext hE)).mono fun r w' h => ⟨h.1, h.2, Ext.keep h.2 hI⟩)
  refine WpL_enter rfl rfl (by decide) (r_callF (vs := [(.agg #[(.int .i64 t.kind), (.slice sa t.set.length sc), (.slice aa t.args.length ac), (.int .i64 t.mn), (.int .i64 t.mx), (.bool t.neg)]), (.func (.func 34) #[] #[(.pointer (some ⟨bp, 0, none⟩))])]) Tryd.func33 nm33 bd33 rfl) ((walk_c (useF ks) (fun _ w => Blk w bp #[.slice ka ks.length kc] 22) none1 (bp + 1) _ wp (fun b hb => hb.elim) (fun s w w' hI e => e.keep hI) hf t.size t (Nat.le_refl _) () _ _ (by have := Bp.lt; omega) (Ext.refl _) Bp (ReAt.ext E t ht0)).mono (R' := fun r w => r = .bool (walkF (useF ks) t ()).1 ∧ Ext wp w) (fun r w h => ⟨h.1, h.2.1⟩)) ?_
  rintro _ w9 ⟨rfl, X9⟩
  replace Br := X9.keep Br
  replace Bp := X9.keep Bp
  replace E := E.ext X9
  refine WpL_val rfl rfl (by decide) (r_not (b := (walkF (useF ks) t ()).1) rfl) ?_
  refine WpL_val rfl rfl (by decide) (r_assign (v := (.bool (!((walkF (useF ks) t ()).1)))) rfl) ?_
  refine WpL_nil ?_
  refine Wp_ret ?_
  refine fin_tmp Tryd.results15 (v := (.bool (!((walkF (useF ks) t ()).1)))) rfl ?_
  exact ⟨bool_eq (by rw [walk_use]; simp), E⟩
end Go.Proofs
namespace Go.Proofs
open Go Go.Eng Go.Sort
set_option maxRecDepth 100000
structure NodeI (t : Re) : Prop where
  k : 0 ≤ t.kind ∧ t.kind ≤ 10
  two : t.kind = 3 ∨ t.kind = 4 ∨ t.kind = 7 → 2 ≤ t.args.length
  one : t.kind = 5 ∨ t.kind = 6 ∨ t.kind = 8 ∨ t.kind = 9 ∨ t.kind = 10 → t.args.length = 1
  rep : t.kind = 6 → 0 ≤ t.mn ∧ t.mn ≤ t.mx ∧ t.mx ≤ 8
  grp : t.kind = 9 → 0 ≤ t.mn ∧ t.mn ≤ 9
  sett : t.kind = 2 → t.set ≠ []
theorem node_inv {t : Re} (h : nodeE t = 0) : NodeI t := by
  unfold nodeE at h
  split at h
  · cases h
  rename_i h1
  split at h
  · cases h
  rename_i h2
  have h3 : formB t = true := by simpa using h2
  unfold formB at h3
  simp only [Bool.and_eq_true] at h3
  have h4 := h3.1.1.1.1
  unfold okB at h4
  refine ⟨by omega, fun hk => ?_, fun hk => ?_, fun hk => ?_, fun hk => ?_, fun hk => ?_⟩
  · rw [if_pos hk] at h4
    have := of_decide_eq_true h4; omega
  · rw [if_neg (by omega), if_pos hk] at h4
    have := of_decide_eq_true h4; omega
  · rw [if_neg (by omega), if_pos hk] at h
    split at h
    · cases h
    · omega
  · rw [if_neg (by omega), if_neg (by omega), if_pos hk] at h
    split at h
    · cases h
    · omega
  · rw [if_pos hk] at h
    intro e
    rw [e] at h
    simp [checkE, checkL] at h
def lenK (k : Int) (n sum : Nat) (mn mx : Int) : Nat := if k = 1 then 0 else if k = 3 then sum else if k = 4 then sum + 2 * (n - 1) else if k = 5 then sum + 4 else if k = 6 then mn.toNat * sum + (mx - mn).toNat * (sum + 3) else if k = 9 then sum + 2 else if k = 10 then sum + 2 else 1
mutual
def lenQ : Re → Nat
  | .mk k _ args mn mx _ => min (lenK k args.length (lenQs args) mn mx) 1048576
def lenQs : List Re → Nat
  | [] => 0
  | t :: ts => lenQ t + lenQs ts
end
theorem lenQ_eq (t : Re) : lenQ t = min (lenK t.kind t.args.length (lenQs t.args) t.mn t.mx) 1048576 := by cases t; rfl
theorem lenQ_le (t : Re) : lenQ t ≤ 1048576 := by rw [lenQ_eq]; exact Nat.min_le_right _ _
theorem lenQs_le : ∀ ts : List Re, lenQs ts ≤ ts.length * 1048576
  | [] => Nat.zero_le _
  | t :: ts => by
    rw [List.length_cons, Nat.succ_mul, Nat.add_comm]
    exact Nat.add_le_add (lenQ_le t) (lenQs_le ts)
theorem lenQs_take {ts : List Re} {j : Nat} {y : Re} (h : ts[j]? = some y) : lenQs (ts.take (j + 1)) = lenQs (ts.take j) + lenQ y := by
  have app : ∀ a b : List Re, lenQs (a ++ b) = lenQs a + lenQs b := fun a b => by
    induction a with
    | nil => simp [lenQs]
    | cons x a ih => simp only [List.cons_append, lenQs, ih]; omega
  rw [List.take_add_one, h, Option.toList_some, app]
  simp [lenQs]
theorem lenQs_takele (ts : List Re) (j : Nat) : lenQs (ts.take j) ≤ ts.length * 1048576 := by
  have h1 := lenQs_le (ts.take j)
  have h2 : (ts.take j).length ≤ ts.length := by simp; omega
  exact Nat.le_trans h1 (Nat.mul_le_mul_right 1048576 h2)
set_option maxHeartbeats 1000000 in
theorem length_c (wb : World) : ∀ (m : Nat) (t : Re), t.size ≤ m → okRe t → t.size ≤ 40 → ∀ (w0 : World) (vs : List Value), ReAt wb t vs → Ext wb w0 →
    Ret Tryd.prog 58 #[.agg vs.toArray] w0 fun r w => r = iV (lenQ t) ∧ Ext w0 w
  | 0, t, hs, _, _ => by have := t.size_pos; omega
  | m + 1, t, hs, hok, h40 => by
    intro w0 vs hx hE
    obtain ⟨sa, sc, aa, ac, rfl, hset, hal, hargs⟩ := hx.form
    have hN := node_inv (okRe_node hok)
    have hml : t.args.length ≤ 40 := by have := sizes_ge t.args; have := t.size_eq; omega
    obtain ⟨n, hn⟩ : ∃ n, n = t.args.length := ⟨_, rfl⟩
    rw [← hn] at hal ⊢
    refine Ret_of Tryd.func58 rfl Tryd.ntmps58 (Nat.le_of_ble_eq_true rfl) ?_
    have E : Chg none1 w0 w0 := Chg.refl _ _
    refine Wp_seq_region ?_
    refine s_box (v := (.agg #[(.int .i64 t.kind), (.slice sa t.set.length sc), (.slice aa n ac), (.int .i64 t.mn), (.int .i64 t.mx), (.bool t.neg)])) (c := #[(.int .i64 t.kind), (.slice sa t.set.length sc), (.slice aa n ac), (.int .i64 t.mn), (.int .i64 t.mx), (.bool t.neg)]) (by decide) rfl rfl ?_
    intro bx wx Nx
    have Fx := Nx.ge E
    replace E := E.ext Nx.ext
    have Bx := Nx.blk
    refine WpL_val rfl rfl (by decide) (r_assign (v := (.int .i64 0)) rfl) ?_
    refine WpL_nil ?_
    refine Wp_seq_region ?_
    refine WpL_val rfl rfl (by decide) (r_assign (v := (.int .i64 0)) rfl) ?_
    refine WpL_nil ?_
    refine Wp_seq ?_
    refine Wp_seq_region ?_
    refine WpL_val rfl rfl (by decide) (r_fieldAddr (b := bx) (o := 0) (o' := 2) rfl Tryd.underlying27 rfl siz25 rfl) ?_
    refine WpL_val rfl rfl (by decide) (r_load (v := (.slice aa n ac)) rfl flat25 (Bx.cell rfl)) ?_
    refine WpL_val rfl rfl (by decide) (r_lenSlice (ad := aa) (n := n) (cap := ac) Tryd.underlying25 rfl) ?_
    refine WpL_val rfl rfl (by decide) (r_move (v := (.int .i64 0)) rfl) ?_
    refine WpL_nil ?_
    refine Wp_block ?_
    refine Wp_loop (fun nn_ σ W1 => ∃ (j : Nat), (∃ jj_, σ = upds jj_ [(1, (.pointer (some ⟨bx, 0, none⟩))), (8, (.slice aa n ac)), (9, (.int .i64 ((n : Nat) : Int))), (10, (.int .i64 ((j : Nat) : Int))), (3, (.int .i64 ((lenQs (t.args.take j) : Nat) : Int)))]) ∧ Chg none1 w0 W1 ∧ Blk W1 bx #[(.int .i64 t.kind), (.slice sa t.set.length sc), (.slice aa n ac), (.int .i64 t.mn), (.int .i64 t.mx), (.bool t.neg)] 27 ∧ (j ≤ n) ∧ nn_ = n - j) (n := n - 0) ?_ ?_
    · exact ⟨0, Fits.out ⟨rfl, rfl, rfl, rfl, rfl, trivial⟩, E, Bx, Nat.zero_le _, rfl⟩
    · clear E Bx
      rintro _ _ W1 ⟨j, ⟨j1, rfl⟩, E, Bx, hj, rfl⟩
      refine Wp_seq_region ?_
      refine WpL_val rfl rfl (by decide) (r_lss (k := .i64) (a := ((j : Nat) : Int)) (b := ((n : Nat) : Int)) rfl rfl) ?_
      refine WpL_nil ?_
      refine Wp_seq ?_
      refine Wp_cond (b := decide ((((j : Nat) : Int) : Int) < ((n : Nat) : Int))) rfl (fun hlt => ?_) (fun hlt => ?_)
      · have khlt := hlt
        replace hlt := of_decide_eq_true hlt
        obtain ⟨y, hy⟩ := get_of_lt (l := t.args) (i := j) (by omega)
        obtain ⟨b, o, rfl, hres⟩ := res_block hargs (lt_of_get hy)
        obtain ⟨us, hus, hyt⟩ := hres.get hy
        have hsz := Re.size_arg hy
        have h1 := Nat.le_trans (lenQs_takele t.args j) (Nat.mul_le_mul_right 1048576 hml)
        have h2 := lenQ_le y
        have hst := lenQs_take hy
        refine Wp_skip ?_
        refine thn_normal ?_
        refine Wp_seq ?_
        refine Wp_block ?_
        refine Wp_seq_region ?_
        refine WpL_val rfl rfl (by decide) (r_indexSlice (b := b) (o := o) (len := n) (cap := ac) (i := j) (o' := o + j * 6) rfl rfl rfl Tryd.underlying25 siz27 (by omega) (by omega)) ?_
        refine WpL_val rfl rfl (by decide) (r_loadAgg (vs := us) rfl agg27 siz27 hyt.len (hus.ext (hE.trans E))) ?_
        refine s_allocStore (v := (.agg us.toArray)) (c := us.toArray) (n := 6) (by decide) zer27 rfl siz27 rfl rfl (by simpa using hyt.len) (by simpa using ReAt.one hyt) ?_
        intro bu wu Nu
        have Fu := Nu.ge E
        have Ou_bx := Nu.lt Bx
        replace Bx := Nu.keep Bx
        replace E := E.ext Nu.ext
        have Bu := Nu.blk
        refine WpL_nil ?_
        refine Wp_region ?_
        refine WpL_val rfl rfl (by decide) (r_move (v := (.int .i64 ((lenQs (t.args.take j) : Nat) : Int))) rfl) ?_
        refine WpL_val rfl rfl (by decide) (r_loadAgg (vs := us) rfl agg27 siz27 hyt.len (Bu.cells (by simp))) ?_
        refine WpL_enter rfl rfl (by decide) (r_callF (vs := [(.agg us.toArray)]) Tryd.func58 nm58 bd58 rfl) (length_c wb m y (by omega) (okRes_get (okRe_args hok) hy) (by omega) _ us hyt (hE.trans E)) ?_
        rintro _ w19 ⟨rfl, X19⟩
        replace Bx := X19.keep Bx
        replace Bu := X19.keep Bu
        replace E := E.ext X19
        refine WpL_val rfl rfl (by decide) (r_add (k := .i64) (a := ((lenQs (t.args.take j) : Nat) : Int)) (b := ((lenQ y : Nat) : Int)) (c := ((lenQs (t.args.take (j + 1)) : Nat) : Int)) rfl rfl ((wI64 (by omega)).trans (by omega))) ?_
        refine WpL_val rfl rfl (by decide) (r_assign (v := (.int .i64 ((lenQs (t.args.take (j + 1)) : Nat) : Int))) rfl) ?_
        refine WpL_nil ?_
        refine inB_normal ?_
        refine thn_normal ?_
        refine Wp_region ?_
        refine WpL_val rfl rfl (by decide) (r_add (k := .i64) (a := ((j : Nat) : Int)) (b := 1) (c := ((j : Nat) : Int) + 1) rfl rfl (wI64 (by omega))) ?_
        refine WpL_val rfl rfl (by decide) (r_move (v := (.int .i64 (((j : Nat) : Int) + 1))) rfl) ?_
        refine WpL_nil ?_
        refine thn_normal ?_
        exact ⟨n - (j + 1), by omega, j + 1, Fits.out ⟨rfl, rfl, rfl, rfl, rfl, trivial⟩, E, Bx, (by omega), rfl⟩
      · have khlt := hlt
        replace hlt := of_decide_eq_false hlt
        have hjl : j = n := by omega
        rw [hjl, hn, List.take_length]
        have h1 := Nat.le_trans (lenQs_le t.args) (Nat.mul_le_mul_right 1048576 hml)
        obtain ⟨sm, hsm⟩ : ∃ s, s = lenQs t.args := ⟨_, rfl⟩
        rw [← hsm] at h1 ⊢
        refine Wp_exit ?_
        refine thn_exit ?_
        refine thn_exit ?_
        refine inB_here ?_
        refine thn_normal ?_
        refine Wp_seq_region ?_
        refine WpL_val rfl rfl (by decide) (r_assign (v := (.int .i64 1)) rfl) ?_
        refine WpL_nil ?_
        refine Wp_cut (fun σ W3 => ∃ (u : Nat), (∃ jj_, σ = upds jj_ [(6, (.int .i64 ((u : Nat) : Int)))]) ∧ Chg none1 w0 W3 ∧ Blk W3 bx #[(.int .i64 t.kind), (.slice sa t.set.length sc), (.slice aa n ac), (.int .i64 t.mn), (.int .i64 t.mx), (.bool t.neg)] 27 ∧ (u = lenK t.kind n sm t.mn t.mx) ∧ (u ≤ 1000000000)) ?_ ?_
        · skip
          refine Wp_seq_region ?_
          refine WpL_val rfl rfl (by decide) (r_fieldAddr (b := bx) (o := 0) (o' := 0) rfl Tryd.underlying27 rfl siz3 rfl) ?_
          refine WpL_val rfl rfl (by decide) (r_load (v := (.int .i64 t.kind)) rfl flat3 (Bx.cell rfl)) ?_
          refine WpL_nil ?_
          refine Wp_block ?_
          refine Wp_seq_region ?_
          refine WpL_val rfl rfl (by decide) (r_eql (k := .i64) (a := t.kind) (b := 1) rfl rfl) ?_
          refine WpL_val rfl rfl (by decide) (r_assign (v := (.bool (decide ((t.kind : Int) = 1)))) rfl) ?_
          refine WpL_nil ?_
          refine Wp_cond (b := decide ((t.kind : Int) = 1)) rfl (fun k1 => ?_) (fun k1 => ?_)
          · have kk1 := k1
            replace k1 := of_decide_eq_true k1
            refine Wp_region ?_
            refine WpL_val rfl rfl (by decide) (r_assign (v := (.int .i64 0)) rfl) ?_
            refine WpL_nil ?_
            refine inB_normal ?_
            refine thn_normal ?_
            exact ⟨0, Fits.out ⟨rfl, trivial⟩, E, Bx, (by unfold lenK; rw [if_pos k1]), (by omega)⟩
          · have kk1 := k1
            replace k1 := of_decide_eq_false k1
            refine Wp_seq_region ?_
            refine WpL_val rfl rfl (by decide) (r_eql (k := .i64) (a := t.kind) (b := 3) rfl rfl) ?_
            refine WpL_val rfl rfl (by decide) (r_assign (v := (.bool (decide ((t.kind : Int) = 3)))) rfl) ?_
            refine WpL_nil ?_
            refine Wp_cond (b := decide ((t.kind : Int) = 3)) rfl (fun k3 => ?_) (fun k3 => ?_)
            · have kk3 := k3
              replace k3 := of_decide_eq_true k3
              refine Wp_region ?_
              refine WpL_val rfl rfl (by decide) (r_move (v := (.int .i64 ((sm : Nat) : Int))) rfl) ?_
              refine WpL_val rfl rfl (by decide) (r_assign (v := (.int .i64 ((sm : Nat) : Int))) rfl) ?_
              refine WpL_nil ?_
              refine inB_normal ?_
              refine thn_normal ?_
              exact ⟨sm, Fits.out ⟨rfl, trivial⟩, E, Bx, (by unfold lenK; rw [if_neg k1, if_pos k3]), (by omega)⟩
            · have kk3 := k3
              replace k3 := of_decide_eq_false k3
              refine Wp_seq_region ?_
              refine WpL_val rfl rfl (by decide) (r_eql (k := .i64) (a := t.kind) (b := 4) rfl rfl) ?_
              refine WpL_val rfl rfl (by decide) (r_assign (v := (.bool (decide ((t.kind : Int) = 4)))) rfl) ?_
              refine WpL_nil ?_
              refine Wp_cond (b := decide ((t.kind : Int) = 4)) rfl (fun k4 => ?_) (fun k4 => ?_)
              · have kk4 := k4
                replace k4 := of_decide_eq_true k4
                have h2n := hN.two (.inr (.inl k4))
                refine Wp_region ?_
                refine WpL_val rfl rfl (by decide) (r_move (v := (.int .i64 ((sm : Nat) : Int))) rfl) ?_
                refine WpL_val rfl rfl (by decide) (r_fieldAddr (b := bx) (o := 0) (o' := 2) rfl Tryd.underlying27 rfl siz25 rfl) ?_
                refine WpL_val rfl rfl (by decide) (r_load (v := (.slice aa n ac)) rfl flat25 (Bx.cell rfl)) ?_
                refine WpL_val rfl rfl (by decide) (r_lenSlice (ad := aa) (n := n) (cap := ac) Tryd.underlying25 rfl) ?_
                refine WpL_val rfl rfl (by decide) (r_sub (k := .i64) (a := ((n : Nat) : Int)) (b := 1) (c := ((n - 1 : Nat) : Int)) rfl rfl ((wI64 (by omega)).trans (by omega))) ?_
                refine WpL_val rfl rfl (by decide) (r_mul (k := .i64) (a := 2) (b := ((n - 1 : Nat) : Int)) (c := ((2 * (n - 1) : Nat) : Int)) rfl rfl ((wI64 (by omega)).trans (by omega))) ?_
                refine WpL_val rfl rfl (by decide) (r_add (k := .i64) (a := ((sm : Nat) : Int)) (b := ((2 * (n - 1) : Nat) : Int)) (c := ((sm + 2 * (n - 1) : Nat) : Int)) rfl rfl ((wI64 (by omega)).trans (by omega))) ?_
                refine WpL_val rfl rfl (by decide) (r_assign (v := (.int .i64 ((sm + 2 * (n - 1) : Nat) : Int))) rfl) ?_
                refine WpL_nil ?_
                refine inB_normal ?_
                refine thn_normal ?_
                exact ⟨sm + 2 * (n - 1), Fits.out ⟨rfl, trivial⟩, E, Bx, (by unfold lenK; rw [if_neg k1, if_neg k3, if_pos k4]), (by omega)⟩
              · have kk4 := k4
                replace k4 := of_decide_eq_false k4
                refine Wp_seq_region ?_
                refine WpL_val rfl rfl (by decide) (r_eql (k := .i64) (a := t.kind) (b := 5) rfl rfl) ?_
                refine WpL_val rfl rfl (by decide) (r_assign (v := (.bool (decide ((t.kind : Int) = 5)))) rfl) ?_
                refine WpL_nil ?_
                refine Wp_cond (b := decide ((t.kind : Int) = 5)) rfl (fun k5 => ?_) (fun k5 => ?_)
                · have kk5 := k5
                  replace k5 := of_decide_eq_true k5
                  refine Wp_region ?_
                  refine WpL_val rfl rfl (by decide) (r_move (v := (.int .i64 ((sm : Nat) : Int))) rfl) ?_
                  refine WpL_val rfl rfl (by decide) (r_add (k := .i64) (a := ((sm : Nat) : Int)) (b := 4) (c := ((sm + 4 : Nat) : Int)) rfl rfl ((wI64 (by omega)).trans (by omega))) ?_
                  refine WpL_val rfl rfl (by decide) (r_assign (v := (.int .i64 ((sm + 4 : Nat) : Int))) rfl) ?_
                  refine WpL_nil ?_
                  refine inB_normal ?_
                  refine thn_normal ?_
                  exact ⟨sm + 4, Fits.out ⟨rfl, trivial⟩, E, Bx, (by unfold lenK; rw [if_neg k1, if_neg k3, if_neg k4, if_pos k5]), (by omega)⟩
                · have kk5 := k5
                  replace k5 := of_decide_eq_false k5
                  refine Wp_seq_region ?_
                  refine WpL_val rfl rfl (by decide) (r_eql (k := .i64) (a := t.kind) (b := 6) rfl rfl) ?_
                  refine WpL_val rfl rfl (by decide) (r_assign (v := (.bool (decide ((t.kind : Int) = 6)))) rfl) ?_
                  refine WpL_nil ?_
                  refine Wp_cond (b := decide ((t.kind : Int) = 6)) rfl (fun k6 => ?_) (fun k6 => ?_)
                  · have kk6 := k6
                    replace k6 := of_decide_eq_true k6
                    obtain ⟨r1, r2, r3⟩ := hN.rep k6
                    obtain ⟨a, ha⟩ := Int.eq_ofNat_of_zero_le r1
                    obtain ⟨c, hc⟩ := Int.eq_ofNat_of_zero_le (show 0 ≤ t.mx - t.mn by omega)
                    have hp1 : t.mn * (sm : Int) = ((a * sm : Nat) : Int) := by rw [ha]; push_cast; rfl
                    have hp2 : ((c : Nat) : Int) * ((sm + 3 : Nat) : Int) = ((c * (sm + 3) : Nat) : Int) := by push_cast; rfl
                    have hb1 : a * sm ≤ 8 * 50000000 := Nat.mul_le_mul (by omega) (by omega)
                    have hb2 : c * (sm + 3) ≤ 8 * 50000000 := Nat.mul_le_mul (by omega) (by omega)
                    have hs3 : t.mn.toNat * sm + (t.mx - t.mn).toNat * (sm + 3) = a * sm + c * (sm + 3) := by rw [show t.mn.toNat = a by omega, show (t.mx - t.mn).toNat = c by omega]
                    refine Wp_region ?_
                    refine WpL_val rfl rfl (by decide) (r_fieldAddr (b := bx) (o := 0) (o' := 3) rfl Tryd.underlying27 rfl siz3 rfl) ?_
                    refine WpL_val rfl rfl (by decide) (r_load (v := (.int .i64 t.mn)) rfl flat3 (Bx.cell rfl)) ?_
                    refine WpL_val rfl rfl (by decide) (r_move (v := (.int .i64 ((sm : Nat) : Int))) rfl) ?_
                    refine WpL_val rfl rfl (by decide) (r_mul (k := .i64) (a := t.mn) (b := ((sm : Nat) : Int)) (c := ((a * sm : Nat) : Int)) rfl rfl ((wI64 (by omega)).trans hp1)) ?_
                    refine WpL_val rfl rfl (by decide) (r_fieldAddr (b := bx) (o := 0) (o' := 4) rfl Tryd.underlying27 rfl siz3 rfl) ?_
                    refine WpL_val rfl rfl (by decide) (r_load (v := (.int .i64 t.mx)) rfl flat3 (Bx.cell rfl)) ?_
                    refine WpL_val rfl rfl (by decide) (r_fieldAddr (b := bx) (o := 0) (o' := 3) rfl Tryd.underlying27 rfl siz3 rfl) ?_
                    refine WpL_val rfl rfl (by decide) (r_load (v := (.int .i64 t.mn)) rfl flat3 (Bx.cell rfl)) ?_
                    refine WpL_val rfl rfl (by decide) (r_sub (k := .i64) (a := t.mx) (b := t.mn) (c := ((c : Nat) : Int)) rfl rfl ((wI64 (by omega)).trans (by omega))) ?_
                    refine WpL_val rfl rfl (by decide) (r_move (v := (.int .i64 ((sm : Nat) : Int))) rfl) ?_
                    refine WpL_val rfl rfl (by decide) (r_add (k := .i64) (a := ((sm : Nat) : Int)) (b := 3) (c := ((sm + 3 : Nat) : Int)) rfl rfl ((wI64 (by omega)).trans (by omega))) ?_
                    refine WpL_val rfl rfl (by decide) (r_mul (k := .i64) (a := ((c : Nat) : Int)) (b := ((sm + 3 : Nat) : Int)) (c := ((c * (sm + 3) : Nat) : Int)) rfl rfl ((wI64 (by omega)).trans hp2)) ?_
                    refine WpL_val rfl rfl (by decide) (r_add (k := .i64) (a := ((a * sm : Nat) : Int)) (b := ((c * (sm + 3) : Nat) : Int)) (c := ((a * sm + c * (sm + 3) : Nat) : Int)) rfl rfl ((wI64 (by omega)).trans (by omega))) ?_
                    refine WpL_val rfl rfl (by decide) (r_assign (v := (.int .i64 ((a * sm + c * (sm + 3) : Nat) : Int))) rfl) ?_
                    refine WpL_nil ?_
                    refine inB_normal ?_
                    refine thn_normal ?_
                    exact ⟨a * sm + c * (sm + 3), Fits.out ⟨rfl, trivial⟩, E, Bx, (by unfold lenK; rw [if_neg k1, if_neg k3, if_neg k4, if_neg k5, if_pos k6, hs3]), (by omega)⟩
                  · have kk6 := k6
                    replace k6 := of_decide_eq_false k6
                    refine Wp_seq ?_
                    refine Wp_seq_region ?_
                    refine WpL_val rfl rfl (by decide) (r_eql (k := .i64) (a := t.kind) (b := 9) rfl rfl) ?_
                    refine WpL_val rfl rfl (by decide) (r_assign (v := (.bool (decide ((t.kind : Int) = 9)))) rfl) ?_
                    refine WpL_nil ?_
                    refine Wp_cond (b := decide ((t.kind : Int) = 9)) rfl (fun k9 => ?_) (fun k9 => ?_)
                    · have kk9 := k9
                      replace k9 := of_decide_eq_true k9
                      refine Wp_skip ?_
                      refine thn_normal ?_
                      refine Wp_cond_true (congrArg Value.bool kk9) ?_
                      refine Wp_region ?_
                      refine WpL_val rfl rfl (by decide) (r_move (v := (.int .i64 ((sm : Nat) : Int))) rfl) ?_
                      refine WpL_val rfl rfl (by decide) (r_add (k := .i64) (a := ((sm : Nat) : Int)) (b := 2) (c := ((sm + 2 : Nat) : Int)) rfl rfl ((wI64 (by omega)).trans (by omega))) ?_
                      refine WpL_val rfl rfl (by decide) (r_assign (v := (.int .i64 ((sm + 2 : Nat) : Int))) rfl) ?_
                      refine WpL_nil ?_
                      refine inB_normal ?_
                      refine thn_normal ?_
                      exact ⟨sm + 2, Fits.out ⟨rfl, trivial⟩, E, Bx, (by unfold lenK; rw [if_neg k1, if_neg k3, if_neg k4, if_neg k5, if_neg k6, if_pos k9]), (by omega)⟩
                    · have kk9 := k9
                      replace k9 := of_decide_eq_false k9
                      refine Wp_region ?_
                      refine WpL_val rfl rfl (by decide) (r_eql (k := .i64) (a := t.kind) (b := 10) rfl rfl) ?_
                      refine WpL_val rfl rfl (by decide) (r_assign (v := (.bool (decide ((t.kind : Int) = 10)))) rfl) ?_
                      refine WpL_nil ?_
                      refine thn_normal ?_
                      refine Wp_cond (b := decide ((t.kind : Int) = 10)) rfl (fun k10 => ?_) (fun k10 => ?_)
                      · have kk10 := k10
                        replace k10 := of_decide_eq_true k10
                        refine Wp_region ?_
                        refine WpL_val rfl rfl (by decide) (r_move (v := (.int .i64 ((sm : Nat) : Int))) rfl) ?_
                        refine WpL_val rfl rfl (by decide) (r_add (k := .i64) (a := ((sm : Nat) : Int)) (b := 2) (c := ((sm + 2 : Nat) : Int)) rfl rfl ((wI64 (by omega)).trans (by omega))) ?_
                        refine WpL_val rfl rfl (by decide) (r_assign (v := (.int .i64 ((sm + 2 : Nat) : Int))) rfl) ?_
                        refine WpL_nil ?_
                        refine inB_normal ?_
                        refine thn_normal ?_
                        exact ⟨sm + 2, Fits.out ⟨rfl, trivial⟩, E, Bx, (by unfold lenK; rw [if_neg k1, if_neg k3, if_neg k4, if_neg k5, if_neg k6, if_neg k9, if_pos k10]), (by omega)⟩
                      · have kk10 := k10
                        replace k10 := of_decide_eq_false k10
                        refine Wp_skip ?_
                        refine inB_normal ?_
                        refine thn_normal ?_
                        exact ⟨1, Fits.out ⟨rfl, trivial⟩, E, Bx, (by unfold lenK; rw [if_neg k1, if_neg k3, if_neg k4, if_neg k5, if_neg k6, if_neg k9, if_neg k10]), (by omega)⟩
        · clear E Bx
          rintro _ W3 ⟨u, ⟨j3, rfl⟩, E, Bx, hu, hu2⟩
          refine Wp_seq_region ?_
          refine WpL_val rfl rfl (by decide) (r_move (v := (.int .i64 ((u : Nat) : Int))) rfl) ?_
          refine WpL_val rfl rfl (by decide) (r_minI (k := .i64) (a := ((u : Nat) : Int)) (b := 1048576) (c := ((min u 1048576 : Nat) : Int)) rfl rfl (by omega)) ?_
          refine WpL_val rfl rfl (by decide) (r_assign (v := (.int .i64 ((min u 1048576 : Nat) : Int))) rfl) ?_
          refine WpL_nil ?_
          refine Wp_ret ?_
          refine fin_tmp Tryd.results58 (v := (.int .i64 ((min u 1048576 : Nat) : Int))) rfl ?_
          exact ⟨by rw [lenQ_eq, ← hn, ← hsm, ← hu], E⟩
def FLen (f : Frg) (q : Nat) : Prop := ∀ a d t, (f a d t).1.length ≤ q ∧ (f a d t).2 ≤ t + q
theorem FLen.mono {f : Frg} {q q' : Nat} (h : FLen f q) (hq : q ≤ q') : FLen f q' := fun a d t => ⟨Nat.le_trans (h a d t).1 hq, Nat.le_trans (h a d t).2 (by omega)⟩
theorem seqF_len : ∀ (args : List Re), (∀ y ∈ args, FLen (frgOf y) (lenQ y)) → FLen (seqF (args.map frgOf)) (lenQs args)
  | [], _, a, d, t => by simp [seqF, lenQs]
  | y :: args, h, a, d, t => by
    have h1 := h y (by simp) a d t
    have h2 := seqF_len args (fun z hz => h z (by simp [hz])) (a + (frgOf y a d t).1.length) d (frgOf y a d t).2
    simp only [List.map_cons, seqF, lenQs, List.length_append]
    omega
theorem seqR_len {f : Frg} {q : Nat} (h : FLen f q) : ∀ n, FLen (seqF (List.replicate n f)) (n * q)
  | 0, a, d, t => by simp [seqF]
  | n + 1, a, d, t => by
    have h1 := h a d t
    have h2 := seqR_len h n (a + (f a d t).1.length) d (f a d t).2
    simp only [List.replicate_succ, seqF, List.length_append, Nat.succ_mul]
    omega
theorem itF_len2 {f : Frg} {q : Nat} (e : Nat) (h : FLen f q) : ∀ n, FLen (itF e f n) (n * (q + 3))
  | 0, a, d, t => by simp [itF]
  | n + 1, a, d, t => by
    have h1 := h (a + 2) (d + 1) t
    have h2 := itF_len2 e h n (a + 2 + (f (a + 2) (d + 1) t).1.length + 1) d (f (a + 2) (d + 1) t).2
    simp only [itF, List.length_append, List.length_cons, Nat.succ_mul]
    omega
theorem altF_len2 (e : Nat) : ∀ (args : List Re), (∀ y ∈ args, FLen (frgOf y) (lenQ y)) → FLen (altF e (args.map frgOf)) (lenQs args + 2 * (args.length - 1))
  | [], _, a, d, t => by simp [altF]
  | [y], h, a, d, t => by
    have h1 := h y (by simp) a d t
    simp only [List.map_cons, List.map_nil, altF, lenQs, List.length_cons, List.length_nil]
    omega
  | y :: z :: args, h, a, d, t => by
    have h1 := h y (by simp) (a + 1) d t
    have h2 := altF_len2 e (z :: args) (fun x hx => h x (by simp only [List.mem_cons] at hx ⊢; exact .inr hx)) (a + 1 + (frgOf y (a + 1) d t).1.length + 1) d (frgOf y (a + 1) d t).2
    simp only [List.map_cons] at h2
    simp only [List.map_cons, altF, lenQs, List.length_cons, List.length_append] at h2 ⊢
    omega
theorem lenQs_mem : ∀ {ts : List Re} {y : Re}, y ∈ ts → lenQ y ≤ lenQs ts
  | t :: ts, y, h => by
    simp only [lenQs]
    rcases List.mem_cons.1 h with rfl | h
    · omega
    · have := lenQs_mem h; omega
theorem one_arg {args : List Re} (h : args.length = 1) : ∃ y, args = [y] := by
  match args, h with
  | [y], _ => exact ⟨y, rfl⟩
theorem okRes_mem {ts : List Re} (h : okRes ts) : ∀ y ∈ ts, okRe y := fun y hy => by
  obtain ⟨i, hi⟩ := List.getElem?_of_mem hy
  exact okRes_get h hi
theorem usesBs_mem {ks : List Int} : ∀ {ts : List Re}, usesBs ks ts = false → ∀ y ∈ ts, usesB ks y = false
  | t :: ts, h, y, hy => by
    simp only [usesBs, Bool.or_eq_false_iff] at h
    rcases List.mem_cons.1 hy with rfl | hy
    · exact h.1
    · exact usesBs_mem h.2 y hy
/-- What can be translated, kind by kind. -/
theorem kinds_of {k : Int} {set : List (Int × Int)} {args : List Re} {mn mx : Int} {ng : Bool} (hok : okRe (.mk k set args mn mx ng)) (hu : usesB [7, 8] (.mk k set args mn mx ng) = false) :
    k = 0 ∨ k = 1 ∨ k = 2 ∨ k = 3 ∨ (k = 4 ∧ 2 ≤ args.length) ∨ (k = 5 ∧ ∃ y, args = [y]) ∨ (k = 6 ∧ (∃ y, args = [y]) ∧ ∃ k1 k2 : Nat, mn = k1 ∧ mx = ((k1 + k2 : Nat) : Int) ∧ k1 + k2 ≤ 8) ∨ (k = 9 ∧ (∃ y, args = [y]) ∧ ∃ q : Nat, mn = q ∧ q ≤ 9) ∨ (k = 10 ∧ ∃ y, args = [y]) := by
  have hN := node_inv (okRe_node hok)
  simp only [usesB, Bool.or_eq_false_iff] at hu
  have h7 : k ≠ 7 ∧ k ≠ 8 := by
    have := hu.1
    simp at this
    exact this
  have hk := hN.k
  have h2 := hN.two
  have h1 := hN.one
  have h6 := hN.rep
  have h9 := hN.grp
  simp only [Re.kind, Re.args, Re.mn, Re.mx] at hk h2 h1 h6 h9
  by_cases e4 : k = 4
  · exact .inr (.inr (.inr (.inr (.inl ⟨e4, h2 (.inr (.inl e4))⟩))))
  by_cases e5 : k = 5
  · exact .inr (.inr (.inr (.inr (.inr (.inl ⟨e5, one_arg (h1 (.inl e5))⟩)))))
  by_cases e6 : k = 6
  · obtain ⟨a, b, c⟩ := h6 e6
    exact .inr (.inr (.inr (.inr (.inr (.inr (.inl ⟨e6, one_arg (h1 (.inr (.inl e6))), mn.toNat, (mx - mn).toNat, by omega, by omega, by omega⟩))))))
  by_cases e9 : k = 9
  · obtain ⟨a, b⟩ := h9 e9
    exact .inr (.inr (.inr (.inr (.inr (.inr (.inr (.inl ⟨e9, one_arg (h1 (.inr (.inr (.inr (.inl e9))))), mn.toNat, by omega, by omega⟩)))))))
  by_cases e10 : k = 10
  · exact .inr (.inr (.inr (.inr (.inr (.inr (.inr (.inr ⟨e10, one_arg (h1 (.inr (.inr (.inr (.inr e10)))))⟩)))))))
  omega
theorem lenQ_lt {k : Int} {set : List (Int × Int)} {args : List Re} {mn mx : Int} {ng : Bool} (h : lenQ (.mk k set args mn mx ng) < 400) : lenQ (.mk k set args mn mx ng) = lenK k args.length (lenQs args) mn mx := by
  simp only [lenQ] at h ⊢
  omega
theorem frg_len : ∀ (m : Nat) (t : Re), t.size ≤ m → okRe t → usesB [7, 8] t = false → lenQ t < 400 → FLen (frgOf t) (lenQ t)
  | 0, t, hs, _, _, _ => by have := t.size_pos; omega
  | m + 1, .mk k set args mn mx ng, hs, hok, hu, hl => by
    have ih : ∀ y ∈ args, lenQ y < 400 → FLen (frgOf y) (lenQ y) := fun y hy hly => by
      refine frg_len m y ?_ (okRes_mem (okRe_args hok) y hy) (usesBs_mem (by simp only [usesB, Bool.or_eq_false_iff] at hu; exact hu.2) y hy) hly
      obtain ⟨i, hi⟩ := List.getElem?_of_mem hy
      have := Re.size_arg (t := .mk k set args mn mx ng) hi
      omega
    have hq := lenQ_lt hl
    have hmem : ∀ y ∈ args, lenQ y ≤ lenQs args := fun y hy => lenQs_mem hy
    rcases kinds_of hok hu with rfl | rfl | rfl | rfl | ⟨rfl, h2⟩ | ⟨rfl, y, rfl⟩ | ⟨rfl, ⟨y, rfl⟩, k1, k2, rfl, rfl, h8⟩ | ⟨rfl, ⟨y, rfl⟩, q, rfl, h9⟩ | ⟨rfl, y, rfl⟩
    · intro a d t
      rw [frg_0, hq]
      simp [lenK]
    · intro a d t
      rw [frg_1]
      simp
    · intro a d t
      rw [frg_2, hq]
      simp [lenK]
    · have e : lenK 3 args.length (lenQs args) mn mx = lenQs args := by simp [lenK]
      rw [e] at hq
      intro a d t
      rw [frg_3, hq]
      exact seqF_len args (fun y hy => ih y hy (by have := hmem y hy; omega)) a d t
    · have e : lenK 4 args.length (lenQs args) mn mx = lenQs args + 2 * (args.length - 1) := by simp [lenK]
      rw [e] at hq
      intro a d t
      rw [frg_4, hq]
      exact altF_len2 _ args (fun y hy => ih y hy (by have := hmem y hy; omega)) a d t
    · have e : lenK 5 [y].length (lenQs [y]) mn mx = lenQ y + 4 := by simp [lenK, lenQs]
      rw [e] at hq
      intro a d t
      rw [frg_5, hq]
      have := ih y (by simp) (by omega) (a + 2) (d + 1) t
      simp only [List.length_cons, List.length_append, List.length_nil]
      omega
    · have e : lenK 6 [y].length (lenQs [y]) (k1 : Int) ((k1 + k2 : Nat) : Int) = k1 * lenQ y + k2 * (lenQ y + 3) := by
        simp only [lenK, lenQs, Nat.add_zero, Int.toNat_natCast]
        rw [show (((k1 + k2 : Nat) : Int) - (k1 : Int)).toNat = k2 by omega]
        rfl
      rw [e] at hq
      intro a d t
      rw [frg_6, hq]
      by_cases h0 : k1 + k2 = 0
      · obtain ⟨rfl, rfl⟩ : k1 = 0 ∧ k2 = 0 := by omega
        simp [seqF, itF]
      · have hyl : lenQ y < 400 := by
          rcases Nat.eq_zero_or_pos k1 with h | h
          · have := Nat.mul_le_mul_right (lenQ y + 3) (show 1 ≤ k2 by omega); omega
          · have := Nat.mul_le_mul_right (lenQ y) h; omega
        have hy := ih y (by simp) hyl
        have h3 := seqR_len hy k1 a d t
        have h4 := itF_len2 (a + (seqF (List.replicate k1 (frgOf y)) a d t).1.length + (itF 0 (frgOf y) k2 (a + (seqF (List.replicate k1 (frgOf y)) a d t).1.length) d (seqF (List.replicate k1 (frgOf y)) a d t).2).1.length) hy k2 (a + (seqF (List.replicate k1 (frgOf y)) a d t).1.length) d (seqF (List.replicate k1 (frgOf y)) a d t).2
        simp only [List.length_append]
        omega
    · have e : lenK 9 [y].length (lenQs [y]) (q : Int) mx = lenQ y + 2 := by simp [lenK, lenQs]
      rw [e] at hq
      intro a d t
      rw [frg_9, hq]
      have := ih y (by simp) (by omega) (a + 1) d (t + 1)
      simp only [List.length_cons, List.length_append, List.length_nil]
      omega
    · have e : lenK 10 [y].length (lenQs [y]) mn mx = lenQ y + 2 := by simp [lenK, lenQs]
      rw [e] at hq
      intro a d t
      rw [frg_10, hq]
      simp
theorem of_all (wb : World) : ∀ (m : Nat) (t : Re), t.size ≤ m → okRe t → usesB [7, 8] t = false → lenQ t < 400 → t.size ≤ 40 → OfC wb t
  | 0, t, hs, _, _, _, _ => by have := t.size_pos; omega
  | m + 1, .mk k set args mn mx ng, hs, hok, hu, hl, h40 => by
    have hsy : ∀ y ∈ args, y.size < (Re.mk k set args mn mx ng).size := fun y hy => by
      obtain ⟨i, hi⟩ := List.getElem?_of_mem hy
      exact Re.size_arg (t := .mk k set args mn mx ng) hi
    have huy : ∀ y ∈ args, usesB [7, 8] y = false := usesBs_mem (by simp only [usesB, Bool.or_eq_false_iff] at hu; exact hu.2)
    have hoy := okRes_mem (okRe_args hok)
    have ih : ∀ y ∈ args, lenQ y < 400 → OfC wb y := fun y hy hly => of_all wb m y (by have := hsy y hy; omega) (hoy y hy) (huy y hy) hly (by have := hsy y hy; omega)
    have hq := lenQ_lt hl
    have hmem : ∀ y ∈ args, lenQ y ≤ lenQs args := fun y hy => lenQs_mem hy
    rcases kinds_of hok hu with rfl | rfl | rfl | rfl | ⟨rfl, h2⟩ | ⟨rfl, y, rfl⟩ | ⟨rfl, ⟨y, rfl⟩, k1, k2, rfl, rfl, h8⟩ | ⟨rfl, ⟨y, rfl⟩, q, rfl, h9⟩ | ⟨rfl, y, rfl⟩
    · exact of_0 wb set args mn mx ng
    · exact of_1 wb set args mn mx ng
    · exact of_2 wb set args mn mx ng
    · have e : lenK 3 args.length (lenQs args) mn mx = lenQs args := by simp [lenK]
      rw [e] at hq
      exact of_3 wb set args mn mx ng fun y hy => ih y hy (by have := hmem y hy; omega)
    · have e : lenK 4 args.length (lenQs args) mn mx = lenQs args + 2 * (args.length - 1) := by simp [lenK]
      rw [e] at hq
      have hne : args ≠ [] := by intro h; rw [h] at h2; simp at h2
      have hsp := List.dropLast_concat_getLast hne
      rw [← hsp]
      exact of_4 wb set args.dropLast (args.getLast hne) mn mx ng fun y hy => by
        rw [hsp] at hy
        exact ih y hy (by have := hmem y hy; omega)
    · have e : lenK 5 [y].length (lenQs [y]) mn mx = lenQ y + 4 := by simp [lenK, lenQs]
      rw [e] at hq
      exact of_5 wb set y [] mn mx ng (ih y (by simp) (by omega))
    · have e : lenK 6 [y].length (lenQs [y]) (k1 : Int) ((k1 + k2 : Nat) : Int) = k1 * lenQ y + k2 * (lenQ y + 3) := by
        simp only [lenK, lenQs, Nat.add_zero, Int.toNat_natCast]
        rw [show (((k1 + k2 : Nat) : Int) - (k1 : Int)).toNat = k2 by omega]
        rfl
      rw [e] at hq
      refine of_6 wb set y [] k1 k2 ng (by omega) fun h0 => ih y (by simp) ?_
      rcases Nat.eq_zero_or_pos k1 with h | h
      · have := Nat.mul_le_mul_right (lenQ y + 3) (show 1 ≤ k2 by omega); omega
      · have := Nat.mul_le_mul_right (lenQ y) h; omega
    · have e : lenK 9 [y].length (lenQs [y]) (q : Int) mx = lenQ y + 2 := by simp [lenK, lenQs]
      rw [e] at hq
      exact of_9 wb set y [] q mx ng (ih y (by simp) (by omega))
    · have e : lenK 10 [y].length (lenQs [y]) mn mx = lenQ y + 2 := by simp [lenK, lenQs]
      rw [e] at hq
      have hy1 : y ∈ [y] := List.mem_singleton.2 rfl
      have hfl := frg_len y.size y (Nat.le_refl _) (hoy y hy1) (huy y hy1) (by omega) 0 0 0
      refine of_10 wb set y [] mn mx ng (ih y hy1 (by omega)) (by omega) ?_ ?_
      · unfold tempsOf; omega
      · have := hsy y hy1; omega
end Go.Proofs
namespace Go.Eng
open Go
theorem keyOfEq3 {P : Program} {kt : TypeId} {κ : Type} [DecidableEq κ] {ek : κ → Value} (hwide : (match P.underlying kt with | some (.array _ _) | some (.struct _) => true | _ => false) = true)
    (hchk : ∀ (b : Bool) (w : World) (k : κ), (Instr.checkKey b 10000 kt (ek k)).run P w = .ok () w) (heq : ∀ (w : World) (a b : κ), (Op.equal kt (ek a) (ek b)).run P w = .ok (decide (a = b)) w) (hsame : ∀ k, Instr.sameBits 10000 (ek k) (ek k) = true) : KeyOk P kt ek where
  check := hchk
  same := hsame
  find := fun ν w k es eV L hL => by
    have key : ∀ (L : List MapEntry) (es : List (κ × ν)) (i : Nat), L.map (fun e => (e.key, e.val)) = es.map (fun p => (ek p.1, eV p.2)) → (Instr.findAsking kt (ek k) L i).run P w = .ok (findM eV es k i) w := by
      intro L
      induction L with
      | nil =>
        intro es i h
        cases es with
        | nil => rfl
        | cons _ _ => simp at h
      | cons e L ih =>
        intro es i h
        cases es with
        | nil => simp at h
        | cons p es =>
          simp only [List.map_cons, List.cons.injEq, Prod.mk.injEq] at h
          obtain ⟨⟨h1, h2⟩, h3⟩ := h
          unfold Instr.findAsking findM
          simp only [Sem.run_bind, h1, heq, Result.andThen_ok]
          by_cases hk : p.1 = k
          · rw [if_pos hk, hk]; simp [h2]
          · rw [if_neg hk, show decide (k = p.1) = false by simpa using fun h => hk h.symm]
            exact ih es (i + 1) h3
    rw [run_findKey_eq w hwide]
    exact key L es 0 hL
abbrev Spt := Nat × Nat × Nat
def kSp (s : Spt) : Value := .agg #[.int .i64 ((s.1 : Nat) : Int), .int .i64 ((s.2.1 : Nat) : Int), .int .i64 ((s.2.2 : Nat) : Int)]
theorem same_sp (k : Spt) : Instr.sameBits 10000 (kSp k) (kSp k) = true := by
  show Instr.sameBits (9999 + 1) (.agg _) (.agg _) = true
  simp [Instr.sameBits]
theorem eqStr3 {P : Program} {t e : TypeId} {n1 n2 n3 p1 p2 p3 g1 g2 g3 : String} {m1 m2 m3 : Bool} {o1 o2 o3 : Nat} (hu : P.underlying t = some (.struct #[⟨n1, e, 0, m1, p1, g1, o1⟩, ⟨n2, e, 1, m2, p2, g2, o2⟩, ⟨n3, e, 2, m3, p3, g3, o3⟩])) (hs : P.stoodInHeld t = false) (he : P.underlying e = some (.int .i64)) (h1 : n1 ≠ "_") (h2 : n2 ≠ "_") (h3 : n3 ≠ "_") (w : World) (a b : Spt) :
    (Op.equal t (kSp a) (kSp b)).run P w = .ok (decide (a = b)) w := by
  have hp : P.plainKey e = true := by simp [Program.plainKey, he]
  have hf : P.fieldsOf t = #[⟨n1, e, 0, m1, p1, g1, o1⟩, ⟨n2, e, 1, m2, p2, g2, o2⟩, ⟨n3, e, 2, m3, p3, g3, o3⟩] := by simp [Program.fieldsOf, hu]
  have hq : ∀ (d : Nat) (x y : Int), (Op.equalIn (d + 1) e (.int .i64 x) (.int .i64 y)).run P w = .ok (x == y) w := fun d x y => by
    simp [Op.equalIn, run_underlying he]
  show (Op.equalIn (9999 + 1) t (.agg _) (.agg _)).run P w = _
  rw [run_equalIn_struct w 9999 t _ _ (by rw [hf]; exact hu) hs, hf]
  obtain ⟨a1, a2, a3⟩ := a
  obtain ⟨b1, b2, b3⟩ := b
  have q0 : ∀ (x y z : Int), (part e #[.int .i64 x, .int .i64 y, .int .i64 z] 0).run P w = .ok (.int .i64 x) w := fun x y z => run_part_plain w hp rfl
  have q1 : ∀ (x y z : Int), (part e #[.int .i64 x, .int .i64 y, .int .i64 z] 1).run P w = .ok (.int .i64 y) w := fun x y z => run_part_plain w hp rfl
  have q2 : ∀ (x y z : Int), (part e #[.int .i64 x, .int .i64 y, .int .i64 z] 2).run P w = .ok (.int .i64 z) w := fun x y z => run_part_plain w hp rfl
  have b' : ∀ x y : Nat, (((x : Nat) : Int) == ((y : Nat) : Int)) = decide (x = y) := fun x y => by rw [Bool.eq_iff_iff]; simp; omega
  simp only [Op.eqFields, h1, h2, h3, ne_eq, not_false_eq_true, if_true, Sem.run_bind, q0, q1, q2, Result.andThen_ok, hq 9998, b', Prod.mk.injEq]
  by_cases e1 : a1 = b1
  · by_cases e2 : a2 = b2
    · by_cases e3 : a3 = b3 <;> simp [e1, e2, e3, q1, q2, hq 9998, b']
    · simp [e1, e2, q1, q2, hq 9998, b']
  · simp [e1]
end Go.Eng
namespace Go.Proofs
open Go Go.Eng Go.Sort
set_option maxRecDepth 100000
abbrev TSpt : Nat := 88
theorem chk_sp (b : Bool) (w : World) (k : Spt) : (Instr.checkKey b 10000 TSpt (kSp k)).run Tryd.prog w = .ok () w := by kernel_rfl
theorem key88 : KeyOk Tryd.prog TSpt kSp := keyOfEq3 (by rw [Tryd.underlying88]) chk_sp (fun w a b => eqStr3 Tryd.underlying88 (by kernel_rfl) Tryd.underlying3 (by decide) (by decide) (by decide) w a b) same_sp
end Go.Proofs
namespace Go.Proofs
open Go Go.Eng Go.Sort
set_option maxRecDepth 100000
abbrev TRn : Nat := 91
def grpV (G : Grp) : List Value := G.flatMap fun p => [.int .i64 p.1, .int .i64 p.2]
theorem grpV_len : ∀ G : Grp, (grpV G).length = G.length * 2
  | [] => rfl
  | p :: G => by
    have := grpV_len G
    simp only [grpV, List.flatMap_cons, List.length_append, List.length_cons, List.length_nil] at this ⊢
    omega
theorem grpV_get : ∀ (G : Grp) (i : Nat) (q : Int × Int), G[i]? = some q → (grpV G)[i * 2]? = some (.int .i64 q.1) ∧ (grpV G)[i * 2 + 1]? = some (.int .i64 q.2)
  | [], i, q, h => by simp at h
  | p :: G, 0, q, h => by simp at h; subst h; exact ⟨rfl, rfl⟩
  | p :: G, i + 1, q, h => by
    have ih := grpV_get G i q (by simpa using h)
    have e1 : (i + 1) * 2 = i * 2 + 1 + 1 := by omega
    have e2 : (i + 1) * 2 + 1 = i * 2 + 1 + 1 + 1 := by omega
    rw [e2, e1]
    exact ih
abbrev runV (pb mb bb : Nat) (ta : Option Addr) (tn tc n : Nat) (gf gt : Int) (G : Grp) : List Value :=
  [.pointer (some ⟨pb, 0, none⟩), .slice ta tn tc, .map (some mb), .slice (some ⟨bb, 0, none⟩) n n, .int .i64 gf, .int .i64 gt] ++ grpV G
theorem grpV_put : ∀ (G : Grp) (i : Nat) (q : Int × Int), i < G.length → (grpV G).take (i * 2) ++ [Value.int .i64 q.1, Value.int .i64 q.2] ++ (grpV G).drop (i * 2 + 2) = grpV (G.set i q)
  | [], i, q, h => by simp at h
  | p :: G, 0, q, _ => rfl
  | p :: G, i + 1, q, h => by
    have ih := grpV_put G i q (by simpa using h)
    have e1 : (i + 1) * 2 = i * 2 + 1 + 1 := by omega
    have e2 : (i + 1) * 2 + 2 = i * 2 + 2 + 1 + 1 := by omega
    rw [e2, e1]
    show (Value.int .i64 p.1 :: Value.int .i64 p.2 :: _) = (Value.int .i64 p.1 :: Value.int .i64 p.2 :: _)
    congr 2
theorem runV_put {pb mb bb : Nat} {ta : Option Addr} {tn tc n : Nat} {gf gt : Int} {G : Grp} {i : Nat} {x y : Int} (h : i < G.length) :
    ((runV pb mb bb ta tn tc n gf gt G).toArray.toList.take (6 + i * 2) ++ #[Value.int .i64 x, Value.int .i64 y].toList ++ (runV pb mb bb ta tn tc n gf gt G).toArray.toList.drop (6 + i * 2 + 2)).toArray = (runV pb mb bb ta tn tc n gf gt (G.set i (x, y))).toArray := by
  congr 1
  have h1 := grpV_put G i (x, y) h
  rw [List.toList_toArray]
  unfold runV
  rw [List.take_append, List.drop_append]
  simp only [List.length_cons, List.length_nil]
  rw [List.take_of_length_le (by simp), List.drop_of_length_le (by simp; omega), show 6 + i * 2 - 6 = i * 2 by omega, show 6 + i * 2 + 2 - 6 = i * 2 + 2 by omega, List.nil_append, List.append_assoc, List.append_assoc, ← h1, List.append_assoc]
/-- A runner. -/
structure RunAt (w : World) (rb pb mb bb : Nat) (ta : Option Addr) (tn tc : Nat) (B : List Int) (es : List (Spt × Bool)) (gf gt : Int) (G : Grp) : Prop where
  blk : Blk w rb (runV pb mb bb ta tn tc B.length gf gt G).toArray TRn
  map : MapAt w mb kSp kBool es
  beg : Blk w bb (B.map (Value.int .i64)).toArray TIn
  gl : G.length = 10
theorem RunAt.chg {M : Nat → Prop} {w w' : World} {rb pb mb bb : Nat} {ta : Option Addr} {tn tc : Nat} {B : List Int} {es : List (Spt × Bool)} {gf gt : Int} {G : Grp} (h : RunAt w rb pb mb bb ta tn tc B es gf gt G) (c : Chg M w w') (h1 : ¬ M rb) (h2 : ¬ M mb) (h3 : ¬ M bb) : RunAt w' rb pb mb bb ta tn tc B es gf gt G :=
  ⟨c.keep h1 h.blk, c.keepM h2 h.map, c.keep h3 h.beg, h.gl⟩
theorem RunAt.ext {w w' : World} {rb pb mb bb : Nat} {ta : Option Addr} {tn tc : Nat} {B : List Int} {es : List (Spt × Bool)} {gf gt : Int} {G : Grp} (h : RunAt w rb pb mb bb ta tn tc B es gf gt G) (c : Ext w w') : RunAt w' rb pb mb bb ta tn tc B es gf gt G := h.chg c (fun f => f) (fun f => f) fun f => f
theorem ProgAt.head {F : Nat → Prop} {w : World} {b : Nat} {r : Re} (h : ProgAt F w b r) : ∃ cb cc, Blk w b #[.slice (some ⟨cb, 0, none⟩) (progOf r).length cc, iV (tempsOf r), iV 0] TPg := by
  cases h with
  | mk hB hF hF2 hb htm hn hl hc hr hs => subst hn; exact ⟨_, _, hB⟩
def startG (i : Nat) : Grp := List.replicate i (-1, -1) ++ List.replicate (10 - i) (0, 0)
theorem startG_len {i : Nat} (h : i ≤ 10) : (startG i).length = 10 := by simp [startG]; omega
theorem startG_set {i : Nat} (h : i < 10) : (startG i).set i (-1, -1) = startG (i + 1) := by
  unfold startG
  rw [show 10 - i = (10 - (i + 1)) + 1 by omega, List.replicate_succ, set_midI (by simp), List.replicate_succ', List.append_assoc]; rfl
set_option maxHeartbeats 1000000 in
theorem start_c (F : Nat → Prop) (w0 : World) (pb : Nat) (r : Re) (ta : Option Addr) (tn tc : Nat) (h : ProgAt F w0 pb r) (ht : tempsOf r ≤ 1000) :
    Ret Tryd.prog 43 #[.pointer (some ⟨pb, 0, none⟩), .slice ta tn tc] w0 fun v w => (∃ rb mb bb, v = .pointer (some ⟨rb, 0, none⟩) ∧ (w0.heap.size ≤ rb ∧ w0.heap.size ≤ mb ∧ w0.heap.size ≤ bb) ∧ (rb ≠ mb ∧ rb ≠ bb ∧ mb ≠ bb) ∧ RunAt w rb pb mb bb ta tn tc (List.replicate (tempsOf r) 0) [] 0 0 G0) ∧ Ext w0 w := by
  obtain ⟨cb, cc, hB⟩ := h.head
  refine Ret_of Tryd.func43 rfl Tryd.ntmps43 (Nat.le_of_ble_eq_true rfl) ?_
  have E : Chg none1 w0 w0 := Chg.refl _ _
  refine Wp_seq_region ?_
  refine WpL_val rfl rfl (by decide) (r_assign (v := (.pointer none)) rfl) ?_
  refine WpL_nil ?_
  refine Wp_seq_region ?_
  refine WpL_val rfl rfl (by decide) (r_move (v := (.pointer (some ⟨pb, 0, none⟩))) rfl) ?_
  refine WpL_val rfl rfl (by decide) (r_move (v := (.slice ta tn tc)) rfl) ?_
  refine s_makeMap kSp kBool (by decide) ?_
  intro bm wm Nm
  have Fm := Nm.ge E
  have Om_pb := Nm.lt hB
  replace hB := Nm.keep hB
  replace E := E.ext Nm.ext
  intro Mm
  refine WpL_val rfl rfl (by decide) (r_move (v := (.pointer (some ⟨pb, 0, none⟩))) rfl) ?_
  refine WpL_val rfl rfl (by decide) (r_nilCheck (a := ⟨pb, 0, none⟩) rfl) ?_
  refine WpL_val rfl rfl (by decide) (r_fieldAddr (b := pb) (o := 0) (o' := 1) rfl Tryd.underlying94 rfl siz3 rfl) ?_
  refine WpL_val rfl rfl (by decide) (r_load (v := (.int .i64 ((tempsOf r : Nat) : Int))) rfl flat3 (hB.cell rfl)) ?_
  refine s_make (n := tempsOf r) (z := (.int .i64 0)) (bytes := 8) (by decide) Tryd.underlying22 siz3 byt3 zer3 rfl rfl rfl (by omega) (by omega) ?_
  intro bb wb Nb
  have Fb := Nb.ge E
  have Ob_pb := Nb.lt hB
  have Ob_bm := Nb.ltM Mm
  replace hB := Nb.keep hB
  replace Mm := Nb.keepM Mm
  replace E := E.ext Nb.ext
  have Bb := Nb.blk
  refine WpL_val rfl rfl (by decide) (r_build (ps := [(0, (.pointer (some ⟨pb, 0, none⟩))), (1, (.slice ta tn tc)), (2, (.map (some bm))), (3, (.slice (some ⟨bb, 0, none⟩) (tempsOf r) (tempsOf r)))]) (v := (.agg #[(.pointer (some ⟨pb, 0, none⟩)), (.slice ta tn tc), (.map (some bm)), (.slice (some ⟨bb, 0, none⟩) (tempsOf r) (tempsOf r)), (.int .i64 0), (.int .i64 0), (.int .i64 0), (.int .i64 0), (.int .i64 0), (.int .i64 0), (.int .i64 0), (.int .i64 0), (.int .i64 0), (.int .i64 0), (.int .i64 0), (.int .i64 0), (.int .i64 0), (.int .i64 0), (.int .i64 0), (.int .i64 0), (.int .i64 0), (.int .i64 0), (.int .i64 0), (.int .i64 0), (.int .i64 0), (.int .i64 0)])) rfl (by kernel_rfl)) ?_
  refine s_box (v := (.agg #[(.pointer (some ⟨pb, 0, none⟩)), (.slice ta tn tc), (.map (some bm)), (.slice (some ⟨bb, 0, none⟩) (tempsOf r) (tempsOf r)), (.int .i64 0), (.int .i64 0), (.int .i64 0), (.int .i64 0), (.int .i64 0), (.int .i64 0), (.int .i64 0), (.int .i64 0), (.int .i64 0), (.int .i64 0), (.int .i64 0), (.int .i64 0), (.int .i64 0), (.int .i64 0), (.int .i64 0), (.int .i64 0), (.int .i64 0), (.int .i64 0), (.int .i64 0), (.int .i64 0), (.int .i64 0), (.int .i64 0)])) (c := #[(.pointer (some ⟨pb, 0, none⟩)), (.slice ta tn tc), (.map (some bm)), (.slice (some ⟨bb, 0, none⟩) (tempsOf r) (tempsOf r)), (.int .i64 0), (.int .i64 0), (.int .i64 0), (.int .i64 0), (.int .i64 0), (.int .i64 0), (.int .i64 0), (.int .i64 0), (.int .i64 0), (.int .i64 0), (.int .i64 0), (.int .i64 0), (.int .i64 0), (.int .i64 0), (.int .i64 0), (.int .i64 0), (.int .i64 0), (.int .i64 0), (.int .i64 0), (.int .i64 0), (.int .i64 0), (.int .i64 0)]) (by decide) rfl rfl ?_
  intro br wr Nr
  have Fr := Nr.ge E
  have Or_pb := Nr.lt hB
  have Or_bm := Nr.ltM Mm
  have Or_bb := Nr.lt Bb
  replace hB := Nr.keep hB
  replace Mm := Nr.keepM Mm
  replace Bb := Nr.keep Bb
  replace E := E.ext Nr.ext
  have Br := Nr.blk
  refine WpL_val rfl rfl (by decide) (r_assign (v := (.pointer (some ⟨br, 0, none⟩))) rfl) ?_
  refine WpL_nil ?_
  refine Wp_seq ?_
  refine Wp_seq_region ?_
  refine WpL_val rfl rfl (by decide) (r_move (v := (.int .i64 0)) rfl) ?_
  refine WpL_nil ?_
  refine Wp_block ?_
  refine Wp_loop (fun nn_ σ W1 => ∃ (i : Nat), (∃ jj_, σ = upds jj_ [(5, (.pointer (some ⟨br, 0, none⟩))), (17, (.int .i64 ((i : Nat) : Int)))]) ∧ Chg none1 w0 W1 ∧ Blk W1 pb #[(.slice (some ⟨cb, 0, none⟩) ((progOf r).length) cc), (.int .i64 ((tempsOf r : Nat) : Int)), (.int .i64 0)] TPg ∧ MapAt W1 bm kSp kBool ([]) ∧ Blk W1 bb ((List.replicate (tempsOf r) (.int .i64 0)).toArray) 3 ∧ Blk W1 br ((runV pb bm bb ta tn tc (tempsOf r) 0 0 (startG i)).toArray) 91 ∧ (i ≤ 10) ∧ nn_ = 10 - i) (n := 10 - 0) ?_ ?_
  · exact ⟨0, Fits.out ⟨rfl, rfl, trivial⟩, E, hB, Mm, Bb, Br, Nat.zero_le _, rfl⟩
  · clear E hB Mm Bb Br
    rintro _ _ W1 ⟨i, ⟨j1, rfl⟩, E, hB, Mm, Bb, Br, hi, rfl⟩
    refine Wp_seq_region ?_
    refine WpL_val rfl rfl (by decide) (r_lss (k := .i64) (a := ((i : Nat) : Int)) (b := 10) rfl rfl) ?_
    refine WpL_nil ?_
    refine Wp_seq ?_
    refine Wp_cond (b := decide ((((i : Nat) : Int) : Int) < 10)) rfl (fun hlt => ?_) (fun hlt => ?_)
    · have khlt := hlt
      replace hlt := of_decide_eq_true hlt
      have hgl := startG_len (i := i) (by omega)
      refine Wp_skip ?_
      refine thn_normal ?_
      refine Wp_seq ?_
      refine Wp_block ?_
      refine Wp_seq_region ?_
      refine WpL_val rfl rfl (by decide) (r_move (v := (.int .i64 ((i : Nat) : Int))) rfl) ?_
      refine WpL_val rfl rfl (by decide) (r_assign (v := (.int .i64 ((i : Nat) : Int))) rfl) ?_
      refine WpL_nil ?_
      refine Wp_region ?_
      refine WpL_val rfl rfl (by decide) (r_move (v := (.pointer (some ⟨br, 0, none⟩))) rfl) ?_
      refine WpL_val rfl rfl (by decide) (r_move (v := (.int .i64 ((i : Nat) : Int))) rfl) ?_
      refine WpL_val rfl rfl (by decide) (r_build (ps := [(0, (.int .i64 (-1))), (1, (.int .i64 (-1)))]) (v := (.agg #[(.int .i64 (-1)), (.int .i64 (-1))])) rfl (by kernel_rfl)) ?_
      refine WpL_val rfl rfl (by decide) (r_nilCheck (a := ⟨br, 0, none⟩) rfl) ?_
      refine WpL_val rfl rfl (by decide) (r_fieldAddr (b := br) (o := 0) (o' := 4) rfl Tryd.underlying91 rfl siz33 rfl) ?_
      refine WpL_val rfl rfl (by decide) (r_fieldAddr (b := br) (o := 4) (o' := 6) rfl Tryd.underlying33 rfl siz31 rfl) ?_
      refine WpL_val rfl rfl (by decide) (r_indexArr (b := br) (o := 6) (i := i) (o' := 6 + i * 2) rfl rfl rfl Tryd.underlying31 siz30 (by omega) (by omega)) ?_
      refine s_storeAgg (b := br) (o := 6 + i * 2) (n := 2) (c' := (runV pb bm bb ta tn tc (tempsOf r) 0 0 (startG (i + 1))).toArray) (vs := #[(.int .i64 (-1)), (.int .i64 (-1))]) rfl rfl (by simp [Value.oneCell']) siz30 (rfl) Br (by simp [runV, grpV_len, hgl]; omega) (by rw [← startG_set (by omega)]; exact runV_put (by omega)) ?_
      intro w3 S3
      replace hB := S3.keep (by omega) hB
      replace Mm := S3.keepM (by omega) Mm
      replace Bb := S3.keep (by omega) Bb
      replace E := S3.step E (by first | exact Or.inl (by omega) | exact Or.inr rfl | exact Or.inr (by assumption) | exact Or.inr (by simp) | exact Or.inr (by omega) | exact Or.inr (by dsimp only; omega))
      replace Br := S3.blk
      refine WpL_nil ?_
      refine inB_normal ?_
      refine thn_normal ?_
      refine Wp_region ?_
      refine WpL_val rfl rfl (by decide) (r_add (k := .i64) (a := ((i : Nat) : Int)) (b := 1) (c := ((i : Nat) : Int) + 1) rfl rfl (wI64 (by omega))) ?_
      refine WpL_val rfl rfl (by decide) (r_move (v := (.int .i64 (((i : Nat) : Int) + 1))) rfl) ?_
      refine WpL_nil ?_
      refine thn_normal ?_
      exact ⟨10 - (i + 1), by omega, i + 1, Fits.out ⟨rfl, rfl, trivial⟩, E, hB, Mm, Bb, Br, (by omega), rfl⟩
    · have khlt := hlt
      replace hlt := of_decide_eq_false hlt
      have hi10 : i = 10 := by omega
      subst hi10
      refine Wp_exit ?_
      refine thn_exit ?_
      refine thn_exit ?_
      refine inB_here ?_
      refine thn_normal ?_
      refine Wp_seq_region ?_
      refine WpL_val rfl rfl (by decide) (r_move (v := (.pointer (some ⟨br, 0, none⟩))) rfl) ?_
      refine WpL_val rfl rfl (by decide) (r_assign (v := (.pointer (some ⟨br, 0, none⟩))) rfl) ?_
      refine WpL_nil ?_
      refine Wp_ret ?_
      refine fin_tmp Tryd.results43 (v := (.pointer (some ⟨br, 0, none⟩))) rfl ?_
      exact ⟨⟨br, bm, bb, rfl, by omega, by omega, ⟨by rw [List.length_replicate]; exact Br, Mm, by rw [List.map_replicate]; exact Bb, rfl⟩⟩, E⟩
end Go.Proofs
namespace Go.Proofs
open Go Go.Eng Go.Sort
set_option maxRecDepth 100000
structure Ctx (F : Nat → Prop) (w : World) (rb pb mb bb : Nat) (ta : Option Addr) (tn tc : Nat) (text : List Int) (r : Re) : Prop where
  prog : ProgAt F w pb r
  fl : ∀ y, F y → y < w.heap.size ∧ y ≠ rb ∧ y ≠ mb ∧ y ≠ bb
  txt : IntsAt w (.slice ta tn tc) text
  tf : text = [] ∨ ∃ b, (Value.slice ta tn tc).ownBlock = some b ∧ F b
  tl : text.length ≤ 1000
  d1 : rb ≠ mb
  d2 : rb ≠ bb
  d3 : mb ≠ bb
abbrev RMod (rb mb bb : Nat) : Nat → Prop := fun y => y = rb ∨ y = mb ∨ y = bb
theorem Ctx.chg {F M : Nat → Prop} {w w' : World} {rb pb mb bb : Nat} {ta : Option Addr} {tn tc : Nat} {text : List Int} {r : Re} (h : Ctx F w rb pb mb bb ta tn tc text r) (c : Chg M w w') (hM : ∀ y, F y → ¬ M y) : Ctx F w' rb pb mb bb ta tn tc text r :=
  ⟨h.prog.chg c hM, fun y hy => ⟨Nat.lt_of_lt_of_le (h.fl y hy).1 c.size, (h.fl y hy).2⟩, SlAt.chg2 h.txt c (h.tf.elim (fun e => .inl (by rw [e]; rfl)) fun ⟨b, h1, h2⟩ => .inr ⟨b, h1, hM b h2⟩), h.tf, h.tl, h.d1, h.d2, h.d3⟩
theorem Ctx.ext {F : Nat → Prop} {w w' : World} {rb pb mb bb : Nat} {ta : Option Addr} {tn tc : Nat} {text : List Int} {r : Re} (h : Ctx F w rb pb mb bb ta tn tc text r) (c : Ext w w') : Ctx F w' rb pb mb bb ta tn tc text r := h.chg c fun _ _ f => f
theorem Ctx.mod {F : Nat → Prop} {w w' : World} {rb pb mb bb : Nat} {ta : Option Addr} {tn tc : Nat} {text : List Int} {r : Re} (h : Ctx F w rb pb mb bb ta tn tc text r) (c : Chg (RMod rb mb bb) w w') : Ctx F w' rb pb mb bb ta tn tc text r :=
  h.chg c fun y hy hm => by obtain ⟨_, h1, h2, h3⟩ := h.fl y hy; rcases hm with e | e | e; exact h1 e; exact h2 e; exact h3 e
def Fails (text : List Int) (code : List Ins) (n : Nat) (es : List (Spt × Bool)) : Prop := ∀ q ∈ es, q.2 = true ∧ ∀ (B : List Int) (G : Grp), B.length = n → Res text code q.1.1 q.1.2.1 q.1.2.2 B G none
/-- What a run leaves. -/
def Outc (text : List Int) (code : List Ins) (rb pb mb bb : Nat) (ta : Option Addr) (tn tc : Nat) (B : List Int) (gf gt : Int) (G : Grp) (o : Option (Grp × Nat)) (w : World) : Prop :=
  ∃ (es' : List (Spt × Bool)) (B' : List Int) (gt' : Int) (G' : Grp), RunAt w rb pb mb bb ta tn tc B' es' gf gt' G' ∧ B'.length = B.length ∧ Fails text code B.length es' ∧ (o = none → B' = B ∧ gt' = gt ∧ G' = G) ∧ ∀ q, o = some q → G' = q.1 ∧ gt' = ((q.2 : Nat) : Int)
def RunC (fid : Nat) (text : List Int) (code : List Ins) (a p d : Nat) (B : List Int) (G : Grp) (o : Option (Grp × Nat)) : Prop :=
  ∀ (r : Re), code = progOf r → ∀ (F : Nat → Prop) (w0 : World) (rb pb mb bb : Nat) (ta : Option Addr) (tn tc : Nat) (es : List (Spt × Bool)) (gf gt : Int), Ctx F w0 rb pb mb bb ta tn tc text r → RunAt w0 rb pb mb bb ta tn tc B es gf gt G → Fails text code B.length es → p ≤ text.length →
  Ret Tryd.prog fid #[.pointer (some ⟨rb, 0, none⟩), .agg #[iV a, iV p, iV d]] w0 fun v w => (v = .bool o.isSome ∧ Outc text code rb pb mb bb ta tn tc B gf gt G o w) ∧ Chg (RMod rb mb bb) w0 w
abbrev fRun : Nat := 44
abbrev fTry : Nat := 61
theorem getM_true {es : List (Spt × Bool)} {k : Spt} (h : (getM es k).getD false = true) : (k, true) ∈ es := by
  cases hg : getM es k with
  | none => rw [hg] at h; cases h
  | some b =>
    rw [hg] at h
    have hb : b = true := h
    subst hb
    exact getM_some_mem hg
theorem putM_mem {es : List (Spt × Bool)} {k : Spt} {b : Bool} : ∀ q ∈ putM es k b, q ∈ es ∨ q = (k, b) := by
  induction es with
  | nil => intro q hq; simp [putM] at hq; exact .inr hq
  | cons x es ih =>
    intro q hq
    unfold putM at hq
    split at hq
    · rcases List.mem_cons.1 hq with h | h
      · exact .inr h
      · exact .inl (List.mem_cons_of_mem _ h)
    · rcases List.mem_cons.1 hq with h | h
      · exact .inl (by rw [h]; simp)
      · exact (ih q h).imp (fun h => List.mem_cons_of_mem _ h) id
set_option maxHeartbeats 1000000 in
theorem run_of_try {text : List Int} {code : List Ins} {a p d : Nat} {B : List Int} {G : Grp} {o : Option (Grp × Nat)} (hR : Res text code a p d B G o) (hT : RunC fTry text code a p d B G o) : RunC fRun text code a p d B G o := by
  intro r hcode F w0 rb pb mb bb ta tn tc es gf gt hC hA hFl hp
  have hblk := hA.blk
  have hmap := hA.map
  have hbeg := hA.beg
  have hrl := hblk.lt
  have hml := hmap.lt
  have hbl := hbeg.lt
  have hd1 := hC.d1
  have hd2 := hC.d2
  have hd3 := hC.d3
  have hgl := hA.gl
  refine Ret_of Tryd.func44 rfl Tryd.ntmps44 (Nat.le_of_ble_eq_true rfl) ?_
  have E : Chg (RMod rb mb bb) w0 w0 := Chg.refl _ _
  refine Wp_seq_region ?_
  refine s_box (v := (.agg #[(.int .i64 ((a : Nat) : Int)), (.int .i64 ((p : Nat) : Int)), (.int .i64 ((d : Nat) : Int))])) (c := #[(.int .i64 ((a : Nat) : Int)), (.int .i64 ((p : Nat) : Int)), (.int .i64 ((d : Nat) : Int))]) (by decide) rfl rfl ?_
  intro bs ws Ns
  have Fs := Ns.ge E
  have Os_rb := Ns.lt hblk
  have Os_bb := Ns.lt hbeg
  have Os_mb := Ns.ltM hmap
  replace hblk := Ns.keep hblk
  replace hbeg := Ns.keep hbeg
  replace hmap := Ns.keepM hmap
  replace E := E.ext Ns.ext
  have Bs := Ns.blk
  refine WpL_val rfl rfl (by decide) (r_assign (v := (.bool false)) rfl) ?_
  refine WpL_nil ?_
  refine Wp_seq ?_
  refine Wp_seq_draw 5 mixed (by kernel_rfl) ?_
  intro w1 X1 _
  replace hblk := X1.keep hblk
  replace hbeg := X1.keep hbeg
  replace hmap := X1.keepM hmap
  replace Bs := X1.keep Bs
  replace E := E.ext X1
  refine WpT_val rfl rfl (by decide) (r_move (v := (.pointer (some ⟨rb, 0, none⟩))) rfl) ?_
  refine WpT_val rfl rfl (by decide) (r_nilCheck (a := ⟨rb, 0, none⟩) rfl) ?_
  refine WpT_val rfl rfl (by decide) (r_fieldAddr (b := rb) (o := 0) (o' := 2) rfl Tryd.underlying91 rfl siz89 rfl) ?_
  refine WpT_val rfl rfl (by decide) (r_load (v := (.map (some mb))) rfl flat89 (hblk.cell rfl)) ?_
  refine WpT_val rfl rfl (by decide) (r_loadAgg (vs := [(.int .i64 ((a : Nat) : Int)), (.int .i64 ((p : Nat) : Int)), (.int .i64 ((d : Nat) : Int))]) rfl agg88 siz88 rfl (Bs.cells rfl)) ?_
  refine WpT_zero ?_
  refine WpL_val (v := (.bool ((getM es (a, p, d)).getD false))) rfl rfl (by decide) (r_lookup (k := (a, p, d)) (z := false) Tryd.underlying89 (key88) zer4 hmap rfl rfl) ?_
  refine WpL_nil ?_
  refine Wp_cond (b := (getM es (a, p, d)).getD false) rfl (fun hf => ?_) (fun hf => ?_)
  · have khf := hf
    have hno : o = none := res_det hR _ ((hFl _ (getM_true hf)).2 B G rfl)
    refine Wp_seq_region ?_
    refine WpL_val rfl rfl (by decide) (r_assign (v := (.bool false)) rfl) ?_
    refine WpL_nil ?_
    refine Wp_ret ?_
    refine thn_ret ?_
    refine fin_tmp Tryd.results44 (v := (.bool false)) rfl ?_
    exact ⟨⟨by rw [hno]; rfl, es, B, gt, G, ⟨hblk, hmap, hbeg, hgl⟩, rfl, hFl, fun _ => ⟨rfl, rfl, rfl⟩, fun q hq => by rw [hno] at hq; cases hq⟩, E⟩
  · have khf := hf
    refine Wp_skip ?_
    refine thn_normal ?_
    refine Wp_seq ?_
    refine Wp_seq_region ?_
    refine WpL_val rfl rfl (by decide) (r_move (v := (.pointer (some ⟨rb, 0, none⟩))) rfl) ?_
    refine WpL_val rfl rfl (by decide) (r_loadAgg (vs := [(.int .i64 ((a : Nat) : Int)), (.int .i64 ((p : Nat) : Int)), (.int .i64 ((d : Nat) : Int))]) rfl agg88 siz88 rfl (Bs.cells rfl)) ?_
    refine WpL_enter rfl rfl (by decide) (r_callF (vs := [(.pointer (some ⟨rb, 0, none⟩)), (.agg #[(.int .i64 ((a : Nat) : Int)), (.int .i64 ((p : Nat) : Int)), (.int .i64 ((d : Nat) : Int))])]) Tryd.func61 nm61 bd61 rfl) (hT r hcode F _ rb pb mb bb ta tn tc es gf gt (hC.mod E) ⟨hblk, hmap, hbeg, hgl⟩ hFl hp) ?_
    rintro _ w19 ⟨⟨rfl, hO⟩, C19⟩
    replace Bs := C19.keep (fun h => by rcases h with h | h | h <;> omega) Bs
    replace E := E.step C19 (fun _ _ h => h)
    refine WpL_nil ?_
    refine Wp_cond (b := o.isSome) rfl (fun hs => ?_) (fun hs => ?_)
    · have khs := hs
      refine Wp_seq_region ?_
      refine WpL_val rfl rfl (by decide) (r_assign (v := (.bool true)) rfl) ?_
      refine WpL_nil ?_
      refine Wp_ret ?_
      refine thn_ret ?_
      refine fin_tmp Tryd.results44 (v := (.bool true)) rfl ?_
      exact ⟨⟨by rw [hs], hO⟩, E⟩
    · have khs := hs
      have hno : o = none := by simpa using hs
      obtain ⟨es', B', gt', G', hA', hl', hF', hn', _⟩ := hO
      obtain ⟨rfl, rfl, rfl⟩ := hn' hno
      have hblk := hA'.blk
      have hmap := hA'.map
      have hbeg := hA'.beg
      refine Wp_skip ?_
      refine thn_normal ?_
      refine Wp_seq_draw 5 mixed (by kernel_rfl) ?_
      intro w4 X4 _
      replace Bs := X4.keep Bs
      replace hblk := X4.keep hblk
      replace hbeg := X4.keep hbeg
      replace hmap := X4.keepM hmap
      replace E := E.ext X4
      refine WpT_val rfl rfl (by decide) (r_move (v := (.pointer (some ⟨rb, 0, none⟩))) rfl) ?_
      refine WpT_val rfl rfl (by decide) (r_nilCheck (a := ⟨rb, 0, none⟩) rfl) ?_
      refine WpT_val rfl rfl (by decide) (r_fieldAddr (b := rb) (o := 0) (o' := 2) rfl Tryd.underlying91 rfl siz89 rfl) ?_
      refine WpT_val rfl rfl (by decide) (r_load (v := (.map (some mb))) rfl flat89 (hblk.cell rfl)) ?_
      refine WpT_val rfl rfl (by decide) (r_loadAgg (vs := [(.int .i64 ((a : Nat) : Int)), (.int .i64 ((p : Nat) : Int)), (.int .i64 ((d : Nat) : Int))]) rfl agg88 siz88 rfl (Bs.cells rfl)) ?_
      refine WpT_zero ?_
      refine s_mapUpdate (k := (a, p, d)) (v := true) Tryd.underlying89 (key88) hmap rfl rfl rfl ?_
      intro w5 S5 H5
      replace Bs := S5.keep (by omega) Bs
      replace hblk := S5.keep (by omega) hblk
      replace hbeg := S5.keep (by omega) hbeg
      replace E := S5.step E (by first | exact Or.inl (by omega) | exact Or.inr rfl | exact Or.inr (by assumption) | exact Or.inr (by simp) | exact Or.inr (by omega) | exact Or.inr (by dsimp only; omega))
      replace hmap := H5
      refine WpL_nil ?_
      refine Wp_seq_region ?_
      refine WpL_val rfl rfl (by decide) (r_assign (v := (.bool false)) rfl) ?_
      refine WpL_nil ?_
      refine Wp_ret ?_
      refine fin_tmp Tryd.results44 (v := (.bool false)) rfl ?_
      exact ⟨⟨by rw [hno]; rfl, _, B', gt', G', ⟨hblk, hmap, hbeg, hA'.gl⟩, rfl, fun q hq => (putM_mem q hq).elim (fun h => hF' q h) (fun h => by rw [h]; exact ⟨rfl, fun B2 G2 hB2 => res_indep hR hno B2 G2 hB2⟩), fun _ => ⟨rfl, rfl, rfl⟩, fun q hq => by rw [hno] at hq; cases hq⟩, E⟩
end Go.Proofs
