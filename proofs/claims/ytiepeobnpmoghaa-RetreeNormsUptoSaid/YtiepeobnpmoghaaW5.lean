/- Contracts: checking an expression. -/
import Derived.Test.YtiepeobnpmoghaaW4
namespace Go.Proofs
open Go Go.Eng
set_option maxRecDepth 100000

def fitF (most : Int) : Int × Int → Re → Bool × (Int × Int) := fun s t =>
  let n := IntKind.i64.wrap (s.1 + 1)
  let e := if most < n then 2 else nodeE t
  (decide (e = 0), (n, e))
def fitsE (t : Re) (most : Int) : Int := (walkF (fitF most) t (0, 0)).2.2

theorem fits1_c (wb w0 : World) (t : Re) (vs : List Value) (ht : ReAt wb t vs) (hE : Ext wb w0) (b1' b2' b3' : Nat) (s : Int × Int) (most : Int) (h0 : wb.heap.size ≤ b2') (h12 : b2' < b1') (h13 : b1' < b3')
    (hB1 : Blk w0 b1' #[.int .i64 s.1] 3) (hB2 : Blk w0 b2' #[.int .i64 most] 3) (hB3 : Blk w0 b3' #[.int .i64 s.2] 26) :
    Ret Try.prog 35 #[.agg vs.toArray, .pointer (some ⟨b1', 0, none⟩), .pointer (some ⟨b2', 0, none⟩), .pointer (some ⟨b3', 0, none⟩)] w0
      fun v w => v = .bool (fitF most s t).1 ∧ Chg (fun x => x = b1' ∨ x = b3') w0 w ∧ Blk w b1' #[.int .i64 (fitF most s t).2.1] 3 ∧ Blk w b2' #[.int .i64 most] 3 ∧ Blk w b3' #[.int .i64 (fitF most s t).2.2] 26 := by
  have ht0 := ht
  obtain ⟨sa, sc, aa, ac, rfl, hset, hlen, hargs⟩ := ht.form
  refine Ret_of Try.func35 rfl Try.ntmps35 (Nat.le_of_ble_eq_true rfl) ?_
  have E : Chg (fun x => x = b1' ∨ x = b3') w0 w0 := Chg.refl _ _
  refine Wp_seq_region ?_
  refine s_box (v := (.agg #[(.int .i64 t.kind), (.slice sa t.set.length sc), (.slice aa t.args.length ac), (.int .i64 t.mn), (.int .i64 t.mx), (.bool t.neg)])) (c := #[(.int .i64 t.kind), (.slice sa t.set.length sc), (.slice aa t.args.length ac), (.int .i64 t.mn), (.int .i64 t.mx), (.bool t.neg)]) (by decide) rfl rfl ?_
  intro b1 w1 N1
  have F1 := N1.ge E
  have O1_b1' := N1.lt hB1
  have O1_b2' := N1.lt hB2
  have O1_b3' := N1.lt hB3
  replace hB1 := N1.keep hB1
  replace hB2 := N1.keep hB2
  replace hB3 := N1.keep hB3
  replace E := E.ext N1.ext
  have B1 := N1.blk
  refine WpL_val rfl rfl (by decide) (r_assign (v := (.bool false)) rfl) ?_
  refine WpL_nil ?_
  refine Wp_seq ?_
  refine Wp_seq_region ?_
  refine WpL_val rfl rfl (by decide) (r_load (v := (.int .i64 s.1)) rfl flat3 (hB1.cell rfl)) ?_
  refine WpL_val rfl rfl (by decide) (r_add (k := .i64) (a := s.1) (b := 1) (c := IntKind.i64.wrap (s.1 + 1)) rfl rfl (rfl)) ?_
  refine s_store (b := b1') (o := 0) (c' := #[(.int .i64 (IntKind.i64.wrap (s.1 + 1)))]) (v := (.int .i64 (IntKind.i64.wrap (s.1 + 1)))) rfl rfl rfl siz3 hB1 (by simp) rfl ?_
  intro w2 S2
  replace hB2 := S2.keep (by omega) hB2
  replace hB3 := S2.keep (by omega) hB3
  replace B1 := S2.keep (by omega) B1
  replace E := S2.step E (by first | exact Or.inl (by omega) | exact Or.inr rfl | exact Or.inr (by assumption) | exact Or.inr (by simp) | exact Or.inr (by omega) | exact Or.inr (by dsimp only; omega))
  replace hB1 := S2.blk
  refine WpL_nil ?_
  refine Wp_seq_region ?_
  refine WpL_val rfl rfl (by decide) (r_load (v := (.int .i64 (IntKind.i64.wrap (s.1 + 1)))) rfl flat3 (hB1.cell rfl)) ?_
  refine WpL_val rfl rfl (by decide) (r_load (v := (.int .i64 most)) rfl flat3 (hB2.cell rfl)) ?_
  refine WpL_val rfl rfl (by decide) (r_gtr (k := .i64) (a := IntKind.i64.wrap (s.1 + 1)) (b := most) rfl rfl) ?_
  refine WpL_nil ?_
  refine Wp_cond (b := decide ((most : Int) < IntKind.i64.wrap (s.1 + 1))) rfl (fun h => ?_) (fun h => ?_)
  · have kh := h
    replace h := of_decide_eq_true h
    refine Wp_region ?_
    refine s_store (b := b3') (o := 0) (c' := #[(.int .i64 2)]) (v := (.int .i64 2)) rfl rfl rfl siz26 hB3 (by simp) rfl ?_
    intro w4 S4
    replace hB1 := S4.keep (by omega) hB1
    replace hB2 := S4.keep (by omega) hB2
    replace B1 := S4.keep (by omega) B1
    replace E := S4.step E (by first | exact Or.inl (by omega) | exact Or.inr rfl | exact Or.inr (by assumption) | exact Or.inr (by simp) | exact Or.inr (by omega) | exact Or.inr (by dsimp only; omega))
    replace hB3 := S4.blk
    refine WpL_nil ?_
    refine thn_normal ?_
    refine Wp_seq_region ?_
    refine WpL_val rfl rfl (by decide) (r_load (v := (.int .i64 2)) rfl flat26 (hB3.cell rfl)) ?_
    refine WpL_val rfl rfl (by decide) (r_eql (k := .i64) (a := 2) (b := 0) rfl rfl) ?_
    refine WpL_val rfl rfl (by decide) (r_assign (v := (.bool false)) rfl) ?_
    refine WpL_nil ?_
    refine Wp_ret ?_
    refine fin_tmp Try.results35 (v := (.bool false)) rfl ?_
    exact ⟨by simp [fitF, h], E, by simpa [fitF] using hB1, hB2, by simpa [fitF, h] using hB3⟩
  · have kh := h
    replace h := of_decide_eq_false h
    refine Wp_region ?_
    refine WpL_val rfl rfl (by decide) (r_loadAgg (vs := [(.int .i64 t.kind), (.slice sa t.set.length sc), (.slice aa t.args.length ac), (.int .i64 t.mn), (.int .i64 t.mx), (.bool t.neg)]) rfl agg25 siz25 rfl (B1.cells rfl)) ?_
    refine WpL_enter rfl rfl (by decide) (r_callF (vs := [(.agg #[(.int .i64 t.kind), (.slice sa t.set.length sc), (.slice aa t.args.length ac), (.int .i64 t.mn), (.int .i64 t.mx), (.bool t.neg)])]) Try.func36 nm36 bd36 rfl) (node_c wb _ t _ ht0 (Chg.step hE E fun x hx hm => by rcases hm with hm | hm <;> omega)) ?_
    rintro _ w9 ⟨rfl, X9⟩
    replace hB1 := X9.keep hB1
    replace hB2 := X9.keep hB2
    replace hB3 := X9.keep hB3
    replace B1 := X9.keep B1
    replace E := E.ext X9
    refine s_store (b := b3') (o := 0) (c' := #[(.int .i64 (nodeE t))]) (v := (.int .i64 (nodeE t))) rfl rfl rfl siz26 hB3 (by simp) rfl ?_
    intro w5 S5
    replace hB1 := S5.keep (by omega) hB1
    replace hB2 := S5.keep (by omega) hB2
    replace B1 := S5.keep (by omega) B1
    replace E := S5.step E (by first | exact Or.inl (by omega) | exact Or.inr rfl | exact Or.inr (by assumption) | exact Or.inr (by simp) | exact Or.inr (by omega) | exact Or.inr (by dsimp only; omega))
    replace hB3 := S5.blk
    refine WpL_nil ?_
    refine thn_normal ?_
    refine Wp_seq_region ?_
    refine WpL_val rfl rfl (by decide) (r_load (v := (.int .i64 (nodeE t))) rfl flat26 (hB3.cell rfl)) ?_
    refine WpL_val rfl rfl (by decide) (r_eql (k := .i64) (a := nodeE t) (b := 0) rfl rfl) ?_
    refine WpL_val rfl rfl (by decide) (r_assign (v := (.bool (decide ((nodeE t : Int) = 0)))) rfl) ?_
    refine WpL_nil ?_
    refine Wp_ret ?_
    refine fin_tmp Try.results35 (v := (.bool (decide ((nodeE t : Int) = 0)))) rfl ?_
    exact ⟨by simp [fitF, h], E, by simpa [fitF] using hB1, hB2, by simpa [fitF, h] using hB3⟩

theorem fits_c (w0 : World) (t : Re) (vs : List Value) (ht : ReAt w0 t vs) (most : Int) :
    Ret Try.prog 21 #[.agg vs.toArray, .int .i64 most] w0 fun v w => v = .int .i64 (fitsE t most) ∧ Ext w0 w := by
  have ht0 := ht
  obtain ⟨sa, sc, aa, ac, rfl, hset, hlen, hargs⟩ := ht.form
  refine Ret_of Try.func21 rfl Try.ntmps21 (Nat.le_of_ble_eq_true rfl) ?_
  have E : Chg none1 w0 w0 := Chg.refl _ _
  refine Wp_seq_region ?_
  refine s_box (v := (.agg #[(.int .i64 t.kind), (.slice sa t.set.length sc), (.slice aa t.args.length ac), (.int .i64 t.mn), (.int .i64 t.mx), (.bool t.neg)])) (c := #[(.int .i64 t.kind), (.slice sa t.set.length sc), (.slice aa t.args.length ac), (.int .i64 t.mn), (.int .i64 t.mx), (.bool t.neg)]) (by decide) rfl rfl ?_
  intro b1 w1 N1
  have F1 := N1.ge E
  replace E := E.ext N1.ext
  have B1 := N1.blk
  refine s_box (v := (.int .i64 most)) (c := #[(.int .i64 most)]) (by decide) rfl rfl ?_
  intro b2 w2 N2
  have F2 := N2.ge E
  have O2_b1 := N2.lt B1
  replace B1 := N2.keep B1
  replace E := E.ext N2.ext
  have B2 := N2.blk
  refine WpL_val rfl rfl (by decide) (r_assign (v := (.int .i64 0)) rfl) ?_
  refine WpL_nil ?_
  refine Wp_seq_region ?_
  refine s_alloc (c := #[(.int .i64 0)]) (by decide) zer3 rfl ?_
  intro b3 w3 N3
  have F3 := N3.ge E
  have O3_b1 := N3.lt B1
  have O3_b2 := N3.lt B2
  replace B1 := N3.keep B1
  replace B2 := N3.keep B2
  replace E := E.ext N3.ext
  have B3 := N3.blk
  refine s_alloc (c := #[(.int .i64 0)]) (by decide) zer26 rfl ?_
  intro b4 w4 N4
  have F4 := N4.ge E
  have O4_b1 := N4.lt B1
  have O4_b2 := N4.lt B2
  have O4_b3 := N4.lt B3
  replace B1 := N4.keep B1
  replace B2 := N4.keep B2
  replace B3 := N4.keep B3
  replace E := E.ext N4.ext
  have B4 := N4.blk
  refine s_store (b := b3) (o := 0) (c' := #[(.int .i64 0)]) (v := (.int .i64 0)) rfl rfl rfl siz3 B3 (by simp) rfl ?_
  intro w5 S5
  replace B1 := S5.keep (by omega) B1
  replace B2 := S5.keep (by omega) B2
  replace B4 := S5.keep (by omega) B4
  replace E := S5.step E (by first | exact Or.inl (by omega) | exact Or.inr rfl | exact Or.inr (by assumption) | exact Or.inr (by simp) | exact Or.inr (by omega) | exact Or.inr (by dsimp only; omega))
  replace B3 := S5.blk
  refine s_store (b := b4) (o := 0) (c' := #[(.int .i64 0)]) (v := (.int .i64 0)) rfl rfl rfl siz26 B4 (by simp) rfl ?_
  intro w6 S6
  replace B1 := S6.keep (by omega) B1
  replace B2 := S6.keep (by omega) B2
  replace B3 := S6.keep (by omega) B3
  replace E := S6.step E (by first | exact Or.inl (by omega) | exact Or.inr rfl | exact Or.inr (by assumption) | exact Or.inr (by simp) | exact Or.inr (by omega) | exact Or.inr (by dsimp only; omega))
  replace B4 := S6.blk
  refine WpL_nil ?_
  refine Wp_seq_region ?_
  refine WpL_val rfl rfl (by decide) (r_loadAgg (vs := [(.int .i64 t.kind), (.slice sa t.set.length sc), (.slice aa t.args.length ac), (.int .i64 t.mn), (.int .i64 t.mx), (.bool t.neg)]) rfl agg25 siz25 rfl (B1.cells rfl)) ?_
  refine WpL_val rfl rfl (by decide) (r_makeFunc (vs := []) (us := [(.pointer (some ⟨b3, 0, none⟩)), (.pointer (some ⟨b2, 0, none⟩)), (.pointer (some ⟨b4, 0, none⟩))]) rfl rfl) ?_
  have hf : ∀ (s : Int × Int) (w : World) (t : Re) (vs : List Value), b4 + 1 ≤ w.heap.size → Ext w0 w → (Blk w b3 #[.int .i64 s.1] 3 ∧ Blk w b2 #[.int .i64 most] 3 ∧ Blk w b4 #[.int .i64 s.2] 26) → ReAt w0 t vs → CallV Try.prog (.func (.func 35) #[] #[.pointer (some ⟨b3, 0, none⟩), .pointer (some ⟨b2, 0, none⟩), .pointer (some ⟨b4, 0, none⟩)]) #[.agg vs.toArray] w fun v w' => v = .bool (fitF most s t).1 ∧ Chg (fun x => x = b3 ∨ x = b4) w w' ∧ (Blk w' b3 #[.int .i64 (fitF most s t).2.1] 3 ∧ Blk w' b2 #[.int .i64 most] 3 ∧ Blk w' b4 #[.int .i64 (fitF most s t).2.2] 26) := fun s w t vs _ hE hI ht => CallV.mk (first := #[]) (cap := #[.pointer (some ⟨b3, 0, none⟩), .pointer (some ⟨b2, 0, none⟩), .pointer (some ⟨b4, 0, none⟩)]) (args := #[.agg vs.toArray]) Try.func35 nm35 bd35 rfl (fits1_c w0 w t vs ht hE b3 b2 b4 s most (by omega) (by omega) (by omega) hI.1 hI.2.1 hI.2.2)
  refine WpL_enter rfl rfl (by decide) (r_callF (vs := [(.agg #[(.int .i64 t.kind), (.slice sa t.set.length sc), (.slice aa t.args.length ac), (.int .i64 t.mn), (.int .i64 t.mx), (.bool t.neg)]), (.func (.func 35) #[] #[(.pointer (some ⟨b3, 0, none⟩)), (.pointer (some ⟨b2, 0, none⟩)), (.pointer (some ⟨b4, 0, none⟩))])]) Try.func25 nm25 bd25 rfl) (walk_c (fitF most) (fun s w => Blk w b3 #[.int .i64 s.1] 3 ∧ Blk w b2 #[.int .i64 most] 3 ∧ Blk w b4 #[.int .i64 s.2] 26) (fun x => x = b3 ∨ x = b4) (b4 + 1) _ w0 (fun b hb => by omega) (fun s w w' hI e => ⟨e.keep hI.1, e.keep hI.2.1, e.keep hI.2.2⟩) hf t.size t (Nat.le_refl _) (0, 0) _ _ (by have := B4.lt; omega) E ⟨B3, B2, B4⟩ ht0) ?_
  rintro _ w9 ⟨rfl, C9, B3', B2', B4'⟩
  replace B1 := C9.keep (by omega) B1
  replace E := E.step C9 (by intro x hx hm; omega)
  refine WpL_nil ?_
  refine Wp_seq_region ?_
  refine WpL_val rfl rfl (by decide) (r_load (v := (.int .i64 ((walkF (fitF most) t (0, 0)).2.2))) rfl flat26 (B4'.cell rfl)) ?_
  refine WpL_val rfl rfl (by decide) (r_assign (v := (.int .i64 ((walkF (fitF most) t (0, 0)).2.2))) rfl) ?_
  refine WpL_nil ?_
  refine Wp_ret ?_
  refine fin_tmp Try.results21 (v := (.int .i64 ((walkF (fitF most) t (0, 0)).2.2))) rfl ?_
  exact ⟨rfl, E⟩

theorem check_c (w0 : World) (t : Re) (vs : List Value) (ht : ReAt w0 t vs) :
    Ret Try.prog 9 #[.agg vs.toArray] w0 fun v w => v = .int .i64 (fitsE t 40) ∧ Ext w0 w := by
  have ht0 := ht
  obtain ⟨sa, sc, aa, ac, rfl, hset, hlen, hargs⟩ := ht.form
  refine Ret_of Try.func9 rfl Try.ntmps9 (Nat.le_of_ble_eq_true rfl) ?_
  have E : Chg none1 w0 w0 := Chg.refl _ _
  refine Wp_seq_region ?_
  refine s_box (v := (.agg #[(.int .i64 t.kind), (.slice sa t.set.length sc), (.slice aa t.args.length ac), (.int .i64 t.mn), (.int .i64 t.mx), (.bool t.neg)])) (c := #[(.int .i64 t.kind), (.slice sa t.set.length sc), (.slice aa t.args.length ac), (.int .i64 t.mn), (.int .i64 t.mx), (.bool t.neg)]) (by decide) rfl rfl ?_
  intro b1 w1 N1
  have F1 := N1.ge E
  replace E := E.ext N1.ext
  have B1 := N1.blk
  refine WpL_val rfl rfl (by decide) (r_assign (v := (.int .i64 0)) rfl) ?_
  refine WpL_nil ?_
  refine Wp_seq_region ?_
  refine WpL_val rfl rfl (by decide) (r_loadAgg (vs := [(.int .i64 t.kind), (.slice sa t.set.length sc), (.slice aa t.args.length ac), (.int .i64 t.mn), (.int .i64 t.mx), (.bool t.neg)]) rfl agg25 siz25 rfl (B1.cells rfl)) ?_
  refine WpL_enter rfl rfl (by decide) (r_callF (vs := [(.agg #[(.int .i64 t.kind), (.slice sa t.set.length sc), (.slice aa t.args.length ac), (.int .i64 t.mn), (.int .i64 t.mx), (.bool t.neg)]), (.int .i64 40)]) Try.func21 nm21 bd21 rfl) (fits_c _ t _ (ReAt.ext E t ht0) 40) ?_
  rintro _ w9 ⟨rfl, X9⟩
  replace B1 := X9.keep B1
  replace E := E.ext X9
  refine WpL_val rfl rfl (by decide) (r_assign (v := (.int .i64 (fitsE t 40))) rfl) ?_
  refine WpL_nil ?_
  refine Wp_ret ?_
  refine fin_tmp Try.results9 (v := (.int .i64 (fitsE t 40))) rfl ?_
  exact ⟨rfl, E⟩
end Go.Proofs
