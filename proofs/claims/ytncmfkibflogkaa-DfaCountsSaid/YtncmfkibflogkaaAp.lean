/- dfa.Not, walked. -/
import Derived.Test.YtncmfkibflogkaaAo
namespace Go.Proofs
open Go Go.Eng Go.Sort
set_option maxRecDepth 100000

/-- A canonical automaton and no error as a result. -/
def CanE (c : Nat) (f : List Nat → Int) (n m : Nat) (r : Value) (w : World) : Prop := ∃ C ca cc ma mc, CanOf c f C ∧ C.next.length ≤ n ∧ (∀ x ∈ C.accept, x < 2147483648) ∧ r = .tuple #[.agg #[.int .i64 C.start, .slice ca C.accept.length cc, .slice ma C.next.length mc], .int .i64 0] ∧ DfaNew m w C [.int .i64 C.start, .slice ca C.accept.length cc, .slice ma C.next.length mc]
set_option maxHeartbeats 1000000 in
theorem dfNot_c (w0 : World) (n c : Nat) (d : Dfa) (dv : List Value) (ok : OkD n c d) (h : DfaAt w0 d dv) (hn : 1 ≤ n ∧ n ≤ 199) (hc : 1 ≤ c ∧ c ≤ 16) :
    Ret Try.prog 29 #[.agg dv.toArray] w0 fun r w => CanE c (fun w => fl (beh d d.start w)) (n + 1) w0.heap.size r w ∧ Ext w0 w := by
  have hdfa := h
  obtain ⟨aa, ac, na, nc, rfl, hacc, hnxt⟩ := h
  have hnl := ok.nl
  have hal := ok.al
  refine Ret_of Try.func29 rfl Try.ntmps29 (Nat.le_of_ble_eq_true rfl) ?_
  have E : Chg none1 w0 w0 := Chg.refl _ _
  refine Wp_seq_region ?_
  refine s_box (v := (.agg #[(.int .i64 d.start), (.slice aa d.accept.length ac), (.slice na d.next.length nc)])) (c := #[(.int .i64 d.start), (.slice aa d.accept.length ac), (.slice na d.next.length nc)]) (by decide) rfl rfl ?_
  intro bq wq Nq
  have Fq := Nq.ge E
  replace E := E.ext Nq.ext
  have Bq := Nq.blk
  refine s_alloc (c := #[(.int .i64 0), (.slice none 0 0), (.slice none 0 0)]) (by decide) zer25 rfl ?_
  intro bo wo No
  have Fo := No.ge E
  have Oo_bq := No.lt Bq
  replace Bq := No.keep Bq
  replace E := E.ext No.ext
  have Bo := No.blk
  refine WpL_val rfl rfl (by decide) (r_assign (v := (.int .i64 0)) rfl) ?_
  refine WpL_nil ?_
  refine Wp_seq ?_
  refine Wp_seq_region ?_
  refine WpL_val rfl rfl (by decide) (r_loadAgg (vs := [(.int .i64 d.start), (.slice aa d.accept.length ac), (.slice na d.next.length nc)]) rfl agg25 siz25 rfl (Bq.cells rfl)) ?_
  refine WpL_enter rfl rfl (by decide) (r_callF (vs := [(.agg #[(.int .i64 d.start), (.slice aa d.accept.length ac), (.slice na d.next.length nc)])]) Try.func50 nm50 bd50 rfl) (dcheck_c _ d _ (hdfa.ext E)) ?_
  rintro _ w9 ⟨rfl, X9⟩
  replace Bq := X9.keep Bq
  replace Bo := X9.keep Bo
  replace E := E.ext X9
  refine WpL_val rfl rfl (by decide) (r_assign (v := (.int .i64 (checkD d))) rfl) ?_
  refine WpL_nil ?_
  refine Wp_seq_region ?_
  refine WpL_val rfl rfl (by decide) (r_move (v := (.int .i64 (checkD d))) rfl) ?_
  refine WpL_val rfl rfl (by decide) (r_neq (k := .i64) (a := checkD d) (b := 0) rfl rfl) ?_
  refine WpL_nil ?_
  have hc1 : (decide ((checkD d : Int) ≠ 0)) = false := decide_eq_false (by rw [okD_check ok ⟨hn.1, by omega⟩ hc]; decide)
  refine Wp_cond_false (congrArg Value.bool hc1) ?_
  refine Wp_skip ?_
  refine thn_normal ?_
  refine Wp_seq_region ?_
  refine WpL_val rfl rfl (by decide) (r_loadAgg (vs := [(.int .i64 d.start), (.slice aa d.accept.length ac), (.slice na d.next.length nc)]) rfl agg25 siz25 rfl (Bq.cells rfl)) ?_
  obtain ⟨n9, hn9⟩ : ∃ n9, n9 = (w9).heap.size := ⟨_, rfl⟩
  have hn9b : w0.heap.size ≤ n9 ∧ bo < n9 := ⟨by have := E.size; omega, by have := Bo.lt; omega⟩
  refine WpL_enter rfl rfl (by decide) (r_callF (vs := [(.agg #[(.int .i64 d.start), (.slice aa d.accept.length ac), (.slice na d.next.length nc)])]) Try.func63 nm63 bd63 rfl) (dfnot_c _ n c d _ ok (hdfa.ext E) (by omega)) ?_
  rintro _ w99 ⟨⟨C, ca, cc, ma, mc, hC, hCl, hCa, rfl, hCN⟩, X99⟩
  replace Bq := X99.keep Bq
  replace Bo := X99.keep Bo
  replace E := E.ext X99
  rw [← hn9] at hCN
  refine s_allocStore (v := (.agg #[(.int .i64 C.start), (.slice ca C.accept.length cc), (.slice ma C.next.length mc)])) (c := #[(.int .i64 C.start), (.slice ca C.accept.length cc), (.slice ma C.next.length mc)]) (n := 3) (by decide) zer25 rfl siz25 rfl rfl rfl (by simp [Value.oneCell']) ?_
  intro bx wx Nx
  have Fx := Nx.ge E
  have Ox_bq := Nx.lt Bq
  have Ox_bo := Nx.lt Bo
  replace Bq := Nx.keep Bq
  replace Bo := Nx.keep Bo
  replace hCN := hCN.chg Nx.ext fun b f => f.elim
  replace E := E.ext Nx.ext
  have Bx := Nx.blk
  refine WpL_nil ?_
  refine Wp_seq ?_
  refine Wp_seq_region ?_
  refine WpL_val rfl rfl (by decide) (r_fieldAddr (b := bx) (o := 0) (o' := 2) rfl Try.underlying25 rfl siz23 rfl) ?_
  refine WpL_val rfl rfl (by decide) (r_load (v := (.slice ma C.next.length mc)) rfl flat23 (Bx.cell rfl)) ?_
  refine WpL_val rfl rfl (by decide) (r_lenSlice (ad := ma) (n := C.next.length) (cap := mc) Try.underlying23 rfl) ?_
  refine WpL_val rfl rfl (by decide) (r_gtr (k := .i64) (a := ((C.next.length : Nat) : Int)) (b := 200) rfl rfl) ?_
  refine WpL_nil ?_
  have hc2 : (decide ((200 : Int) < ((C.next.length : Nat) : Int))) = false := decide_eq_false (by omega)
  refine Wp_cond_false (congrArg Value.bool hc2) ?_
  refine Wp_skip ?_
  refine thn_normal ?_
  refine Wp_seq_region ?_
  refine WpL_val rfl rfl (by decide) (r_loadAgg (vs := [(.int .i64 C.start), (.slice ca C.accept.length cc), (.slice ma C.next.length mc)]) rfl agg25 siz25 rfl (Bx.cells rfl)) ?_
  refine s_storeAgg (b := bo) (o := 0) (c' := #[(.int .i64 C.start), (.slice ca C.accept.length cc), (.slice ma C.next.length mc)]) rfl rfl (by simp [Value.oneCell']) siz25 rfl Bo (by simp) rfl ?_
  intro w3 S3
  replace hCN := hCN.chg S3.chg fun b h => by have h' : b = bo := h; omega
  replace Bq := S3.keep (by omega) Bq
  replace Bx := S3.keep (by omega) Bx
  replace E := S3.step E (by first | exact Or.inl (by omega) | exact Or.inr rfl | exact Or.inr (by assumption) | exact Or.inr (by simp) | exact Or.inr (by omega) | exact Or.inr (by dsimp only; omega))
  replace Bo := S3.blk
  refine WpL_val rfl rfl (by decide) (r_assign (v := (.int .i64 0)) rfl) ?_
  refine WpL_nil ?_
  refine Wp_ret ?_
  refine fin_agg_tmp Try.results29 (vs := [(.int .i64 C.start), (.slice ca C.accept.length cc), (.slice ma C.next.length mc)]) (b := bo) (v' := (.int .i64 0)) rfl agg25 siz25 rfl (Bo.cells rfl) rfl ?_
  exact ⟨⟨C, ca, cc, ma, mc, hC, hCl, hCa, rfl, hCN.low hn9b.1⟩, E⟩
end Go.Proofs
