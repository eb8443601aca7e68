/- Contracts and plain lemmas, part 6. -/
import Derived.Tactics
import Derived.Deep.Quiet
import Derived.Laws.AppendOwn
import Derived.KernelRfl
import Derived.Laws.Entries
import Derived.Laws.Build
import Derived.Below
import Derived.RowKit3
import Derived.StillTail
import Derived.Sort.Grow
import Derived.Deep.Draws
import Derived.Test.YtmgnaaonmhaflaaGreatChecked
import Derived.Laws.StructEq
import Derived.MapKept
import Derived.Laws.BytesArg
import Derived.DeepKeys3
import Derived.Shelf.SlSortCmp.WholeK
import Derived.Shelf.Sort.Plain
import Derived.Shelf.Slices.CompactI
import Derived.Test.YtmgnaaonmhaflaaGreatProg
import Derived.Defers
import Derived.Recover
import Derived.OpenShut
import Derived.ChangeSlices
import Derived.Test.YtmgnaaonmhaflaaGreatRows
import Derived.SizedLaws
import Derived.Test.YtmgnaaonmhaflaaGreatZt5
namespace Go.Proofs
open Go Go.Eng Go.Sort
set_option maxRecDepth 100000
set_option linter.unusedVariables false
set_option maxHeartbeats 4000000 in
theorem folded_e {cl : Sps → Sps} {er : Sps → Int} (hcl : CloseN cl er) : ∀ (n : Nat) (t : Re) (w0 : World) (vs pre post : List Value) (Z L : Nat → Prop) (pb po T : Nat), t.size ≤ n → t.size ≤ 1000000 → nxE er t 0 ≠ 0 → Tree Z w0 t vs L → Blk w0 pb (pre ++ vs ++ post).toArray T → pre.length = po → ¬ Z pb → ¬ L pb → (∀ y, Z y → ¬ L y) → (∀ y, Z y ∨ L y → y < w0.heap.size) →
    Ret Tryz.prog 54 #[.pointer (some ⟨pb, po, none⟩)] w0 fun r w => r = .int .i64 (nxE er t 0) ∧ Chg (fun y => y = pb ∨ L y) w0 w := by
  intro n
  induction n with
  | zero => intro t w0 vs pre post Z L pb po T hn; have := t.size_pos; omega
  | succ n ih =>
  intro t w0 vs pre post Z L pb po T hn hM hne0 hT hB hpo hZp hLp hz hb
  obtain ⟨sa, sc, aa, ac, rfl, hset, hac, hta⟩ := hT.form
  have hal := len_sizes t.args
  have hsze := t.size_eq
  have hpb := hB.lt
  have hEq := nxE_eq er t 0
  obtain ⟨n0, hn0⟩ : ∃ n0, n0 = w0.heap.size := ⟨_, rfl⟩
  rw [← hn0] at hb
  have hst : NSt (foldT cl) Z L n0 w0 aa t.args 0 := nst_start hta
  have hsetN : SlIn (fun y => Z y ∨ n0 ≤ y) w0 2 (.slice sa t.set.length sc) (t.set.map spanV) := hset.mono fun y h => .inl h
  have hne : ∀ y, Z y ∨ L y ∨ n0 ≤ y → ¬ y = pb := by
    rintro y (h | h | h) rfl
    · exact hZp h
    · exact hLp h
    · omega
  refine Ret_of Tryz.func54 rfl Tryz.ntmps54 (Nat.le_of_ble_eq_true rfl) ?_
  have E : Chg (fun y => y = pb ∨ L y) w0 w0 := Chg.refl _ _
  refine Wp_seq_region ?_
  refine qA (I6 0) rfl ?_
  refine WpL_nil ?_
  refine Wp_cut (fun σ W1 => ∃ (ca : Option Addr) (cc : Nat), (∃ jj_, σ = upds jj_ [(0, (P6 pb po))]) ∧ Chg (fun y => y = pb ∨ L y) w0 W1 ∧ Blk W1 pb ((pre ++ [Value.int .i64 t.kind, .slice ca (if t.kind = 2 then cl t.set else t.set).length cc, .slice aa t.args.length ac, .int .i64 t.mn, .int .i64 t.mx, .bool t.neg] ++ post).toArray) T ∧ (SlIn (fun y => Z y ∨ n0 ≤ y) W1 2 (.slice ca (if t.kind = 2 then cl t.set else t.set).length cc) ((if t.kind = 2 then cl t.set else t.set).map spanV)) ∧ (NSt (foldT cl) Z L n0 W1 aa t.args 0) ∧ ((if t.kind = 2 ∧ (0 : Int) = 0 then er t.set else 0) = 0)) ?_ ?_
  · skip
    refine Wp_seq_region ?_
    refine qM (P6 pb po) rfl ?_
    refine qV (r_nilCheck (a := ⟨pb, po, none⟩) rfl) ?_
    refine qF pb po po rfl Tryz.underlying25 rfl siz3 rfl ?_
    refine qV (r_load (v := (I6 t.kind)) rfl flat3 (hB.cell (mid_get (i := 0) hpo rfl))) ?_
    refine qV (r_eql (k := .i64) (a := t.kind) (b := 2) rfl rfl) ?_
    refine WpL_nil ?_
    refine Wp_cond (b := decide ((t.kind : Int) = 2)) rfl (fun hk => ?_) (fun hk => ?_)
    · have khk := hk
      replace hk := of_decide_eq_true hk
      refine Wp_seq_region ?_
      refine qM (P6 pb po) rfl ?_
      refine qV (r_nilCheck (a := ⟨pb, po, none⟩) rfl) ?_
      refine qF pb po (po + 1) rfl Tryz.underlying25 rfl siz22 rfl ?_
      refine qV (r_load (v := (.slice sa t.set.length sc)) rfl flat22 (hB.cell (mid_get (i := 1) hpo rfl))) ?_
      refine WpL_enter rfl rfl (by decide) (r_callF (vs := [(.slice sa t.set.length sc)]) Tryz.func91 nm91 bd91 rfl) (hcl _ _ t.set (SlIn.at hsetN)) ?_
      rintro _ w9 ⟨⟨ca, cc, rfl, hcs⟩, X9⟩
      replace hB := X9.keep hB
      replace hst := NSt.ext hst X9
      replace hsetN := SlIn.chg hsetN X9 (fun _ _ f => f)
      replace E := E.ext X9
      refine qM (.tuple #[(.slice ca ((cl t.set).length) cc), (I6 (er t.set))]) rfl ?_
      refine qV (r_extract (vs := #[(.slice ca ((cl t.set).length) cc), (I6 (er t.set))]) (v := (.slice ca ((cl t.set).length) cc)) rfl rfl) ?_
      refine qV (r_extract (vs := #[(.slice ca ((cl t.set).length) cc), (I6 (er t.set))]) (v := (I6 (er t.set))) rfl rfl) ?_
      refine qA (.slice ca ((cl t.set).length) cc) rfl ?_
      refine qA (I6 (er t.set)) rfl ?_
      refine WpL_nil (Wp_seq (Wp_seq_region ?_))
      refine qM (I6 (er t.set)) rfl ?_
      refine qV (r_neq (k := .i64) (a := er t.set) (b := 0) rfl rfl) ?_
      refine WpL_nil ?_
      refine Wp_cond (b := decide ((er t.set : Int) ≠ 0)) rfl (fun he9 => ?_) (fun he9 => ?_)
      · have khe9 := he9
        replace he9 := of_decide_eq_true he9
        refine Wp_seq_region ?_
        refine qM (I6 (er t.set)) rfl ?_
        refine qA (I6 (er t.set)) rfl ?_
        refine WpL_nil (Wp_ret (thn_ret (thn_ret ?_)))
        refine fin_tmp Tryz.results54 (v := (.int .i64 (er t.set))) rfl ?_
        exact ⟨by rw [hEq, if_pos ⟨hk, rfl⟩, nxEs_stay _ he9], E⟩
      · have khe9 := he9
        replace he9 := of_decide_eq_false he9
        have hcs2 : SlIn (fun y => Z y ∨ n0 ≤ y) w9 2 (.slice ca (cl t.set).length cc) ((cl t.set).map spanV) := hcs.mono fun y h => .inr (by have := E.size; omega)
        refine Wp_skip (thn_normal (Wp_region ?_))
        refine qM (P6 pb po) rfl ?_
        refine qM (.slice ca ((cl t.set).length) cc) rfl ?_
        refine qV (r_nilCheck (a := ⟨pb, po, none⟩) rfl) ?_
        refine qF pb po (po + 1) rfl Tryz.underlying25 rfl siz22 rfl ?_
        refine s_store (b := pb) (o := po + 1) (c' := (pre ++ [Value.int .i64 t.kind, .slice ca (cl t.set).length cc, .slice aa t.args.length ac, .int .i64 t.mn, .int .i64 t.mx, .bool t.neg] ++ post).toArray) (v := (.slice ca ((cl t.set).length) cc)) rfl rfl rfl siz22 hB (by simp; omega) (by rw [List.setIfInBounds_toArray]; exact congrArg List.toArray (mid_set (i := 1) hpo (by simp))) ?_
        intro w4 S4
        replace hst := NSt.chg hst S4.chg (fun y hy hm => hne y hy hm)
        replace hcs2 := SlIn.chg hcs2 S4.chg (fun y hy hm => hne y (hy.imp_right .inr) hm)
        replace E := S4.step E (by first | exact Or.inl (by omega) | exact Or.inr rfl | exact Or.inr (by assumption) | exact Or.inr (by simp) | exact Or.inr (by omega) | exact Or.inr (by dsimp only; omega))
        replace hB := S4.blk
        have hB5 : Blk (w4) pb (pre ++ [Value.int .i64 t.kind, .slice ca (if t.kind = 2 then cl t.set else t.set).length cc, .slice aa t.args.length ac, .int .i64 t.mn, .int .i64 t.mx, .bool t.neg] ++ post).toArray T := by rw [if_pos hk]; exact hB
        refine WpL_nil (thn_normal ?_)
        exact ⟨ca, cc, Fits.out ⟨rfl, trivial⟩, E, hB5, (by simpa [hk] using hcs2), hst, (by rw [if_pos ⟨hk, rfl⟩]; omega)⟩
    · have khk := hk
      replace hk := of_decide_eq_false hk
      have hB5 : Blk (w0) pb (pre ++ [Value.int .i64 t.kind, .slice sa (if t.kind = 2 then cl t.set else t.set).length sc, .slice aa t.args.length ac, .int .i64 t.mn, .int .i64 t.mx, .bool t.neg] ++ post).toArray T := by rw [if_neg hk]; exact hB
      refine Wp_skip (thn_normal ?_)
      exact ⟨sa, sc, Fits.out ⟨rfl, trivial⟩, E, hB5, (by simpa [hk] using hsetN), hst, (by rw [if_neg (fun h => hk h.1)])⟩
  · clear E hB
    rintro _ W1 ⟨ca, cc, ⟨j1, rfl⟩, E, hB, hsN, hst, ho0⟩
    refine Wp_seq (Wp_seq_region ?_)
    refine qM (P6 pb po) rfl ?_
    refine qV (r_nilCheck (a := ⟨pb, po, none⟩) rfl) ?_
    refine qF pb po (po + 2) rfl Tryz.underlying25 rfl siz23 rfl ?_
    refine qV (r_load (v := (.slice aa t.args.length ac)) rfl flat23 (hB.cell (mid_get (i := 2) hpo rfl))) ?_
    refine qV (r_lenSlice (ad := aa) (n := t.args.length) (cap := ac) Tryz.underlying23 rfl) ?_
    refine qM (I6 0) rfl ?_
    refine WpL_nil (Wp_block ?_)
    refine Wp_loop (fun nn_ σ W5 => ∃ (k : Nat), (∃ jj_, σ = upds jj_ [(0, (P6 pb po)), (31, (I6 (t.args.length : Int))), (32, (I6 (k : Int)))]) ∧ Chg (fun y => y = pb ∨ L y) w0 W5 ∧ Blk W5 pb ((pre ++ [Value.int .i64 t.kind, .slice ca (if t.kind = 2 then cl t.set else t.set).length cc, .slice aa t.args.length ac, .int .i64 t.mn, .int .i64 t.mx, .bool t.neg] ++ post).toArray) T ∧ (k ≤ t.args.length) ∧ (NSt (foldT cl) Z L n0 W5 aa t.args k) ∧ (SlIn (fun y => Z y ∨ n0 ≤ y) W5 2 (.slice ca (if t.kind = 2 then cl t.set else t.set).length cc) ((if t.kind = 2 then cl t.set else t.set).map spanV)) ∧ (n0 ≤ W5.heap.size) ∧ (nxEs er (t.args.take k) 0 = 0) ∧ nn_ = t.args.length - k) (n := t.args.length - 0) ?_ ?_
    · exact ⟨0, Fits.out ⟨rfl, rfl, rfl, trivial⟩, E, hB, Nat.zero_le _, hst, hsN, (by have := E.size; omega), (by simp [nxEs]), rfl⟩
    · clear E hB
      rintro _ _ W5 ⟨k, ⟨j5, rfl⟩, E, hB, hk, hst, hsN, hsz, hz0, rfl⟩
      refine Wp_seq_region ?_
      refine qV (r_lss (k := .i64) (a := (k : Int)) (b := (t.args.length : Int)) rfl rfl) ?_
      refine WpL_nil (Wp_seq ?_)
      refine Wp_cond (b := decide (((k : Int) : Int) < (t.args.length : Int))) rfl (fun hlt => ?_) (fun hlt => ?_)
      · have khlt := hlt
        replace hlt := of_decide_eq_true hlt
        obtain ⟨x, hx⟩ := get_of_lt (l := t.args) (i := k) (by omega)
        obtain ⟨b, rows, rest, D, K, haa, hLb, hBb, hR, hT, hl, h6, hD, hK⟩ := hst.resolve_left (fun h => by rw [h] at hx; simp at hx)
        have hbb := hb b (.inr hLb)
        rw [drop_cons hx] at hT
        simp only [Trees] at hT
        obtain ⟨xs, rs2, L1, K2, hrows, hTx, hT2, h1, h2⟩ := hT
        obtain ⟨hrx, rfl⟩ := drop_head hrows
        have hLL : ∀ y, L1 y → L y := fun y hy => (hK y (h1 y hy).1).1
        rcases Bool.eq_false_or_eq_true (decide (nxE er x 0 = 0)) with hx9 | hx9
        · have khx9 := hx9
          replace khx9 := of_decide_eq_true khx9
          refine Wp_skip (thn_normal (Wp_seq (Wp_block (Wp_seq_region ?_))))
          refine qM (I6 (k : Int)) rfl ?_
          refine qA (I6 (k : Int)) rfl ?_
          refine WpL_nil (Wp_seq_region ?_)
          refine qM (P6 pb po) rfl ?_
          refine qV (r_nilCheck (a := ⟨pb, po, none⟩) rfl) ?_
          refine qF pb po (po + 2) rfl Tryz.underlying25 rfl siz23 rfl ?_
          refine qV (r_load (v := (.slice (some ⟨b, 0, none⟩) t.args.length ac)) rfl flat23 ((hB.cell (mid_get (i := 2) hpo rfl)).trans (by rw [haa]))) ?_
          refine qM (I6 (k : Int)) rfl ?_
          refine qV (r_indexSlice (b := b) (o := 0) (len := t.args.length) (cap := ac) (i := k) (o' := 0 + k * 6) rfl rfl rfl Tryz.underlying23 siz25 (by omega) (by omega)) ?_
          refine WpL_enter rfl rfl (by decide) (r_callF (vs := [(.pointer (some ⟨b, 0 + k * 6, none⟩))]) Tryz.func54 nm54 bd54 rfl) (folded_c (clOk_of hcl) x.size x _ xs (rows.take k).flatten ((rows.drop (k + 1)).flatten ++ rest) Z L1 b (0 + k * 6) TRe (Nat.le_refl _) (by have := Re.size_arg hx; omega) (nxE_zero x khx9) hTx (by rw [← rows_mid hrx]; exact hBb) (by rw [rows_len (k := 6) (fun r hr => h6 r (List.mem_of_mem_take hr)), List.length_take]; omega) (fun h => hz b h hLb) (fun h => (hK b (h1 b h).1).2 rfl) (fun y hy h => hz y hy (hLL y h)) (fun y hy => by have := hb y (hy.imp_right (hLL y)); omega)) ?_
          rintro _ w9 ⟨⟨rfl, vs', hB9, hv9⟩, C9⟩
          replace hB := C9.keep (fun h => by rcases h with h | h; exact hLp (h ▸ hLb); exact hLp (hLL _ h)) hB
          replace E := E.step C9 (fun q _ hq => .inr (by rcases hq with h | h; exact h ▸ hLb; exact hLL _ h))
          have hkr : k < rows.length := by omega
          rw [rows_put hkr] at hB9
          have hst9 := nst_put hz hb hLb hx hR hT2 hl h6 hD hK h1 h2 C9 (ReIn.mono (fun y hy => by rcases hy with h | h | h; exact .inl h; exact .inr (.inl h); exact .inr (.inr (by omega))) _ hv9) hB9
          rw [← haa] at hst9
          refine qA (I6 0) rfl ?_
          refine WpL_nil (Wp_seq_region ?_)
          refine qM (I6 0) rfl ?_
          refine qV (r_neq (k := .i64) (a := 0) (b := 0) rfl rfl) ?_
          refine WpL_nil ?_
          refine Wp_cond_false rfl ?_
          refine Wp_skip (inB_normal (thn_normal (Wp_region ?_)))
          refine qV (r_add (k := .i64) (a := (k : Int)) (b := 1) (c := (k : Int) + 1) rfl rfl (wI64 (by omega))) ?_
          refine qM (I6 ((k : Int) + 1)) rfl ?_
          refine WpL_nil (thn_normal ?_)
          exact ⟨t.args.length - (k + 1), by omega, k + 1, Fits.out ⟨rfl, rfl, rfl, trivial⟩, E, hB, (by omega), hst9, SlIn.chg hsN C9 (fun y hy hm => by rcases hm with h | h; (rw [h] at hy; rcases hy with g | g; exact hz b g hLb; omega); (rcases hy with g | g; exact hz y g (hLL y h); have := hb y (.inr (hLL y h)); omega)), (by have := C9.size; omega), (by rw [nxEs_take hx, hz0]; exact khx9), rfl⟩
        · have khx9 := hx9
          replace khx9 := of_decide_eq_false khx9
          refine Wp_skip (thn_normal (Wp_seq (Wp_block (Wp_seq_region ?_))))
          refine qM (I6 (k : Int)) rfl ?_
          refine qA (I6 (k : Int)) rfl ?_
          refine WpL_nil (Wp_seq_region ?_)
          refine qM (P6 pb po) rfl ?_
          refine qV (r_nilCheck (a := ⟨pb, po, none⟩) rfl) ?_
          refine qF pb po (po + 2) rfl Tryz.underlying25 rfl siz23 rfl ?_
          refine qV (r_load (v := (.slice (some ⟨b, 0, none⟩) t.args.length ac)) rfl flat23 ((hB.cell (mid_get (i := 2) hpo rfl)).trans (by rw [haa]))) ?_
          refine qM (I6 (k : Int)) rfl ?_
          refine qV (r_indexSlice (b := b) (o := 0) (len := t.args.length) (cap := ac) (i := k) (o' := 0 + k * 6) rfl rfl rfl Tryz.underlying23 siz25 (by omega) (by omega)) ?_
          refine WpL_enter rfl rfl (by decide) (r_callF (vs := [(.pointer (some ⟨b, 0 + k * 6, none⟩))]) Tryz.func54 nm54 bd54 rfl) (ih x _ xs (rows.take k).flatten ((rows.drop (k + 1)).flatten ++ rest) Z L1 b (0 + k * 6) TRe (by have := Re.size_arg hx; omega) (by have := Re.size_arg hx; omega) khx9 hTx (by rw [← rows_mid hrx]; exact hBb) (by rw [rows_len (k := 6) (fun r hr => h6 r (List.mem_of_mem_take hr)), List.length_take]; omega) (fun h => hz b h hLb) (fun h => (hK b (h1 b h).1).2 rfl) (fun y hy h => hz y hy (hLL y h)) (fun y hy => by have := hb y (hy.imp_right (hLL y)); omega)) ?_
          rintro _ w9 ⟨rfl, C9⟩
          replace hB := C9.keep (fun h => by rcases h with h | h; exact hLp (h ▸ hLb); exact hLp (hLL _ h)) hB
          replace E := E.step C9 (fun q _ hq => .inr (by rcases hq with h | h; exact h ▸ hLb; exact hLL _ h))
          refine qA (I6 (nxE er x 0)) rfl ?_
          refine WpL_nil (Wp_seq_region ?_)
          refine qM (I6 (nxE er x 0)) rfl ?_
          refine qV (r_neq (k := .i64) (a := nxE er x 0) (b := 0) rfl rfl) ?_
          refine WpL_nil ?_
          have hc7 : (decide ((nxE er x 0 : Int) ≠ 0)) = true := decide_eq_true khx9
          refine Wp_cond_true (congrArg Value.bool hc7) ?_
          refine Wp_seq_region ?_
          refine qM (I6 (nxE er x 0)) rfl ?_
          refine qA (I6 (nxE er x 0)) rfl ?_
          refine WpL_nil (Wp_ret (inB_ret (thn_ret (thn_ret (inB_ret (thn_ret ?_))))))
          refine fin_tmp Tryz.results54 (v := (.int .i64 (nxE er x 0))) rfl ?_
          exact ⟨by rw [hEq, ho0, nxEs_drop (k := k), hz0, drop_cons hx, nxEs, nxEs_stay _ khx9], E⟩
      · have khlt := hlt
        replace hlt := of_decide_eq_false hlt
        have hkk : k = t.args.length := by omega
        subst hkk
        refine Wp_exit (thn_exit (thn_exit (inB_here (thn_normal (Wp_seq_region ?_)))))
        refine qA (I6 0) rfl ?_
        refine WpL_nil (Wp_ret ?_)
        refine fin_tmp Tryz.results54 (v := (.int .i64 0)) rfl ?_
        exact absurd (by rw [hEq, ho0]; rw [List.take_length] at hz0; exact hz0) hne0
theorem fold_z {S : Nat → Prop} {w : World} : ReIn S w noneT [.int .i64 0, .slice none 0 0, .slice none 0 0, .int .i64 0, .int .i64 0, .bool false] := re_empty _ _ 0
/-- What folding returns. -/
def foldV (cl : Sps → Sps) (er : Sps → Int) (t : Re) : Re × Int := if fitsE t 40 ≠ 0 then (noneT, fitsE t 40) else if usesB [7, 8, 10] t = true then (noneT, 3) else if nxE er t 0 ≠ 0 then (noneT, nxE er t 0) else (foldT cl t, 0)
set_option maxHeartbeats 2000000 in
theorem Fold5_c {cl : Sps → Sps} {er : Sps → Int} (hcl : CloseN cl er) (w0 : World) (t : Re) (vs : List Value) (ht : ReAt w0 t vs) :
  Ret Tryz.prog 20 #[.agg vs.toArray] w0 fun v w => (∃ us, v = .tuple #[.agg us.toArray, .int .i64 (foldV cl er t).2] ∧ ReAt w (foldV cl er t).1 us) ∧ Ext w0 w := by
 by_cases hf0 : fitsE t 40 = 0
 case neg =>
  have hV : foldV cl er t = (noneT, fitsE t 40) := by unfold foldV; rw [if_pos hf0]
  rw [hV]
  have ht0 := ht
  obtain ⟨sa, sc, aa, ac, rfl, _, _, _⟩ := ht.form
  refine Ret_of Tryz.func20 rfl Tryz.ntmps20 (Nat.le_of_ble_eq_true rfl) ?_
  have E : Chg none1 w0 w0 := Chg.refl _ _
  refine Wp_seq_region ?_
  refine s_box (v := (.agg (R6 t sa sc aa ac))) (c := (R6 t sa sc aa ac)) (by decide) rfl rfl ?_
  intro br wr Nr
  have Fr := Nr.ge E
  replace E := E.ext Nr.ext
  have Br := Nr.blk
  refine s_alloc (c := #[(I6 0), (.slice none 0 0), (.slice none 0 0), (I6 0), (I6 0), (.bool false)]) (by decide) zer25 rfl ?_
  intro bo wo No
  have Fo := No.ge E
  have Oo_br := No.lt Br
  replace Br := No.keep Br
  replace E := E.ext No.ext
  have Bo := No.blk
  refine qA _ rfl ?_
  refine WpL_nil (Wp_seq (Wp_seq_region ?_))
  refine qV (r_loadAgg (vs := [(I6 t.kind), (.slice sa t.set.length sc), (.slice aa t.args.length ac), (I6 t.mn), (I6 t.mx), (.bool t.neg)]) rfl agg25 siz25 rfl (Br.cells rfl)) ?_
  refine WpL_enter rfl rfl (by decide) (r_callF Tryz.func8 nm8 bd8 rfl) (check_c _ t _ (ReAt.ext E t ht0)) ?_
  rintro _ w9 ⟨rfl, X9⟩
  replace Br := X9.keep Br
  replace Bo := X9.keep Bo
  replace E := E.ext X9
  refine qA _ rfl ?_
  refine WpL_nil (Wp_seq_region ?_)
  refine qM _ rfl ?_
  refine qV (r_neq rfl rfl) ?_
  refine WpL_nil ?_
  have hc1 : (decide ((fitsE t 40 : Int) ≠ 0)) = true := decide_eq_true hf0
  refine Wp_cond_true (congrArg Value.bool hc1) ?_
  refine Wp_seq_region ?_
  refine qV (r_build (ps := []) (v := (.agg #[(I6 0), (.slice none 0 0), (.slice none 0 0), (I6 0), (I6 0), (.bool false)])) rfl (by kernel_rfl)) ?_
  refine qM _ rfl ?_
  refine s_storeAgg (b := bo) (o := 0) (c' := #[(I6 0), (.slice none 0 0), (.slice none 0 0), (I6 0), (I6 0), (.bool false)]) rfl rfl (by simp [Value.oneCell']) siz25 rfl Bo (by first | (simp; done) | exact Nat.le_of_ble_eq_true rfl) rfl ?_
  intro w2 S2
  replace Br := S2.keep (by omega) Br
  replace E := S2.step E (by first | exact Or.inl (by omega) | exact Or.inr rfl | exact Or.inr (by assumption) | exact Or.inr (by simp) | exact Or.inr (by omega) | exact Or.inr (by dsimp only; omega))
  replace Bo := S2.blk
  refine qA _ rfl ?_
  refine WpL_nil (Wp_ret (thn_ret ?_))
  refine fin_agg_tmp Tryz.results20 (vs := [(.int .i64 0), (.slice none 0 0), (.slice none 0 0), (.int .i64 0), (.int .i64 0), (.bool false)]) (b := bo) (v' := (.int .i64 (fitsE t 40))) rfl agg25 siz25 rfl (Bo.cells rfl) rfl ?_
  exact ⟨⟨_, rfl, ReIn.at _ (fold_z (S := fun _ => True))⟩, E⟩
 cases hu : usesB [7, 8, 10] t
 case true =>
  have hV : foldV cl er t = (noneT, 3) := by unfold foldV; rw [if_neg (by omega), if_pos hu]
  rw [hV]
  have ht0 := ht
  obtain ⟨sa, sc, aa, ac, rfl, _, _, _⟩ := ht.form
  refine Ret_of Tryz.func20 rfl Tryz.ntmps20 (Nat.le_of_ble_eq_true rfl) ?_
  have E : Chg none1 w0 w0 := Chg.refl _ _
  refine Wp_seq_region ?_
  refine s_box (v := (.agg (R6 t sa sc aa ac))) (c := (R6 t sa sc aa ac)) (by decide) rfl rfl ?_
  intro br wr Nr
  have Fr := Nr.ge E
  replace E := E.ext Nr.ext
  have Br := Nr.blk
  refine s_alloc (c := #[(I6 0), (.slice none 0 0), (.slice none 0 0), (I6 0), (I6 0), (.bool false)]) (by decide) zer25 rfl ?_
  intro bo wo No
  have Fo := No.ge E
  have Oo_br := No.lt Br
  replace Br := No.keep Br
  replace E := E.ext No.ext
  have Bo := No.blk
  refine qA _ rfl ?_
  refine WpL_nil (Wp_seq (Wp_seq_region ?_))
  refine qV (r_loadAgg (vs := [(I6 t.kind), (.slice sa t.set.length sc), (.slice aa t.args.length ac), (I6 t.mn), (I6 t.mx), (.bool t.neg)]) rfl agg25 siz25 rfl (Br.cells rfl)) ?_
  refine WpL_enter rfl rfl (by decide) (r_callF Tryz.func8 nm8 bd8 rfl) ((check_c _ t _ (ReAt.ext E t ht0)).mono (R' := fun v w => v = .int .i64 0 ∧ Ext wo w) (fun v w h => ⟨by rw [h.1, hf0], h.2⟩)) ?_
  rintro _ w9 ⟨rfl, X9⟩
  replace Br := X9.keep Br
  replace Bo := X9.keep Bo
  replace E := E.ext X9
  refine qA _ rfl ?_
  refine WpL_nil (Wp_seq_region ?_)
  refine qM _ rfl ?_
  refine qV (r_neq rfl rfl) ?_
  refine WpL_nil ?_
  refine Wp_cond_false rfl ?_
  refine Wp_skip (thn_normal (Wp_seq (Wp_seq_region ?_)))
  refine qV (r_loadAgg (vs := [(I6 t.kind), (.slice sa t.set.length sc), (.slice aa t.args.length ac), (I6 t.mn), (I6 t.mx), (.bool t.neg)]) rfl agg25 siz25 rfl (Br.cells rfl)) ?_
  refine s_buildSlice (ps := [(0, (I6 7)), (1, (I6 8)), (2, (I6 10))]) (c := #[(I6 7), (I6 8), (I6 10)]) (by decide) rfl Tryz.underlying46 siz3 zer3 (by decide) (by decide) (by kernel_rfl) ?_
  intro bk wk Nk
  have Fk := Nk.ge E
  have Ok_br := Nk.lt Br
  have Ok_bo := Nk.lt Bo
  replace Br := Nk.keep Br
  replace Bo := Nk.keep Bo
  replace E := E.ext Nk.ext
  have Bk := Nk.blk
  refine WpL_enter rfl rfl (by decide) (r_callF Tryz.func15 nm15 bd15 rfl) ((uses_c _ t _ [7, 8, 10] _ (ReAt.ext E t ht0) (ints_of_blk [7, 8, 10] Bk (by simp) (by simp))).mono (R' := fun v w => v = .bool true ∧ Ext wk w) (fun v w h => ⟨by rw [h.1, hu], h.2⟩)) ?_
  rintro _ w19 ⟨rfl, X19⟩
  replace Br := X19.keep Br
  replace Bo := X19.keep Bo
  replace Bk := X19.keep Bk
  replace E := E.ext X19
  refine WpL_nil ?_
  refine Wp_cond_true rfl ?_
  refine Wp_seq_region ?_
  refine qV (r_build (ps := []) (v := (.agg #[(I6 0), (.slice none 0 0), (.slice none 0 0), (I6 0), (I6 0), (.bool false)])) rfl (by kernel_rfl)) ?_
  refine s_storeAgg (b := bo) (o := 0) (c' := #[(I6 0), (.slice none 0 0), (.slice none 0 0), (I6 0), (I6 0), (.bool false)]) rfl rfl (by simp [Value.oneCell']) siz25 rfl Bo (by first | (simp; done) | exact Nat.le_of_ble_eq_true rfl) rfl ?_
  intro w1 S1
  replace Br := S1.keep (by omega) Br
  replace Bk := S1.keep (by omega) Bk
  replace E := S1.step E (by first | exact Or.inl (by omega) | exact Or.inr rfl | exact Or.inr (by assumption) | exact Or.inr (by simp) | exact Or.inr (by omega) | exact Or.inr (by dsimp only; omega))
  replace Bo := S1.blk
  refine qA _ rfl ?_
  refine WpL_nil (Wp_ret (thn_ret ?_))
  refine fin_agg_tmp Tryz.results20 (vs := [(.int .i64 0), (.slice none 0 0), (.slice none 0 0), (.int .i64 0), (.int .i64 0), (.bool false)]) (b := bo) (v' := (.int .i64 3)) rfl agg25 siz25 rfl (Bo.cells rfl) rfl ?_
  exact ⟨⟨_, rfl, ReIn.at _ (fold_z (S := fun _ => True))⟩, E⟩
 case false =>
 by_cases hx : nxE er t 0 = 0
 ·have hV : foldV cl er t = (foldT cl t, 0) := by unfold foldV; rw [if_neg (by omega), if_neg (by rw [hu]; decide), if_neg (by omega)]
  rw [hV]
  exact Fold_c (clOk_of hcl) w0 t vs ht hf0 hu (nxE_zero t hx)
 have hV : foldV cl er t = (noneT, nxE er t 0) := by unfold foldV; rw [if_neg (by omega), if_neg (by rw [hu]; decide), if_pos hx]
 rw [hV]
 have ht0 := ht
 obtain ⟨sa, sc, aa, ac, rfl, _, _, _⟩ := ht.form
 obtain ⟨hok, hsz⟩ := (fitsE_zero (by decide) (by decide)).1 hf0
 refine Ret_of Tryz.func20 rfl Tryz.ntmps20 (Nat.le_of_ble_eq_true rfl) ?_
 have E : Chg none1 w0 w0 := Chg.refl _ _
 refine Wp_seq_region ?_
 refine s_box (v := (.agg (R6 t sa sc aa ac))) (c := (R6 t sa sc aa ac)) (by decide) rfl rfl ?_
 intro br wr Nr
 have Fr := Nr.ge E
 replace E := E.ext Nr.ext
 have Br := Nr.blk
 refine s_alloc (c := #[(I6 0), (.slice none 0 0), (.slice none 0 0), (I6 0), (I6 0), (.bool false)]) (by decide) zer25 rfl ?_
 intro bo wo No
 have Fo := No.ge E
 have Oo_br := No.lt Br
 replace Br := No.keep Br
 replace E := E.ext No.ext
 have Bo := No.blk
 refine qA _ rfl ?_
 refine WpL_nil (Wp_seq (Wp_seq_region ?_))
 refine qV (r_loadAgg (vs := [(I6 t.kind), (.slice sa t.set.length sc), (.slice aa t.args.length ac), (I6 t.mn), (I6 t.mx), (.bool t.neg)]) rfl agg25 siz25 rfl (Br.cells rfl)) ?_
 refine WpL_enter rfl rfl (by decide) (r_callF Tryz.func8 nm8 bd8 rfl) ((check_c _ t _ (ReAt.ext E t ht0)).mono (R' := fun v w => v = .int .i64 0 ∧ Ext wo w) (fun v w h => ⟨by rw [h.1, hf0], h.2⟩)) ?_
 rintro _ w9 ⟨rfl, X9⟩
 replace Br := X9.keep Br
 replace Bo := X9.keep Bo
 replace E := E.ext X9
 refine qA _ rfl ?_
 refine WpL_nil (Wp_seq_region ?_)
 refine qM _ rfl ?_
 refine qV (r_neq rfl rfl) ?_
 refine WpL_nil ?_
 refine Wp_cond_false rfl ?_
 refine Wp_skip (thn_normal (Wp_seq (Wp_seq_region ?_)))
 refine qV (r_loadAgg (vs := [(I6 t.kind), (.slice sa t.set.length sc), (.slice aa t.args.length ac), (I6 t.mn), (I6 t.mx), (.bool t.neg)]) rfl agg25 siz25 rfl (Br.cells rfl)) ?_
 refine s_buildSlice (ps := [(0, (I6 7)), (1, (I6 8)), (2, (I6 10))]) (c := #[(I6 7), (I6 8), (I6 10)]) (by decide) rfl Tryz.underlying46 siz3 zer3 (by decide) (by decide) (by kernel_rfl) ?_
 intro bk wk Nk
 have Fk := Nk.ge E
 have Ok_br := Nk.lt Br
 have Ok_bo := Nk.lt Bo
 replace Br := Nk.keep Br
 replace Bo := Nk.keep Bo
 replace E := E.ext Nk.ext
 have Bk := Nk.blk
 refine WpL_enter rfl rfl (by decide) (r_callF Tryz.func15 nm15 bd15 rfl) ((uses_c _ t _ [7, 8, 10] _ (ReAt.ext E t ht0) (ints_of_blk [7, 8, 10] Bk (by simp) (by simp))).mono (R' := fun v w => v = .bool false ∧ Ext wk w) (fun v w h => ⟨by rw [h.1, hu], h.2⟩)) ?_
 rintro _ w19 ⟨rfl, X19⟩
 replace Br := X19.keep Br
 replace Bo := X19.keep Bo
 replace Bk := X19.keep Bk
 replace E := E.ext X19
 refine WpL_nil ?_
 refine Wp_cond_false rfl ?_
 refine Wp_skip (thn_normal (Wp_seq_region ?_))
 refine qV (r_loadAgg (vs := [(I6 t.kind), (.slice sa t.set.length sc), (.slice aa t.args.length ac), (I6 t.mn), (I6 t.mx), (.bool t.neg)]) rfl agg25 siz25 rfl (Br.cells rfl)) ?_
 obtain ⟨n1, hn1⟩ : ∃ n1, n1 = w19.heap.size := ⟨_, rfl⟩
 have hbo := Bo.lt
 have hbk := Bk.lt
 have hbr := Br.lt
 have hE1 : w0.heap.size ≤ w19.heap.size := E.size
 refine WpL_enter rfl rfl (by decide) (r_callF Tryz.func14 nm14 bd14 rfl) (copy_c t.size t _ _ (Nat.le_refl _) (by omega) (ok_setsF t hok) (ReAt.ext E t ht0)) ?_
 rintro _ w29 ⟨⟨us, Z, L, rfl, hTr, hZL, hnew⟩, X29⟩
 replace Br := X29.keep Br
 replace Bo := X29.keep Bo
 replace Bk := X29.keep Bk
 replace E := E.ext X29
 have hs29 := X29.size
 rw [← hn1] at hnew
 have hTr0 := hTr
 obtain ⟨sb, sd, ab, ad, rfl, _, _, _⟩ := hTr.form
 refine s_allocStore (v := (.agg (R6 t sb sd ab ad))) (c := (R6 t sb sd ab ad)) (n := 6) (by decide) zer25 rfl siz25 rfl rfl rfl (by simp [Value.oneCell']) ?_
 intro bf wf Nf
 have Ff := Nf.ge E
 have Of_br := Nf.lt Br
 have Of_bo := Nf.lt Bo
 have Of_bk := Nf.lt Bk
 replace Br := Nf.keep Br
 replace Bo := Nf.keep Bo
 replace Bk := Nf.keep Bk
 replace E := E.ext Nf.ext
 have Bf := Nf.blk
 refine WpL_nil (Wp_seq (Wp_seq_region ?_))
 refine WpL_enter rfl rfl (by decide) (r_callF Tryz.func54 nm54 bd54 rfl) (folded_e hcl t.size t _ _ [] [] Z L bf 0 _ (Nat.le_refl _) (by omega) hx (Tree.ext Nf.ext t hTr0) (by simpa using Bf) rfl (fun h => by have := (hnew bf (.inl h)).2; have := Nf.eq; omega) (fun h => by have := (hnew bf (.inr h)).2; have := Nf.eq; omega) hZL (fun y hy => by have := (hnew y hy).2; have := Nf.size; omega)) ?_
 rintro _ w39 ⟨rfl, C39⟩
 replace Br := C39.keep (fun h => by rcases h with h | h; (have := Nf.eq; omega); (have := (hnew _ (.inr h)).1; omega)) Br
 replace Bo := C39.keep (fun h => by rcases h with h | h; (have := Nf.eq; omega); (have := (hnew _ (.inr h)).1; omega)) Bo
 replace Bk := C39.keep (fun h => by rcases h with h | h; (have := Nf.eq; omega); (have := (hnew _ (.inr h)).1; omega)) Bk
 replace E := E.step C39 (fun q hq h => by rcases h with h | h; (have := Nf.eq; omega); (have := (hnew q (.inr h)).1; omega))
 refine qA _ rfl ?_
 refine WpL_nil (Wp_seq_region ?_)
 refine qM _ rfl ?_
 refine qV (r_neq rfl rfl) ?_
 refine WpL_nil ?_
 have hc1 : (decide ((nxE er t 0 : Int) ≠ 0)) = true := decide_eq_true hx
 refine Wp_cond_true (congrArg Value.bool hc1) ?_
 refine Wp_seq_region ?_
 refine qV (r_build (ps := []) (v := (.agg #[(I6 0), (.slice none 0 0), (.slice none 0 0), (I6 0), (I6 0), (.bool false)])) rfl (by kernel_rfl)) ?_
 refine qM _ rfl ?_
 refine s_storeAgg (b := bo) (o := 0) (c' := #[(I6 0), (.slice none 0 0), (.slice none 0 0), (I6 0), (I6 0), (.bool false)]) rfl rfl (by simp [Value.oneCell']) siz25 rfl Bo (by first | (simp; done) | exact Nat.le_of_ble_eq_true rfl) rfl ?_
 intro w2 S2
 replace Br := S2.keep (by omega) Br
 replace Bk := S2.keep (by omega) Bk
 replace E := S2.step E (by first | exact Or.inl (by omega) | exact Or.inr rfl | exact Or.inr (by assumption) | exact Or.inr (by simp) | exact Or.inr (by omega) | exact Or.inr (by dsimp only; omega))
 replace Bo := S2.blk
 refine qA _ rfl ?_
 refine WpL_nil (Wp_ret (thn_ret ?_))
 refine fin_agg_tmp Tryz.results20 (vs := [(.int .i64 0), (.slice none 0 0), (.slice none 0 0), (.int .i64 0), (.int .i64 0), (.bool false)]) (b := bo) (v' := (.int .i64 (nxE er t 0))) rfl agg25 siz25 rfl (Bo.cells rfl) rfl ?_
 exact ⟨⟨_, rfl, ReIn.at _ (fold_z (S := fun _ => True))⟩, E⟩
def revV (t : Re) : Re × Int := if fitsE t 40 ≠ 0 then (noneT, fitsE t 40) else if usesB [10] t = true then (noneT, 3) else (revT t, 0)
theorem Rev5_c (w0 : World) (t : Re) (vs : List Value) (ht : ReAt w0 t vs) :
  Ret Tryz.prog 19 #[.agg vs.toArray] w0 fun v w => (∃ us, v = .tuple #[.agg us.toArray, .int .i64 (revV t).2] ∧ ReAt w (revV t).1 us) ∧ Ext w0 w := by
 by_cases hf0 : fitsE t 40 = 0
 case neg =>
  have hV : revV t = (noneT, fitsE t 40) := by unfold revV; rw [if_pos hf0]
  rw [hV]
  have ht0 := ht
  obtain ⟨sa, sc, aa, ac, rfl, _, _, _⟩ := ht.form
  refine Ret_of Tryz.func19 rfl Tryz.ntmps19 (Nat.le_of_ble_eq_true rfl) ?_
  have E : Chg none1 w0 w0 := Chg.refl _ _
  refine Wp_seq_region ?_
  refine s_box (v := (.agg (R6 t sa sc aa ac))) (c := (R6 t sa sc aa ac)) (by decide) rfl rfl ?_
  intro br wr Nr
  have Fr := Nr.ge E
  replace E := E.ext Nr.ext
  have Br := Nr.blk
  refine s_alloc (c := #[(I6 0), (.slice none 0 0), (.slice none 0 0), (I6 0), (I6 0), (.bool false)]) (by decide) zer25 rfl ?_
  intro bo wo No
  have Fo := No.ge E
  have Oo_br := No.lt Br
  replace Br := No.keep Br
  replace E := E.ext No.ext
  have Bo := No.blk
  refine qA _ rfl ?_
  refine WpL_nil (Wp_seq (Wp_seq_region ?_))
  refine qV (r_loadAgg (vs := [(I6 t.kind), (.slice sa t.set.length sc), (.slice aa t.args.length ac), (I6 t.mn), (I6 t.mx), (.bool t.neg)]) rfl agg25 siz25 rfl (Br.cells rfl)) ?_
  refine WpL_enter rfl rfl (by decide) (r_callF Tryz.func8 nm8 bd8 rfl) (check_c _ t _ (ReAt.ext E t ht0)) ?_
  rintro _ w9 ⟨rfl, X9⟩
  replace Br := X9.keep Br
  replace Bo := X9.keep Bo
  replace E := E.ext X9
  refine qA _ rfl ?_
  refine WpL_nil (Wp_seq_region ?_)
  refine qM _ rfl ?_
  refine qV (r_neq rfl rfl) ?_
  refine WpL_nil ?_
  have hc1 : (decide ((fitsE t 40 : Int) ≠ 0)) = true := decide_eq_true hf0
  refine Wp_cond_true (congrArg Value.bool hc1) ?_
  refine Wp_seq_region ?_
  refine qV (r_build (ps := []) (v := (.agg #[(I6 0), (.slice none 0 0), (.slice none 0 0), (I6 0), (I6 0), (.bool false)])) rfl (by kernel_rfl)) ?_
  refine qM _ rfl ?_
  refine s_storeAgg (b := bo) (o := 0) (c' := #[(I6 0), (.slice none 0 0), (.slice none 0 0), (I6 0), (I6 0), (.bool false)]) rfl rfl (by simp [Value.oneCell']) siz25 rfl Bo (by first | (simp; done) | exact Nat.le_of_ble_eq_true rfl) rfl ?_
  intro w2 S2
  replace Br := S2.keep (by omega) Br
  replace E := S2.step E (by first | exact Or.inl (by omega) | exact Or.inr rfl | exact Or.inr (by assumption) | exact Or.inr (by simp) | exact Or.inr (by omega) | exact Or.inr (by dsimp only; omega))
  replace Bo := S2.blk
  refine qA _ rfl ?_
  refine WpL_nil (Wp_ret (thn_ret ?_))
  refine fin_agg_tmp Tryz.results19 (vs := [(.int .i64 0), (.slice none 0 0), (.slice none 0 0), (.int .i64 0), (.int .i64 0), (.bool false)]) (b := bo) (v' := (.int .i64 (fitsE t 40))) rfl agg25 siz25 rfl (Bo.cells rfl) rfl ?_
  exact ⟨⟨_, rfl, ReIn.at _ (fold_z (S := fun _ => True))⟩, E⟩
 cases hu : usesB [10] t
 case true =>
  have hV : revV t = (noneT, 3) := by unfold revV; rw [if_neg (by omega), if_pos hu]
  rw [hV]
  have ht0 := ht
  obtain ⟨sa, sc, aa, ac, rfl, _, _, _⟩ := ht.form
  refine Ret_of Tryz.func19 rfl Tryz.ntmps19 (Nat.le_of_ble_eq_true rfl) ?_
  have E : Chg none1 w0 w0 := Chg.refl _ _
  refine Wp_seq_region ?_
  refine s_box (v := (.agg (R6 t sa sc aa ac))) (c := (R6 t sa sc aa ac)) (by decide) rfl rfl ?_
  intro br wr Nr
  have Fr := Nr.ge E
  replace E := E.ext Nr.ext
  have Br := Nr.blk
  refine s_alloc (c := #[(I6 0), (.slice none 0 0), (.slice none 0 0), (I6 0), (I6 0), (.bool false)]) (by decide) zer25 rfl ?_
  intro bo wo No
  have Fo := No.ge E
  have Oo_br := No.lt Br
  replace Br := No.keep Br
  replace E := E.ext No.ext
  have Bo := No.blk
  refine qA _ rfl ?_
  refine WpL_nil (Wp_seq (Wp_seq_region ?_))
  refine qV (r_loadAgg (vs := [(I6 t.kind), (.slice sa t.set.length sc), (.slice aa t.args.length ac), (I6 t.mn), (I6 t.mx), (.bool t.neg)]) rfl agg25 siz25 rfl (Br.cells rfl)) ?_
  refine WpL_enter rfl rfl (by decide) (r_callF Tryz.func8 nm8 bd8 rfl) ((check_c _ t _ (ReAt.ext E t ht0)).mono (R' := fun v w => v = .int .i64 0 ∧ Ext wo w) (fun v w h => ⟨by rw [h.1, hf0], h.2⟩)) ?_
  rintro _ w9 ⟨rfl, X9⟩
  replace Br := X9.keep Br
  replace Bo := X9.keep Bo
  replace E := E.ext X9
  refine qA _ rfl ?_
  refine WpL_nil (Wp_seq_region ?_)
  refine qM _ rfl ?_
  refine qV (r_neq rfl rfl) ?_
  refine WpL_nil ?_
  refine Wp_cond_false rfl ?_
  refine Wp_skip (thn_normal (Wp_seq (Wp_seq_region ?_)))
  refine qV (r_loadAgg (vs := [(I6 t.kind), (.slice sa t.set.length sc), (.slice aa t.args.length ac), (I6 t.mn), (I6 t.mx), (.bool t.neg)]) rfl agg25 siz25 rfl (Br.cells rfl)) ?_
  refine s_buildSlice (ps := [(0, (I6 10))]) (c := #[(I6 10)]) (by decide) rfl Tryz.underlying46 siz3 zer3 (by decide) (by decide) (by kernel_rfl) ?_
  intro bk wk Nk
  have Fk := Nk.ge E
  have Ok_br := Nk.lt Br
  have Ok_bo := Nk.lt Bo
  replace Br := Nk.keep Br
  replace Bo := Nk.keep Bo
  replace E := E.ext Nk.ext
  have Bk := Nk.blk
  refine WpL_enter rfl rfl (by decide) (r_callF Tryz.func15 nm15 bd15 rfl) ((uses_c _ t _ [10] _ (ReAt.ext E t ht0) (ints_of_blk [10] Bk (by simp) (by simp))).mono (R' := fun v w => v = .bool true ∧ Ext wk w) (fun v w h => ⟨by rw [h.1, hu], h.2⟩)) ?_
  rintro _ w19 ⟨rfl, X19⟩
  replace Br := X19.keep Br
  replace Bo := X19.keep Bo
  replace Bk := X19.keep Bk
  replace E := E.ext X19
  refine WpL_nil ?_
  refine Wp_cond_true rfl ?_
  refine Wp_seq_region ?_
  refine qV (r_build (ps := []) (v := (.agg #[(I6 0), (.slice none 0 0), (.slice none 0 0), (I6 0), (I6 0), (.bool false)])) rfl (by kernel_rfl)) ?_
  refine s_storeAgg (b := bo) (o := 0) (c' := #[(I6 0), (.slice none 0 0), (.slice none 0 0), (I6 0), (I6 0), (.bool false)]) rfl rfl (by simp [Value.oneCell']) siz25 rfl Bo (by first | (simp; done) | exact Nat.le_of_ble_eq_true rfl) rfl ?_
  intro w1 S1
  replace Br := S1.keep (by omega) Br
  replace Bk := S1.keep (by omega) Bk
  replace E := S1.step E (by first | exact Or.inl (by omega) | exact Or.inr rfl | exact Or.inr (by assumption) | exact Or.inr (by simp) | exact Or.inr (by omega) | exact Or.inr (by dsimp only; omega))
  replace Bo := S1.blk
  refine qA _ rfl ?_
  refine WpL_nil (Wp_ret (thn_ret ?_))
  refine fin_agg_tmp Tryz.results19 (vs := [(.int .i64 0), (.slice none 0 0), (.slice none 0 0), (.int .i64 0), (.int .i64 0), (.bool false)]) (b := bo) (v' := (.int .i64 3)) rfl agg25 siz25 rfl (Bo.cells rfl) rfl ?_
  exact ⟨⟨_, rfl, ReIn.at _ (fold_z (S := fun _ => True))⟩, E⟩
 case false =>
 have hV : revV t = (revT t, 0) := by unfold revV; rw [if_neg (by omega), if_neg (by rw [hu]; decide)]
 rw [hV]
 exact (reversed_c w0 t vs ht hf0 hu).mono fun v w ⟨us, h1, h2, h3⟩ => ⟨⟨us, h1, h2⟩, h3⟩
theorem Sets5_c (w0 : World) (t : Re) (vs : List Value) (ht : ReAt w0 t vs) :
  Ret Tryz.prog 18 #[.agg vs.toArray] w0 fun v w => (∃ a c, v = .tuple #[.slice a (if fitsE t 40 = 0 then setsL t else []).length c, .int .i64 (fitsE t 40)] ∧ SpssAt w (.slice a (if fitsE t 40 = 0 then setsL t else []).length c) (if fitsE t 40 = 0 then setsL t else [])) ∧ Ext w0 w := by
 have ht0 := ht
 obtain ⟨sa, sc, aa, ac, rfl, _, _, _⟩ := ht.form
 refine Ret_of Tryz.func18 rfl Tryz.ntmps18 (Nat.le_of_ble_eq_true rfl) ?_
 have E : Chg none1 w0 w0 := Chg.refl _ _
 refine Wp_seq_region ?_
 refine s_box (v := (.agg (R6 t sa sc aa ac))) (c := (R6 t sa sc aa ac)) (by decide) rfl rfl ?_
 intro br wr Nr
 have Fr := Nr.ge E
 replace E := E.ext Nr.ext
 have Br := Nr.blk
 refine qA _ rfl ?_
 refine qA _ rfl ?_
 refine WpL_nil (Wp_seq (Wp_seq_region ?_))
 refine qV (r_loadAgg (vs := [(I6 t.kind), (.slice sa t.set.length sc), (.slice aa t.args.length ac), (I6 t.mn), (I6 t.mx), (.bool t.neg)]) rfl agg25 siz25 rfl (Br.cells rfl)) ?_
 refine WpL_enter rfl rfl (by decide) (r_callF Tryz.func8 nm8 bd8 rfl) (check_c _ t _ (ReAt.ext E t ht0)) ?_
 rintro _ w9 ⟨rfl, X9⟩
 replace Br := X9.keep Br
 replace E := E.ext X9
 refine qA _ rfl ?_
 refine WpL_nil (Wp_seq_region ?_)
 refine qM _ rfl ?_
 refine qV (r_neq rfl rfl) ?_
 refine WpL_nil ?_
 refine Wp_cond rfl (fun he => ?_) (fun he => ?_)
 ·have khe := he
  replace he := of_decide_eq_true he
  refine Wp_seq_region ?_
  refine qM _ rfl ?_
  refine qA _ rfl ?_
  refine qA _ rfl ?_
  refine WpL_nil (Wp_ret (thn_ret ?_))
  refine fin_tmp2 Tryz.results18 (v := (.slice none 0 0)) (v' := (.int .i64 (fitsE t 40))) rfl rfl ?_
  rw [if_neg (by omega)]
  exact ⟨⟨none, 0, rfl, spss_nil _⟩, E⟩
 ·have khe := he
  replace he := of_decide_eq_false he
  have hf0 : fitsE t 40 = 0 := by omega
  obtain ⟨hok, hsz⟩ := (fitsE_zero (by decide) (by decide)).1 hf0
  refine Wp_skip (thn_normal (Wp_seq_region ?_))
  refine qV (r_loadAgg (vs := [(I6 t.kind), (.slice sa t.set.length sc), (.slice aa t.args.length ac), (I6 t.mn), (I6 t.mx), (.bool t.neg)]) rfl agg25 siz25 rfl (Br.cells rfl)) ?_
  refine WpL_enter rfl rfl (by decide) (r_callF Tryz.func52 nm52 bd52 rfl) ((all_c _ t _ (ReAt.ext E t ht0) (valid_sets10 hok) (by omega)).mono (R' := fun v w => (∃ a c, v = .slice a (setsL t).length c ∧ SpssAt w (.slice a (setsL t).length c) (setsL t)) ∧ Ext _ w) (fun v w h => ⟨by obtain ⟨a, c, h1, _⟩ := h.1.form; exact ⟨a, c, h1, h1 ▸ h.1⟩, h.2⟩)) ?_
  rintro _ w19 ⟨⟨a9, c9, rfl, hsp⟩, X19⟩
  replace Br := X19.keep Br
  replace E := E.ext X19
  refine qA _ rfl ?_
  refine qA _ rfl ?_
  refine WpL_nil (Wp_ret ?_)
  refine fin_tmp2 Tryz.results18 (v := (.slice a9 ((setsL t).length) c9)) (v' := (.int .i64 0)) rfl rfl ?_
  rw [if_pos hf0]
  exact ⟨⟨a9, c9, by rw [hf0], hsp⟩, E⟩
end Go.Proofs
namespace Go.Proofs
open Go Go.Eng
instance (k : Int) : Decidable (isL k) := by unfold isL; infer_instance
end Go.Proofs
namespace Go.Proofs
open Go Go.Eng
set_option maxRecDepth 100000
set_option maxHeartbeats 2000000 in
theorem requal_c : ∀ (n : Nat) (t u : Re) (w0 : World) (vs us : List Value), t.size ≤ n → ReAt w0 t vs → ReAt w0 u us →
    Ret Tryz.prog 13 #[.agg vs.toArray, .agg us.toArray] w0 fun v w => v = .bool (sameT t u) ∧ Ext w0 w := by
  intro n
  induction n with
  | zero => intro t u w0 vs us hn; have := t.size_pos; omega
  | succ n ih =>
  intro t u w0 vs us hn ht hu
  have ht0 := ht
  have hu0 := hu
  obtain ⟨sa, sc, aa, ac, rfl, hts, hac, _⟩ := ht.form
  obtain ⟨sa2, sc2, aa2, ac2, rfl, hus, hac2, _⟩ := hu.form
  have hF : sameT t u = (decide (t.kind = u.kind) && decide (t.set = u.set) && decide (t.mn = u.mn) && decide (t.mx = u.mx) && decide (t.neg = u.neg) && sameTs t.args u.args) := sameT_eq t u
  refine Ret_of Tryz.func13 rfl Tryz.ntmps13 (Nat.le_of_ble_eq_true rfl) ?_
  have E : Chg none1 w0 w0 := Chg.refl _ _
  refine Wp_seq_region ?_
  refine s_box (v := (.agg (R6 t sa sc aa ac))) (c := (R6 t sa sc aa ac)) (by decide) rfl rfl ?_
  intro br wr Nr
  have Fr := Nr.ge E
  replace E := E.ext Nr.ext
  have Br := Nr.blk
  refine s_box (v := (.agg (R6 u sa2 sc2 aa2 ac2))) (c := (R6 u sa2 sc2 aa2 ac2)) (by decide) rfl rfl ?_
  intro bp wp Np
  have Fp := Np.ge E
  have Op_br := Np.lt Br
  replace Br := Np.keep Br
  replace E := E.ext Np.ext
  have Bp := Np.blk
  refine qA _ rfl ?_
  refine WpL_nil (Wp_seq (Wp_seq_region ?_))
  refine qF br 0 0 rfl Tryz.underlying25 rfl siz3 rfl ?_
  refine qV (r_load rfl flat3 (Br.cell rfl)) ?_
  refine qF bp 0 0 rfl Tryz.underlying25 rfl siz3 rfl ?_
  refine qV (r_load rfl flat3 (Bp.cell rfl)) ?_
  refine qV (r_neq rfl rfl) ?_
  refine qM _ rfl ?_
  rcases Bool.eq_false_or_eq_true (decide ((t.kind : Int) ≠ u.kind)) with g1 | g1
  · have kg1 := g1
    replace kg1 := of_decide_eq_true kg1
    refine WpL_guard_no rfl rfl (by decide) (v := .bool true) (congrArg Value.bool g1) (Or.inl rfl) ?_
    refine WpL_guard_no rfl rfl (by decide) (v := .bool true) (congrArg Value.bool g1) (Or.inl rfl) ?_
    refine WpL_guard_no rfl rfl (by decide) (v := .bool true) (congrArg Value.bool g1) (Or.inl rfl) ?_
    refine WpL_guard_no rfl rfl (by decide) (v := .bool true) (congrArg Value.bool g1) (Or.inl rfl) ?_
    refine WpL_guard_no rfl rfl (by decide) (v := .bool true) (congrArg Value.bool g1) (Or.inl rfl) ?_
    refine WpL_guard_no rfl rfl (by decide) (v := .bool true) (congrArg Value.bool g1) (Or.inl rfl) ?_
    refine qV (r_pick (v := (.bool true)) rfl (by rw [g1]; rfl)) ?_
    refine qM _ rfl ?_
    refine WpL_guard_no rfl rfl (by decide) (v := .bool true) rfl (Or.inl rfl) ?_
    refine WpL_guard_no rfl rfl (by decide) (v := .bool true) rfl (Or.inl rfl) ?_
    refine WpL_guard_no rfl rfl (by decide) (v := .bool true) rfl (Or.inl rfl) ?_
    refine WpL_guard_no rfl rfl (by decide) (v := .bool true) rfl (Or.inl rfl) ?_
    refine WpL_guard_no rfl rfl (by decide) (v := .bool true) rfl (Or.inl rfl) ?_
    refine WpL_guard_no rfl rfl (by decide) (v := .bool true) rfl (Or.inl rfl) ?_
    refine WpL_guard_no rfl rfl (by decide) (v := .bool true) rfl (Or.inl rfl) ?_
    refine qV (r_pick rfl rfl) ?_
    refine qM _ rfl ?_
    refine WpL_guard_no rfl rfl (by decide) (v := .bool true) rfl (Or.inl rfl) ?_
    refine WpL_guard_no rfl rfl (by decide) (v := .bool true) rfl (Or.inl rfl) ?_
    refine WpL_guard_no rfl rfl (by decide) (v := .bool true) rfl (Or.inl rfl) ?_
    refine WpL_guard_no rfl rfl (by decide) (v := .bool true) rfl (Or.inl rfl) ?_
    refine WpL_guard_no rfl rfl (by decide) (v := .bool true) rfl (Or.inl rfl) ?_
    refine qV (r_pick rfl rfl) ?_
    refine qM _ rfl ?_
    refine WpL_guard_no rfl rfl (by decide) (v := .bool true) rfl (Or.inl rfl) ?_
    refine WpL_guard_no rfl rfl (by decide) (v := .bool true) rfl (Or.inl rfl) ?_
    refine WpL_guard_no rfl rfl (by decide) (v := .bool true) rfl (Or.inl rfl) ?_
    refine WpL_guard_no rfl rfl (by decide) (v := .bool true) rfl (Or.inl rfl) ?_
    refine WpL_guard_no rfl rfl (by decide) (v := .bool true) rfl (Or.inl rfl) ?_
    refine qV (r_pick rfl rfl) ?_
    refine qM _ rfl ?_
    refine WpL_guard_no rfl rfl (by decide) (v := .bool true) rfl (Or.inl rfl) ?_
    refine WpL_guard_no rfl rfl (by decide) (v := .bool true) rfl (Or.inl rfl) ?_
    refine WpL_guard_no rfl rfl (by decide) (v := .bool true) rfl (Or.inl rfl) ?_
    refine WpL_guard_no rfl rfl (by decide) (v := .bool true) rfl (Or.inl rfl) ?_
    refine WpL_guard_no rfl rfl (by decide) (v := .bool true) rfl (Or.inl rfl) ?_
    refine qV (r_pick rfl rfl) ?_
    refine WpL_nil ?_
    refine Wp_cond_true rfl ?_
    refine Wp_seq_region ?_
    refine qA _ rfl ?_
    refine WpL_nil (Wp_ret (thn_ret ?_))
    refine fin_tmp Tryz.results13 (v := (.bool false)) rfl ?_
    exact ⟨bool_eq (by rw [hF]; simp at g1; simp [g1]), E⟩
  · have kg1 := g1
    replace kg1 := of_decide_eq_false kg1
    refine WpL_guard_yes rfl rfl (by decide) (congrArg Value.bool g1) ?_
    refine qF br 0 1 rfl Tryz.underlying25 rfl siz22 rfl ?_
    refine WpL_guard_yes rfl rfl (by decide) (congrArg Value.bool g1) ?_
    refine qV (r_load rfl flat22 (Br.cell rfl)) ?_
    refine WpL_guard_yes rfl rfl (by decide) (congrArg Value.bool g1) ?_
    refine qF bp 0 1 rfl Tryz.underlying25 rfl siz22 rfl ?_
    refine WpL_guard_yes rfl rfl (by decide) (congrArg Value.bool g1) ?_
    refine qV (r_load rfl flat22 (Bp.cell rfl)) ?_
    refine WpL_guard_yes rfl rfl (by decide) (congrArg Value.bool g1) ?_
    refine WpL_enter rfl rfl (by decide) (r_callF Tryz.func47 nm47 bd47 rfl) (rspeq_c _ _ _ t.set u.set (SlAt.ext hts E) (SlAt.ext hus E)) ?_
    rintro _ w9 ⟨rfl, X9⟩
    replace Br := X9.keep Br
    replace Bp := X9.keep Bp
    replace E := E.ext X9
    refine WpL_guard_yes rfl rfl (by decide) (congrArg Value.bool g1) ?_
    refine qV (r_not rfl) ?_
    refine qV (r_pick (v := (.bool (!(decide (t.set = u.set))))) rfl (by rw [g1]; rfl)) ?_
    refine qM _ rfl ?_
    rcases Bool.eq_false_or_eq_true (!(decide (t.set = u.set))) with g2 | g2
    · have kg2 := g2
      refine WpL_guard_no rfl rfl (by decide) (v := .bool true) (congrArg Value.bool g2) (Or.inl rfl) ?_
      refine WpL_guard_no rfl rfl (by decide) (v := .bool true) (congrArg Value.bool g2) (Or.inl rfl) ?_
      refine WpL_guard_no rfl rfl (by decide) (v := .bool true) (congrArg Value.bool g2) (Or.inl rfl) ?_
      refine WpL_guard_no rfl rfl (by decide) (v := .bool true) (congrArg Value.bool g2) (Or.inl rfl) ?_
      refine WpL_guard_no rfl rfl (by decide) (v := .bool true) (congrArg Value.bool g2) (Or.inl rfl) ?_
      refine WpL_guard_no rfl rfl (by decide) (v := .bool true) (congrArg Value.bool g2) (Or.inl rfl) ?_
      refine WpL_guard_no rfl rfl (by decide) (v := .bool true) (congrArg Value.bool g2) (Or.inl rfl) ?_
      refine qV (r_pick (v := (.bool true)) rfl (by rw [g2]; rfl)) ?_
      refine qM _ rfl ?_
      refine WpL_guard_no rfl rfl (by decide) (v := .bool true) rfl (Or.inl rfl) ?_
      refine WpL_guard_no rfl rfl (by decide) (v := .bool true) rfl (Or.inl rfl) ?_
      refine WpL_guard_no rfl rfl (by decide) (v := .bool true) rfl (Or.inl rfl) ?_
      refine WpL_guard_no rfl rfl (by decide) (v := .bool true) rfl (Or.inl rfl) ?_
      refine WpL_guard_no rfl rfl (by decide) (v := .bool true) rfl (Or.inl rfl) ?_
      refine qV (r_pick rfl rfl) ?_
      refine qM _ rfl ?_
      refine WpL_guard_no rfl rfl (by decide) (v := .bool true) rfl (Or.inl rfl) ?_
      refine WpL_guard_no rfl rfl (by decide) (v := .bool true) rfl (Or.inl rfl) ?_
      refine WpL_guard_no rfl rfl (by decide) (v := .bool true) rfl (Or.inl rfl) ?_
      refine WpL_guard_no rfl rfl (by decide) (v := .bool true) rfl (Or.inl rfl) ?_
      refine WpL_guard_no rfl rfl (by decide) (v := .bool true) rfl (Or.inl rfl) ?_
      refine qV (r_pick rfl rfl) ?_
      refine qM _ rfl ?_
      refine WpL_guard_no rfl rfl (by decide) (v := .bool true) rfl (Or.inl rfl) ?_
      refine WpL_guard_no rfl rfl (by decide) (v := .bool true) rfl (Or.inl rfl) ?_
      refine WpL_guard_no rfl rfl (by decide) (v := .bool true) rfl (Or.inl rfl) ?_
      refine WpL_guard_no rfl rfl (by decide) (v := .bool true) rfl (Or.inl rfl) ?_
      refine WpL_guard_no rfl rfl (by decide) (v := .bool true) rfl (Or.inl rfl) ?_
      refine qV (r_pick rfl rfl) ?_
      refine WpL_nil ?_
      refine Wp_cond_true rfl ?_
      refine Wp_seq_region ?_
      refine qA _ rfl ?_
      refine WpL_nil (Wp_ret (thn_ret ?_))
      refine fin_tmp Tryz.results13 (v := (.bool false)) rfl ?_
      exact ⟨bool_eq (by rw [hF]; simp at g2; simp [g2]), E⟩
    · have kg2 := g2
      refine WpL_guard_yes rfl rfl (by decide) (congrArg Value.bool g2) ?_
      refine qF br 0 2 rfl Tryz.underlying25 rfl siz23 rfl ?_
      refine WpL_guard_yes rfl rfl (by decide) (congrArg Value.bool g2) ?_
      refine qV (r_load rfl flat23 (Br.cell rfl)) ?_
      refine WpL_guard_yes rfl rfl (by decide) (congrArg Value.bool g2) ?_
      refine qV (r_lenSlice Tryz.underlying23 rfl) ?_
      refine WpL_guard_yes rfl rfl (by decide) (congrArg Value.bool g2) ?_
      refine qF bp 0 2 rfl Tryz.underlying25 rfl siz23 rfl ?_
      refine WpL_guard_yes rfl rfl (by decide) (congrArg Value.bool g2) ?_
      refine qV (r_load rfl flat23 (Bp.cell rfl)) ?_
      refine WpL_guard_yes rfl rfl (by decide) (congrArg Value.bool g2) ?_
      refine qV (r_lenSlice Tryz.underlying23 rfl) ?_
      refine WpL_guard_yes rfl rfl (by decide) (congrArg Value.bool g2) ?_
      refine qV (r_neq rfl rfl) ?_
      refine qV (r_pick (v := (.bool (decide (((t.args.length : Int) : Int) ≠ (u.args.length : Int))))) rfl (by rw [g2]; rfl)) ?_
      refine qM _ rfl ?_
      rcases Bool.eq_false_or_eq_true (decide ((((t.args.length : Nat) : Int) : Int) ≠ ((u.args.length : Nat) : Int))) with g3 | g3
      · have kg3 := g3
        replace kg3 := of_decide_eq_true kg3
        refine WpL_guard_no rfl rfl (by decide) (v := .bool true) (congrArg Value.bool g3) (Or.inl rfl) ?_
        refine WpL_guard_no rfl rfl (by decide) (v := .bool true) (congrArg Value.bool g3) (Or.inl rfl) ?_
        refine WpL_guard_no rfl rfl (by decide) (v := .bool true) (congrArg Value.bool g3) (Or.inl rfl) ?_
        refine WpL_guard_no rfl rfl (by decide) (v := .bool true) (congrArg Value.bool g3) (Or.inl rfl) ?_
        refine WpL_guard_no rfl rfl (by decide) (v := .bool true) (congrArg Value.bool g3) (Or.inl rfl) ?_
        refine qV (r_pick (v := (.bool true)) rfl (by rw [g3]; rfl)) ?_
        refine qM _ rfl ?_
        refine WpL_guard_no rfl rfl (by decide) (v := .bool true) rfl (Or.inl rfl) ?_
        refine WpL_guard_no rfl rfl (by decide) (v := .bool true) rfl (Or.inl rfl) ?_
        refine WpL_guard_no rfl rfl (by decide) (v := .bool true) rfl (Or.inl rfl) ?_
        refine WpL_guard_no rfl rfl (by decide) (v := .bool true) rfl (Or.inl rfl) ?_
        refine WpL_guard_no rfl rfl (by decide) (v := .bool true) rfl (Or.inl rfl) ?_
        refine qV (r_pick rfl rfl) ?_
        refine qM _ rfl ?_
        refine WpL_guard_no rfl rfl (by decide) (v := .bool true) rfl (Or.inl rfl) ?_
        refine WpL_guard_no rfl rfl (by decide) (v := .bool true) rfl (Or.inl rfl) ?_
        refine WpL_guard_no rfl rfl (by decide) (v := .bool true) rfl (Or.inl rfl) ?_
        refine WpL_guard_no rfl rfl (by decide) (v := .bool true) rfl (Or.inl rfl) ?_
        refine WpL_guard_no rfl rfl (by decide) (v := .bool true) rfl (Or.inl rfl) ?_
        refine qV (r_pick rfl rfl) ?_
        refine WpL_nil ?_
        refine Wp_cond_true rfl ?_
        refine Wp_seq_region ?_
        refine qA _ rfl ?_
        refine WpL_nil (Wp_ret (thn_ret ?_))
        refine fin_tmp Tryz.results13 (v := (.bool false)) rfl ?_
        exact ⟨bool_eq (by symm; rw [← Bool.not_eq_true, sameT_iff]; intro h; subst h; simp at g3), E⟩
      · have kg3 := g3
        replace kg3 := of_decide_eq_false kg3
        refine WpL_guard_yes rfl rfl (by decide) (congrArg Value.bool g3) ?_
        refine qF br 0 3 rfl Tryz.underlying25 rfl siz3 rfl ?_
        refine WpL_guard_yes rfl rfl (by decide) (congrArg Value.bool g3) ?_
        refine qV (r_load rfl flat3 (Br.cell rfl)) ?_
        refine WpL_guard_yes rfl rfl (by decide) (congrArg Value.bool g3) ?_
        refine qF bp 0 3 rfl Tryz.underlying25 rfl siz3 rfl ?_
        refine WpL_guard_yes rfl rfl (by decide) (congrArg Value.bool g3) ?_
        refine qV (r_load rfl flat3 (Bp.cell rfl)) ?_
        refine WpL_guard_yes rfl rfl (by decide) (congrArg Value.bool g3) ?_
        refine qV (r_neq rfl rfl) ?_
        refine qV (r_pick (v := (.bool (decide ((t.mn : Int) ≠ u.mn)))) rfl (by rw [g3]; rfl)) ?_
        refine qM _ rfl ?_
        rcases Bool.eq_false_or_eq_true (decide ((t.mn : Int) ≠ u.mn)) with g4 | g4
        · have kg4 := g4
          replace kg4 := of_decide_eq_true kg4
          refine WpL_guard_no rfl rfl (by decide) (v := .bool true) (congrArg Value.bool g4) (Or.inl rfl) ?_
          refine WpL_guard_no rfl rfl (by decide) (v := .bool true) (congrArg Value.bool g4) (Or.inl rfl) ?_
          refine WpL_guard_no rfl rfl (by decide) (v := .bool true) (congrArg Value.bool g4) (Or.inl rfl) ?_
          refine WpL_guard_no rfl rfl (by decide) (v := .bool true) (congrArg Value.bool g4) (Or.inl rfl) ?_
          refine WpL_guard_no rfl rfl (by decide) (v := .bool true) (congrArg Value.bool g4) (Or.inl rfl) ?_
          refine qV (r_pick (v := (.bool true)) rfl (by rw [g4]; rfl)) ?_
          refine qM _ rfl ?_
          refine WpL_guard_no rfl rfl (by decide) (v := .bool true) rfl (Or.inl rfl) ?_
          refine WpL_guard_no rfl rfl (by decide) (v := .bool true) rfl (Or.inl rfl) ?_
          refine WpL_guard_no rfl rfl (by decide) (v := .bool true) rfl (Or.inl rfl) ?_
          refine WpL_guard_no rfl rfl (by decide) (v := .bool true) rfl (Or.inl rfl) ?_
          refine WpL_guard_no rfl rfl (by decide) (v := .bool true) rfl (Or.inl rfl) ?_
          refine qV (r_pick rfl rfl) ?_
          refine WpL_nil ?_
          refine Wp_cond_true rfl ?_
          refine Wp_seq_region ?_
          refine qA _ rfl ?_
          refine WpL_nil (Wp_ret (thn_ret ?_))
          refine fin_tmp Tryz.results13 (v := (.bool false)) rfl ?_
          exact ⟨bool_eq (by rw [hF]; simp at g4; simp [g4]), E⟩
        · have kg4 := g4
          replace kg4 := of_decide_eq_false kg4
          refine WpL_guard_yes rfl rfl (by decide) (congrArg Value.bool g4) ?_
          refine qF br 0 4 rfl Tryz.underlying25 rfl siz3 rfl ?_
          refine WpL_guard_yes rfl rfl (by decide) (congrArg Value.bool g4) ?_
          refine qV (r_load rfl flat3 (Br.cell rfl)) ?_
          refine WpL_guard_yes rfl rfl (by decide) (congrArg Value.bool g4) ?_
          refine qF bp 0 4 rfl Tryz.underlying25 rfl siz3 rfl ?_
          refine WpL_guard_yes rfl rfl (by decide) (congrArg Value.bool g4) ?_
          refine qV (r_load rfl flat3 (Bp.cell rfl)) ?_
          refine WpL_guard_yes rfl rfl (by decide) (congrArg Value.bool g4) ?_
          refine qV (r_neq rfl rfl) ?_
          refine qV (r_pick (v := (.bool (decide ((t.mx : Int) ≠ u.mx)))) rfl (by rw [g4]; rfl)) ?_
          refine qM _ rfl ?_
          rcases Bool.eq_false_or_eq_true (decide ((t.mx : Int) ≠ u.mx)) with g5 | g5
          · have kg5 := g5
            replace kg5 := of_decide_eq_true kg5
            refine WpL_guard_no rfl rfl (by decide) (v := .bool true) (congrArg Value.bool g5) (Or.inl rfl) ?_
            refine WpL_guard_no rfl rfl (by decide) (v := .bool true) (congrArg Value.bool g5) (Or.inl rfl) ?_
            refine WpL_guard_no rfl rfl (by decide) (v := .bool true) (congrArg Value.bool g5) (Or.inl rfl) ?_
            refine WpL_guard_no rfl rfl (by decide) (v := .bool true) (congrArg Value.bool g5) (Or.inl rfl) ?_
            refine WpL_guard_no rfl rfl (by decide) (v := .bool true) (congrArg Value.bool g5) (Or.inl rfl) ?_
            refine qV (r_pick (v := (.bool true)) rfl (by rw [g5]; rfl)) ?_
            refine WpL_nil ?_
            refine Wp_cond_true rfl ?_
            refine Wp_seq_region ?_
            refine qA _ rfl ?_
            refine WpL_nil (Wp_ret (thn_ret ?_))
            refine fin_tmp Tryz.results13 (v := (.bool false)) rfl ?_
            exact ⟨bool_eq (by rw [hF]; simp at g5; simp [g5]), E⟩
          · have kg5 := g5
            replace kg5 := of_decide_eq_false kg5
            refine WpL_guard_yes rfl rfl (by decide) (congrArg Value.bool g5) ?_
            refine qF br 0 5 rfl Tryz.underlying25 rfl siz4 rfl ?_
            refine WpL_guard_yes rfl rfl (by decide) (congrArg Value.bool g5) ?_
            refine qV (r_load rfl flat4 (Br.cell rfl)) ?_
            refine WpL_guard_yes rfl rfl (by decide) (congrArg Value.bool g5) ?_
            refine qF bp 0 5 rfl Tryz.underlying25 rfl siz4 rfl ?_
            refine WpL_guard_yes rfl rfl (by decide) (congrArg Value.bool g5) ?_
            refine qV (r_load rfl flat4 (Bp.cell rfl)) ?_
            refine WpL_guard_yes rfl rfl (by decide) (congrArg Value.bool g5) ?_
            refine qV (r_neqB Tryz.underlying4 rfl rfl) ?_
            refine qV (r_pick (v := (.bool (t.neg != u.neg))) rfl (by rw [g5]; rfl)) ?_
            refine WpL_nil ?_
            refine Wp_cond rfl (fun g6 => ?_) (fun g6 => ?_)
            · have kg6 := g6
              refine Wp_seq_region ?_
              refine qA _ rfl ?_
              refine WpL_nil (Wp_ret (thn_ret ?_))
              refine fin_tmp Tryz.results13 (v := (.bool false)) rfl ?_
              exact ⟨bool_eq (by rw [hF]; simp at g6; simp [g6]), E⟩
            · have kg6 := g6
              simp at g1 g2 g3 g4 g5 g6
              refine Wp_skip (thn_normal (Wp_seq (Wp_seq_region ?_)))
              refine qF br 0 2 rfl Tryz.underlying25 rfl siz23 rfl ?_
              refine qV (r_load rfl flat23 (Br.cell rfl)) ?_
              refine qV (r_lenSlice Tryz.underlying23 rfl) ?_
              refine qM _ rfl ?_
              refine WpL_nil (Wp_block ?_)
              refine Wp_loop (fun nn_ σ W7 => ∃ (k : Nat), (∃ jj_, σ = upds jj_ [(2, (P6 br 0)), (3, (P6 bp 0)), (51, (I6 (t.args.length : Int))), (52, (I6 (k : Int)))]) ∧ Chg none1 w0 W7 ∧ Blk W7 br (R6 t sa sc aa ac) 25 ∧ Blk W7 bp (R6 u sa2 sc2 aa2 ac2) 25 ∧ (k ≤ t.args.length) ∧ (∀ (i : Nat), i < k → t.args[i]? = u.args[i]?) ∧ nn_ = t.args.length - k) (n := t.args.length - 0) ?_ ?_
              · exact ⟨0, Fits.out ⟨rfl, rfl, rfl, rfl, trivial⟩, E, Br, Bp, Nat.zero_le _, (fun i h => absurd h (Nat.not_lt_zero _)), rfl⟩
              · clear E Br Bp
                rintro _ _ W7 ⟨k, ⟨j7, rfl⟩, E, Br, Bp, hk, heq, rfl⟩
                refine Wp_seq_region ?_
                refine qV (r_lss rfl rfl) ?_
                refine WpL_nil (Wp_seq ?_)
                refine Wp_cond rfl (fun hlt => ?_) (fun hlt => ?_)
                · have khlt := hlt
                  replace hlt := of_decide_eq_true hlt
                  obtain ⟨x, hx⟩ := get_of_lt (l := t.args) (i := k) (by omega)
                  obtain ⟨y, hy⟩ := get_of_lt (l := u.args) (i := k) (by omega)
                  obtain ⟨b1, o1, rfl, hc1⟩ := (ReAt.rs ht0).cells (by omega)
                  obtain ⟨b2, o2, rfl, hc2⟩ := (ReAt.rs hu0).cells (by omega)
                  obtain ⟨xs, hcx, hxr⟩ := hc1 k x hx
                  obtain ⟨ys, hcy, hyr⟩ := hc2 k y hy
                  have hxr0 := hxr
                  have hyr0 := hyr
                  obtain ⟨xsa, xsc, xaa, xac, rfl, _, _, _⟩ := hxr.form
                  obtain ⟨ysa, ysc, yaa, yac, rfl, _, _, _⟩ := hyr.form
                  refine Wp_skip (thn_normal (Wp_seq (Wp_block (Wp_seq_region ?_))))
                  refine qM _ rfl ?_
                  refine qA _ rfl ?_
                  refine WpL_nil (Wp_seq ?_)
                  obtain ⟨Fs9, hFs9⟩ : ∃ Fs : List Fact, Fs = [.eq (P6 br 2), .eq (.slice (some ⟨b1, o1, none⟩) t.args.length ac), .eq (I6 (k : Int)), .eq (.pointer (some ⟨b1, o1 + k * 6, none⟩)), .eq (.agg (R6 x xsa xsc xaa xac)), .eq (P6 bp 2), .eq (.slice (some ⟨b2, o2, none⟩) u.args.length ac2), .eq (I6 (k : Int)), .eq (.pointer (some ⟨b2, o2 + k * 6, none⟩)), .eq (.agg (R6 y ysa ysc yaa yac)), .eq (.bool (sameT x y)), .eq (.bool (!(sameT x y)))] := ⟨_, rfl⟩
                  refine Wp_dag [55, 56, 57, 58, 59, 60, 61, 62, 63, 64, 65, 66] [[], [0], [], [1, 2], [3], [], [5], [], [6, 7], [8], [4, 9], [10]] Fs9 hFs9 mixed (by kernel_rfl) (by kernel_rfl) ?_ ?_
                  · intro wd X0
                    refine DagSteps.cons (fun s' w' X U H => Or.inl ⟨?_, ?_⟩) ?_
                    · exact Guarded_none rfl
                    · exact Does_val (r_fieldAddr (U 2 rfl) Tryz.underlying25 rfl siz23 rfl) (Ext.refl _) rfl
                    refine DagSteps.cons (fun s' w' X U H => Or.inl ⟨?_, ?_⟩) ?_
                    · exact Guarded_none rfl
                    · have e55 : s' 55 = (.pointer (some ⟨br, 2, none⟩)) := H 0 rfl 55 (.eq (.pointer (some ⟨br, 2, none⟩))) rfl (by rw [hFs9]; rfl)
                      exact Does_val (r_load e55 flat23 (((X0.trans X).keep Br).cell rfl)) (Ext.refl _) rfl
                    refine DagSteps.cons (fun s' w' X U H => Or.inl ⟨?_, ?_⟩) ?_
                    · exact Guarded_none rfl
                    · exact Does_val (r_move (U 5 rfl)) (Ext.refl _) rfl
                    refine DagSteps.cons (fun s' w' X U H => Or.inl ⟨?_, ?_⟩) ?_
                    · exact Guarded_none rfl
                    · have e56 : s' 56 = (.slice (some ⟨b1, o1, none⟩) t.args.length ac) := H 1 rfl 56 (.eq (.slice (some ⟨b1, o1, none⟩) t.args.length ac)) rfl (by rw [hFs9]; rfl)
                      have e57 : s' 57 = (.int .i64 ((k : Nat) : Int)) := H 2 rfl 57 (.eq (.int .i64 ((k : Nat) : Int))) rfl (by rw [hFs9]; rfl)
                      exact Does_val (r_indexSlice (i := k) e56 e57 rfl Tryz.underlying23 siz25 (by omega) (by omega)) (Ext.refl _) rfl
                    refine DagSteps.cons (fun s' w' X U H => Or.inl ⟨?_, ?_⟩) ?_
                    · exact Guarded_none rfl
                    · have e58 : s' 58 = (.pointer (some ⟨b1, o1 + k * 6, none⟩)) := H 3 rfl 58 (.eq (.pointer (some ⟨b1, o1 + k * 6, none⟩))) rfl (by rw [hFs9]; rfl)
                      exact Does_val (r_loadAgg e58 agg25 siz25 rfl (hcx.ext (Ext.trans E (X0.trans X)))) (Ext.refl _) rfl
                    refine DagSteps.cons (fun s' w' X U H => Or.inl ⟨?_, ?_⟩) ?_
                    · exact Guarded_none rfl
                    · exact Does_val (r_fieldAddr (U 3 rfl) Tryz.underlying25 rfl siz23 rfl) (Ext.refl _) rfl
                    refine DagSteps.cons (fun s' w' X U H => Or.inl ⟨?_, ?_⟩) ?_
                    · exact Guarded_none rfl
                    · have e60 : s' 60 = (.pointer (some ⟨bp, 2, none⟩)) := H 5 rfl 60 (.eq (.pointer (some ⟨bp, 2, none⟩))) rfl (by rw [hFs9]; rfl)
                      exact Does_val (r_load e60 flat23 (((X0.trans X).keep Bp).cell rfl)) (Ext.refl _) rfl
                    refine DagSteps.cons (fun s' w' X U H => Or.inl ⟨?_, ?_⟩) ?_
                    · exact Guarded_none rfl
                    · exact Does_val (r_move (U 5 rfl)) (Ext.refl _) rfl
                    refine DagSteps.cons (fun s' w' X U H => Or.inl ⟨?_, ?_⟩) ?_
                    · exact Guarded_none rfl
                    · have e61 : s' 61 = (.slice (some ⟨b2, o2, none⟩) u.args.length ac2) := H 6 rfl 61 (.eq (.slice (some ⟨b2, o2, none⟩) u.args.length ac2)) rfl (by rw [hFs9]; rfl)
                      have e62 : s' 62 = (.int .i64 ((k : Nat) : Int)) := H 7 rfl 62 (.eq (.int .i64 ((k : Nat) : Int))) rfl (by rw [hFs9]; rfl)
                      exact Does_val (r_indexSlice (i := k) e61 e62 rfl Tryz.underlying23 siz25 (by omega) (by omega)) (Ext.refl _) rfl
                    refine DagSteps.cons (fun s' w' X U H => Or.inl ⟨?_, ?_⟩) ?_
                    · exact Guarded_none rfl
                    · have e63 : s' 63 = (.pointer (some ⟨b2, o2 + k * 6, none⟩)) := H 8 rfl 63 (.eq (.pointer (some ⟨b2, o2 + k * 6, none⟩))) rfl (by rw [hFs9]; rfl)
                      exact Does_val (r_loadAgg e63 agg25 siz25 rfl (hcy.ext (Ext.trans E (X0.trans X)))) (Ext.refl _) rfl
                    refine DagSteps.cons (fun s' w' X U H => Or.inl ⟨?_, ?_⟩) ?_
                    · exact Guarded_none rfl
                    · have e59 : s' 59 = (.agg #[(.int .i64 x.kind), (.slice xsa x.set.length xsc), (.slice xaa x.args.length xac), (.int .i64 x.mn), (.int .i64 x.mx), (.bool x.neg)]) := H 4 rfl 59 (.eq (.agg #[(.int .i64 x.kind), (.slice xsa x.set.length xsc), (.slice xaa x.args.length xac), (.int .i64 x.mn), (.int .i64 x.mx), (.bool x.neg)])) rfl (by rw [hFs9]; rfl)
                      have e64 : s' 64 = (.agg #[(.int .i64 y.kind), (.slice ysa y.set.length ysc), (.slice yaa y.args.length yac), (.int .i64 y.mn), (.int .i64 y.mx), (.bool y.neg)]) := H 9 rfl 64 (.eq (.agg #[(.int .i64 y.kind), (.slice ysa y.set.length ysc), (.slice yaa y.args.length yac), (.int .i64 y.mn), (.int .i64 y.mx), (.bool y.neg)])) rfl (by rw [hFs9]; rfl)
                      exact Does_enter (r_callF Tryz.func13 nm13 bd13 (lst2 e59 e64)) (ih x y _ _ _ (by have := Re.size_arg hx; omega) (ReAt.ext (Ext.trans E (X0.trans X)) x hxr0) (ReAt.ext (Ext.trans E (X0.trans X)) y hyr0))
                    refine DagSteps.cons (fun s' w' X U H => Or.inl ⟨?_, ?_⟩) ?_
                    · exact Guarded_none rfl
                    · have e65 : s' 65 = (.bool (sameT x y)) := H 10 rfl 65 (.eq (.bool (sameT x y))) rfl (by rw [hFs9]; rfl)
                      exact Does_val (r_not e65) (Ext.refl _) rfl
                    exact DagSteps.nil
                  · intro s' w9 X9 U H
                    obtain ⟨j9, rfl⟩ := Fits.out (σ := s') (l := [(2, (.pointer (some ⟨br, 0, none⟩))), (3, (.pointer (some ⟨bp, 0, none⟩))), (51, (.int .i64 ((t.args.length : Nat) : Int))), (52, (.int .i64 ((k : Nat) : Int))), (66, (.bool (!(sameT x y))))]) ⟨U 2 rfl, U 3 rfl, U 51 rfl, U 52 rfl, (show s' 66 = (.bool (!(sameT x y))) from H 11 66 (.eq (.bool (!(sameT x y)))) rfl (by rw [hFs9]; rfl)), trivial⟩
                    clear U H
                    replace Br := X9.keep Br
                    replace Bp := X9.keep Bp
                    replace E := E.ext X9
                    refine thn_normal ?_
                    refine Wp_cond rfl (fun hpq => ?_) (fun hpq => ?_)
                    · have khpq := hpq
                      replace hpq := by simpa using hpq
                      refine Wp_seq_region ?_
                      refine qA _ rfl ?_
                      refine WpL_nil (Wp_ret (inB_ret (thn_ret (thn_ret (inB_ret (thn_ret ?_))))))
                      refine fin_tmp Tryz.results13 (v := (.bool false)) rfl ?_
                      exact ⟨bool_eq (by symm; rw [← Bool.not_eq_true, sameT_iff]; intro h; subst h; rw [hx] at hy; cases hy; rw [(sameT_iff x x).2 rfl] at hpq; cases hpq), E⟩
                    · have khpq := hpq
                      replace hpq := by simpa using hpq
                      have hpq2 : x = y := (sameT_iff x y).1 (by simpa using hpq)
                      refine Wp_skip (inB_normal (thn_normal (Wp_region ?_)))
                      refine qV (r_add rfl rfl (wI64 (by omega))) ?_
                      refine qM _ rfl ?_
                      refine WpL_nil (thn_normal ?_)
                      exact ⟨t.args.length - (k + 1), by omega, k + 1, Fits.out ⟨rfl, rfl, rfl, rfl, trivial⟩, E, Br, Bp, (by omega), (fun i hi => by rcases Nat.lt_or_ge i k with h | h; exact heq i h; obtain rfl : i = k := (by omega); rw [hx, hy, hpq2]), rfl⟩
                · have khlt := hlt
                  replace hlt := of_decide_eq_false hlt
                  have hkk : k = t.args.length := by omega
                  refine Wp_exit (thn_exit (thn_exit (inB_here (thn_normal (Wp_seq_region ?_)))))
                  refine qA _ rfl ?_
                  refine WpL_nil (Wp_ret ?_)
                  refine fin_tmp Tryz.results13 (v := (.bool true)) rfl ?_
                  exact ⟨bool_eq (by symm; rw [hF, (sameTs_iff t.args u.args).2 (get_ext (by omega) (fun i hi => heq i (by omega)))]; simp [g1, g2, g4, g5, g6]), E⟩
end Go.Proofs
namespace Go.Proofs
open Go Go.Eng
set_option maxRecDepth 100000
theorem map_step {S D : Nat → Prop} {base n1 : Nat} {w w1 w2 : World} {v v' : Value} {ts : List Re} {rows : List (List Value)} {x : Re} {us : List Value}
  (hR : RowsIn (fun b => S b ∨ D b) w ts rows) (hE : Ext w w1) (hn1 : n1 = w.heap.size) (hS : ∀ b, S b → b < base) (hD : ∀ b, D b → base ≤ b ∧ b < w.heap.size) (hv : ∀ q, v.ownBlock = some q → ¬ D q ∧ (base ≤ q ∧ q < n1))
  (hx : ReIn (fun b => S b ∨ n1 ≤ b) w1 x us) (C : Chg (fun y => v.ownBlock = some y) w1 w2) (hv' : ∀ q, v'.ownBlock = some q → v.ownBlock = some q ∨ w1.heap.size ≤ q) (hb : base ≤ n1) :
  RowsIn (fun b => S b ∨ (D b ∨ (n1 ≤ b ∧ b < w1.heap.size))) w2 (ts ++ [x]) (rows ++ [us]) ∧ (∀ b, (D b ∨ (n1 ≤ b ∧ b < w1.heap.size)) → base ≤ b ∧ b < w2.heap.size) ∧ (∀ q, v'.ownBlock = some q → ¬ (D q ∨ (n1 ≤ q ∧ q < w1.heap.size))) := by
 have hs := C.size
 have hs1 := hE.size
 refine ⟨RowsIn.append (RowsIn.single ?_) ?_, ?_, ?_⟩
 ·refine ReIn.mono (S := fun b => (S b ∨ n1 ≤ b) ∧ b < w1.heap.size) ?_ _ (ReIn.chg C ?_ _ (ReIn.lt _ hx))
  ·rintro b ⟨h | h, h2⟩
   ·exact .inl h
   ·exact .inr (.inr ⟨h, h2⟩)
  ·rintro b ⟨h | h, h2⟩ hm
   ·have := (hv b hm).2; have := hS b h; omega
   ·have := (hv b hm).2; omega
 ·refine RowsIn.mono (S := fun b => S b ∨ D b) (fun b hb => hb.imp id .inl) (RowsIn.chg C ?_ (RowsIn.ext hE hR))
  rintro b (h | h) hm
  ·have := (hv b hm).2; have := hS b h; omega
  ·exact (hv b hm).1 h
 ·rintro b (h | h)
  ·have := hD b h; omega
  ·omega
 ·intro q hq
  rcases hv' q hq with h | h
  ·rintro (h2 | h2)
   ·exact (hv q h).1 h2
   ·have := (hv q h).2; omega
  ·rintro (h2 | h2)
   ·have := hD q h2; omega
   ·omega
theorem re_cong {S : Nat → Prop} {w : World} {k mn mx : Int} {ng : Bool} {set : List (Int × Int)} {a : List Re} {sa aa : Option Addr} {sc ac n : Nat} (hn : a.length = n)
  (h : ReIn S w (.mk k set a mn mx ng) [.int .i64 k, .slice sa set.length sc, .slice aa a.length ac, .int .i64 mn, .int .i64 mx, .bool ng]) : ReIn S w (.mk k set a mn mx ng) [.int .i64 k, .slice sa set.length sc, .slice aa n ac, .int .i64 mn, .int .i64 mx, .bool ng] := by
 rw [← hn]; exact h
set_option maxHeartbeats 2000000 in
theorem mapped_c (w0 : World) (S : Nat → Prop) (t : Re) (vs : List Value) (fv : Value) (g : Re → Re) (ht : ReIn S w0 t vs) (hS : ∀ b, S b → b < w0.heap.size) (hM : t.size ≤ 1000000)
  (hf : ∀ (w : World) (x : Re) (xs : List Value), Ext w0 w → x ∈ t.args → ReIn S w x xs → CallV Tryz.prog fv #[.agg xs.toArray] w fun r w' => ∃ us, r = .agg us.toArray ∧ ReIn (fun b => S b ∨ w.heap.size ≤ b) w' (g x) us ∧ Ext w w') :
  Ret Tryz.prog 56 #[.agg vs.toArray, fv] w0 fun v w => ∃ us, v = .agg us.toArray ∧ ReIn (fun b => S b ∨ w0.heap.size ≤ b) w (.mk t.kind t.set (t.args.map g) t.mn t.mx t.neg) us ∧ Ext w0 w := by
 have ht0 := ht
 obtain ⟨sa, sc, aa, ac, rfl, hset, hac, hta⟩ := ht.form
 have hal := len_sizes t.args
 have hse := t.size_eq
 refine Ret_of Tryz.func56 rfl Tryz.ntmps56 (Nat.le_of_ble_eq_true rfl) ?_
 have E : Chg none1 w0 w0 := Chg.refl _ _
 refine Wp_seq_region ?_
 refine s_box (v := (.agg (R6 t sa sc aa ac))) (c := (R6 t sa sc aa ac)) (by decide) rfl rfl ?_
 intro br wr Nr
 have Fr := Nr.ge E
 replace E := E.ext Nr.ext
 have Br := Nr.blk
 refine s_alloc (c := #[(I6 0), (.slice none 0 0), (.slice none 0 0), (I6 0), (I6 0), (.bool false)]) (by decide) zer25 rfl ?_
 intro bo wo No
 have Fo := No.ge E
 have Oo_br := No.lt Br
 replace Br := No.keep Br
 replace E := E.ext No.ext
 have Bo := No.blk
 refine WpL_nil (Wp_seq_region ?_)
 refine qA _ rfl ?_
 refine WpL_nil (Wp_seq (Wp_seq_region ?_))
 refine qF br 0 2 rfl Tryz.underlying25 rfl siz23 rfl ?_
 refine qV (r_load rfl flat23 (Br.cell rfl)) ?_
 refine qV (r_lenSlice Tryz.underlying23 rfl) ?_
 refine qM _ rfl ?_
 refine WpL_nil (Wp_block ?_)
 obtain ⟨base, hbase⟩ : ∃ base, base = wo.heap.size := ⟨_, rfl⟩
 have hbo : bo < base := by rw [hbase]; exact Bo.lt
 have hbr : br < base := by rw [hbase]; exact Br.lt
 have hSb : ∀ b, S b → b < base := fun b hb => by have := hS b hb; omega
 refine Wp_loop (fun nn_ σ W1 => ∃ (k : Nat) (la : Option Addr) (lc : Nat) (rows : List (List Value)) (D : Nat → Prop), (∃ jj_, σ = upds jj_ [(1, fv), (2, (P6 br 0)), (4, (P6 bo 0)), (9, (.slice aa t.args.length ac)), (10, (I6 (t.args.length : Int))), (11, (I6 (k : Int))), (5, (.slice la k lc))]) ∧ Chg none1 w0 W1 ∧ Blk W1 br (R6 t sa sc aa ac) 25 ∧ Blk W1 bo #[(I6 0), (.slice none 0 0), (.slice none 0 0), (I6 0), (I6 0), (.bool false)] 25 ∧ (k ≤ t.args.length) ∧ (W1.ownsRow base TRe 6 (.slice la k lc) k rows.flatten) ∧ (RowsIn (fun b => S b ∨ D b) W1 ((t.args.take k).map g) rows) ∧ (∀ b, D b → base ≤ b ∧ b < W1.heap.size) ∧ (∀ q, (Value.slice la k lc).ownBlock = some q → ¬ D q) ∧ (base ≤ W1.heap.size) ∧ nn_ = t.args.length - k) (n := t.args.length - 0) ?_ ?_
 ·exact ⟨0, none, 0, [], (fun _ => False), Fits.out ⟨rfl, rfl, rfl, rfl, rfl, rfl, rfl, trivial⟩, E, Br, Bo, Nat.zero_le _, World.ownsRow_nil _ _ _ _, rfl, (fun b f => f.elim), (by simp [Value.ownBlock]), (by omega), rfl⟩
 ·clear E Br Bo
  rintro _ _ W1 ⟨k, la, lc, rows, D, ⟨j1, rfl⟩, E, Br, Bo, hk, hown, hR, hD, hv, hbs, rfl⟩
  refine Wp_seq_region ?_
  refine qV (r_lss rfl rfl) ?_
  refine WpL_nil (Wp_seq ?_)
  refine Wp_cond rfl (fun hlt => ?_) (fun hlt => ?_)
  ·have khlt := hlt
   replace hlt := of_decide_eq_true hlt
   obtain ⟨x, hx⟩ := get_of_lt (l := t.args) (i := k) (by omega)
   obtain ⟨b, o, hSb1, rfl, hxr⟩ := hta.resolve_left (fun h => by rw [h] at hx; simp at hx)
   obtain ⟨xs, hcx, hrx⟩ := ResIn.get hxr hx
   have hrx0 := hrx
   obtain ⟨xsa, xsc, xaa, xac, rfl, _, _, _⟩ := hrx.form
   have hxm : x ∈ t.args := List.mem_of_getElem? hx
   obtain ⟨wk, hwk⟩ : ∃ wk, wk = (W1) := ⟨_, rfl⟩
   have hlt3 := hown.lt
   have hbs0 := hbs
   refine Wp_skip (thn_normal (Wp_seq (Wp_block (Wp_seq_region ?_))))
   refine qV (r_indexSlice (b := b) (o := o) (len := t.args.length) (cap := ac) (i := k) (o' := o + k * 6) rfl rfl rfl Tryz.underlying23 siz25 (by omega) (by omega)) ?_
   refine qV (r_loadAgg rfl agg25 siz25 rfl (hcx.ext E)) ?_
   refine s_allocStore (v := (.agg (R6 x xsa xsc xaa xac))) (c := (R6 x xsa xsc xaa xac)) (n := 6) (by decide) zer25 rfl siz25 rfl rfl rfl (by simp [Value.oneCell']) ?_
   intro bs ws Ns
   have Fs := Ns.ge E
   have Os_br := Ns.lt Br
   have Os_bo := Ns.lt Bo
   replace Br := Ns.keep Br
   replace Bo := Ns.keep Bo
   replace hown := own_ext hown Ns.ext
   replace hR := RowsIn.ext Ns.ext hR
   replace hbs := Nat.le_trans hbs Ns.ext.size
   replace E := E.ext Ns.ext
   have Bs := Ns.blk
   refine WpL_nil (Wp_region ?_)
   refine qM _ rfl ?_
   refine qM _ rfl ?_
   refine qV (r_loadAgg (vs := [(I6 x.kind), (.slice xsa x.set.length xsc), (.slice xaa x.args.length xac), (I6 x.mn), (I6 x.mx), (.bool x.neg)]) rfl agg25 siz25 rfl (Bs.cells rfl)) ?_
   obtain ⟨n1, hn1⟩ : ∃ n1, n1 = ws.heap.size := ⟨_, rfl⟩
   have hD1 : ∀ b, D b → base ≤ b ∧ b < ws.heap.size := fun b hb => by have := hD b hb; have := Ns.ext.size; omega
   have hRs := hR
   refine WpL_callV (by decide) rfl rfl (hf _ x _ E hxm (ReIn.ext E x hrx0)) ?_
   rintro _ w9 ⟨us, rfl, hus, X9⟩
   replace Br := X9.keep Br
   replace Bo := X9.keep Bo
   replace Bs := X9.keep Bs
   replace hown := own_ext hown X9
   replace hbs := Nat.le_trans hbs X9.size
   replace E := E.ext X9
   rw [← hn1] at hus
   have hus0 := hus
   obtain ⟨usa, usc, uaa, uac, rfl, _, _, _⟩ := hus.form
   have Y9 : Ext ws (w9) := X9
   refine s_buildSlice (ps := [(0, (.agg #[(I6 ((g x).kind)), (.slice usa ((g x).set.length) usc), (.slice uaa ((g x).args.length) uac), (I6 ((g x).mn)), (I6 ((g x).mx)), (.bool ((g x).neg))]))]) (c := #[(I6 ((g x).kind)), (.slice usa ((g x).set.length) usc), (.slice uaa ((g x).args.length) uac), (I6 ((g x).mn)), (I6 ((g x).mx)), (.bool ((g x).neg))]) (by decide) rfl Tryz.underlying23 siz25 zer25 (by decide) (by decide) (by kernel_rfl) ?_
   intro bq wq Nq
   have Fq := Nq.ge E
   have Oq_br := Nq.lt Br
   have Oq_bo := Nq.lt Bo
   have Oq_bs := Nq.lt Bs
   replace Br := Nq.keep Br
   replace Bo := Nq.keep Bo
   replace Bs := Nq.keep Bs
   replace hown := own_ext hown Nq.ext
   replace hbs := Nat.le_trans hbs Nq.ext.size
   replace Y9 := Ext.trans Y9 Nq.ext
   replace hus0 := ReIn.ext Nq.ext _ hus0
   replace E := E.ext Nq.ext
   have Bq := Nq.blk
   refine s_append (base := base) (n := k) (m := 1) (xs := rows.flatten) (news := [(I6 ((g x).kind)), (.slice usa ((g x).set.length) usc), (.slice uaa ((g x).args.length) uac), (I6 ((g x).mn)), (I6 ((g x).mx)), (.bool ((g x).neg))]) (size := 6) (bytes := 80) (v := (.slice la k lc)) (by decide) Tryz.underlying23 siz25 byt25 zer25 rfl (by decide) rfl hown rfl (rfl) (Bq.cells rfl) (by simp [Value.oneCell']) (by unfold maxLen; omega) (by omega) (hbs) ?_
   intro v9 w29 Ov9 Cv9 Dv9
   replace Br := Cv9.keep (fun h => by have := (hown.lt _ h).1; omega) Br
   replace Bo := Cv9.keep (fun h => by have := (hown.lt _ h).1; omega) Bo
   replace E := E.step Cv9 (fun x hx h => absurd (hown.lt x h).1 (by omega))
   obtain ⟨la2, lc2, rfl⟩ := own_form Ov9
   have hstep := map_step (base := base) (n1 := n1) hRs Y9 hn1 hSb hD1 (fun q hq => ⟨hv q hq, by have := hlt3 q hq; have := Ns.ext.size; omega⟩) hus0 Cv9 Dv9 (by have := Ns.ext.size; omega)
   refine qA _ rfl ?_
   refine WpL_nil (inB_normal (thn_normal (Wp_region ?_)))
   refine qV (r_add rfl rfl (wI64 (by omega))) ?_
   refine qM _ rfl ?_
   refine WpL_nil (thn_normal ?_)
   exact ⟨t.args.length - (k + 1), by omega, k + 1, la2, lc2, rows ++ [[.int .i64 (g x).kind, .slice usa (g x).set.length usc, .slice uaa (g x).args.length uac, .int .i64 (g x).mn, .int .i64 (g x).mx, .bool (g x).neg]], (fun b => D b ∨ (n1 ≤ b ∧ b < wq.heap.size)), Fits.out ⟨rfl, rfl, rfl, rfl, rfl, rfl, rfl, trivial⟩, E, Br, Bo, (by omega), (by simpa using Ov9), (by rw [List.take_add_one, hx, List.map_append]; exact hstep.1), hstep.2.1, hstep.2.2, Nat.le_trans hbs Cv9.size, rfl⟩
  ·have khlt := hlt
   replace hlt := of_decide_eq_false hlt
   have hkk : k = t.args.length := by omega
   subst hkk
   rw [List.take_length] at hR
   obtain ⟨hcl, hcells⟩ := own_res hown hR (by simp)
   have hset9 : SlIn (fun y => S y ∨ base ≤ y) (W1) 2 (.slice sa t.set.length sc) (t.set.map spanV) := (SlIn.chg hset E (fun _ _ f => f)).mono (fun y hy => Or.inl hy)
   have hC9 : Chg (fun y => y = bo ∨ y = br) (W1) (W1) := Chg.refl _ _
   refine Wp_exit (thn_exit (thn_exit (inB_here (thn_normal (Wp_seq_region ?_)))))
   refine qM _ rfl ?_
   refine qF br 0 2 rfl Tryz.underlying25 rfl siz23 rfl ?_
   refine s_store (b := br) (o := 2) (c' := (R6 t sa sc la lc)) (v := (.slice la t.args.length lc)) rfl rfl rfl siz23 Br (by simp) rfl ?_
   intro w3 S3
   replace hC9 := hC9.step S3.chg (fun y _ h => by first | exact .inl h | exact .inr h)
   replace Bo := S3.keep (by omega) Bo
   replace E := S3.step E (by first | exact Or.inl (by omega) | exact Or.inr rfl | exact Or.inr (by assumption) | exact Or.inr (by simp) | exact Or.inr (by omega) | exact Or.inr (by dsimp only; omega))
   replace Br := S3.blk
   refine WpL_nil (Wp_seq_region ?_)
   refine qV (r_loadAgg (vs := [(I6 t.kind), (.slice sa t.set.length sc), (.slice la t.args.length lc), (I6 t.mn), (I6 t.mx), (.bool t.neg)]) rfl agg25 siz25 rfl (Br.cells rfl)) ?_
   refine s_storeAgg (b := bo) (o := 0) (c' := (R6 t sa sc la lc)) rfl rfl (by simp [Value.oneCell']) siz25 rfl Bo (by first | (simp; done) | exact Nat.le_of_ble_eq_true rfl) rfl ?_
   intro w4 S4
   replace hC9 := hC9.step S4.chg (fun y _ h => by first | exact .inl h | exact .inr h)
   replace Br := S4.keep (by omega) Br
   replace E := S4.step E (by first | exact Or.inl (by omega) | exact Or.inr rfl | exact Or.inr (by assumption) | exact Or.inr (by simp) | exact Or.inr (by omega) | exact Or.inr (by dsimp only; omega))
   replace Bo := S4.blk
   refine WpL_nil (Wp_ret ?_)
   refine fin_agg Tryz.results56 (vs := [(.int .i64 t.kind), (.slice sa t.set.length sc), (.slice la t.args.length lc), (.int .i64 t.mn), (.int .i64 t.mx), (.bool t.neg)]) (b := bo) rfl agg25 siz25 rfl (Bo.cells rfl) ?_
   refine ⟨_, rfl, ?_, E⟩
   have hlm : (t.args.map g).length = t.args.length := by simp
   have hne : ∀ y, (S y ∨ base ≤ y) → ¬ (y = bo ∨ y = br) := by
    rintro y (h | h) (h2 | h2)
    ·have := hSb y h; have := hS y h; omega
    ·have := hSb y h; have := hS y h; omega
    ·omega
    ·omega
   refine re_cong (by simp) (ReIn.mono (S := fun y => S y ∨ base ≤ y) (fun y hy => hy.imp id (fun h => by omega)) _ (ReIn.chg hC9 hne _ (ReIn.of (set := t.set) (args := t.args.map g) hset9 (by rw [hlm]; exact hcl) ?_)))
   rcases hcells with h | ⟨gb, h1, h2, h3, h4⟩
   ·exact .inl h
   ·exact .inr ⟨gb, 0, .inr h1, h3, resin_of fun i u hu => by obtain ⟨us, h5, h6⟩ := h4 i u hu; exact ⟨us, h5, ReIn.mono (fun y hy => hy.imp id (fun h => (hD y h).1)) u h6⟩⟩
end Go.Proofs
namespace Go.Proofs
open Go Go.Eng Go.Sort
set_option maxRecDepth 100000
theorem range_rows {row : List Value} {m : Nat} (hm : row.length = m) (h0 : 0 < m) : ∀ n, (List.range (n * m)).map (fun i => row.toArray[i % m]!) = (List.replicate n row).flatten
  | 0 => by simp
  | n + 1 => by
    rw [Nat.succ_mul, List.range_add, List.map_append, range_rows hm h0 n, List.replicate_succ', List.flatten_append]
    congr 1
    rw [List.map_map, List.flatten_cons, List.flatten_nil, List.append_nil]
    apply List.ext_getElem?
    intro i
    rw [List.getElem?_map]
    rcases Nat.lt_or_ge i m with h | h
    · rw [List.getElem?_range h]
      have h2 : (n * m + i) % m = i := by rw [Nat.mul_comm, Nat.mul_add_mod, Nat.mod_eq_of_lt h]
      simp [h2, List.getElem?_eq_getElem (show i < row.length by omega), hm, h]
    · rw [List.getElem?_eq_none (by simpa using h), List.getElem?_eq_none (by omega)]; rfl
section
variable {P : Program} {N : Nat} {Q : Post} {σ : Env} {w : World} {K : Env → World → Prop} {ops : Array Oper} {rest : List Oper} {d : Nat} {ty : TypeId} {pos : String} {af : Array Edge} {t : TypeId} {x y : Operand}
theorem s_makeN {e bytes n m : Nat} {z : Value} {row : List Value} (hN : d < N) (hu : P.underlying t = some (.slice e)) (hsz : Siz P e m) (hby : Byt P e bytes) (hz : Zer P e z) (hz1 : z.cells = row.toArray) (h0 : 0 < m) (hx : ev σ x = .int .i64 ((n : Nat) : Int)) (hy : ev σ y = .int .i64 ((n : Nat) : Int)) (hb : n * bytes ≤ 140737488355328) (hn : n ≤ 140737488355328) (hm : row.length = m)
    (k : ∀ b w', New w w' b (List.replicate n row).flatten.toArray e → WpL P N ops K Q rest (upd σ d (.slice (some ⟨b, 0, none⟩) n n)) w') : WpL P N ops K Q (⟨some d, .makeSlice t x y, ty, pos, af, none⟩ :: rest) σ w := by
  refine WpL_val (v := .slice (some ⟨w.heap.size, 0, none⟩) n n) (w' := { w with heap := w.heap.push (.cells (List.replicate n row).flatten.toArray e (0, 0)) }) rfl rfl hN ?_ (k _ _ (New.mk' w _ e))
  unfold Siz at hsz; unfold Byt at hby; unfold Zer at hz
  cases hi : P.info? e with
  | none => rw [hi] at hsz; simp at hsz
  | some i =>
  rw [hi] at hsz hby hz
  simp at hsz hby hz
  have h := run_make (P := P) w t e i _ hu hi hz .i64 .i64 ((n : Nat) : Int) ((n : Nat) : Int) (by omega) (Int.le_refl _) (by rw [hby]; have : ((bytes : Nat) : Int) * ((n : Nat) : Int) = (((n * bytes : Nat) : Nat) : Int) := (by rw [Int.natCast_mul, Int.mul_comm]); rw [this]; omega) (by omega)
  have hc : madeCells z.cells (n * i.size) = (List.replicate n row).flatten.toArray := by
    rw [hsz, hz1, ← range_rows hm h0 n]
    apply Array.ext'
    simp only [madeCells, Array.toList_map, Array.toList_range, List.size_toArray, hm]
  simp only [Int.toNat_natCast, hc] at h
  simp only [execOp, hx, hy, Sem.run_bind, h, Result.andThen_ok]
  rfl
end
set_option maxHeartbeats 1000000 in
theorem few_c (w0 : World) (t : Re) (vs : List Value) (ht : ReAt w0 t vs) (hs : t.size ≤ 2097152) :
  Ret Tryz.prog 6 #[.agg vs.toArray] w0 fun v w => v = .bool (decide (t.size ≤ 2000)) ∧ Ext w0 w := by
 have ht0 := ht
 obtain ⟨sa, sc, aa, ac, rfl, _, _, _⟩ := ht.form
 have hl : ((preL t).take (2001 : Int).toNat).length = min 2001 t.size := by rw [List.length_take, preL_len]; rfl
 refine Ret_of Tryz.func6 rfl Tryz.ntmps6 (Nat.le_of_ble_eq_true rfl) ?_
 have E : Chg none1 w0 w0 := Chg.refl _ _
 refine Wp_seq_region ?_
 refine s_box (v := (.agg (R6 t sa sc aa ac))) (c := (R6 t sa sc aa ac)) (by decide) rfl rfl ?_
 intro br wr Nr
 have Fr := Nr.ge E
 replace E := E.ext Nr.ext
 have Br := Nr.blk
 refine qA _ rfl ?_
 refine WpL_nil (Wp_seq_region ?_)
 refine qV (r_loadAgg (vs := [(I6 t.kind), (.slice sa t.set.length sc), (.slice aa t.args.length ac), (I6 t.mn), (I6 t.mx), (.bool t.neg)]) rfl agg25 siz25 rfl (Br.cells rfl)) ?_
 refine WpL_enter rfl rfl (by decide) (r_callF Tryz.func11 nm11 bd11 rfl) (pre_c _ t _ _ (ReAt.ext E t ht0) hs) ?_
 rintro _ w9 ⟨la, lc, rows, rfl, hsl, hrows, X9⟩
 replace Br := X9.keep Br
 replace E := E.ext X9
 refine qV (r_lenSlice Tryz.underlying23 rfl) ?_
 refine qV (r_leq rfl rfl) ?_
 refine qA _ rfl ?_
 refine WpL_nil (Wp_ret ?_)
 refine fin_tmp Tryz.results6 (v := (.bool (decide ((((((preL t).take (2001 : Int).toNat).length : Nat) : Int) : Int) ≤ 2000)))) rfl ?_
 exact ⟨bool_eq (by rw [hl]; exact decide_eq_decide.2 (by omega)), E⟩
def RowsG (S : Nat → Prop) (w : World) (a : Option Addr) (ts : List Re) (rows : List (List Value)) : Prop := RowsIn S w ts rows ∧ (ts = [] ∨ ∃ b o, S b ∧ a = some ⟨b, o, none⟩ ∧ CellsAt w b o rows.flatten)
theorem RowsG.of {S : Nat → Prop} {w : World} {a : Option Addr} {ts : List Re} (h : ts = [] ∨ ∃ b o, S b ∧ a = some ⟨b, o, none⟩ ∧ ResIn S w b o ts) : ∃ rows, RowsG S w a ts rows := by
 rcases h with rfl | ⟨b, o, h1, h2, h3⟩
 ·exact ⟨[], rfl, .inl rfl⟩
 ·obtain ⟨rows, h4, h5⟩ := ResIn.rows h3
  exact ⟨rows, h4, .inr ⟨b, o, h1, h2, h5⟩⟩
theorem RowsG.chg {S M : Nat → Prop} {w w' : World} {a : Option Addr} {ts : List Re} {rows : List (List Value)} (c : Chg M w w') (hm : ∀ b, S b → ¬ M b) (h : RowsG S w a ts rows) : RowsG S w' a ts rows :=
 ⟨RowsIn.chg c hm h.1, h.2.imp id fun ⟨b, o, h1, h2, h3⟩ => ⟨b, o, h1, h2, h3.chg c (hm b h1)⟩⟩
theorem RowsG.ext {S : Nat → Prop} {w w' : World} {a : Option Addr} {ts : List Re} {rows : List (List Value)} (c : Ext w w') (h : RowsG S w a ts rows) : RowsG S w' a ts rows := h.chg c fun _ _ f => f
theorem cells_row {w : World} {b o : Nat} {rows : List (List Value)} (h : CellsAt w b o rows.flatten) (h6 : ∀ r ∈ rows, r.length = 6) {i : Nat} {r : List Value} (hr : rows[i]? = some r) : CellsAt w b (o + i * 6) r := fun j u hu => by
 have h1 := rows_cells (rest := []) h6 hr j u hu
 rw [List.append_nil] at h1
 have h2 := h _ u h1
 rwa [← Nat.add_assoc] at h2
def fillR (z : List Value) (rows : List (List Value)) (i : Nat) : List Value := ((List.replicate (rows.length - i) z) ++ (rows.take i).reverse).flatten
theorem fillR_len {z : List Value} {rows : List (List Value)} {i : Nat} (hz : z.length = 6) (h6 : ∀ r ∈ rows, r.length = 6) (hi : i ≤ rows.length) : (fillR z rows i).length = rows.length * 6 := by
 unfold fillR
 rw [flat_len fun r hr => ?_]
 ·simp; omega
 ·rcases List.mem_append.1 hr with h | h
  ·rw [(List.mem_replicate.1 h).2]; exact hz
  ·exact h6 r (List.take_subset _ _ (List.mem_reverse.1 h))
theorem fillR_done {z : List Value} {rows : List (List Value)} : fillR z rows rows.length = rows.reverse.flatten := by simp [fillR]
theorem RowsG.res {S : Nat → Prop} {w : World} {a : Option Addr} {ts : List Re} {rows : List (List Value)} (h : RowsG S w a ts rows) (h6 : ∀ r ∈ rows, r.length = 6) : ts = [] ∨ ∃ b o, S b ∧ a = some ⟨b, o, none⟩ ∧ ResIn S w b o ts :=
 h.2.imp id fun ⟨b, o, h1, h2, h3⟩ => ⟨b, o, h1, h2, resin_of fun i t ht => by
  obtain ⟨r, hr, hrt⟩ := h.1.get ht
  exact ⟨r, cells_row h3 h6 hr, hrt⟩⟩
theorem fillR_put {z r : List Value} {rows : List (List Value)} {i : Nat} (hz : z.length = 6) (hi : i < rows.length) (hr : rows[i]? = some r) :
  (fillR z rows i).take ((rows.length - 1 - i) * 6) ++ r ++ (fillR z rows i).drop ((rows.length - 1 - i) * 6 + 6) = fillR z rows (i + 1) := by
 have e1 : rows.length - i = (rows.length - 1 - i) + 1 := by omega
 have e2 : rows.length - (i + 1) = rows.length - 1 - i := by omega
 have hA : ((List.replicate (rows.length - 1 - i) z).flatten).length = (rows.length - 1 - i) * 6 := by
  rw [flat_len fun r hr => by rw [(List.mem_replicate.1 hr).2]; exact hz]; simp
 unfold fillR
 rw [e1, e2, List.replicate_succ', List.take_add_one, hr, List.flatten_append, List.flatten_append, List.flatten_append, List.append_assoc, ← hA]
 generalize (List.replicate (rows.length - 1 - i) z).flatten = A
 have hd : ∀ B : List Value, List.drop 6 ([z].flatten ++ B) = B := fun B => by
  rw [List.flatten_cons, List.flatten_nil, List.append_nil, ← hz, List.drop_append_of_le_length (Nat.le_refl _), List.drop_length, List.nil_append]
 rw [List.append_assoc A, List.take_append_of_le_length (Nat.le_refl _), List.take_length, ← List.drop_drop, List.drop_append_of_le_length (Nat.le_refl _), List.drop_length, List.nil_append, hd]
 simp
abbrev zRow : List Value := [.int .i64 0, .slice none 0 0, .slice none 0 0, .int .i64 0, .int .i64 0, .bool false]
set_option maxHeartbeats 4000000 in
theorem rreversed_c : ∀ (n : Nat) (t : Re) (w0 : World) (vs : List Value) (S : Nat → Prop), t.size ≤ n → n ≤ 1000000 → ReIn S w0 t vs → (∀ b, S b → b < w0.heap.size) →
    Ret Tryz.prog 24 #[.agg vs.toArray] w0 fun r w => ∃ us, r = .agg us.toArray ∧ ReIn (fun b => S b ∨ w0.heap.size ≤ b) w (revT t) us ∧ Ext w0 w := by
  intro n
  induction n with
  | zero => intro t w0 vs S hn; have := t.size_pos; omega
  | succ n ih =>
  intro t w0 vs S hn hM ht hS
  have ht0 := ht
  obtain ⟨sa, sc, aa, ac, rfl, hset, hac, hta⟩ := ht.form
  have hal := len_sizes t.args
  have hsze := t.size_eq
  obtain ⟨R, hR⟩ : ∃ R, R = Re.mk t.kind t.set (t.args.map revT) t.mn t.mx t.neg := ⟨_, rfl⟩
  have hRl : R.args.length = t.args.length := by rw [hR]; simp [Re.args]
  have hrev : revT t = .mk R.kind R.set (revA t.kind R.args) R.mn R.mx R.neg := by rw [revT_eq, hR]; rfl
  refine Ret_of Tryz.func24 rfl Tryz.ntmps24 (Nat.le_of_ble_eq_true rfl) ?_
  have E : Chg none1 w0 w0 := Chg.refl _ _
  refine Wp_seq_region ?_
  refine s_box (v := (.agg (R6 t sa sc aa ac))) (c := (R6 t sa sc aa ac)) (by decide) rfl rfl ?_
  intro br wr Nr
  have Fr := Nr.ge E
  replace E := E.ext Nr.ext
  have Br := Nr.blk
  refine s_alloc (c := #[(I6 0), (.slice none 0 0), (.slice none 0 0), (I6 0), (I6 0), (.bool false)]) (by decide) zer25 rfl ?_
  intro bo wo No
  have Fo := No.ge E
  have Oo_br := No.lt Br
  replace Br := No.keep Br
  replace E := E.ext No.ext
  have Bo := No.blk
  refine WpL_nil (Wp_seq_region ?_)
  refine qV (r_loadAgg (vs := [(I6 t.kind), (.slice sa t.set.length sc), (.slice aa t.args.length ac), (I6 t.mn), (I6 t.mx), (.bool t.neg)]) rfl agg25 siz25 rfl (Br.cells rfl)) ?_
  obtain ⟨n1, hn1⟩ : ∃ n1, n1 = wo.heap.size := ⟨_, rfl⟩
  have hz1 : w0.heap.size ≤ n1 := by rw [hn1]; exact E.size
  have hbo : bo < n1 := by rw [hn1]; exact Bo.lt
  have hbr : br < n1 := by rw [hn1]; exact Br.lt
  refine WpL_enter rfl rfl (by decide) (r_callF Tryz.func56 nm56 bd56 rfl) ((mapped_c _ S t _ _ revT (ReIn.ext E t ht0) (fun y hy => by have := hS y hy; omega) (by omega) (fun w x xs hE hx h => CallV.mk (first := #[]) (cap := #[]) Tryz.func24 nm24 bd24 rfl (by obtain ⟨i, hi⟩ := List.mem_iff_getElem?.1 hx; exact ih x w xs S (by have := Re.size_arg hi; omega) (by omega) h (fun y hy => by have := hS y hy; have := hE.size; omega))))) ?_
  rintro _ w9 ⟨us9, rfl, hre9, X9⟩
  replace Br := X9.keep Br
  replace Bo := X9.keep Bo
  replace E := E.ext X9
  rw [← hn1, ← hR] at hre9
  obtain ⟨ka, kc, kaa, kac, hus9, _, hkl, _⟩ := hre9.form
  subst hus9
  have hsz9 : n1 ≤ (w9).heap.size := by rw [hn1]; exact X9.size
  have hreL := ReIn.lt _ hre9
  obtain ⟨n2, hn2⟩ : ∃ n2, n2 = (w9).heap.size := ⟨_, rfl⟩
  rw [← hn2] at hreL
  obtain ⟨hsN, rows, hrows⟩ : SlIn (fun y => (S y ∨ n1 ≤ y) ∧ y < n2) (w9) 2 (.slice ka R.set.length kc) (R.set.map spanV) ∧ ∃ rows, RowsG (fun y => (S y ∨ n1 ≤ y) ∧ y < n2) (w9) kaa R.args rows := by
    obtain ⟨_, _, _, _, h1, h2, _, h4⟩ := hreL.form
    simp only [List.cons.injEq, Value.slice.injEq] at h1
    obtain ⟨_, ⟨rfl, _, rfl⟩, ⟨rfl, _, _⟩, _⟩ := h1
    exact ⟨h2, RowsG.of h4⟩
  have hrl : rows.length = R.args.length := hrows.1.len
  have hr6 := hrows.1.six
  refine s_allocStore (v := (.agg (R6 R ka kc kaa kac))) (c := (R6 R ka kc kaa kac)) (n := 6) (by decide) zer25 rfl siz25 rfl rfl rfl (by simp [Value.oneCell']) ?_
  intro bu wu Nu
  have Fu := Nu.ge E
  have Ou_br := Nu.lt Br
  have Ou_bo := Nu.lt Bo
  replace Br := Nu.keep Br
  replace Bo := Nu.keep Bo
  replace hrows := RowsG.ext Nu.ext hrows
  replace hsN := SlIn.chg hsN Nu.ext (fun _ _ f => f)
  replace E := E.ext Nu.ext
  have Bu := Nu.blk
  refine WpL_nil (Wp_seq (Wp_seq_region ?_))
  refine qF br 0 0 rfl Tryz.underlying25 rfl siz3 rfl ?_
  refine qV (r_load rfl flat3 (Br.cell rfl)) ?_
  refine qV (r_eql rfl rfl) ?_
  refine WpL_nil ?_
  have hbu : n2 ≤ bu := by have := Nu.eq; omega
  refine Wp_cond rfl (fun hk => ?_) (fun hk => ?_)
  · have khk := hk
    replace hk := of_decide_eq_true hk
    refine Wp_seq_region ?_
    refine qF bu 0 2 rfl Tryz.underlying25 rfl siz23 rfl ?_
    refine qV (r_load rfl flat23 (Bu.cell rfl)) ?_
    refine qV (r_lenSlice Tryz.underlying23 rfl) ?_
    refine qA _ rfl ?_
    refine WpL_nil (Wp_seq_region ?_)
    refine qM _ rfl ?_
    refine s_makeN (n := R.args.length) (m := 6) (row := [(I6 0), (.slice none 0 0), (.slice none 0 0), (I6 0), (I6 0), (.bool false)]) (bytes := 80) (by decide) Tryz.underlying23 siz25 byt25 zer25 rfl (by decide) rfl rfl (by omega) (by omega) rfl ?_
    intro bm wm Nm
    have Fm := Nm.ge E
    have Om_br := Nm.lt Br
    have Om_bo := Nm.lt Bo
    have Om_bu := Nm.lt Bu
    replace Br := Nm.keep Br
    replace Bo := Nm.keep Bo
    replace Bu := Nm.keep Bu
    replace hrows := RowsG.ext Nm.ext hrows
    replace hsN := SlIn.chg hsN Nm.ext (fun _ _ f => f)
    replace E := E.ext Nm.ext
    have Bm := Nm.blk
    refine qA _ rfl ?_
    refine WpL_nil (Wp_seq (Wp_seq_region ?_))
    refine qF bu 0 2 rfl Tryz.underlying25 rfl siz23 rfl ?_
    refine qV (r_load rfl flat23 (Bu.cell rfl)) ?_
    refine qV (r_lenSlice Tryz.underlying23 rfl) ?_
    refine qM _ rfl ?_
    refine WpL_nil (Wp_block ?_)
    have hBm : Blk wm bm (fillR zRow rows 0).toArray 25 := by unfold fillR; rw [Nat.sub_zero, hrl, List.take_zero, List.reverse_nil, List.append_nil]; exact Bm
    have hbm : n2 ≤ bm := by omega
    refine Wp_loop (fun nn_ σ W2 => ∃ (i : Nat), (∃ jj_, σ = upds jj_ [(2, (P6 bo 0)), (3, (P6 bu 0)), (4, (I6 (R.args.length : Int))), (5, (.slice (some ⟨bm, 0, none⟩) R.args.length R.args.length)), (19, (.slice kaa R.args.length kac)), (20, (I6 (R.args.length : Int))), (21, (I6 (i : Int)))]) ∧ Chg none1 w0 W2 ∧ Blk W2 br (R6 t sa sc aa ac) 25 ∧ Blk W2 bo #[(I6 0), (.slice none 0 0), (.slice none 0 0), (I6 0), (I6 0), (.bool false)] 25 ∧ Blk W2 bu (R6 R ka kc kaa kac) 25 ∧ Blk W2 bm ((fillR zRow rows i).toArray) 25 ∧ (i ≤ R.args.length) ∧ (RowsG (fun b => (S b ∨ n1 ≤ b) ∧ b < n2) W2 kaa R.args rows) ∧ (SlIn (fun y => (S y ∨ n1 ≤ y) ∧ y < n2) W2 2 (.slice ka R.set.length kc) (R.set.map spanV)) ∧ nn_ = R.args.length - i) (n := R.args.length - 0) ?_ ?_
    · exact ⟨0, Fits.out ⟨rfl, rfl, rfl, rfl, rfl, rfl, rfl, trivial⟩, E, Br, Bo, Bu, hBm, Nat.zero_le _, hrows, hsN, rfl⟩
    · clear E Br Bo Bu hBm
      rintro _ _ W2 ⟨i, ⟨j2, rfl⟩, E, Br, Bo, Bu, hBm, hi, hrows, hsN, rfl⟩
      refine Wp_seq_region ?_
      refine qV (r_lss rfl rfl) ?_
      refine WpL_nil (Wp_seq ?_)
      refine Wp_cond rfl (fun hlt => ?_) (fun hlt => ?_)
      · have khlt := hlt
        replace hlt := of_decide_eq_true hlt
        obtain ⟨x, hx⟩ := get_of_lt (l := R.args) (i := i) (by omega)
        obtain ⟨b, o, hSb1, rfl, hxr⟩ := hrows.2.resolve_left (fun h => by rw [h] at hx; simp at hx)
        obtain ⟨us, hus, hrx⟩ := hrows.1.get hx
        have hcx := cells_row hxr hr6 hus
        obtain ⟨xsa, xsc, xaa, xac, rfl, _, _, _⟩ := hrx.form
        refine Wp_skip (thn_normal (Wp_seq (Wp_block (Wp_seq_region ?_))))
        refine qM _ rfl ?_
        refine qV (r_indexSlice (b := b) (o := o) (len := R.args.length) (cap := kac) (i := i) (o' := o + i * 6) rfl rfl rfl Tryz.underlying23 siz25 (by omega) (by omega)) ?_
        refine qV (r_loadAgg rfl agg25 siz25 rfl (hcx)) ?_
        refine s_alloc (c := #[(I6 0), (.slice none 0 0), (.slice none 0 0), (I6 0), (I6 0), (.bool false)]) (by decide) zer25 rfl ?_
        intro b4 w4 N4
        have F4 := N4.ge E
        have O4_br := N4.lt Br
        have O4_bo := N4.lt Bo
        have O4_bu := N4.lt Bu
        have O4_bm := N4.lt hBm
        replace Br := N4.keep Br
        replace Bo := N4.keep Bo
        replace Bu := N4.keep Bu
        replace hBm := N4.keep hBm
        replace hrows := RowsG.ext N4.ext hrows
        replace hsN := SlIn.chg hsN N4.ext (fun _ _ f => f)
        replace E := E.ext N4.ext
        have B4 := N4.blk
        refine qA _ rfl ?_
        refine s_storeAgg (b := b4) (o := 0) (c' := (R6 x xsa xsc xaa xac)) rfl rfl (by simp [Value.oneCell']) siz25 rfl B4 (by first | (simp; done) | exact Nat.le_of_ble_eq_true rfl) rfl ?_
        intro w5 S5
        replace hrows := RowsG.chg S5.chg (fun y hy h => by have h2 : y = _ := h; have := hy.2; first | omega | (rcases hy.1 with h1 | h1; have := hS y h1; omega; omega)) hrows
        replace hsN := SlIn.chg hsN S5.chg (fun y hy h => by have h2 : y = _ := h; have := hy.2; first | omega | (rcases hy.1 with h1 | h1; have := hS y h1; omega; omega))
        replace Br := S5.keep (by omega) Br
        replace Bo := S5.keep (by omega) Bo
        replace Bu := S5.keep (by omega) Bu
        replace hBm := S5.keep (by omega) hBm
        replace E := S5.step E (by first | exact Or.inl (by omega) | exact Or.inr rfl | exact Or.inr (by assumption) | exact Or.inr (by simp) | exact Or.inr (by omega) | exact Or.inr (by dsimp only; omega))
        replace B4 := S5.blk
        refine WpL_nil (Wp_region ?_)
        refine qM _ rfl ?_
        refine qM _ rfl ?_
        refine qV (r_sub rfl rfl (wI64 (by omega))) ?_
        refine qM _ rfl ?_
        refine qV (r_sub rfl rfl (wI64 (by omega))) ?_
        refine qV (r_loadAgg (vs := [(I6 x.kind), (.slice xsa x.set.length xsc), (.slice xaa x.args.length xac), (I6 x.mn), (I6 x.mx), (.bool x.neg)]) rfl agg25 siz25 rfl (B4.cells rfl)) ?_
        refine qV (r_indexSlice (b := bm) (o := 0) (len := R.args.length) (cap := R.args.length) (i := R.args.length - 1 - i) (o' := 0 + (R.args.length - 1 - i) * 6) rfl rfl (by omega) Tryz.underlying23 siz25 (by omega) (by omega)) ?_
        refine s_storeAgg (b := bm) (o := 0 + (R.args.length - 1 - i) * 6) (n := 6) (c' := (fillR zRow rows (i + 1)).toArray) (vs := (R6 x xsa xsc xaa xac)) rfl rfl (by simp [Value.oneCell']) siz25 (rfl) hBm (by rw [List.size_toArray, fillR_len rfl hr6 (by omega), hrl]; omega) (by rw [Nat.zero_add, ← hrl]; exact congrArg List.toArray (fillR_put rfl (by omega) hus)) ?_
        intro w6 S6
        replace hrows := RowsG.chg S6.chg (fun y hy h => by have h2 : y = _ := h; have := hy.2; first | omega | (rcases hy.1 with h1 | h1; have := hS y h1; omega; omega)) hrows
        replace hsN := SlIn.chg hsN S6.chg (fun y hy h => by have h2 : y = _ := h; have := hy.2; first | omega | (rcases hy.1 with h1 | h1; have := hS y h1; omega; omega))
        replace Br := S6.keep (by omega) Br
        replace Bo := S6.keep (by omega) Bo
        replace Bu := S6.keep (by omega) Bu
        replace B4 := S6.keep (by omega) B4
        replace E := S6.step E (by first | exact Or.inl (by omega) | exact Or.inr rfl | exact Or.inr (by assumption) | exact Or.inr (by simp) | exact Or.inr (by omega) | exact Or.inr (by dsimp only; omega))
        replace hBm := S6.blk
        refine WpL_nil (inB_normal (thn_normal (Wp_region ?_)))
        refine qV (r_add rfl rfl (wI64 (by omega))) ?_
        refine qM _ rfl ?_
        refine WpL_nil (thn_normal ?_)
        exact ⟨R.args.length - (i + 1), by omega, i + 1, Fits.out ⟨rfl, rfl, rfl, rfl, rfl, rfl, rfl, trivial⟩, E, Br, Bo, Bu, hBm, (by omega), hrows, hsN, rfl⟩
      · have khlt := hlt
        replace hlt := of_decide_eq_false hlt
        obtain rfl : i = R.args.length := by omega
        refine Wp_exit (thn_exit (thn_exit (inB_here (thn_normal (Wp_region ?_)))))
        refine qM _ rfl ?_
        refine qF bu 0 2 rfl Tryz.underlying25 rfl siz23 rfl ?_
        refine s_store (b := bu) (o := 2) (c' := #[(I6 R.kind), (.slice ka R.set.length kc), (.slice (some ⟨bm, 0, none⟩) R.args.length R.args.length), (I6 R.mn), (I6 R.mx), (.bool R.neg)]) (v := (.slice (some ⟨bm, 0, none⟩) R.args.length R.args.length)) rfl rfl rfl siz23 Bu (by simp) rfl ?_
        intro w7 S7
        replace hrows := RowsG.chg S7.chg (fun y hy h => by have h2 : y = _ := h; have := hy.2; first | omega | (rcases hy.1 with h1 | h1; have := hS y h1; omega; omega)) hrows
        replace hsN := SlIn.chg hsN S7.chg (fun y hy h => by have h2 : y = _ := h; have := hy.2; first | omega | (rcases hy.1 with h1 | h1; have := hS y h1; omega; omega))
        replace Br := S7.keep (by omega) Br
        replace Bo := S7.keep (by omega) Bo
        replace hBm := S7.keep (by omega) hBm
        replace E := S7.step E (by first | exact Or.inl (by omega) | exact Or.inr rfl | exact Or.inr (by assumption) | exact Or.inr (by simp) | exact Or.inr (by omega) | exact Or.inr (by dsimp only; omega))
        replace Bu := S7.blk
        refine WpL_nil (thn_normal (Wp_seq_region ?_))
        refine qV (r_loadAgg (vs := [(I6 R.kind), (.slice ka R.set.length kc), (.slice (some ⟨bm, 0, none⟩) R.args.length R.args.length), (I6 R.mn), (I6 R.mx), (.bool R.neg)]) rfl agg25 siz25 rfl (Bu.cells rfl)) ?_
        refine s_storeAgg (b := bo) (o := 0) (c' := #[(I6 R.kind), (.slice ka R.set.length kc), (.slice (some ⟨bm, 0, none⟩) R.args.length R.args.length), (I6 R.mn), (I6 R.mx), (.bool R.neg)]) rfl rfl (by simp [Value.oneCell']) siz25 rfl Bo (by first | (simp; done) | exact Nat.le_of_ble_eq_true rfl) rfl ?_
        intro w8 S8
        replace hrows := RowsG.chg S8.chg (fun y hy h => by have h2 : y = _ := h; have := hy.2; first | omega | (rcases hy.1 with h1 | h1; have := hS y h1; omega; omega)) hrows
        replace hsN := SlIn.chg hsN S8.chg (fun y hy h => by have h2 : y = _ := h; have := hy.2; first | omega | (rcases hy.1 with h1 | h1; have := hS y h1; omega; omega))
        replace Br := S8.keep (by omega) Br
        replace Bu := S8.keep (by omega) Bu
        replace hBm := S8.keep (by omega) hBm
        replace E := S8.step E (by first | exact Or.inl (by omega) | exact Or.inr rfl | exact Or.inr (by assumption) | exact Or.inr (by simp) | exact Or.inr (by omega) | exact Or.inr (by dsimp only; omega))
        replace Bo := S8.blk
        refine WpL_nil (Wp_ret ?_)
        refine fin_agg Tryz.results24 (vs := [(.int .i64 R.kind), (.slice ka R.set.length kc), (.slice (some ⟨bm, 0, none⟩) R.args.length R.args.length), (.int .i64 R.mn), (.int .i64 R.mx), (.bool R.neg)]) (b := bo) rfl agg25 siz25 rfl (Bo.cells rfl) ?_
        refine ⟨_, rfl, ?_, E⟩
        have hlm : R.args.reverse.length = R.args.length := by simp
        rw [hrev, show revA t.kind R.args = R.args.reverse from by rw [hk]; rfl]
        have hcl := hBm.cells (o := 0) (vs := rows.reverse.flatten) (by rw [← hrl, fillR_done]; show (rows.reverse.flatten.drop 0).take _ = _; rw [List.drop_zero, List.take_length])
        refine re_cong hlm (ReIn.mono ?_ _ (ReIn.of (S := fun y => ((S y ∨ n1 ≤ y) ∧ y < n2) ∨ y = bm) (set := R.set) (args := R.args.reverse) (SlIn.mono hsN (fun y h => .inl h)) ⟨by omega, by omega⟩ (.inr ⟨bm, 0, .inr rfl, rfl, resin_of fun j u hu => ?_⟩)))
        · rintro y (⟨h | h, _⟩ | rfl)
          · exact .inl h
          · exact .inr (by omega)
          · exact .inr (by omega)
        · obtain ⟨row, hrow, hru⟩ := (RowsIn.reverse hrows.1).get hu
          exact ⟨row, cells_row hcl (fun r hr => hr6 r (List.mem_reverse.1 hr)) hrow, ReIn.mono (fun y h => .inl h) u hru⟩
  · have khk := hk
    replace hk := of_decide_eq_false hk
    refine Wp_skip (thn_normal (Wp_seq_region ?_))
    refine qV (r_loadAgg (vs := [(I6 R.kind), (.slice ka R.set.length kc), (.slice kaa R.args.length kac), (I6 R.mn), (I6 R.mx), (.bool R.neg)]) rfl agg25 siz25 rfl (Bu.cells rfl)) ?_
    refine s_storeAgg (b := bo) (o := 0) (c' := (R6 R ka kc kaa kac)) rfl rfl (by simp [Value.oneCell']) siz25 rfl Bo (by first | (simp; done) | exact Nat.le_of_ble_eq_true rfl) rfl ?_
    intro w9 S9
    replace hrows := RowsG.chg S9.chg (fun y hy h => by have h2 : y = _ := h; have := hy.2; first | omega | (rcases hy.1 with h1 | h1; have := hS y h1; omega; omega)) hrows
    replace hsN := SlIn.chg hsN S9.chg (fun y hy h => by have h2 : y = _ := h; have := hy.2; first | omega | (rcases hy.1 with h1 | h1; have := hS y h1; omega; omega))
    replace Br := S9.keep (by omega) Br
    replace Bu := S9.keep (by omega) Bu
    replace E := S9.step E (by first | exact Or.inl (by omega) | exact Or.inr rfl | exact Or.inr (by assumption) | exact Or.inr (by simp) | exact Or.inr (by omega) | exact Or.inr (by dsimp only; omega))
    replace Bo := S9.blk
    refine WpL_nil (Wp_ret ?_)
    refine fin_agg Tryz.results24 (vs := [(.int .i64 R.kind), (.slice ka R.set.length kc), (.slice kaa R.args.length kac), (.int .i64 R.mn), (.int .i64 R.mx), (.bool R.neg)]) (b := bo) rfl agg25 siz25 rfl (Bo.cells rfl) ?_
    refine ⟨_, rfl, ?_, E⟩
    rw [hrev, revA_ne hk]
    exact ReIn.mono (by rintro y ⟨h | h, _⟩; exact .inl h; exact .inr (by omega)) _ (ReIn.of (set := R.set) (args := R.args) hsN hkl (hrows.res hr6))
end Go.Proofs
namespace Go.Proofs
open Go Go.Eng
set_option maxRecDepth 100000
theorem map_stepE {be : Nat} {S D : Nat → Prop} {base n1 : Nat} {w w1 w2 : World} {v v' : Value} {ts : List Re} {rows : List (List Value)} {x : Re} {us : List Value}
  (hR : RowsIn (fun b => S b ∨ D b) w ts rows) (hE : Chg (fun y => y = be) w w1) (hbe : ∀ b, S b ∨ D b → ¬ b = be) (hn1 : n1 = w.heap.size) (hS : ∀ b, S b → b < base) (hD : ∀ b, D b → base ≤ b ∧ b < w.heap.size) (hv : ∀ q, v.ownBlock = some q → ¬ D q ∧ (base ≤ q ∧ q < n1))
  (hx : ReIn (fun b => S b ∨ n1 ≤ b) w1 x us) (C : Chg (fun y => v.ownBlock = some y) w1 w2) (hv' : ∀ q, v'.ownBlock = some q → v.ownBlock = some q ∨ w1.heap.size ≤ q) (hb : base ≤ n1) :
  RowsIn (fun b => S b ∨ (D b ∨ (n1 ≤ b ∧ b < w1.heap.size))) w2 (ts ++ [x]) (rows ++ [us]) ∧ (∀ b, (D b ∨ (n1 ≤ b ∧ b < w1.heap.size)) → base ≤ b ∧ b < w2.heap.size) ∧ (∀ q, v'.ownBlock = some q → ¬ (D q ∨ (n1 ≤ q ∧ q < w1.heap.size))) := by
 have hs := C.size
 have hs1 := hE.size
 refine ⟨RowsIn.append (RowsIn.single ?_) ?_, ?_, ?_⟩
 ·refine ReIn.mono (S := fun b => (S b ∨ n1 ≤ b) ∧ b < w1.heap.size) ?_ _ (ReIn.chg C ?_ _ (ReIn.lt _ hx))
  ·rintro b ⟨h | h, h2⟩
   ·exact .inl h
   ·exact .inr (.inr ⟨h, h2⟩)
  ·rintro b ⟨h | h, h2⟩ hm
   ·have := (hv b hm).2; have := hS b h; omega
   ·have := (hv b hm).2; omega
 ·refine RowsIn.mono (S := fun b => S b ∨ D b) (fun b hb => hb.imp id .inl) (RowsIn.chg C ?_ (RowsIn.chg hE hbe hR))
  rintro b (h | h) hm
  ·have := (hv b hm).2; have := hS b h; omega
  ·exact (hv b hm).1 h
 ·rintro b (h | h)
  ·have := hD b h; omega
  ·omega
 ·intro q hq
  rcases hv' q hq with h | h
  ·rintro (h2 | h2)
   ·exact (hv q h).1 h2
   ·have := (hv q h).2; omega
  ·rintro (h2 | h2)
   ·have := hD q h2; omega
   ·omega
set_option maxHeartbeats 2000000 in
theorem mappedE_c (h : Re → Int → Int) (be : Nat) (w0 : World) (S : Nat → Prop) (t : Re) (vs : List Value) (fv : Value) (g : Re → Re) (ht : ReIn S w0 t vs) (hS : ∀ b, S b → b < w0.heap.size) (hM : t.size ≤ 1000000) (e0 : Int) (hbe : ¬ S be) (hBe : Blk w0 be #[.int .i64 e0] 28)
  (hf : ∀ (w : World) (x : Re) (xs : List Value) (e : Int), Chg (fun y => y = be) w0 w → x ∈ t.args → ReIn S w x xs → Blk w be #[.int .i64 e] 28 → CallV Tryz.prog fv #[.agg xs.toArray] w fun r w' => ∃ us, r = .agg us.toArray ∧ ReIn (fun b => S b ∨ w.heap.size ≤ b) w' (g x) us ∧ Chg (fun y => y = be) w w' ∧ Blk w' be #[.int .i64 (h x e)] 28) :
  Ret Tryz.prog 56 #[.agg vs.toArray, fv] w0 fun v w => ∃ us, v = .agg us.toArray ∧ ReIn (fun b => S b ∨ w0.heap.size ≤ b) w (.mk t.kind t.set (t.args.map g) t.mn t.mx t.neg) us ∧ Chg (fun y => y = be) w0 w ∧ Blk w be #[.int .i64 (t.args.foldl (fun e x => h x e) e0)] 28 := by
 have ht0 := ht
 obtain ⟨sa, sc, aa, ac, rfl, hset, hac, hta⟩ := ht.form
 have hal := len_sizes t.args
 have hse := t.size_eq
 have hbl := hBe.lt
 refine Ret_of Tryz.func56 rfl Tryz.ntmps56 (Nat.le_of_ble_eq_true rfl) ?_
 have E : Chg (fun y => y = be) w0 w0 := Chg.refl _ _
 refine Wp_seq_region ?_
 refine s_box (v := (.agg (R6 t sa sc aa ac))) (c := (R6 t sa sc aa ac)) (by decide) rfl rfl ?_
 intro br wr Nr
 have Fr := Nr.ge E
 have Or_be := Nr.lt hBe
 replace hBe := Nr.keep hBe
 replace E := E.ext Nr.ext
 have Br := Nr.blk
 refine s_alloc (c := #[(I6 0), (.slice none 0 0), (.slice none 0 0), (I6 0), (I6 0), (.bool false)]) (by decide) zer25 rfl ?_
 intro bo wo No
 have Fo := No.ge E
 have Oo_be := No.lt hBe
 have Oo_br := No.lt Br
 replace hBe := No.keep hBe
 replace Br := No.keep Br
 replace E := E.ext No.ext
 have Bo := No.blk
 refine WpL_nil (Wp_seq_region ?_)
 refine qA _ rfl ?_
 refine WpL_nil (Wp_seq (Wp_seq_region ?_))
 refine qF br 0 2 rfl Tryz.underlying25 rfl siz23 rfl ?_
 refine qV (r_load rfl flat23 (Br.cell rfl)) ?_
 refine qV (r_lenSlice Tryz.underlying23 rfl) ?_
 refine qM _ rfl ?_
 refine WpL_nil (Wp_block ?_)
 obtain ⟨base, hbase⟩ : ∃ base, base = wo.heap.size := ⟨_, rfl⟩
 have hbo : bo < base := by rw [hbase]; exact Bo.lt
 have hbeb : be < base := by have := E.size; omega
 have hbr : br < base := by rw [hbase]; exact Br.lt
 have hSb : ∀ b, S b → b < base := fun b hb => by have := hS b hb; omega
 refine Wp_loop (fun nn_ σ W1 => ∃ (k : Nat) (la : Option Addr) (lc : Nat) (rows : List (List Value)) (D : Nat → Prop), (∃ jj_, σ = upds jj_ [(1, fv), (2, (P6 br 0)), (4, (P6 bo 0)), (9, (.slice aa t.args.length ac)), (10, (I6 (t.args.length : Int))), (11, (I6 (k : Int))), (5, (.slice la k lc))]) ∧ Chg (fun y => y = be) w0 W1 ∧ Blk W1 be (#[.int .i64 ((t.args.take k).foldl (fun e x => h x e) e0)]) 28 ∧ Blk W1 br (R6 t sa sc aa ac) 25 ∧ Blk W1 bo #[(I6 0), (.slice none 0 0), (.slice none 0 0), (I6 0), (I6 0), (.bool false)] 25 ∧ (k ≤ t.args.length) ∧ (W1.ownsRow base TRe 6 (.slice la k lc) k rows.flatten) ∧ (RowsIn (fun b => S b ∨ D b) W1 ((t.args.take k).map g) rows) ∧ (∀ b, D b → base ≤ b ∧ b < W1.heap.size) ∧ (∀ q, (Value.slice la k lc).ownBlock = some q → ¬ D q) ∧ (base ≤ W1.heap.size) ∧ nn_ = t.args.length - k) (n := t.args.length - 0) ?_ ?_
 ·exact ⟨0, none, 0, [], (fun _ => False), Fits.out ⟨rfl, rfl, rfl, rfl, rfl, rfl, rfl, trivial⟩, E, hBe, Br, Bo, Nat.zero_le _, World.ownsRow_nil _ _ _ _, rfl, (fun b f => f.elim), (by simp [Value.ownBlock]), (by omega), rfl⟩
 ·clear E hBe Br Bo
  rintro _ _ W1 ⟨k, la, lc, rows, D, ⟨j1, rfl⟩, E, hBe, Br, Bo, hk, hown, hR, hD, hv, hbs, rfl⟩
  refine Wp_seq_region ?_
  refine qV (r_lss rfl rfl) ?_
  refine WpL_nil (Wp_seq ?_)
  refine Wp_cond rfl (fun hlt => ?_) (fun hlt => ?_)
  ·have khlt := hlt
   replace hlt := of_decide_eq_true hlt
   obtain ⟨x, hx⟩ := get_of_lt (l := t.args) (i := k) (by omega)
   obtain ⟨b, o, hSb1, rfl, hxr⟩ := hta.resolve_left (fun h => by rw [h] at hx; simp at hx)
   obtain ⟨xs, hcx, hrx⟩ := ResIn.get hxr hx
   have hrx0 := hrx
   obtain ⟨xsa, xsc, xaa, xac, rfl, _, _, _⟩ := hrx.form
   have hxm : x ∈ t.args := List.mem_of_getElem? hx
   obtain ⟨wk, hwk⟩ : ∃ wk, wk = (W1) := ⟨_, rfl⟩
   have hlt3 := hown.lt
   have hbs0 := hbs
   refine Wp_skip (thn_normal (Wp_seq (Wp_block (Wp_seq_region ?_))))
   refine qV (r_indexSlice (b := b) (o := o) (len := t.args.length) (cap := ac) (i := k) (o' := o + k * 6) rfl rfl rfl Tryz.underlying23 siz25 (by omega) (by omega)) ?_
   refine qV (r_loadAgg rfl agg25 siz25 rfl (hcx.chg E (fun h => hbe (h ▸ hSb1)))) ?_
   refine s_allocStore (v := (.agg (R6 x xsa xsc xaa xac))) (c := (R6 x xsa xsc xaa xac)) (n := 6) (by decide) zer25 rfl siz25 rfl rfl rfl (by simp [Value.oneCell']) ?_
   intro bs ws Ns
   have Fs := Ns.ge E
   have Os_be := Ns.lt hBe
   have Os_br := Ns.lt Br
   have Os_bo := Ns.lt Bo
   replace hBe := Ns.keep hBe
   replace Br := Ns.keep Br
   replace Bo := Ns.keep Bo
   replace hown := own_ext hown Ns.ext
   replace hR := RowsIn.ext Ns.ext hR
   replace hbs := Nat.le_trans hbs Ns.ext.size
   replace E := E.ext Ns.ext
   have Bs := Ns.blk
   refine WpL_nil (Wp_region ?_)
   refine qM _ rfl ?_
   refine qM _ rfl ?_
   refine qV (r_loadAgg (vs := [(I6 x.kind), (.slice xsa x.set.length xsc), (.slice xaa x.args.length xac), (I6 x.mn), (I6 x.mx), (.bool x.neg)]) rfl agg25 siz25 rfl (Bs.cells rfl)) ?_
   obtain ⟨n1, hn1⟩ : ∃ n1, n1 = ws.heap.size := ⟨_, rfl⟩
   have hD1 : ∀ b, D b → base ≤ b ∧ b < ws.heap.size := fun b hb => by have := hD b hb; have := Ns.ext.size; omega
   have hRs := hR
   refine WpL_callV (by decide) rfl rfl (hf _ x _ _ E hxm (ReIn.chg E (fun y hy h => hbe (h ▸ hy)) x hrx0) hBe) ?_
   rintro _ w9 ⟨us, rfl, hus, X9, hB9⟩
   replace Br := X9.keep (by omega) Br
   replace Bo := X9.keep (by omega) Bo
   replace Bs := X9.keep (by omega) Bs
   replace E := E.step X9 (by intro x hx hm; omega)
   replace hown := own_chg hown X9 (fun q hq hm => by have h2 : q = be := hm; have := hown.lt q hq; omega)
   replace hbs := Nat.le_trans hbs X9.size
   rw [← hn1] at hus
   have hus0 := hus
   obtain ⟨usa, usc, uaa, uac, rfl, _, _, _⟩ := hus.form
   have Y9 : Chg (fun y => y = be) ws (w9) := X9
   refine s_buildSlice (ps := [(0, (.agg #[(I6 ((g x).kind)), (.slice usa ((g x).set.length) usc), (.slice uaa ((g x).args.length) uac), (I6 ((g x).mn)), (I6 ((g x).mx)), (.bool ((g x).neg))]))]) (c := #[(I6 ((g x).kind)), (.slice usa ((g x).set.length) usc), (.slice uaa ((g x).args.length) uac), (I6 ((g x).mn)), (I6 ((g x).mx)), (.bool ((g x).neg))]) (by decide) rfl Tryz.underlying23 siz25 zer25 (by decide) (by decide) (by kernel_rfl) ?_
   intro bq wq Nq
   have Fq := Nq.ge E
   have Oq_br := Nq.lt Br
   have Oq_bo := Nq.lt Bo
   have Oq_bs := Nq.lt Bs
   have Oq_be := Nq.lt hB9
   replace Br := Nq.keep Br
   replace Bo := Nq.keep Bo
   replace Bs := Nq.keep Bs
   replace hB9 := Nq.keep hB9
   replace hown := own_ext hown Nq.ext
   replace hbs := Nat.le_trans hbs Nq.ext.size
   replace Y9 := Y9.step Nq.ext (fun _ _ f => f.elim)
   replace hus0 := ReIn.ext Nq.ext _ hus0
   replace E := E.ext Nq.ext
   have Bq := Nq.blk
   refine s_append (base := base) (n := k) (m := 1) (xs := rows.flatten) (news := [(I6 ((g x).kind)), (.slice usa ((g x).set.length) usc), (.slice uaa ((g x).args.length) uac), (I6 ((g x).mn)), (I6 ((g x).mx)), (.bool ((g x).neg))]) (size := 6) (bytes := 80) (v := (.slice la k lc)) (by decide) Tryz.underlying23 siz25 byt25 zer25 rfl (by decide) rfl hown rfl (rfl) (Bq.cells rfl) (by simp [Value.oneCell']) (by unfold maxLen; omega) (by omega) (hbs) ?_
   intro v9 w29 Ov9 Cv9 Dv9
   replace Br := Cv9.keep (fun h => by have := (hown.lt _ h).1; omega) Br
   replace Bo := Cv9.keep (fun h => by have := (hown.lt _ h).1; omega) Bo
   replace hB9 := Cv9.keep (fun h => by have := (hown.lt _ h).1; omega) hB9
   replace E := E.step Cv9 (fun x hx h => absurd (hown.lt x h).1 (by omega))
   obtain ⟨la2, lc2, rfl⟩ := own_form Ov9
   have hstep := map_stepE (base := base) (n1 := n1) hRs Y9 (fun y hy h => by rcases hy with g | g; exact hbe (h ▸ g); have := hD1 y g; omega) hn1 hSb hD1 (fun q hq => ⟨hv q hq, by have := hlt3 q hq; have := Ns.ext.size; omega⟩) hus0 Cv9 Dv9 (by have := Ns.ext.size; omega)
   have hB10 : Blk (w29) be #[.int .i64 ((t.args.take (k + 1)).foldl (fun e x => h x e) e0)] 28 := by rw [List.take_add_one, hx, List.foldl_append]; exact hB9
   refine qA _ rfl ?_
   refine WpL_nil (inB_normal (thn_normal (Wp_region ?_)))
   refine qV (r_add rfl rfl (wI64 (by omega))) ?_
   refine qM _ rfl ?_
   refine WpL_nil (thn_normal ?_)
   exact ⟨t.args.length - (k + 1), by omega, k + 1, la2, lc2, rows ++ [[.int .i64 (g x).kind, .slice usa (g x).set.length usc, .slice uaa (g x).args.length uac, .int .i64 (g x).mn, .int .i64 (g x).mx, .bool (g x).neg]], (fun b => D b ∨ (n1 ≤ b ∧ b < wq.heap.size)), Fits.out ⟨rfl, rfl, rfl, rfl, rfl, rfl, rfl, trivial⟩, E, hB10, Br, Bo, (by omega), (by simpa using Ov9), (by rw [List.take_add_one, hx, List.map_append]; exact hstep.1), hstep.2.1, hstep.2.2, Nat.le_trans hbs Cv9.size, rfl⟩
  ·have khlt := hlt
   replace hlt := of_decide_eq_false hlt
   have hkk : k = t.args.length := by omega
   subst hkk
   rw [List.take_length] at hR
   obtain ⟨hcl, hcells⟩ := own_res hown hR (by simp)
   have hset9 : SlIn (fun y => S y ∨ base ≤ y) (W1) 2 (.slice sa t.set.length sc) (t.set.map spanV) := (SlIn.chg hset E (fun y hy h => hbe (h ▸ hy))).mono (fun y hy => Or.inl hy)
   have hC9 : Chg (fun y => y = bo ∨ y = br) (W1) (W1) := Chg.refl _ _
   refine Wp_exit (thn_exit (thn_exit (inB_here (thn_normal (Wp_seq_region ?_)))))
   refine qM _ rfl ?_
   refine qF br 0 2 rfl Tryz.underlying25 rfl siz23 rfl ?_
   refine s_store (b := br) (o := 2) (c' := (R6 t sa sc la lc)) (v := (.slice la t.args.length lc)) rfl rfl rfl siz23 Br (by simp) rfl ?_
   intro w3 S3
   replace hC9 := hC9.step S3.chg (fun y _ h => by first | exact .inl h | exact .inr h)
   replace hBe := S3.keep (by omega) hBe
   replace Bo := S3.keep (by omega) Bo
   replace E := S3.step E (by first | exact Or.inl (by omega) | exact Or.inr rfl | exact Or.inr (by assumption) | exact Or.inr (by simp) | exact Or.inr (by omega) | exact Or.inr (by dsimp only; omega))
   replace Br := S3.blk
   refine WpL_nil (Wp_seq_region ?_)
   refine qV (r_loadAgg (vs := [(I6 t.kind), (.slice sa t.set.length sc), (.slice la t.args.length lc), (I6 t.mn), (I6 t.mx), (.bool t.neg)]) rfl agg25 siz25 rfl (Br.cells rfl)) ?_
   refine s_storeAgg (b := bo) (o := 0) (c' := (R6 t sa sc la lc)) rfl rfl (by simp [Value.oneCell']) siz25 rfl Bo (by first | (simp; done) | exact Nat.le_of_ble_eq_true rfl) rfl ?_
   intro w4 S4
   replace hC9 := hC9.step S4.chg (fun y _ h => by first | exact .inl h | exact .inr h)
   replace hBe := S4.keep (by omega) hBe
   replace Br := S4.keep (by omega) Br
   replace E := S4.step E (by first | exact Or.inl (by omega) | exact Or.inr rfl | exact Or.inr (by assumption) | exact Or.inr (by simp) | exact Or.inr (by omega) | exact Or.inr (by dsimp only; omega))
   replace Bo := S4.blk
   refine WpL_nil (Wp_ret ?_)
   refine fin_agg Tryz.results56 (vs := [(.int .i64 t.kind), (.slice sa t.set.length sc), (.slice la t.args.length lc), (.int .i64 t.mn), (.int .i64 t.mx), (.bool t.neg)]) (b := bo) rfl agg25 siz25 rfl (Bo.cells rfl) ?_
   refine ⟨_, rfl, ?_, E, by rw [List.take_length] at hBe; exact hBe⟩
   have hlm : (t.args.map g).length = t.args.length := by simp
   have hne : ∀ y, (S y ∨ base ≤ y) → ¬ (y = bo ∨ y = br) := by
    rintro y (h | h) (h2 | h2)
    ·have := hSb y h; have := hS y h; omega
    ·have := hSb y h; have := hS y h; omega
    ·omega
    ·omega
   refine re_cong (by simp) (ReIn.mono (S := fun y => S y ∨ base ≤ y) (fun y hy => hy.imp id (fun h => by omega)) _ (ReIn.chg hC9 hne _ (ReIn.of (set := t.set) (args := t.args.map g) hset9 (by rw [hlm]; exact hcl) ?_)))
   rcases hcells with h | ⟨gb, h1, h2, h3, h4⟩
   ·exact .inl h
   ·exact .inr ⟨gb, 0, .inr h1, h3, resin_of fun i u hu => by obtain ⟨us, h5, h6⟩ := h4 i u hu; exact ⟨us, h5, ReIn.mono (fun y hy => hy.imp id (fun h => (hD y h).1)) u h6⟩⟩
end Go.Proofs
namespace Go.Proofs
open Go Go.Eng Go.Sort
set_option maxRecDepth 100000
theorem r_indexVi {P : Program} {σ : Env} {w : World} {dst : Option Tmp} {ty : TypeId} {pos : String} {af : Array Edge} {g : Option (Nat × Bool)} {x y : Operand} {t e len i : Nat} {cs : Array Value} {v : Value} {k : IntKind} {a : Int} (hu : P.underlying t = some (.array len e)) (hs : Siz P e 1) (hg : flatB P e = true) (hx : ev σ x = .agg cs) (hy : ev σ y = .int k a) (ha : a = ((i : Nat) : Int)) (hi : i < len) (hv : cs[i]? = some v) :
  (execOp (ev σ) ⟨dst, .index t x y, ty, pos, af, g⟩).run P w = .ok (.value v) w := by
 subst ha
 simp [execOp, hx, hy, Instr.index, asIntOf, run_underlying hu, hs.run, hi, part, flatB.run hg, hv]
def pj (p : Sp) (j : Nat) : Int := if j = 0 then p.1 else p.2
def one9 (a : List Sp) (q : Int) : List Sp := if inS a q then pts (orbitL q) else []
def rcloN (a : List Sp) (p : Sp) (j : Nat) : List Sp := (List.range j).flatMap fun i => one9 a (pj p i)
def rcloP (a : List Sp) (p : Sp) : List Sp := rcloN a p 2
def rclo (a : List Sp) : List Sp := fpL.flatMap (rcloP a)
theorem rcloN_succ (a : List Sp) (p : Sp) (j : Nat) : rcloN a p (j + 1) = rcloN a p j ++ one9 a (pj p j) := by
 unfold rcloN; rw [List.range_succ, List.flatMap_append]; simp
theorem one9_len (a : List Sp) (q : Int) : (one9 a q).length ≤ 3 := by
 unfold one9
 split
 ·simp only [pts, List.length_map]; exact orb_len q
 ·simp
theorem rcloN_len (a : List Sp) (p : Sp) : ∀ j, (rcloN a p j).length ≤ 3 * j
  | 0 => by simp [rcloN]
  | j + 1 => by
    have h1 := rcloN_len a p j
    have h2 := one9_len a (pj p j)
    rw [rcloN_succ, List.length_append]; omega
theorem flat_lenS (a : List Sp) (l : List Sp) : (l.flatMap (rcloP a)).length ≤ 6 * l.length := by
  induction l with
  | nil => simp
  | cons p r ih =>
    have h1 := rcloN_len a p 2
    unfold rcloP at ih ⊢
    rw [List.flatMap_cons, List.length_append, List.length_cons]; omega
theorem mem_rclo {a : List Sp} {s : Sp} : s ∈ rclo a ↔ ∃ q, (∃ p ∈ fpL, q = p.1 ∨ q = p.2) ∧ inS a q = true ∧ s.1 ∈ orbitL q ∧ s.2 = s.1 := by
 unfold rclo
 rw [List.mem_flatMap]
 have h9 : ∀ q, s ∈ one9 a q ↔ inS a q = true ∧ s.1 ∈ orbitL q ∧ s.2 = s.1 := fun q => by
  unfold one9
  split
  ·rename_i h; rw [mem_pts]; simp [h]
  ·rename_i h; simp [h]
 have h8 : ∀ p, s ∈ rcloP a p ↔ s ∈ one9 a p.1 ∨ s ∈ one9 a p.2 := fun p => by
  unfold rcloP
  rw [rcloN_succ, rcloN_succ]
  simp [rcloN, pj]
 constructor
 ·rintro ⟨p, hp, h⟩
  rcases (h8 p).1 h with h | h
  ·exact ⟨p.1, ⟨p, hp, .inl rfl⟩, (h9 _).1 h⟩
  ·exact ⟨p.2, ⟨p, hp, .inr rfl⟩, (h9 _).1 h⟩
 ·rintro ⟨q, ⟨p, hp, rfl | rfl⟩, h⟩
  ·exact ⟨p, hp, (h8 p).2 (.inl ((h9 _).2 h))⟩
  ·exact ⟨p, hp, (h8 p).2 (.inr ((h9 _).2 h))⟩
theorem rclose_mem {a : List Sp} (ca : Canon a) {r : Int} : inS (a ++ rclo a) r = inS (closeAll a) r := by
 rw [Bool.eq_iff_iff, inS_close, inS_append, Bool.or_eq_true]
 constructor
 ·rintro (h | h)
  ·exact .inl h
  ·obtain ⟨s, hs, h1, h2⟩ := inS_iff.1 h
   obtain ⟨q, ⟨p, hp, hq⟩, h3, h4, h5⟩ := mem_rclo.1 hs
   have hr : s.1 = r := by omega
   have hb := fp_lt hp
   have hq2 : 0 ≤ q ∧ q < 1000 := by rcases hq with rfl | rfl <;> omega
   obtain ⟨n, rfl⟩ := Int.eq_ofNat_of_zero_le hq2.1
   exact .inr ⟨n, by omega, h3, hr ▸ h4⟩
 ·rintro (h | ⟨n, hn, h1, h2⟩)
  ·exact .inl h
  ·by_cases hp : ∀ p ∈ fpL, ((n : Nat) : Int) ≠ p.1 ∧ ((n : Nat) : Int) ≠ p.2
   ·rw [orb_pair hp, List.mem_singleton] at h2
    left; rw [h2]; exact h1
   ·right
    have : ∃ p ∈ fpL, ((n : Nat) : Int) = p.1 ∨ ((n : Nat) : Int) = p.2 := by
     apply Classical.byContradiction
     intro hn
     exact hp fun p hq => ⟨fun e => hn ⟨p, hq, .inl e⟩, fun e => hn ⟨p, hq, .inr e⟩⟩
    exact inS_iff.2 ⟨(r, r), mem_rclo.2 ⟨_, this, h1, h2, rfl⟩, Int.le_refl _, Int.le_refl _⟩
theorem rclose_ok {a : List Sp} (ca : Canon a) : ∀ s ∈ a ++ rclo a, vSp s := by
 intro s hs
 rcases List.mem_append.1 hs with hs | hs
 ·exact ca.ok s hs
 ·obtain ⟨q, ⟨p, hp, hq⟩, h3, h4, h5⟩ := mem_rclo.1 hs
  have hb := fp_lt hp
  have hq2 : 0 ≤ q ∧ q < 1000 := by rcases hq with rfl | rfl <;> omega
  have h6 := orb_same hq2.1 h4
  have := h6.2.2.1 hq2.2
  unfold vSp; omega
set_option maxHeartbeats 8000000 in
theorem rclose_n (w0 : World) (u : Value) (a : List Sp) (ha : SpansAt w0 u a) : Ret Tryz.prog 58 #[u] w0 fun r w => (∃ out e, closeP a out e ∧ SetRN w0.heap.size w r out e) ∧ Ext w0 w := by
 obtain ⟨aa, ac, rfl⟩ := SlAt.form ha
 simp only [List.length_map] at ha ⊢
 have hfp := fp_len
 obtain ⟨fp, hfpe⟩ : ∃ fp, fp = fpL := ⟨_, rfl⟩
 rw [← hfpe] at hfp
 obtain ⟨base, hbase⟩ : ∃ base, base = w0.heap.size := ⟨_, rfl⟩
 refine Ret_of Tryz.func58 rfl Tryz.ntmps58 (Nat.le_of_ble_eq_true rfl) ?_
 have E : Chg none1 w0 w0 := Chg.refl _ _
 refine Wp_seq_region ?_
 refine qA _ rfl ?_
 refine qA _ rfl ?_
 refine WpL_nil (Wp_seq (Wp_seq_region ?_))
 refine qM _ rfl ?_
 refine WpL_enter rfl rfl (by decide) (r_callF Tryz.func59 nm59 bd59 rfl) (cset_c _ _ a ha) ?_
 rintro _ w9 ⟨rfl, X9⟩
 replace E := E.ext X9
 refine qA _ rfl ?_
 refine WpL_nil (Wp_seq_region ?_)
 refine qM _ rfl ?_
 refine qV (r_neq rfl rfl) ?_
 refine WpL_nil ?_
 refine Wp_cond rfl (fun hc0 => ?_) (fun hc0 => ?_)
 ·have khc0 := hc0
  replace hc0 := of_decide_eq_true hc0
  refine Wp_seq_region ?_
  refine qM _ rfl ?_
  refine qA _ rfl ?_
  refine qA _ rfl ?_
  refine WpL_nil (Wp_ret (thn_ret ?_))
  refine fin_tmp2 Tryz.results58 (v := (.slice none 0 0)) (v' := (.int .i64 (checkE a))) rfl rfl ?_
  exact ⟨⟨[], _, .inl ⟨hc0, rfl, rfl⟩, none, 0, rfl, sin_nil _ _⟩, E⟩
 ·have khc0 := hc0
  replace hc0 := of_decide_eq_false hc0
  have hc1 : checkE a = 0 := by omega
  obtain ⟨ca, la⟩ := checkE_canon hc1
  have hs0 := E.size
  refine Wp_skip (thn_normal (Wp_seq_region ?_))
  refine s_build0 (by decide) Tryz.underlying22 siz67 ?_
  intro bq wq Nq
  have Fq := Nq.ge E
  replace E := E.ext Nq.ext
  have Bq := Nq.blk
  refine qM _ rfl ?_
  have hown0 := own_empty (base := base) (size := 2) Bq (by omega)
  refine s_appendAny (base := base) (n := 0) (m := a.length) (xs := []) (news := (a.map spanV).flatten) (size := 2) (bytes := 16) (v := (.slice (some ⟨bq, 0, none⟩) 0 0)) (by decide) Tryz.underlying22 siz67 byt67 zer67 rfl (by decide) rfl hown0 rfl (spans_six a) (spans_any (ha.ext E)) (spans_one a) (by unfold maxLen; omega) (by omega) (by have := Nq.ext.size; omega) ?_
  intro v8 w8 Ov8 Cv8 Dv8
  replace E := E.step Cv8 (fun x hx h => absurd (hown0.lt x h).1 (by omega))
  obtain ⟨xa, xc, rfl⟩ := own_form Ov8
  have hO : w8.ownsRow base TSp 2 (.slice xa (0 + a.length) xc) (0 + a.length) (a.map spanV).flatten := by simpa using Ov8
  obtain ⟨n8, hn8e⟩ : ∃ n, n = w8.heap.size := ⟨_, rfl⟩
  refine qA _ rfl ?_
  refine WpL_nil (Wp_seq (Wp_seq_region ?_))
  refine WpL_enter rfl rfl (by decide) (r_callF Tryz.func93 nm93 bd93 rfl) ((fpairs_c _).mono (fun v w h => (by rw [← hfpe, ← hn8e] at h; exact h : ((∃ a c, v = .slice a fp.length c) ∧ SlIn (fun b => n8 ≤ b ∧ b < w.heap.size) w 2 v (fp.map spanV)) ∧ Ext _ w))) ?_
  rintro _ w7 ⟨⟨⟨fa, fc, rfl⟩, hF⟩, X7⟩
  replace E := E.ext X7
  obtain ⟨n9, hn9⟩ : ∃ n, n = w7.heap.size := ⟨_, rfl⟩
  rw [← hn9] at hF
  refine qV (r_lenSlice Tryz.underlying47 rfl) ?_
  refine qM _ rfl ?_
  refine WpL_nil (Wp_block ?_)
  refine Wp_loop (fun nn_ σ W2 => ∃ (i : Nat) (la1 : Option Addr) (lc1 : Nat) (m1 : Nat), (∃ jj_, σ = upds jj_ [(0, (.slice aa a.length ac)), (20, (.slice fa fp.length fc)), (21, (I6 (fp.length : Int))), (22, (I6 (i : Int))), (5, (.slice la1 m1 lc1))]) ∧ Chg none1 w0 W2 ∧ (i ≤ fp.length) ∧ (m1 = (a ++ (fp.take i).flatMap (rcloP a)).length) ∧ (W2.ownsRow base TSp 2 (.slice la1 m1 lc1) m1 ((a ++ (fp.take i).flatMap (rcloP a)).map spanV).flatten) ∧ (SlIn (fun b => n8 ≤ b ∧ b < n9) W2 2 (.slice fa fp.length fc) (fp.map spanV)) ∧ (n9 ≤ W2.heap.size) ∧ (∀ x, (Value.slice la1 m1 lc1).ownBlock = some x → x < n8 ∨ n9 ≤ x) ∧ nn_ = fp.length - i) (n := fp.length - 0) ?_ ?_
  ·exact ⟨0, xa, xc, 0 + a.length, Fits.out ⟨rfl, rfl, rfl, rfl, rfl, trivial⟩, E, Nat.zero_le _, (by simp), (by simpa using own_ext hO X7), hF, (by omega), (fun x hx => .inl (by rw [hn8e]; exact (hO.lt x hx).2)), rfl⟩
  ·clear E
   rintro _ _ W2 ⟨i, la1, lc1, m1, ⟨j2, rfl⟩, E, hi, hm1, hown1, hF1, hn91, hap1, rfl⟩
   refine Wp_seq_region ?_
   refine qV (r_lss rfl rfl) ?_
   refine WpL_nil (Wp_seq ?_)
   refine Wp_cond rfl (fun hlt => ?_) (fun hlt => ?_)
   ·have khlt := hlt
    replace hlt := of_decide_eq_true hlt
    obtain ⟨p, hp⟩ := get_of_lt (l := fp) (i := i) (by omega)
    have hpf : p ∈ fpL := by rw [← hfpe]; exact List.mem_of_getElem? hp
    have hpb := fp_lt hpf
    have hfl := flat_lenS a (fp.take i)
    rw [List.length_take] at hfl
    obtain ⟨b, o, hab, hcl⟩ := spans_cells (SlIn.at hF1 : SpansAt _ _ fp) (by omega)
    subst hab
    have hts : (fp.take (i + 1)).flatMap (rcloP a) = (fp.take i).flatMap (rcloP a) ++ rcloP a p := by rw [take_snoc hp, List.flatMap_append]; simp
    rw [List.length_append] at hm1
    refine Wp_skip (thn_normal (Wp_seq (Wp_block (Wp_seq_region ?_))))
    refine qV (r_indexSlice (b := b) (o := o) (len := fp.length) (cap := fc) (i := i) (o' := o + i * 2) rfl rfl rfl Tryz.underlying47 siz57 (by omega) (by omega)) ?_
    refine qV (r_loadAgg rfl agg57 siz57 rfl (hcl i p hp)) ?_
    refine s_allocStore (v := (.agg #[(I6 p.1), (I6 p.2)])) (c := #[(I6 p.1), (I6 p.2)]) (n := 2) (by decide) zer57 rfl siz57 rfl rfl rfl (by simp [Value.oneCell']) ?_
    intro bt wt Nt
    have Ft := Nt.ge E
    replace hown1 := own_ext hown1 Nt.ext
    replace hF1 := hF1.chg Nt.ext (fun _ _ f => f)
    replace hn91 := Nat.le_trans hn91 Nt.ext.size
    replace E := E.ext Nt.ext
    have Bt := Nt.blk
    refine WpL_nil (Wp_seq_region ?_)
    refine qV (r_loadAgg (vs := [(I6 p.1), (I6 p.2)]) rfl agg57 siz57 rfl (Bt.cells rfl)) ?_
    refine qM _ rfl ?_
    refine WpL_nil (Wp_block ?_)
    refine Wp_loop (fun nn_ σ W4 => ∃ (j : Nat) (la2 : Option Addr) (lc2 : Nat) (m2 : Nat), (∃ jj_, σ = upds jj_ [(0, (.slice aa a.length ac)), (20, (.slice (some ⟨b, o, none⟩) fp.length fc)), (21, (I6 (fp.length : Int))), (22, (I6 (i : Int))), (26, (.agg #[(I6 p.1), (I6 p.2)])), (27, (I6 (j : Int))), (5, (.slice la2 m2 lc2))]) ∧ Chg none1 w0 W4 ∧ (j ≤ 2) ∧ (m2 = (a ++ (fp.take i).flatMap (rcloP a) ++ rcloN a p j).length) ∧ (W4.ownsRow base TSp 2 (.slice la2 m2 lc2) m2 ((a ++ (fp.take i).flatMap (rcloP a) ++ rcloN a p j).map spanV).flatten) ∧ (SlIn (fun b => n8 ≤ b ∧ b < n9) W4 2 (.slice (some ⟨b, o, none⟩) fp.length fc) (fp.map spanV)) ∧ (n9 ≤ W4.heap.size) ∧ (∀ x, (Value.slice la2 m2 lc2).ownBlock = some x → x < n8 ∨ n9 ≤ x) ∧ nn_ = 2 - j) (n := 2 - 0) ?_ ?_
    ·exact ⟨0, la1, lc1, m1, Fits.out ⟨rfl, rfl, rfl, rfl, rfl, rfl, rfl, trivial⟩, E, (by omega), (by simpa [rcloN] using hm1), (by simpa [rcloN] using hown1), hF1, hn91, hap1, rfl⟩
    ·clear E
     rintro _ _ W4 ⟨j, la2, lc2, m2, ⟨j4, rfl⟩, E, hj, hm2, hown2, hF2, hn92, hap2, rfl⟩
     refine Wp_seq_region ?_
     refine qV (r_lss rfl rfl) ?_
     refine WpL_nil (Wp_seq ?_)
     refine Wp_cond rfl (fun hlt2 => ?_) (fun hlt2 => ?_)
     ·have khlt2 := hlt2
      replace hlt2 := of_decide_eq_true hlt2
      have hns := rcloN_succ a p j
      have hnl := rcloN_len a p j
      rw [List.length_append, List.length_append] at hm2
      obtain ⟨q, hq⟩ : ∃ q, q = pj p j := ⟨_, rfl⟩
      have hqb : 0 ≤ q ∧ q ≤ 1114111 := by rw [hq]; unfold pj; split <;> omega
      rw [← hq] at hns
      refine Wp_skip (thn_normal (Wp_seq (Wp_block (Wp_seq_region ?_))))
      refine qV (r_indexVi (i := j) (v := .int .i64 q) Tryz.underlying57 siz3 flat3 rfl rfl rfl (by omega) (by rw [hq]; rcases (show j = 0 ∨ j = 1 by omega) with rfl | rfl <;> rfl)) ?_
      refine qA _ rfl ?_
      refine WpL_nil (Wp_seq_region ?_)
      refine qM _ rfl ?_
      refine qM _ rfl ?_
      refine WpL_enter rfl rfl (by decide) (r_callF Tryz.func82 nm82 bd82 rfl) (inset_c _ _ a q (ha.ext E)) ?_
      rintro _ w6 ⟨rfl, X6⟩
      replace hown2 := own_ext hown2 X6
      replace hF2 := hF2.chg X6 (fun _ _ f => f)
      replace hn92 := Nat.le_trans hn92 X6.size
      replace E := E.ext X6
      refine WpL_nil ?_
      refine Wp_cond rfl (fun hin => ?_) (fun hin => ?_)
      ·have khin := hin
       have hone : one9 a q = pts (orbitL q) := by unfold one9; rw [if_pos hin]
       have hown6 := hown2
       obtain ⟨n6, hn6⟩ : ∃ n, n = w6.heap.size := ⟨_, rfl⟩
       obtain ⟨ob, hob⟩ : ∃ ob, ob = orbitL q := ⟨_, rfl⟩
       have hol := orb_len q
       rw [← hob] at hol hone
       refine Wp_seq_region ?_
       refine qM _ rfl ?_
       refine WpL_enter rfl rfl (by decide) (r_callF Tryz.func94 nm94 bd94 rfl) ((rorbit_c _ q).mono (fun v w h => (by rw [← hob, ← hn6] at h; exact h : IntsN n6 w v ob ∧ Ext _ w))) ?_
       rintro _ w5 ⟨⟨⟨oa, oc, rfl⟩, hor⟩, X5⟩
       replace hown2 := own_ext hown2 X5
       replace hF2 := hF2.chg X5 (fun _ _ f => f)
       replace hn92 := Nat.le_trans hn92 X5.size
       replace E := E.ext X5
       obtain ⟨n7, hn7⟩ : ∃ n, n = w5.heap.size := ⟨_, rfl⟩
       rw [← hn7] at hor
       refine qV (r_lenSlice Tryz.underlying46 rfl) ?_
       refine qM _ rfl ?_
       refine WpL_nil (Wp_block ?_)
       refine Wp_loop (fun nn_ σ W7 => ∃ (l : Nat) (la3 : Option Addr) (lc3 : Nat) (m3 : Nat), (∃ jj_, σ = upds jj_ [(0, (.slice aa a.length ac)), (20, (.slice (some ⟨b, o, none⟩) fp.length fc)), (21, (I6 (fp.length : Int))), (22, (I6 (i : Int))), (26, (.agg #[(I6 p.1), (I6 p.2)])), (27, (I6 (j : Int))), (34, (.slice oa ob.length oc)), (35, (I6 (ob.length : Int))), (36, (I6 (l : Int))), (5, (.slice la3 m3 lc3))]) ∧ Chg none1 w0 W7 ∧ (l ≤ ob.length) ∧ (m3 = m2 + l) ∧ (W7.ownsRow base TSp 2 (.slice la3 m3 lc3) m3 ((a ++ (fp.take i).flatMap (rcloP a) ++ rcloN a p j ++ pts (ob.take l)).map spanV).flatten) ∧ (SlIn (fun b => n8 ≤ b ∧ b < n9) W7 2 (.slice (some ⟨b, o, none⟩) fp.length fc) (fp.map spanV)) ∧ (n9 ≤ W7.heap.size) ∧ (∀ x, (Value.slice la3 m3 lc3).ownBlock = some x → (x < n8 ∨ n9 ≤ x) ∧ (x < n6 ∨ n7 ≤ x)) ∧ (SlIn (fun b => n6 ≤ b ∧ b < n7) W7 1 (.slice oa ob.length oc) (ob.map intV)) ∧ (n7 ≤ W7.heap.size) ∧ nn_ = ob.length - l) (n := ob.length - 0) ?_ ?_
       ·exact ⟨0, la2, lc2, m2, Fits.out ⟨rfl, rfl, rfl, rfl, rfl, rfl, rfl, rfl, rfl, rfl, trivial⟩, E, Nat.zero_le _, (by omega), (by simpa [pts] using hown2), hF2, hn92, (fun x hx => ⟨hap2 x hx, .inl (by rw [hn6]; exact (hown6.lt x hx).2)⟩), hor, (by omega), rfl⟩
       ·clear E
        rintro _ _ W7 ⟨l, la3, lc3, m3, ⟨j7, rfl⟩, E, hl, hm3, hown3, hF3, hn93, hap3, hor3, hn73, rfl⟩
        refine Wp_seq_region ?_
        refine qV (r_lss rfl rfl) ?_
        refine WpL_nil (Wp_seq ?_)
        refine Wp_cond rfl (fun hlt3 => ?_) (fun hlt3 => ?_)
        ·have khlt3 := hlt3
         replace hlt3 := of_decide_eq_true hlt3
         obtain ⟨x, hx⟩ := get_of_lt (l := ob) (i := l) (by omega)
         have hpt := pts_take hx
         obtain ⟨b9, o9, hab9, hcc⟩ := ints_cells (SlIn.at hor3 : IntsAt _ _ ob) (by omega)
         subst hab9
         refine Wp_skip (thn_normal (Wp_seq (Wp_block (Wp_seq_region ?_))))
         refine qV (r_indexSlice (b := b9) (o := o9) (len := ob.length) (cap := oc) (i := l) (o' := o9 + l) rfl rfl rfl Tryz.underlying46 siz3 (by omega) (by omega)) ?_
         refine qV (r_load rfl flat3 (hcc l x hx)) ?_
         refine qA _ rfl ?_
         refine WpL_nil (Wp_region ?_)
         refine qM _ rfl ?_
         refine qM _ rfl ?_
         refine qM _ rfl ?_
         refine qV (r_build (ps := [(0, (I6 x)), (1, (I6 x))]) (v := (.agg #[(I6 x), (I6 x)])) rfl (by kernel_rfl)) ?_
         refine s_buildSlice (ps := [(0, (.agg #[(I6 x), (I6 x)]))]) (c := #[(I6 x), (I6 x)]) (by decide) rfl Tryz.underlying22 siz67 zer67 (by decide) (by decide) (by kernel_rfl) ?_
         intro bz wz Nz
         have Fz := Nz.ge E
         replace hown3 := own_ext hown3 Nz.ext
         replace hF3 := hF3.chg Nz.ext (fun _ _ f => f)
         replace hn93 := Nat.le_trans hn93 Nz.ext.size
         replace hor3 := hor3.chg Nz.ext (fun _ _ f => f)
         replace hn73 := Nat.le_trans hn73 Nz.ext.size
         replace E := E.ext Nz.ext
         have Bz := Nz.blk
         refine s_append (base := base) (n := m3) (m := 1) (xs := ((a ++ (fp.take i).flatMap (rcloP a) ++ rcloN a p j ++ pts (ob.take l)).map spanV).flatten) (news := [(I6 x), (I6 x)]) (size := 2) (bytes := 16) (v := (.slice la3 m3 lc3)) (by decide) Tryz.underlying22 siz67 byt67 zer67 rfl (by decide) rfl hown3 rfl (rfl) (Bz.cells rfl) (by simp [Value.oneCell']) (by unfold maxLen; omega) (by omega) (by have := E.size; omega) ?_
         intro v4 w4 Ov4 Cv4 Dv4
         replace E := E.step Cv4 (fun x hx h => absurd (hown3.lt x h).1 (by omega))
         obtain ⟨la4, lc4, rfl⟩ := own_form Ov4
         refine qA _ rfl ?_
         refine WpL_nil (inB_normal (thn_normal (Wp_region ?_)))
         refine qV (r_add rfl rfl (wI64 (by omega))) ?_
         refine qM _ rfl ?_
         refine WpL_nil (thn_normal ?_)
         exact ⟨ob.length - (l + 1), by omega, l + 1, la4, lc4, m3 + 1, Fits.out ⟨rfl, rfl, rfl, rfl, rfl, rfl, rfl, rfl, rfl, rfl, trivial⟩, E, (by omega), (by omega), (by rw [hpt, ← List.append_assoc, spanV_snoc]; exact Ov4), hF3.chg Cv4 (fun b hb h => by have := hap3 b h; omega), Nat.le_trans hn93 Cv4.size, (fun y hy => by rcases Dv4 y hy with h | h; exact hap3 y h; exact ⟨.inr (by omega), .inr (by omega)⟩), hor3.chg Cv4 (fun b hb h => by have := hap3 b h; omega), Nat.le_trans hn73 Cv4.size, rfl⟩
        ·have khlt3 := hlt3
         replace hlt3 := of_decide_eq_false hlt3
         have hll : l = ob.length := by omega
         rw [hll, List.take_length, List.append_assoc, ← hone, ← hns] at hown3
         refine Wp_exit (thn_exit (thn_exit (inB_here (inB_normal (thn_normal (Wp_region ?_))))))
         refine qV (r_add rfl rfl (wI64 (by omega))) ?_
         refine qM _ rfl ?_
         refine WpL_nil (thn_normal ?_)
         exact ⟨2 - (j + 1), by omega, j + 1, la3, lc3, m3, Fits.out ⟨rfl, rfl, rfl, rfl, rfl, rfl, rfl, trivial⟩, E, (by omega), (by rw [hns, hone]; simp only [List.length_append, pts, List.length_map]; omega), hown3, hF3, hn93, (fun x hx => (hap3 x hx).1), rfl⟩
      ·have khin := hin
       have hone : one9 a q = [] := by unfold one9; rw [if_neg (by simp [hin])]
       refine Wp_skip (inB_normal (thn_normal (Wp_region ?_)))
       refine qV (r_add rfl rfl (wI64 (by omega))) ?_
       refine qM _ rfl ?_
       refine WpL_nil (thn_normal ?_)
       exact ⟨2 - (j + 1), by omega, j + 1, la2, lc2, m2, Fits.out ⟨rfl, rfl, rfl, rfl, rfl, rfl, rfl, trivial⟩, E, (by omega), (by rw [hns, hone, List.append_nil]; simp only [List.length_append]; omega), (by rw [hns, hone, List.append_nil]; exact hown2), hF2, hn92, hap2, rfl⟩
     ·have khlt2 := hlt2
      replace hlt2 := of_decide_eq_false hlt2
      have hjj : j = 2 := by omega
      rw [hjj] at hm2 hown2
      refine Wp_exit (thn_exit (thn_exit (inB_here (inB_normal (thn_normal (Wp_region ?_))))))
      refine qV (r_add rfl rfl (wI64 (by omega))) ?_
      refine qM _ rfl ?_
      refine WpL_nil (thn_normal ?_)
      exact ⟨fp.length - (i + 1), by omega, i + 1, la2, lc2, m2, Fits.out ⟨rfl, rfl, rfl, rfl, rfl, trivial⟩, E, (by omega), (by rw [hts, ← List.append_assoc]; exact hm2), (by rw [hts, ← List.append_assoc]; exact hown2), hF2, hn92, hap2, rfl⟩
   ·have khlt := hlt
    replace hlt := of_decide_eq_false hlt
    have hii : i = fp.length := by omega
    rw [hii, List.take_length, hfpe] at hm1 hown1
    have hfl := flat_lenS a fpL
    have hlen : (a ++ rclo a).length ≤ 100000 := by rw [List.length_append]; unfold rclo; rw [hfpe] at hfp; omega
    have hS : OwnS W2 base (.slice la1 m1 lc1) (a ++ rclo a) := ⟨⟨la1, lc1, by rw [hm1]; rfl⟩, by have h9 := hown1; rw [hm1] at h9 ⊢; exact h9⟩
    have hz9 := E.size
    refine Wp_exit (thn_exit (thn_exit (inB_here (thn_normal (Wp_seq_region ?_)))))
    refine qM _ rfl ?_
    refine WpL_enter rfl rfl (by decide) (r_callF Tryz.func95 nm95 bd95 rfl) (nset_n _ _ (a ++ rclo a) hS.at (by omega)) ?_
    rintro _ w3 ⟨⟨out, e, hn, ga, gc, rfl, hsp⟩, X3⟩
    replace E := E.ext X3
    refine qV (r_extract rfl rfl) ?_
    refine qV (r_extract rfl rfl) ?_
    refine qA _ rfl ?_
    refine qA _ rfl ?_
    refine WpL_nil (Wp_ret ?_)
    refine fin_tmp2 Tryz.results58 (v := (.slice ga out.length gc)) (v' := (.int .i64 e)) rfl rfl ?_
    refine ⟨⟨out, e, .inr ⟨hc1, ?_⟩, ga, gc, rfl, hsp.mono fun y hy => by have h3 : _ ≤ y := hy; omega⟩, E⟩
    rcases hn with ⟨⟨s, hs, hv⟩, _⟩ | ⟨_, j, hj, hf⟩
    ·exact absurd (rclose_ok ca s hs) hv
    ·exact ⟨j, ⟨hj.1, fun r r0 r1 => by rw [hj.2 r r0 r1, rclose_mem ca]⟩, hf⟩
end Go.Proofs
namespace Go.Proofs
open Go Go.Eng Go.Sort
set_option maxRecDepth 100000
theorem nxEs_foldl (er : List Sp → Int) : ∀ (ts : List Re) (e : Int), nxEs er ts e = ts.foldl (fun e x => nxE er x e) e
  | [], _ => by simp [nxEs]
  | t :: ts, e => by simp only [nxEs, List.foldl_cons]; exact nxEs_foldl er ts _
abbrev RcloN (cl : List Sp → List Sp) (er : List Sp → Int) : Prop := ∀ (w : World) (u : Value) (s : List Sp), SpansAt w u s → Ret Tryz.prog 58 #[u] w fun r w' => SetRN w.heap.size w' r (cl s) (er s) ∧ Ext w w'
theorem rcloN_of {cl : List Sp → List Sp} {er : List Sp → Int} (h : CloseFun cl er) : RcloN cl er := fun w u s hu =>
 (rclose_n w u s hu).mono fun r w' h2 => ⟨by
  obtain ⟨⟨out, e, h3, h4⟩, _⟩ := h2
  obtain ⟨rfl, rfl⟩ := h s out e h3
  exact h4, h2.2⟩
theorem re_set {S : Nat → Prop} {w : World} {t : Re} {s2 : List Sp} {a1 a2 aa : Option Addr} {n1 c1 c2 ac : Nat} (h : ReIn S w t [.int .i64 t.kind, .slice a1 n1 c1, .slice aa t.args.length ac, .int .i64 t.mn, .int .i64 t.mx, .bool t.neg]) (h2 : SlIn S w 2 (.slice a2 s2.length c2) (s2.map spanV)) :
  ReIn S w (.mk t.kind s2 t.args t.mn t.mx t.neg) [.int .i64 t.kind, .slice a2 s2.length c2, .slice aa t.args.length ac, .int .i64 t.mn, .int .i64 t.mx, .bool t.neg] := by
 obtain ⟨sa, sc, aa', ac', h3, h4, h5, h6⟩ := h.form
 simp only [List.cons.injEq, Value.slice.injEq] at h3
 obtain ⟨_, _, ⟨rfl, _, rfl⟩, _⟩ := h3
 exact ReIn.of (set := s2) (args := t.args) h2 h5 h6
theorem re_same {S : Nat → Prop} {w : World} {t : Re} {vs : List Value} (h : ReIn S w t vs) : ReIn S w (.mk t.kind t.set t.args t.mn t.mx t.neg) vs := by cases t; exact h
set_option maxHeartbeats 4000000 in
theorem foldcl_c {cl : List Sp → List Sp} {er : List Sp → Int} (hcl : RcloN cl er) : ∀ (n : Nat) (t : Re) (w0 : World) (vs : List Value) (S : Nat → Prop) (be bf : Nat) (e0 : Int), t.size ≤ n → n ≤ 1000000 → ReIn S w0 t vs → (∀ b, S b → b < w0.heap.size) → ¬ S be → be ≠ bf → Blk w0 be #[.int .i64 e0] 28 → Blk w0 bf #[.func (.func 57) #[] #[.pointer (some ⟨be, 0, none⟩), .pointer (some ⟨bf, 0, none⟩)]] 34 →
    Ret Tryz.prog 57 #[.agg vs.toArray, .pointer (some ⟨be, 0, none⟩), .pointer (some ⟨bf, 0, none⟩)] w0 fun r w => ∃ us, r = .agg us.toArray ∧ ReIn (fun b => S b ∨ w0.heap.size ≤ b) w (foldT cl t) us ∧ Chg (fun y => y = be) w0 w ∧ Blk w be #[.int .i64 (nxE er t e0)] 28 := by
  intro n
  induction n with
  | zero => intro t w0 vs S be bf e0 hn; have := t.size_pos; omega
  | succ n ih =>
  intro t w0 vs S be bf e0 hn hM ht hS hbe hef hBe hBf
  have ht0 := ht
  obtain ⟨sa, sc, aa, ac, rfl, hset, hac, hta⟩ := ht.form
  have hal := len_sizes t.args
  have hsze := t.size_eq
  have hbel := hBe.lt
  have hbfl := hBf.lt
  obtain ⟨s2, hs2⟩ : ∃ s2, s2 = (if t.kind = 2 then cl t.set else t.set) := ⟨_, rfl⟩
  obtain ⟨e2, he2⟩ : ∃ e2, e2 = (if t.kind = 2 ∧ e0 = 0 then er t.set else e0) := ⟨_, rfl⟩
  have hEq : nxE er t e0 = t.args.foldl (fun e x => nxE er x e) e2 := by rw [nxE_eq, he2]; exact nxEs_foldl er _ _
  have hFT : foldT cl t = .mk t.kind s2 (t.args.map (foldT cl)) t.mn t.mx t.neg := by rw [hs2]; cases t; simp only [foldT, foldTs_map]; rfl
  have hsz2 : (Re.mk t.kind s2 t.args t.mn t.mx t.neg).size = t.size := by rw [Re.size_eq, t.size_eq]; rfl
  rw [hEq, hFT]
  refine Ret_of Tryz.func57 rfl Tryz.ntmps57 (Nat.le_of_ble_eq_true rfl) ?_
  have E : Chg (fun y => y = be) w0 w0 := Chg.refl _ _
  refine Wp_seq_region ?_
  refine s_box (v := (.agg (R6 t sa sc aa ac))) (c := (R6 t sa sc aa ac)) (by decide) rfl rfl ?_
  intro br wr Nr
  have Fr := Nr.ge E
  have Or_be := Nr.lt hBe
  have Or_bf := Nr.lt hBf
  replace hBe := Nr.keep hBe
  replace hBf := Nr.keep hBf
  replace E := E.ext Nr.ext
  have Br := Nr.blk
  refine s_alloc (c := #[(I6 0), (.slice none 0 0), (.slice none 0 0), (I6 0), (I6 0), (.bool false)]) (by decide) zer25 rfl ?_
  intro bo wo No
  have Fo := No.ge E
  have Oo_be := No.lt hBe
  have Oo_bf := No.lt hBf
  have Oo_br := No.lt Br
  replace hBe := No.keep hBe
  replace hBf := No.keep hBf
  replace Br := No.keep Br
  replace E := E.ext No.ext
  have Bo := No.blk
  refine WpL_nil ?_
  obtain ⟨n1, hn1⟩ : ∃ n1, n1 = wo.heap.size := ⟨_, rfl⟩
  have hbo : bo < n1 := by rw [hn1]; exact Bo.lt
  have hbr : br < n1 := by rw [hn1]; exact Br.lt
  have hsz1 : w0.heap.size ≤ n1 := by rw [hn1]; exact E.size
  have hbrw : w0.heap.size ≤ br := by have := Nr.eq; omega
  have hbow : w0.heap.size ≤ bo := by have := No.eq; have := Nr.ext.size; omega
  refine Wp_cut (fun σ W1 => ∃ (ca : Option Addr) (cc : Nat), (∃ jj_, σ = upds jj_ [(2, (P6 bf 0)), (3, (P6 br 0)), (4, (P6 bo 0))]) ∧ Chg (fun y => y = be) w0 W1 ∧ Blk W1 be (#[.int .i64 e2]) 28 ∧ Blk W1 bf #[(.func (.func 57) #[] #[(P6 be 0), (P6 bf 0)])] 34 ∧ Blk W1 br (#[.int .i64 t.kind, .slice ca s2.length cc, .slice aa t.args.length ac, .int .i64 t.mn, .int .i64 t.mx, .bool t.neg]) 25 ∧ Blk W1 bo #[(I6 0), (.slice none 0 0), (.slice none 0 0), (I6 0), (I6 0), (.bool false)] 25 ∧ (ReIn (fun b => S b ∨ n1 ≤ b) W1 (.mk t.kind s2 t.args t.mn t.mx t.neg) [.int .i64 t.kind, .slice ca s2.length cc, .slice aa t.args.length ac, .int .i64 t.mn, .int .i64 t.mx, .bool t.neg]) ∧ (n1 ≤ W1.heap.size)) ?_ ?_
  · skip
    refine Wp_seq_region ?_
    refine qF br 0 0 rfl Tryz.underlying25 rfl siz3 rfl ?_
    refine qV (r_load rfl flat3 (Br.cell rfl)) ?_
    refine qV (r_eql rfl rfl) ?_
    refine WpL_nil ?_
    refine Wp_cond rfl (fun hk => ?_) (fun hk => ?_)
    · have khk := hk
      replace hk := of_decide_eq_true hk
      refine Wp_seq_region ?_
      refine qF br 0 1 rfl Tryz.underlying25 rfl siz22 rfl ?_
      refine qV (r_load rfl flat22 (Br.cell rfl)) ?_
      refine WpL_enter rfl rfl (by decide) (r_callF Tryz.func58 nm58 bd58 rfl) (hcl _ _ t.set (SlIn.at (SlIn.chg hset E (fun y hy h => hbe (h ▸ hy))))) ?_
      rintro _ w9 ⟨⟨ca, cc, rfl, hcs⟩, X9⟩
      replace hBe := X9.keep hBe
      replace hBf := X9.keep hBf
      replace Br := X9.keep Br
      replace Bo := X9.keep Bo
      replace E := E.ext X9
      rw [← hn1] at hcs
      have hn1w : n1 ≤ (w9).heap.size := by rw [hn1]; exact X9.size
      have hRe : ReIn (fun b => S b ∨ n1 ≤ b) (w9) (.mk t.kind (cl t.set) t.args t.mn t.mx t.neg) [.int .i64 t.kind, .slice ca (cl t.set).length cc, .slice aa t.args.length ac, .int .i64 t.mn, .int .i64 t.mx, .bool t.neg] := re_set (ReIn.mono (fun y hy => .inl hy) _ (ReIn.chg E (fun y hy h => hbe (h ▸ hy)) _ ht0)) (hcs.mono fun y hy => .inr hy)
      have hs3 : s2 = cl t.set := by rw [hs2, if_pos hk]
      refine qM _ rfl ?_
      refine qV (r_extract rfl rfl) ?_
      refine qV (r_extract rfl rfl) ?_
      refine qA _ rfl ?_
      refine qA _ rfl ?_
      refine WpL_nil (Wp_seq (Wp_seq_region ?_))
      refine qV (r_load rfl flat28 (hBe.cell rfl)) ?_
      refine qV (r_eql rfl rfl) ?_
      refine WpL_nil ?_
      refine Wp_cond rfl (fun h0 => ?_) (fun h0 => ?_)
      · have kh0 := h0
        replace h0 := of_decide_eq_true h0
        refine Wp_region ?_
        refine qM _ rfl ?_
        refine s_store (b := be) (o := 0) (c' := #[(I6 (er t.set))]) (v := (I6 (er t.set))) rfl rfl rfl siz28 hBe (by simp) rfl ?_
        intro w4 S4
        replace hRe := ReIn.chg S4.chg (fun y hy h => by have h2 : y = _ := h; first | (rcases hy with h1 | h1; exact hbe (h2 ▸ h1); omega) | (rcases hy with h1 | h1; have := hS y h1; omega; omega)) _ hRe
        replace hn1w := Nat.le_trans hn1w S4.chg.size
        replace hBf := S4.keep (by omega) hBf
        replace Br := S4.keep (by omega) Br
        replace Bo := S4.keep (by omega) Bo
        replace E := S4.step E (by first | exact Or.inl (by omega) | exact Or.inr rfl | exact Or.inr (by assumption) | exact Or.inr (by simp) | exact Or.inr (by omega) | exact Or.inr (by dsimp only; omega))
        replace hBe := S4.blk
        refine WpL_nil (thn_normal (Wp_region ?_))
        refine qM _ rfl ?_
        refine qF br 0 1 rfl Tryz.underlying25 rfl siz22 rfl ?_
        refine s_store (b := br) (o := 1) (c' := #[(I6 t.kind), (.slice ca ((cl t.set).length) cc), (.slice aa t.args.length ac), (I6 t.mn), (I6 t.mx), (.bool t.neg)]) (v := (.slice ca ((cl t.set).length) cc)) rfl rfl rfl siz22 Br (by simp) rfl ?_
        intro w5 S5
        replace hRe := ReIn.chg S5.chg (fun y hy h => by have h2 : y = _ := h; first | (rcases hy with h1 | h1; exact hbe (h2 ▸ h1); omega) | (rcases hy with h1 | h1; have := hS y h1; omega; omega)) _ hRe
        replace hn1w := Nat.le_trans hn1w S5.chg.size
        replace hBe := S5.keep (by omega) hBe
        replace hBf := S5.keep (by omega) hBf
        replace Bo := S5.keep (by omega) Bo
        replace E := S5.step E (by first | exact Or.inl (by omega) | exact Or.inr rfl | exact Or.inr (by assumption) | exact Or.inr (by simp) | exact Or.inr (by omega) | exact Or.inr (by dsimp only; omega))
        replace Br := S5.blk
        refine WpL_nil (thn_normal ?_)
        have hB2 : Blk (w5) br #[.int .i64 t.kind, .slice ca s2.length cc, .slice aa t.args.length ac, .int .i64 t.mn, .int .i64 t.mx, .bool t.neg] 25 := by rw [hs3]; exact Br
        have hB3 : Blk (w5) be #[.int .i64 e2] 28 := by rw [he2, if_pos ⟨hk, h0⟩]; exact hBe
        exact ⟨ca, cc, Fits.out ⟨rfl, rfl, rfl, trivial⟩, E, hB3, hBf, hB2, Bo, (by rw [hs3]; exact hRe), hn1w⟩
      · have kh0 := h0
        replace h0 := of_decide_eq_false h0
        refine Wp_skip (thn_normal (Wp_region ?_))
        refine qM _ rfl ?_
        refine qF br 0 1 rfl Tryz.underlying25 rfl siz22 rfl ?_
        refine s_store (b := br) (o := 1) (c' := #[(I6 t.kind), (.slice ca ((cl t.set).length) cc), (.slice aa t.args.length ac), (I6 t.mn), (I6 t.mx), (.bool t.neg)]) (v := (.slice ca ((cl t.set).length) cc)) rfl rfl rfl siz22 Br (by simp) rfl ?_
        intro w6 S6
        replace hRe := ReIn.chg S6.chg (fun y hy h => by have h2 : y = _ := h; first | (rcases hy with h1 | h1; exact hbe (h2 ▸ h1); omega) | (rcases hy with h1 | h1; have := hS y h1; omega; omega)) _ hRe
        replace hn1w := Nat.le_trans hn1w S6.chg.size
        replace hBe := S6.keep (by omega) hBe
        replace hBf := S6.keep (by omega) hBf
        replace Bo := S6.keep (by omega) Bo
        replace E := S6.step E (by first | exact Or.inl (by omega) | exact Or.inr rfl | exact Or.inr (by assumption) | exact Or.inr (by simp) | exact Or.inr (by omega) | exact Or.inr (by dsimp only; omega))
        replace Br := S6.blk
        refine WpL_nil (thn_normal ?_)
        have hB2 : Blk (w6) br #[.int .i64 t.kind, .slice ca s2.length cc, .slice aa t.args.length ac, .int .i64 t.mn, .int .i64 t.mx, .bool t.neg] 25 := by rw [hs3]; exact Br
        have hB3 : Blk (w6) be #[.int .i64 e2] 28 := by rw [he2, if_neg (fun h => h0 h.2)]; exact hBe
        exact ⟨ca, cc, Fits.out ⟨rfl, rfl, rfl, trivial⟩, E, hB3, hBf, hB2, Bo, (by rw [hs3]; exact hRe), hn1w⟩
    · have khk := hk
      replace hk := of_decide_eq_false hk
      have hs3 : s2 = t.set := by rw [hs2, if_neg hk]
      refine Wp_skip (thn_normal ?_)
      have hB2 : Blk (wo) br #[.int .i64 t.kind, .slice sa s2.length sc, .slice aa t.args.length ac, .int .i64 t.mn, .int .i64 t.mx, .bool t.neg] 25 := by rw [hs3]; exact Br
      have hB3 : Blk (wo) be #[.int .i64 e2] 28 := by rw [he2, if_neg (fun h => hk h.1)]; exact hBe
      exact ⟨sa, sc, Fits.out ⟨rfl, rfl, rfl, trivial⟩, E, hB3, hBf, hB2, Bo, (by rw [hs3]; exact re_same (ReIn.mono (fun y hy => .inl hy) _ (ReIn.chg E (fun y hy h => hbe (h ▸ hy)) _ ht0))), (by omega)⟩
  · clear E hBe hBf Br Bo
    rintro _ W1 ⟨ca, cc, ⟨j1, rfl⟩, E, hBe, hBf, Br, Bo, hRe, hn1w⟩
    have hwms : w0.heap.size ≤ (W1).heap.size := E.size
    have hRl := ReIn.lt _ hRe
    obtain ⟨n5, hn5⟩ : ∃ n5, n5 = (W1).heap.size := ⟨_, rfl⟩
    rw [← hn5] at hRl hwms hn1w
    refine Wp_seq_region ?_
    refine qV (r_loadAgg (vs := [(I6 t.kind), (.slice ca s2.length cc), (.slice aa t.args.length ac), (I6 t.mn), (I6 t.mx), (.bool t.neg)]) rfl agg25 siz25 rfl (Br.cells rfl)) ?_
    refine qV (r_load rfl flat34 (hBf.cell rfl)) ?_
    refine WpL_enter rfl rfl (by decide) (r_callF Tryz.func56 nm56 bd56 rfl) ((mappedE_c (fun x e => nxE er x e) be _ (fun y => (S y ∨ n1 ≤ y) ∧ y < n5) (.mk t.kind s2 t.args t.mn t.mx t.neg) _ (.func (.func 57) #[] #[.pointer (some ⟨be, 0, none⟩), .pointer (some ⟨bf, 0, none⟩)]) (foldT cl) hRl (fun y hy => by rw [← hn5]; exact hy.2) (by rw [hsz2]; omega) e2 (fun h => by rcases h.1 with h1 | h1; exact hbe h1; omega) hBe (fun w x xs e hE hx h hB => CallV.mk (first := #[]) (cap := #[.pointer (some ⟨be, 0, none⟩), .pointer (some ⟨bf, 0, none⟩)]) Tryz.func57 nm57 bd57 rfl (by obtain ⟨i, hi⟩ := List.mem_iff_getElem?.1 hx; exact ih x w xs _ be bf e (by have := Re.size_arg (t := t) hi; omega) (by omega) h (fun y hy => by have := hE.size; have := hy.2; omega) (fun h => by rcases h.1 with h1 | h1; exact hbe h1; omega) hef hB (hE.keep (fun h => hef (Eq.symm h)) hBf))))) ?_
    rintro _ w9 ⟨us9, rfl, hR9, X9, hB9⟩
    replace hBf := X9.keep (by omega) hBf
    replace Br := X9.keep (by omega) Br
    replace Bo := X9.keep (by omega) Bo
    replace E := E.step X9 (by intro x hx hm; omega)
    obtain ⟨za, zc, ya, yc, rfl, _, _, _⟩ := hR9.form
    refine s_storeAgg (b := bo) (o := 0) (c' := #[(I6 t.kind), (.slice za s2.length zc), (.slice ya ((t.args.map (foldT cl)).length) yc), (I6 t.mn), (I6 t.mx), (.bool t.neg)]) rfl rfl (by simp [Value.oneCell']) siz25 rfl Bo (by first | (simp; done) | exact Nat.le_of_ble_eq_true rfl) rfl ?_
    intro w7 S7
    replace hR9 := ReIn.chg S7.chg (fun y hy h => by have h2 : y = bo := h; rcases hy with ⟨h1 | h1, _⟩ | h1; have := hS y h1; omega; omega; omega) _ hR9
    replace hBf := S7.keep (by omega) hBf
    replace Br := S7.keep (by omega) Br
    replace hB9 := S7.keep (by omega) hB9
    replace E := S7.step E (by first | exact Or.inl (by omega) | exact Or.inr rfl | exact Or.inr (by assumption) | exact Or.inr (by simp) | exact Or.inr (by omega) | exact Or.inr (by dsimp only; omega))
    replace Bo := S7.blk
    refine WpL_nil (Wp_ret ?_)
    refine fin_agg Tryz.results57 (vs := [(.int .i64 t.kind), (.slice za s2.length zc), (.slice ya ((t.args.map (foldT cl)).length) yc), (.int .i64 t.mn), (.int .i64 t.mx), (.bool t.neg)]) (b := bo) rfl agg25 siz25 rfl (Bo.cells rfl) ?_
    exact ⟨_, rfl, ReIn.mono (fun y hy => by rcases hy with ⟨h1 | h1, _⟩ | h1; exact .inl h1; exact .inr (by omega); exact .inr (by omega)) _ hR9, E, hB9⟩
set_option maxHeartbeats 2000000 in
theorem rfold_c {cl : List Sp → List Sp} {er : List Sp → Int} (hcl : RcloN cl er) (w0 : World) (S : Nat → Prop) (t : Re) (vs : List Value) (hti : ReIn S w0 t vs) (hS : ∀ y, S y → y < w0.heap.size) (hM : t.size ≤ 1000000) :
  Ret Tryz.prog 25 #[.agg vs.toArray] w0 fun v w => (∃ us, v = .tuple #[.agg us.toArray, .int .i64 (nxE er t 0)] ∧ ReIn (fun y => S y ∨ w0.heap.size ≤ y) w (if nxE er t 0 = 0 then foldT cl t else noneT) us) ∧ Ext w0 w := by
 have ht0 := hti
 obtain ⟨sa, sc, aa, ac, rfl, _, _, _⟩ := hti.form
 obtain ⟨F, hF⟩ : ∃ F, F = foldT cl t := ⟨_, rfl⟩
 obtain ⟨e9, he9⟩ : ∃ e9, e9 = nxE er t 0 := ⟨_, rfl⟩
 rw [← hF, ← he9]
 refine Ret_of Tryz.func25 rfl Tryz.ntmps25 (Nat.le_of_ble_eq_true rfl) ?_
 have E : Chg none1 w0 w0 := Chg.refl _ _
 refine Wp_seq_region ?_
 refine s_box (v := (.agg (R6 t sa sc aa ac))) (c := (R6 t sa sc aa ac)) (by decide) rfl rfl ?_
 intro br wr Nr
 have Fr := Nr.ge E
 replace E := E.ext Nr.ext
 have Br := Nr.blk
 refine s_alloc (c := #[(I6 0), (.slice none 0 0), (.slice none 0 0), (I6 0), (I6 0), (.bool false)]) (by decide) zer25 rfl ?_
 intro bo wo No
 have Fo := No.ge E
 have Oo_br := No.lt Br
 replace Br := No.keep Br
 replace E := E.ext No.ext
 have Bo := No.blk
 refine qA _ rfl ?_
 refine WpL_nil (Wp_seq_region ?_)
 refine s_allocStore (v := (I6 0)) (c := #[(I6 0)]) (n := 1) (by decide) zer28 rfl siz28 rfl rfl rfl (by simp [Value.oneCell']) ?_
 intro be we Ne
 have Fe := Ne.ge E
 have Oe_br := Ne.lt Br
 have Oe_bo := Ne.lt Bo
 replace Br := Ne.keep Br
 replace Bo := Ne.keep Bo
 replace E := E.ext Ne.ext
 have Be := Ne.blk
 refine WpL_nil (Wp_seq_region ?_)
 refine s_alloc (c := #[.nilFunc]) (by decide) zer34 rfl ?_
 intro bf wf Nf
 have Ff := Nf.ge E
 have Of_br := Nf.lt Br
 have Of_bo := Nf.lt Bo
 have Of_be := Nf.lt Be
 replace Br := Nf.keep Br
 replace Bo := Nf.keep Bo
 replace Be := Nf.keep Be
 replace E := E.ext Nf.ext
 have Bf := Nf.blk
 refine WpL_nil (Wp_seq_region ?_)
 refine qV (r_makeFunc rfl rfl) ?_
 refine s_store (b := bf) (o := 0) (c' := #[(.func (.func 57) #[] #[(P6 be 0), (P6 bf 0)])]) (v := (.func (.func 57) #[] #[(P6 be 0), (P6 bf 0)])) rfl rfl rfl siz34 Bf (by simp) rfl ?_
 intro w1 S1
 replace Br := S1.keep (by omega) Br
 replace Bo := S1.keep (by omega) Bo
 replace Be := S1.keep (by omega) Be
 replace E := S1.step E (by first | exact Or.inl (by omega) | exact Or.inr rfl | exact Or.inr (by assumption) | exact Or.inr (by simp) | exact Or.inr (by omega) | exact Or.inr (by dsimp only; omega))
 replace Bf := S1.blk
 refine WpL_nil (Wp_seq_region ?_)
 refine qV (r_load rfl flat34 (Bf.cell rfl)) ?_
 refine qV (r_loadAgg (vs := [(I6 t.kind), (.slice sa t.set.length sc), (.slice aa t.args.length ac), (I6 t.mn), (I6 t.mx), (.bool t.neg)]) rfl agg25 siz25 rfl (Br.cells rfl)) ?_
 obtain ⟨n6, hn6⟩ : ∃ n6, n6 = (w1).heap.size := ⟨_, rfl⟩
 have hbo6 : bo < n6 ∧ w0.heap.size ≤ bo := ⟨by rw [hn6]; exact Bo.lt, by have := No.eq; have := Nr.ext.size; omega⟩
 refine WpL_enter rfl rfl (by decide) (r_callV rfl Tryz.func57 nm57 bd57 rfl rfl) ((foldcl_c hcl t.size t _ _ S be bf 0 (Nat.le_refl _) hM (ReIn.ext E t ht0) (fun y hy => by have := E.size; have h2 := hS y hy; omega) (fun h => by have h2 := hS _ h; have := Ne.eq; have := No.ext.size; have := Nr.ext.size; omega) (by have := Nf.eq; have := Ne.ext.size; have := Be.lt; omega) Be Bf)) ?_
 rintro _ w9 ⟨us9, rfl, hR9, X9, hB9⟩
 replace Br := X9.keep (by omega) Br
 replace Bo := X9.keep (by omega) Bo
 replace Bf := X9.keep (by omega) Bf
 replace E := E.step X9 (by intro x hx hm; omega)
 rw [← hF] at hR9
 rw [← he9] at hB9
 obtain ⟨za, zc, ya, yc, rfl, _, _, _⟩ := hR9.form
 obtain ⟨n9, hn9⟩ : ∃ n9, n9 = (w9).heap.size := ⟨_, rfl⟩
 rw [← hn6] at hR9
 refine s_allocStore (v := (.agg (R6 F za zc ya yc))) (c := (R6 F za zc ya yc)) (n := 6) (by decide) zer25 rfl siz25 rfl rfl rfl (by simp [Value.oneCell']) ?_
 intro bu wu Nu
 have Fu := Nu.ge E
 have Ou_br := Nu.lt Br
 have Ou_bo := Nu.lt Bo
 have Ou_bf := Nu.lt Bf
 have Ou_be := Nu.lt hB9
 replace Br := Nu.keep Br
 replace Bo := Nu.keep Bo
 replace Bf := Nu.keep Bf
 replace hB9 := Nu.keep hB9
 replace hR9 := ReIn.ext Nu.ext _ hR9
 replace E := E.ext Nu.ext
 have Bu := Nu.blk
 refine WpL_nil (Wp_seq (Wp_seq_region ?_))
 refine qV (r_load rfl flat28 (hB9.cell rfl)) ?_
 refine qV (r_neq rfl rfl) ?_
 refine WpL_nil ?_
 refine Wp_cond rfl (fun hx => ?_) (fun hx => ?_)
 ·have khx := hx
  replace hx := of_decide_eq_true hx
  have hz_3 : w0.heap.size ≤ wu.heap.size := E.size
  have lz_3_br : br < wu.heap.size := Br.lt
  have lz_3_bo : bo < wu.heap.size := Bo.lt
  have lz_3_bf : bf < wu.heap.size := Bf.lt
  have lz_3_be : be < wu.heap.size := hB9.lt
  have lz_3_bu : bu < wu.heap.size := Bu.lt
  refine Wp_seq ?_
  obtain ⟨Fs3, hFs3⟩ : ∃ Fs : List FctS, Fs = [(fun _ _ v _ => v = (.agg #[(I6 0), (.slice none 0 0), (.slice none 0 0), (I6 0), (I6 0), (.bool false)])), (fun _ _ v _ => v = (I6 e9)), (fun _ _ => (fun _ w => Blk w bo #[(I6 0), (.slice none 0 0), (.slice none 0 0), (I6 0), (I6 0), (.bool false)] 25)), (fun _ _ v _ => v = undef)] := ⟨_, rfl⟩
  refine Wp_dagS (MsL [(2, (fun y => y = bo))]) [true, true, true, false] [3] [13, 14, 18, 19] [[], [], [0], []] [[], [], [0], []] Fs3 hFs3 (by kernel_rfl) mixed (by kernel_rfl) (by kernel_rfl) (by kernel_rfl) (by kernel_rfl) ?_ ?_
  ·intro wd X0
   refine qD (fun S s' w' hi hN X U V H => ?_) ?_
   ·replace X := X.mono (M' := none1) (fun y _ h => by
      obtain ⟨j, hj, h⟩ := h
      rcases MsL_or h with ⟨rfl, h0⟩ | h0
      ·exact Bool.noConfusion (hj.symm.trans (hN 2 rfl))
      exact h0.elim)
    exact DoesT_pure (r_build (ps := []) (v := (.agg #[(I6 0), (.slice none 0 0), (.slice none 0 0), (I6 0), (I6 0), (.bool false)])) rfl (by kernel_rfl)) rfl
   refine qD (fun S s' w' hi hN X U V H => ?_) ?_
   ·replace X := X.mono (M' := (fun y => (fun y => y = bo) y)) (fun y _ h => by
      obtain ⟨j, hj, h⟩ := h
      rcases MsL_or h with ⟨rfl, h0⟩ | h0
      ·exact h0
      exact h0.elim)
    exact DoesT_pure (r_load (U 4 rfl) flat28 ((Chg.keep X (fun h => by dsimp only at h; omega) (X0.keep hB9)).cell rfl)) rfl
   refine DagStepsS.cons (StabS.chg (U := none1) (fun v w w' x h => Chg.keep x (fun h => h) h) (fun p y hp hw h => by
      rcases MsL_or h with ⟨rfl, h0⟩ | h0
      ·exact absurd rfl hp
      exact h0.elim)) (LocS.const) (fun S s' w' hi hN X U V H => Or.inl ⟨Guarded_none rfl, ?_⟩) ?_
   ·replace X := X.mono (M' := none1) (fun y _ h => by
      obtain ⟨j, hj, h⟩ := h
      rcases MsL_or h with ⟨rfl, h0⟩ | h0
      ·exact Bool.noConfusion (hj.symm.trans hi)
      exact h0.elim)
    have e13 : s' 13 = (.agg #[(.int .i64 0), (.slice none 0 0), (.slice none 0 0), (.int .i64 0), (.int .i64 0), (.bool false)]) := (H 0 rfl).2 13 (fun _ _ v _ => v = (.agg #[(.int .i64 0), (.slice none 0 0), (.slice none 0 0), (.int .i64 0), (.int .i64 0), (.bool false)])) rfl (by rw [hFs3]; rfl)
    exact DoesT_storeAgg (b := bo) (o := 0) (n := 6) (U 2 rfl) e13 (by simp [Value.oneCell']) siz25 rfl ((X0.trans X).keep Bo) (by simp) (by first | exact .inl ⟨rfl, rfl⟩ | exact .inr (.inl ⟨rfl, rfl⟩) | exact .inr (.inr (.inl ⟨rfl, rfl⟩))) (fun w9 h => by have h2 := h.blk; simpa using h2)
   refine DagStepsS.tail ?_
   exact DagStepsS.nil
  ·intro s' wd3 w3 X0 X3 U H
   replace X3 := X3.mono (M' := (fun y => (fun y => y = bo) y)) (fun y _ h => by
     obtain ⟨j, hj, h⟩ := h
     rcases MsL_or h with ⟨rfl, h0⟩ | h0
     ·exact h0
     exact h0.elim)
   have e14 : s' 14 = (.int .i64 e9) := H 1 rfl 14 (fun _ _ v _ => v = (.int .i64 e9)) rfl (by rw [hFs3]; rfl)
   obtain B18 := (show ((fun _ _ => (fun _ w => Blk w bo #[(.int .i64 0), (.slice none 0 0), (.slice none 0 0), (.int .i64 0), (.int .i64 0), (.bool false)] 25)) : FctS) (allS [true, true, true, false]) s' (s' 18) w3 from H 2 rfl 18 (fun _ _ => (fun _ w => Blk w bo #[(.int .i64 0), (.slice none 0 0), (.slice none 0 0), (.int .i64 0), (.int .i64 0), (.bool false)] 25)) rfl (by rw [hFs3]; rfl))
   obtain ⟨j3, rfl⟩ := Fits.out (σ := s') (l := [(2, (.pointer (some ⟨bo, 0, none⟩))), (14, (.int .i64 e9))]) ⟨U 2 rfl, e14, trivial⟩
   clear U H
   replace Bo := B18
   replace Br := Chg.keep X3 (fun h => by dsimp only at h; omega) (X0.keep Br)
   replace Bf := Chg.keep X3 (fun h => by dsimp only at h; omega) (X0.keep Bf)
   replace hB9 := Chg.keep X3 (fun h => by dsimp only at h; omega) (X0.keep hB9)
   replace Bu := Chg.keep X3 (fun h => by dsimp only at h; omega) (X0.keep Bu)
   replace hR9 := ReIn.ext X0 _ hR9
   replace E := (E.ext X0).step X3 (fun y hy h => by dsimp only at h; omega)
   refine qA _ rfl ?_
   refine WpL_nil (thn_normal (Wp_ret (thn_ret ?_)))
   refine fin_agg_tmp Tryz.results25 (vs := [(.int .i64 0), (.slice none 0 0), (.slice none 0 0), (.int .i64 0), (.int .i64 0), (.bool false)]) (b := bo) (v' := (.int .i64 e9)) rfl agg25 siz25 rfl (Bo.cells rfl) rfl ?_
   rw [if_neg hx]; exact ⟨⟨_, rfl, fold_z⟩, E⟩
 ·have khx := hx
  replace hx := of_decide_eq_false hx
  have he0 : e9 = 0 := by simpa using hx
  refine Wp_skip (thn_normal (Wp_seq_region ?_))
  refine qV (r_loadAgg (vs := [(I6 F.kind), (.slice za F.set.length zc), (.slice ya F.args.length yc), (I6 F.mn), (I6 F.mx), (.bool F.neg)]) rfl agg25 siz25 rfl (Bu.cells rfl)) ?_
  refine s_storeAgg (b := bo) (o := 0) (c' := (R6 F za zc ya yc)) rfl rfl (by simp [Value.oneCell']) siz25 rfl Bo (by first | (simp; done) | exact Nat.le_of_ble_eq_true rfl) rfl ?_
  intro w4 S4
  replace hR9 := ReIn.chg S4.chg (fun y hy h => by have h2 : y = bo := h; rcases hy with h1 | h1; have h3 := hS y h1; omega; omega) _ hR9
  replace Br := S4.keep (by omega) Br
  replace Bf := S4.keep (by omega) Bf
  replace hB9 := S4.keep (by omega) hB9
  replace Bu := S4.keep (by omega) Bu
  replace E := S4.step E (by first | exact Or.inl (by omega) | exact Or.inr rfl | exact Or.inr (by assumption) | exact Or.inr (by simp) | exact Or.inr (by omega) | exact Or.inr (by dsimp only; omega))
  replace Bo := S4.blk
  refine qA _ rfl ?_
  refine WpL_nil (Wp_ret ?_)
  refine fin_agg_tmp Tryz.results25 (vs := [(.int .i64 F.kind), (.slice za F.set.length zc), (.slice ya F.args.length yc), (.int .i64 F.mn), (.int .i64 F.mx), (.bool F.neg)]) (b := bo) (v' := (.int .i64 0)) rfl agg25 siz25 rfl (Bo.cells rfl) rfl ?_
  subst he0; rw [if_pos rfl]; exact ⟨⟨_, rfl, ReIn.mono (fun y hy => hy.imp id fun h => by omega) _ hR9⟩, E⟩
end Go.Proofs
namespace Go.Proofs
open Go Go.Eng Go.Sort
set_option maxRecDepth 100000
/-- A list of slices of one's own, whose elements lie elsewhere. -/
structure SpSt (wr w : World) (base : Nat) (vo : Value) (vs : List Value) (ll : List (List Sp)) : Prop where
 o : w.ownsRow base TSs 1 vo ll.length vs
 len : vs.length = ll.length
 el : ∀ (i : Nat) u l, vs[i]? = some u → ll[i]? = some l → SpansAt wr u l
theorem SpSt.spss {wr w : World} {base : Nat} {vo : Value} {vs : List Value} {ll : List (List Sp)} (h : SpSt wr w base vo vs ll) (e : Ext wr w) : SpssAt w vo ll := by
 refine ⟨vs, ?_, h.len, fun i u l hu hl => (h.el i u l hu hl).ext e⟩
 have ho := h.o
 rw [show vs = (vs.map fun x => [x]).flatten by simp [List.flatten_eq_flatMap, List.flatMap_map]] at ho
 exact own_slat ho (by intro r hr; simp only [List.mem_map] at hr; obtain ⟨x, _, rfl⟩ := hr; rfl) (by simp [h.len]) (by decide)
theorem SpSt.push {wr w w' : World} {base : Nat} {vo v' u : Value} {vs : List Value} {ll : List (List Sp)} {l : List Sp} (h : SpSt wr w base vo vs ll) (O : w'.ownsRow base TSs 1 v' (ll.length + 1) (vs ++ [u])) (hu : SpansAt wr u l) : SpSt wr w' base v' (vs ++ [u]) (ll ++ [l]) := by
 refine ⟨by rw [List.length_append]; exact O, by simp [h.len], fun i x y hx hy => ?_⟩
 rcases Nat.lt_or_ge i vs.length with h1 | h1
 ·rw [List.getElem?_append_left h1] at hx
  rw [List.getElem?_append_left (by have := h.len; omega)] at hy
  exact h.el i x y hx hy
 ·rw [List.getElem?_append_right h1] at hx
  rw [List.getElem?_append_right (by have := h.len; omega)] at hy
  have h2 := lt_of_get hx
  simp at h2
  rw [show i - vs.length = 0 by omega] at hx
  rw [show i - ll.length = 0 by have := h.len; omega] at hy
  simp at hx hy
  subst hx; subst hy
  exact hu
theorem addS_take {L : List Re} {k : Nat} {x : Re} (h : L[k]? = some x) : (L.take (k + 1)).foldl addS [] = addS ((L.take k).foldl addS []) x := by
 rw [List.take_add_one, h, Option.toList_some, List.foldl_append]; rfl
set_option maxHeartbeats 2000000 in
theorem setsof_c (w0 : World) (t : Re) (vs : List Value) (ht : ReAt w0 t vs) (hs : t.size ≤ 1000) :
  Ret Tryz.prog 23 #[.agg vs.toArray] w0 fun v w => SpssAt w v (setsL t) ∧ Ext w0 w := by
 have ht0 := ht
 obtain ⟨sa, sc, aa, ac, rfl, hset, hlen, hargs⟩ := ht.form
 refine Ret_of Tryz.func23 rfl Tryz.ntmps23 (Nat.le_of_ble_eq_true rfl) ?_
 have E : Chg none1 w0 w0 := Chg.refl _ _
 refine Wp_seq_region ?_
 refine s_box (v := (.agg (R6 t sa sc aa ac))) (c := (R6 t sa sc aa ac)) (by decide) rfl rfl ?_
 intro br wr Nr
 have Fr := Nr.ge E
 replace E := E.ext Nr.ext
 have Br := Nr.blk
 refine qA _ rfl ?_
 refine WpL_nil (Wp_seq_region ?_)
 refine qA _ rfl ?_
 refine WpL_nil (Wp_seq (Wp_seq_region ?_))
 refine qV (r_loadAgg (vs := [(I6 t.kind), (.slice sa t.set.length sc), (.slice aa t.args.length ac), (I6 t.mn), (I6 t.mx), (.bool t.neg)]) rfl agg25 siz25 rfl (Br.cells rfl)) ?_
 refine WpL_enter rfl rfl (by decide) (r_callF Tryz.func11 nm11 bd11 rfl) (pre_c _ t _ _ (ReAt.ext E t ht0) (by omega)) ?_
 rintro _ w9 ⟨la, lc, rows, rfl, hsl, hrows, X9⟩
 replace Br := X9.keep Br
 replace E := E.ext X9
 obtain ⟨L, hL⟩ : ∃ L, L = preL t := ⟨_, rfl⟩
 have hLl : L.length = t.size := by rw [hL, preL_len]
 have htk : (preL t).take (1000000 : Int).toNat = L := by rw [hL]; exact List.take_of_length_le (by rw [preL_len]; have : (1000000 : Int).toNat = 1000000 := rfl; omega)
 rw [htk] at hsl hrows ⊢
 have hrows' : RowsOf w9 L rows := RowsOf.ext X9 hrows
 have hSL : setsL t = L.foldl addS [] := by rw [hL]; rfl
 have EQ : Chg none1 w9 w9 := Chg.refl _ _
 obtain ⟨n1, hn1⟩ : ∃ n, n = w9.heap.size := ⟨_, rfl⟩
 have hn0 : w0.heap.size ≤ n1 := by rw [hn1]; exact E.size
 refine qV (r_lenSlice Tryz.underlying23 rfl) ?_
 refine qM _ rfl ?_
 refine WpL_nil (Wp_block ?_)
 refine Wp_loop (fun nn_ σ W1 => ∃ (k : Nat) (ll : List (List Sp)) (us : List Value) (oa : Option Addr) (oc : Nat), (∃ jj_, σ = upds jj_ [(10, (.slice la L.length lc)), (11, (I6 (L.length : Int))), (12, (I6 (k : Int))), (3, (.slice oa ll.length oc))]) ∧ Chg none1 w0 W1 ∧ Chg none1 w9 W1 ∧ (k ≤ L.length) ∧ (ll = (L.take k).foldl addS []) ∧ (SpSt w9 W1 n1 (.slice oa ll.length oc) us ll) ∧ (n1 ≤ W1.heap.size) ∧ nn_ = L.length - k) (n := L.length - 0) ?_ ?_
 ·exact ⟨0, [], [], none, 0, Fits.out ⟨rfl, rfl, rfl, rfl, trivial⟩, E, EQ, Nat.zero_le _, rfl, ⟨World.ownsRow_nil _ _ _ _, rfl, fun i u l h => by simp at h⟩, (by omega), rfl⟩
 ·clear E EQ
  rintro _ _ W1 ⟨k, ll, us, oa, oc, ⟨j1, rfl⟩, E, EQ, hk1, hll, hO, hbs, rfl⟩
  refine Wp_seq_region ?_
  refine qV (r_lss rfl rfl) ?_
  refine WpL_nil (Wp_seq ?_)
  refine Wp_cond rfl (fun hlt => ?_) (fun hlt => ?_)
  ·have khlt := hlt
   replace hlt := of_decide_eq_true hlt
   obtain ⟨x, hx⟩ := get_of_lt (l := L) (i := k) (by omega)
   obtain ⟨r, hr, hxr⟩ := hrows'.get hx
   obtain ⟨b, o, rfl, hcl⟩ := SlAt.at hsl (by omega)
   have hcr := (hcl k r hr).ext EQ
   obtain ⟨xa, xc, ya, yc, rfl, hxset, hxlen, hxargs⟩ := hxr.form
   have hll1 : ll.length ≤ 1000 := by have h := addS_len (L.take k) []; rw [← hll] at h; simp at h; omega
   have hadd := addS_take hx
   rw [← hll] at hadd
   have hO1 := hO.o
   refine Wp_skip (thn_normal (Wp_seq (Wp_block (Wp_seq_region ?_))))
   refine qV (r_indexSlice (b := b) (o := o) (len := L.length) (cap := lc) (i := k) (o' := o + k * 6) rfl rfl rfl Tryz.underlying23 siz25 (by omega) (by omega)) ?_
   refine qV (r_loadAgg rfl agg25 siz25 rfl (hcr)) ?_
   have E3 : Chg none1 W1 W1 := Chg.refl _ _
   refine s_allocStore (v := (.agg (R6 x xa xc ya yc))) (c := (R6 x xa xc ya yc)) (n := 6) (by decide) zer25 rfl siz25 rfl rfl rfl (by simp [Value.oneCell']) ?_
   intro bu wu Nu
   have Fu := Nu.ge E
   have Fu_EQ := Nu.ge EQ
   have Fu_E3 := Nu.ge E3
   replace E := E.ext Nu.ext
   have Bu := Nu.blk
   replace EQ := EQ.ext Nu.ext
   replace E3 := E3.ext Nu.ext
   refine WpL_nil (Wp_seq_region ?_)
   refine qF bu 0 0 rfl Tryz.underlying25 rfl siz3 rfl ?_
   refine qV (r_load rfl flat3 (Bu.cell rfl)) ?_
   refine qV (r_neq rfl rfl) ?_
   refine qA _ rfl ?_
   refine WpL_nil (Wp_seq (Wp_seq_region ?_))
   refine qM _ rfl ?_
   refine qV (r_lenSlice Tryz.underlying38 rfl) ?_
   refine qM _ rfl ?_
   refine WpL_nil (Wp_block ?_)
   refine Wp_loop (fun nn_ σ W3 => ∃ (j : Nat) (old : Bool), (∃ jj_, σ = upds jj_ [(3, (.slice oa ll.length oc)), (5, (P6 bu 0)), (10, (.slice (some ⟨b, o, none⟩) L.length lc)), (11, (I6 (L.length : Int))), (12, (I6 (k : Int))), (19, (.slice oa ll.length oc)), (20, (I6 (ll.length : Int))), (21, (I6 (j : Int))), (6, (.bool old))]) ∧ Chg none1 w0 W3 ∧ Chg none1 w9 W3 ∧ Chg none1 W1 W3 ∧ Blk W3 bu (R6 x xa xc ya yc) 25 ∧ (j ≤ ll.length) ∧ (old = (decide (x.kind ≠ 2) || decide (x.set ∈ ll.take j))) ∧ nn_ = ll.length - j) (n := ll.length - 0) ?_ ?_
   ·exact ⟨0, decide ((x.kind : Int) ≠ 2), Fits.out ⟨rfl, rfl, rfl, rfl, rfl, rfl, rfl, rfl, rfl, trivial⟩, E, EQ, E3, Bu, Nat.zero_le _, (by simp), rfl⟩
   ·clear E EQ E3 Bu
    rintro _ _ W3 ⟨j, old, ⟨j3, rfl⟩, E, EQ, E3, Bu, hj, hq, rfl⟩
    refine Wp_seq_region ?_
    refine qV (r_lss rfl rfl) ?_
    refine WpL_nil (Wp_seq ?_)
    refine Wp_cond rfl (fun hlt2 => ?_) (fun hlt2 => ?_)
    ·have khlt2 := hlt2
     replace hlt2 := of_decide_eq_true hlt2
     obtain ⟨l, hl⟩ := get_of_lt (l := ll) (i := j) (by omega)
     have hsp := SpSt.spss ⟨(own_ext hO1 E3), hO.len, hO.el⟩ EQ
     obtain ⟨kb, ko, rfl, hkc⟩ := spss_cells hsp (by omega)
     obtain ⟨ra, rc, hcell, hspn⟩ := hkc j l hl
     refine Wp_skip (thn_normal (Wp_seq (Wp_block (Wp_seq_region ?_))))
     refine qV (r_indexSlice (b := kb) (o := ko) (len := ll.length) (cap := oc) (i := j) (o' := ko + j) rfl rfl rfl Tryz.underlying38 siz22 (by omega) (by omega)) ?_
     refine qV (r_load rfl flat22 (hcell)) ?_
     refine qA _ rfl ?_
     refine WpL_nil (Wp_region ?_)
     refine qM _ rfl ?_
     refine qM _ rfl ?_
     rcases Bool.eq_false_or_eq_true (old) with g1 | g1
     ·have kg1 := g1
      refine WpL_guard_no rfl rfl (by decide) (v := .bool true) (congrArg Value.bool g1) (Or.inl rfl) ?_
      refine WpL_guard_no rfl rfl (by decide) (v := .bool true) (congrArg Value.bool g1) (Or.inl rfl) ?_
      refine WpL_guard_no rfl rfl (by decide) (v := .bool true) (congrArg Value.bool g1) (Or.inl rfl) ?_
      refine WpL_guard_no rfl rfl (by decide) (v := .bool true) (congrArg Value.bool g1) (Or.inl rfl) ?_
      refine qV (r_pick (v := (.bool true)) rfl (by rw [g1]; rfl)) ?_
      refine qA _ rfl ?_
      refine WpL_nil (inB_normal (thn_normal (Wp_region ?_)))
      refine qV (r_add rfl rfl (wI64 (by omega))) ?_
      refine qM _ rfl ?_
      refine WpL_nil (thn_normal ?_)
      exact ⟨ll.length - (j + 1), by omega, j + 1, true, Fits.out ⟨rfl, rfl, rfl, rfl, rfl, rfl, rfl, rfl, rfl, trivial⟩, E, EQ, E3, Bu, (by omega), (by have h2 := hq; simp [kg1] at h2 ⊢; rw [List.take_add_one, hl]; simp; rcases h2 with h2 | h2; exact .inl h2; exact .inr (.inl h2)), rfl⟩
     ·have kg1 := g1
      refine WpL_guard_yes rfl rfl (by decide) (congrArg Value.bool g1) ?_
      refine qM _ rfl ?_
      refine WpL_guard_yes rfl rfl (by decide) (congrArg Value.bool g1) ?_
      refine qF bu 0 1 rfl Tryz.underlying25 rfl siz22 rfl ?_
      refine WpL_guard_yes rfl rfl (by decide) (congrArg Value.bool g1) ?_
      refine qV (r_load rfl flat22 (Bu.cell rfl)) ?_
      refine WpL_guard_yes rfl rfl (by decide) (congrArg Value.bool g1) ?_
      refine WpL_enter rfl rfl (by decide) (r_callF Tryz.func47 nm47 bd47 rfl) (rspeq_c _ _ _ l x.set hspn (SlAt.ext hxset EQ)) ?_
      rintro _ w19 ⟨rfl, X19⟩
      replace Bu := X19.keep Bu
      replace E := E.ext X19
      replace EQ := EQ.ext X19
      replace E3 := E3.ext X19
      refine qV (r_pick (v := (.bool (decide (l = x.set)))) rfl (by rw [g1]; rfl)) ?_
      refine qA _ rfl ?_
      refine WpL_nil (inB_normal (thn_normal (Wp_region ?_)))
      refine qV (r_add rfl rfl (wI64 (by omega))) ?_
      refine qM _ rfl ?_
      refine WpL_nil (thn_normal ?_)
      exact ⟨ll.length - (j + 1), by omega, j + 1, decide (l = x.set), Fits.out ⟨rfl, rfl, rfl, rfl, rfl, rfl, rfl, rfl, rfl, trivial⟩, E, EQ, E3, Bu, (by omega), (by have h2 := hq; simp [kg1] at h2 ⊢; rw [List.take_add_one, hl]; simp [h2, eq_comm]), rfl⟩
    ·have khlt2 := hlt2
     replace hlt2 := of_decide_eq_false hlt2
     rw [show ll.take j = ll from List.take_of_length_le (by omega)] at hq
     refine Wp_exit (thn_exit (thn_exit (inB_here (thn_normal (Wp_seq_region ?_)))))
     refine qM _ rfl ?_
     refine qV (r_not rfl) ?_
     refine WpL_nil ?_
     refine Wp_cond rfl (fun hnew => ?_) (fun hnew => ?_)
     ·have khnew := hnew
      replace hnew := by simpa using hnew
      have hk2 : x.kind = 2 ∧ x.set ∉ ll := by rw [hq] at hnew; simpa using hnew
      refine Wp_region ?_
      refine qM _ rfl ?_
      refine qF bu 0 1 rfl Tryz.underlying25 rfl siz22 rfl ?_
      refine qV (r_load rfl flat22 (Bu.cell rfl)) ?_
      refine s_buildSlice (ps := [(0, (.slice xa x.set.length xc))]) (c := #[(.slice xa x.set.length xc)]) (by decide) rfl Tryz.underlying38 siz22 zer22 (by decide) (by decide) (by kernel_rfl) ?_
      intro bv wv Nv
      have Fv := Nv.ge E
      have Fv_EQ := Nv.ge EQ
      have Fv_E3 := Nv.ge E3
      have Ov_bu := Nv.lt Bu
      replace Bu := Nv.keep Bu
      replace E := E.ext Nv.ext
      have Bv := Nv.blk
      replace EQ := EQ.ext Nv.ext
      replace E3 := E3.ext Nv.ext
      have hO2 := own_ext hO1 E3
      have hS3 := E3.size
      refine s_append (base := n1) (n := ll.length) (m := 1) (xs := us) (news := [(.slice xa x.set.length xc)]) (size := 1) (bytes := 24) (v := (.slice oa ll.length oc)) (by decide) Tryz.underlying38 siz22 byt22 zer22 rfl (by decide) rfl hO2 rfl (rfl) (Bv.cells rfl) (by simp [Value.oneCell']) (by unfold maxLen; omega) (by omega) (by omega) ?_
      intro v9 w79 Ov9 Cv9 Dv9
      replace E := E.step Cv9 (fun x hx h => absurd (hO2.lt x h).1 (by omega))
      replace EQ := EQ.step Cv9 (fun x hx h => absurd (hO2.lt x h).1 (by omega))
      obtain ⟨la2, lc2, rfl⟩ := own_form Ov9
      have hll2 : (ll ++ [x.set]).length = ll.length + 1 := by simp
      have hPn := hO.push Ov9 hxset
      rw [← hll2] at hPn ⊢
      have hadd2 : addS ll x = ll ++ [x.set] := by unfold addS; rw [if_pos hk2]
      refine qA _ rfl ?_
      refine WpL_nil (inB_normal (thn_normal (Wp_region ?_)))
      refine qV (r_add rfl rfl (wI64 (by omega))) ?_
      refine qM _ rfl ?_
      refine WpL_nil (thn_normal ?_)
      exact ⟨L.length - (k + 1), by omega, k + 1, ll ++ [x.set], us ++ [.slice xa x.set.length xc], la2, lc2, Fits.out ⟨rfl, rfl, rfl, rfl, trivial⟩, E, EQ, (by omega), (by rw [hadd, hadd2]), hPn, (by have := Cv9.size; omega), rfl⟩
     ·have khnew := hnew
      replace hnew := by simpa using hnew
      have hadd2 : addS ll x = ll := by unfold addS; rw [if_neg (by rintro ⟨h1, h2⟩; rw [hq] at hnew; simp [h1, h2] at hnew)]
      refine Wp_skip (inB_normal (thn_normal (Wp_region ?_)))
      refine qV (r_add rfl rfl (wI64 (by omega))) ?_
      refine qM _ rfl ?_
      refine WpL_nil (thn_normal ?_)
      exact ⟨L.length - (k + 1), by omega, k + 1, ll, us, oa, oc, Fits.out ⟨rfl, rfl, rfl, rfl, trivial⟩, E, EQ, (by omega), (by rw [hadd, hadd2]), ⟨(own_ext hO1 E3), hO.len, hO.el⟩, (by have := E3.size; omega), rfl⟩
  ·have khlt := hlt
   replace hlt := of_decide_eq_false hlt
   have hkk : L.take k = L := List.take_of_length_le (by omega)
   rw [hkk, ← hSL] at hll
   refine Wp_exit (thn_exit (thn_exit (inB_here (thn_normal (Wp_seq_region ?_)))))
   refine qM _ rfl ?_
   refine qA _ rfl ?_
   refine WpL_nil (Wp_ret ?_)
   refine fin_tmp Tryz.results23 (v := (.slice oa ll.length oc)) rfl ?_
   rw [← hll]; exact ⟨hO.spss EQ, E⟩
end Go.Proofs
namespace Go.Proofs
open Go Go.Eng
set_option maxRecDepth 100000
theorem sseq_c (w0 : World) (v1 v2 : Value) (l1 l2 : List (List Sp)) (h1 : SpssAt w0 v1 l1) (h2 : SpssAt w0 v2 l2) :
  Ret Tryz.prog 22 #[v1, v2] w0 fun v w => v = .bool (decide (l1 = l2)) ∧ Ext w0 w := by
 obtain ⟨a1, c1, rfl, _, hb1⟩ := h1.form
 obtain ⟨a2, c2, rfl, _, hb2⟩ := h2.form
 refine Ret_of Tryz.func22 rfl Tryz.ntmps22 (Nat.le_of_ble_eq_true rfl) ?_
 have E : Chg none1 w0 w0 := Chg.refl _ _
 refine Wp_seq_region ?_
 refine qA _ rfl ?_
 refine WpL_nil (Wp_seq (Wp_seq_region ?_))
 refine qM _ rfl ?_
 refine qV (r_lenSlice Tryz.underlying38 rfl) ?_
 refine qM _ rfl ?_
 refine qV (r_lenSlice Tryz.underlying38 rfl) ?_
 refine qV (r_neq rfl rfl) ?_
 refine WpL_nil ?_
 refine Wp_cond rfl (fun hl => ?_) (fun hl => ?_)
 ·have khl := hl
  replace hl := of_decide_eq_true hl
  refine Wp_seq_region ?_
  refine qA _ rfl ?_
  refine WpL_nil (Wp_ret (thn_ret ?_))
  refine fin_tmp Tryz.results22 (v := (.bool false)) rfl ?_
  exact ⟨bool_eq (by symm; rw [decide_eq_false_iff_not]; intro h; rw [h] at hl; exact hl rfl), E⟩
 ·have khl := hl
  replace hl := of_decide_eq_false hl
  refine Wp_skip (thn_normal (Wp_seq (Wp_seq_region ?_)))
  refine qM _ rfl ?_
  refine qV (r_lenSlice Tryz.underlying38 rfl) ?_
  refine qM _ rfl ?_
  refine WpL_nil (Wp_block ?_)
  refine Wp_loop (fun nn_ σ W2 => ∃ (k : Nat), (∃ jj_, σ = upds jj_ [(0, (.slice a1 l1.length c1)), (1, (.slice a2 l2.length c2)), (12, (I6 (l1.length : Int))), (13, (I6 (k : Int)))]) ∧ Chg none1 w0 W2 ∧ (k ≤ l1.length) ∧ (∀ (i : Nat), i < k → l1[i]? = l2[i]?) ∧ nn_ = l1.length - k) (n := l1.length - 0) ?_ ?_
  ·exact ⟨0, Fits.out ⟨rfl, rfl, rfl, rfl, trivial⟩, E, Nat.zero_le _, (fun i h => absurd h (Nat.not_lt_zero _)), rfl⟩
  ·clear E
   rintro _ _ W2 ⟨k, ⟨j2, rfl⟩, E, hk, heq, rfl⟩
   refine Wp_seq_region ?_
   refine qV (r_lss rfl rfl) ?_
   refine WpL_nil (Wp_seq ?_)
   refine Wp_cond rfl (fun hlt => ?_) (fun hlt => ?_)
   ·have khlt := hlt
    replace hlt := of_decide_eq_true hlt
    obtain ⟨p, hp⟩ := get_of_lt (l := l1) (i := k) (by omega)
    obtain ⟨q, hq⟩ := get_of_lt (l := l2) (i := k) (by omega)
    obtain ⟨b1, o1, rfl, hc1⟩ := spss_cells h1 (by omega)
    obtain ⟨b2, o2, rfl, hc2⟩ := spss_cells h2 (by omega)
    obtain ⟨pa, pc, hpc, hp1⟩ := hc1 k p hp
    obtain ⟨qa, qc, hqc, hq1⟩ := hc2 k q hq
    refine Wp_skip (thn_normal (Wp_seq (Wp_block (Wp_seq_region ?_))))
    refine qM _ rfl ?_
    refine qA _ rfl ?_
    refine WpL_nil (Wp_seq ?_)
    obtain ⟨Fs4, hFs4⟩ : ∃ Fs : List Fact, Fs = [.eq (.slice (some ⟨b1, o1, none⟩) l1.length c1), .eq (I6 (k : Int)), .eq (.pointer (some ⟨b1, o1 + k, none⟩)), .eq (.slice pa p.length pc), .eq (.slice (some ⟨b2, o2, none⟩) l2.length c2), .eq (I6 (k : Int)), .eq (.pointer (some ⟨b2, o2 + k, none⟩)), .eq (.slice qa q.length qc), .eq (.bool (decide (p = q))), .eq (.bool (!(decide (p = q))))] := ⟨_, rfl⟩
    refine Wp_dag [16, 17, 18, 19, 20, 21, 22, 23, 24, 25] [[], [], [0, 1], [2], [], [], [4, 5], [6], [3, 7], [8]] Fs4 hFs4 mixed (by kernel_rfl) (by kernel_rfl) ?_ ?_
    ·intro wd X0
     refine DagSteps.cons (fun s' w' X U H => Or.inl ⟨?_, ?_⟩) ?_
     ·exact Guarded_none rfl
     ·exact Does_val (r_move (U 0 rfl)) (Ext.refl _) rfl
     refine DagSteps.cons (fun s' w' X U H => Or.inl ⟨?_, ?_⟩) ?_
     ·exact Guarded_none rfl
     ·exact Does_val (r_move (U 5 rfl)) (Ext.refl _) rfl
     refine DagSteps.cons (fun s' w' X U H => Or.inl ⟨?_, ?_⟩) ?_
     ·exact Guarded_none rfl
     ·have e16 : s' 16 = (.slice (some ⟨b1, o1, none⟩) l1.length c1) := H 0 rfl 16 (.eq (.slice (some ⟨b1, o1, none⟩) l1.length c1)) rfl (by rw [hFs4]; rfl)
      have e17 : s' 17 = (.int .i64 ((k : Nat) : Int)) := H 1 rfl 17 (.eq (.int .i64 ((k : Nat) : Int))) rfl (by rw [hFs4]; rfl)
      exact Does_val (r_indexSlice (i := k) e16 e17 rfl Tryz.underlying38 siz22 (by omega) (by omega)) (Ext.refl _) rfl
     refine DagSteps.cons (fun s' w' X U H => Or.inl ⟨?_, ?_⟩) ?_
     ·exact Guarded_none rfl
     ·have e18 : s' 18 = (.pointer (some ⟨b1, o1 + k, none⟩)) := H 2 rfl 18 (.eq (.pointer (some ⟨b1, o1 + k, none⟩))) rfl (by rw [hFs4]; rfl)
      exact Does_val (r_load e18 flat22 ((Chg.ext E (X0.trans X)).cell (fun f => f) hpc)) (Ext.refl _) rfl
     refine DagSteps.cons (fun s' w' X U H => Or.inl ⟨?_, ?_⟩) ?_
     ·exact Guarded_none rfl
     ·exact Does_val (r_move (U 1 rfl)) (Ext.refl _) rfl
     refine DagSteps.cons (fun s' w' X U H => Or.inl ⟨?_, ?_⟩) ?_
     ·exact Guarded_none rfl
     ·exact Does_val (r_move (U 5 rfl)) (Ext.refl _) rfl
     refine DagSteps.cons (fun s' w' X U H => Or.inl ⟨?_, ?_⟩) ?_
     ·exact Guarded_none rfl
     ·have e20 : s' 20 = (.slice (some ⟨b2, o2, none⟩) l2.length c2) := H 4 rfl 20 (.eq (.slice (some ⟨b2, o2, none⟩) l2.length c2)) rfl (by rw [hFs4]; rfl)
      have e21 : s' 21 = (.int .i64 ((k : Nat) : Int)) := H 5 rfl 21 (.eq (.int .i64 ((k : Nat) : Int))) rfl (by rw [hFs4]; rfl)
      exact Does_val (r_indexSlice (i := k) e20 e21 rfl Tryz.underlying38 siz22 (by omega) (by omega)) (Ext.refl _) rfl
     refine DagSteps.cons (fun s' w' X U H => Or.inl ⟨?_, ?_⟩) ?_
     ·exact Guarded_none rfl
     ·have e22 : s' 22 = (.pointer (some ⟨b2, o2 + k, none⟩)) := H 6 rfl 22 (.eq (.pointer (some ⟨b2, o2 + k, none⟩))) rfl (by rw [hFs4]; rfl)
      exact Does_val (r_load e22 flat22 ((Chg.ext E (X0.trans X)).cell (fun f => f) hqc)) (Ext.refl _) rfl
     refine DagSteps.cons (fun s' w' X U H => Or.inl ⟨?_, ?_⟩) ?_
     ·exact Guarded_none rfl
     ·have e19 : s' 19 = (.slice pa p.length pc) := H 3 rfl 19 (.eq (.slice pa p.length pc)) rfl (by rw [hFs4]; rfl)
      have e23 : s' 23 = (.slice qa q.length qc) := H 7 rfl 23 (.eq (.slice qa q.length qc)) rfl (by rw [hFs4]; rfl)
      exact Does_enter (r_callF Tryz.func47 nm47 bd47 (lst2 e19 e23)) (rspeq_c _ _ _ p q (hp1.ext (Chg.ext E (X0.trans X))) (hq1.ext (Chg.ext E (X0.trans X))))
     refine DagSteps.cons (fun s' w' X U H => Or.inl ⟨?_, ?_⟩) ?_
     ·exact Guarded_none rfl
     ·have e24 : s' 24 = (.bool (decide (p = q))) := H 8 rfl 24 (.eq (.bool (decide (p = q)))) rfl (by rw [hFs4]; rfl)
      exact Does_val (r_not e24) (Ext.refl _) rfl
     exact DagSteps.nil
    ·intro s' w4 X4 U H
     obtain ⟨j4, rfl⟩ := Fits.out (σ := s') (l := [(0, (.slice (some ⟨b1, o1, none⟩) l1.length c1)), (1, (.slice (some ⟨b2, o2, none⟩) l2.length c2)), (12, (.int .i64 ((l1.length : Nat) : Int))), (13, (.int .i64 ((k : Nat) : Int))), (25, (.bool (!(decide (p = q)))))]) ⟨U 0 rfl, U 1 rfl, U 12 rfl, U 13 rfl, (show s' 25 = (.bool (!(decide (p = q)))) from H 9 25 (.eq (.bool (!(decide (p = q))))) rfl (by rw [hFs4]; rfl)), trivial⟩
     clear U H
     replace E := E.ext X4
     refine thn_normal ?_
     refine Wp_cond rfl (fun hne => ?_) (fun hne => ?_)
     ·have khne := hne
      replace hne := by simpa using hne
      refine Wp_seq_region ?_
      refine qA _ rfl ?_
      refine WpL_nil (Wp_ret (inB_ret (thn_ret (thn_ret (inB_ret (thn_ret ?_))))))
      refine fin_tmp Tryz.results22 (v := (.bool false)) rfl ?_
      exact ⟨bool_eq (by symm; rw [decide_eq_false_iff_not]; intro h; subst h; rw [hp] at hq; cases hq; simp at hne), E⟩
     ·have khne := hne
      replace hne := by simpa using hne
      refine Wp_skip (inB_normal (thn_normal (Wp_region ?_)))
      refine qV (r_add rfl rfl (wI64 (by omega))) ?_
      refine qM _ rfl ?_
      refine WpL_nil (thn_normal ?_)
      exact ⟨l1.length - (k + 1), by omega, k + 1, Fits.out ⟨rfl, rfl, rfl, rfl, trivial⟩, E, (by omega), (fun i hi => by rcases Nat.lt_or_ge i k with h | h; exact heq i h; obtain rfl : i = k := (by omega); rw [hp, hq]; simpa using hne), rfl⟩
   ·have khlt := hlt
    replace hlt := of_decide_eq_false hlt
    refine Wp_exit (thn_exit (thn_exit (inB_here (thn_normal (Wp_seq_region ?_)))))
    refine qA _ rfl ?_
    refine WpL_nil (Wp_ret ?_)
    refine fin_tmp Tryz.results22 (v := (.bool true)) rfl ?_
    exact ⟨bool_eq (by symm; rw [decide_eq_true_eq]; apply List.ext_getElem?; intro i; rcases Nat.lt_or_ge i l1.length with h | h; exact heq i (by omega); rw [List.getElem?_eq_none h, List.getElem?_eq_none (by omega)]), E⟩
end Go.Proofs
