/- Contracts: matching by definition. -/
import Derived.Test.YtiepeobnpmoghaaDoorW19
import Derived.Test.YtiepeobnpmoghaaDoorLm
import Derived.Test.YtiepeobnpmoghaaDoorDag
namespace Go.Proofs
open Go Go.Eng
set_option maxRecDepth 100000

theorem relOf_mk (text : List Int) (k : Int) (set : List (Int × Int)) (args : List Re) (mn mx : Int) (ng : Bool) : relOf text (.mk k set args mn mx ng) = relK text k set (args.map (relOf text)) mn mx ng := relOf_eq text (.mk k set args mn mx ng)
section
variable {text : List Int} (hn : text.length ≤ 24) {t x : Re} {i j : Nat}
theorem rk0 (h : t.kind = 0) : relOf text t i j = false := by
  rw [relOf_eq]; simp [relK, h, noR]
theorem rk1 (h : t.kind = 1) (hi : i ≤ text.length) : relOf text t i j = decide ((i : Int) = (j : Int)) := by
  rw [relOf_eq]; simp only [relK, h, if_true, idR]; rw [Bool.eq_iff_iff]; simp; omega
theorem rk2 {c : Int} (h : t.kind = 2) (hc : text[i]? = some c) : relOf text t i j = (inS t.set c && decide (j = i + 1)) := by
  rw [relOf_eq]; simp [relK, h, setR, hc]
theorem rk2' (h : t.kind = 2) (hj : j ≠ i + 1) : relOf text t i j = false := by
  rw [relOf_eq]; simp [relK, h, setR, hj]
theorem rels_wf (text : List Int) (ts : List Re) : ∀ R ∈ ts.map (relOf text), Wf text.length R := by
  intro R hR
  rw [List.mem_map] at hR
  obtain ⟨y, _, rfl⟩ := hR
  exact wf_rel text y
include hn
theorem rk3 {r : List Re} (h : t.kind = 3) (ha : t.args = x :: r) : relOf text t i j = true ↔ ∃ k, i ≤ k ∧ k ≤ j ∧ relOf text x i k = true ∧ relOf text (.mk 3 [] r 0 0 false) k j = true := by
  rw [relOf_eq text t, relOf_mk]
  simp only [relK, h, ha, List.map_cons]
  simp only [show ¬ (3 : Int) = 1 from by decide, show ¬ (3 : Int) = 2 from by decide, if_false, if_true]
  rw [cat_cons hn (wf_rel text x) _ (rels_wf text r)]
  exact then_range hn (wf_rel text x) (wf_foldThen _ _ (wf_id _) (rels_wf text r)) i j
theorem rk3_1 (h : t.kind = 3) (ha : t.args = [x]) : relOf text t = relOf text x := by
  rw [relOf_eq text t]
  simp only [relK, h, ha, List.map_cons, List.map_nil, List.foldl_cons, List.foldl_nil]
  simp only [show ¬ (3 : Int) = 1 from by decide, show ¬ (3 : Int) = 2 from by decide, if_false, if_true]
  exact id_then hn (wf_rel text x)
omit hn in
theorem rk4 (h : t.kind = 4) : relOf text t i j = t.args.any fun a => relOf text a i j := by
  rw [relOf_eq text t]
  simp [relK, h, foldOr_any, noR, List.any_map]
  rfl
omit hn in
theorem rk7 (h : t.kind = 7) (h0 : 0 < t.args.length) : relOf text t i j = t.args.all fun a => relOf text a i j := by
  rw [relOf_eq text t]
  cases ha : t.args with
  | nil => rw [ha] at h0; simp at h0
  | cons y r =>
    simp only [relK, h, show ¬ (7 : Int) = 1 from by decide, show ¬ (7 : Int) = 2 from by decide, show ¬ (7 : Int) = 3 from by decide, show ¬ (7 : Int) = 4 from by decide, if_false, if_true]
    rw [foldAnd_all]
    simp [List.all_map, ← Bool.and_assoc]
    rfl
theorem rk5 (h : t.kind = 5) (ha : t.args[0]? = some x) (hi : i ≤ text.length) : relOf text t i j = true ↔ i = j ∨ ∃ k, i + 1 ≤ k ∧ k ≤ j ∧ relOf text x i k = true ∧ relOf text t k j = true := by
  have hR : relOf text t = starN text.length (relOf text x) (text.length + 1) := by
    rw [relOf_eq text t]
    cases hh : t.args with
    | nil => rw [hh] at ha; simp at ha
    | cons y r => rw [hh] at ha; simp at ha; subst ha; simp [relK, h]
  rw [hR]
  exact star_first hn (wf_rel text x) hi
theorem rk6 (h : t.kind = 6) (ha : t.args[0]? = some x) (h0 : 0 ≤ t.mn) (h1 : t.mn ≤ t.mx) (hi : i ≤ text.length) : relOf text t i j = true ↔ (t.mn = 0 ∧ i = j) ∨ (t.mx ≠ 0 ∧ ∃ k, i ≤ k ∧ k ≤ j ∧ relOf text x i k = true ∧ relOf text (.mk 6 [] t.args (max 0 (t.mn - 1)) (t.mx - 1) false) k j = true) := by
  cases hh : t.args with
  | nil => rw [hh] at ha; simp at ha
  | cons y r =>
    rw [hh] at ha; simp at ha; subst ha
    rw [relOf_eq text t, relOf_mk]
    simp only [relK, h, hh, List.map_cons, List.headD_cons]
    simp only [show ¬ (6 : Int) = 1 from by decide, show ¬ (6 : Int) = 2 from by decide, show ¬ (6 : Int) = 3 from by decide, show ¬ (6 : Int) = 4 from by decide, show ¬ (6 : Int) = 5 from by decide, show ¬ (6 : Int) = 7 from by decide, show ¬ (6 : Int) = 8 from by decide, if_false, if_true]
    exact rep_first hn (wf_rel text y) h0 h1 hi
omit hn in
theorem rk8 (h : t.kind = 8) (ha : t.args[0]? = some x) (hij : i ≤ j) (hj : j ≤ text.length) : relOf text t i j = !relOf text x i j := by
  rw [relOf_eq text t]
  cases hh : t.args with
  | nil => rw [hh] at ha; simp at ha
  | cons y r => rw [hh] at ha; simp at ha; subst ha; simp [relK, h, not_in hij hj]
omit hn in
theorem rk9 (h : t.kind = 9) (ha : t.args[0]? = some x) : relOf text t = relOf text x := by
  rw [relOf_eq text t]
  cases hh : t.args with
  | nil => rw [hh] at ha; simp at ha
  | cons y r => rw [hh] at ha; simp at ha; subst ha; simp [relK, h]
theorem rk10 (h : t.kind = 10) (ha : t.args[0]? = some x) (hi : i ≤ text.length) : relOf text t i j = (decide (i = j) && (((List.range (text.length + 1)).any fun k => decide (i ≤ k) && relOf text x i k) != t.neg)) := by
  rw [relOf_eq text t]
  cases hh : t.args with
  | nil => rw [hh] at ha; simp at ha
  | cons y r =>
    rw [hh] at ha; simp at ha; subst ha; simp only [relK, h]
    simp [look_in hn (wf_rel text y) hi]
end

theorem okRe_mx {t : Re} (h : okRe t) (hk : t.kind ≠ 6) : t.mx = 0 := by
  have := (okRe_form h).2.2
  unfold formB at this
  simp [hk] at this
  omega
def okM (t : Re) : Prop := (t.kind = 3 ∧ 0 < t.args.length ∧ okRes t.args ∧ t.mx = 0) ∨ (okRe t ∧ t.kind ≠ 3)
theorem okM_of {t : Re} (h : okRe t) : okM t := by
  by_cases hk : t.kind = 3
  · exact .inl ⟨hk, by have := okRe_two h (.inl hk); omega, okRe_args h, okRe_mx h (by omega)⟩
  · exact .inr ⟨h, hk⟩
theorem okM_mx {t : Re} (h : okM t) : t.mx.toNat ≤ 8 := by
  rcases h with ⟨_, _, _, h⟩ | ⟨h, _⟩
  · omega
  · by_cases hk : t.kind = 6
    · have := okRe_rep h hk; omega
    · have := okRe_mx h hk; omega
theorem okM_args {t : Re} (h : okM t) : okRes t.args := by
  rcases h with ⟨_, _, h, _⟩ | ⟨h, _⟩
  · exact h
  · exact okRe_args h
def msr (t : Re) (i j : Nat) : Nat := t.size * 1000 + t.mx.toNat * 50 + (j - i)
theorem msr_sub {t x : Re} {i j i' j' : Nat} (hs : x.size < t.size) (hx : x.mx.toNat ≤ 8) (h : j' - i' ≤ 24) : msr x i' j' < msr t i j := by
  unfold msr; omega
def MatchOk (text : List Int) (M : Nat) : Prop := ∀ t i j, i ≤ j → j ≤ text.length → msr t i j < M → okM t → ∀ (w0 : World) (vs : List Value) (vt : Value), ReAt w0 t vs → IntsAt w0 vt text →
    Ret Tryd.prog 23 #[.agg vs.toArray, vt, .int .i64 (i : Int), .int .i64 (j : Int)] w0 fun v w => v = .bool (relOf text t i j) ∧ Ext w0 w
theorem args_at {w0 : World} {aa : Option Addr} {ts : List Re} (h : ts = [] ∨ ∃ b o, aa = some ⟨b, o, none⟩ ∧ ResAt w0 b o ts) (h0 : 0 < ts.length) : ∃ b o, aa = some ⟨b, o, none⟩ ∧ ResAt w0 b o ts := by
  rcases h with h | h
  · rw [h] at h0; simp at h0
  · exact h
theorem bool_true {b : Bool} (h : b = true) : Value.bool true = .bool b := by rw [h]
theorem bool_false {b : Bool} (h : ¬ b = true) : Value.bool false = .bool b := by simp at h; rw [h]

theorem search_next {P : Nat → Prop} {lo k : Nat} (hp : ∀ m, lo ≤ m → m < k → ¬ P m) (hk : ¬ P k) : ∀ m, lo ≤ m → m < k + 1 → ¬ P m := by
  intro m h1 h2
  rcases Nat.lt_or_ge m k with h | h
  · exact hp m h1 h
  · obtain rfl : m = k := by omega
    exact hk
set_option maxHeartbeats 2000000 in
theorem repeats_c (text : List Int) (hn : text.length ≤ 24) (M : Nat) (ih : MatchOk text M) (t : Re) (i j : Nat) (hij : i ≤ j) (hj : j ≤ text.length) (hM : msr t i j ≤ M) (hok : okRe t) (h6 : t.kind = 6) (w0 : World) (vs : List Value) (vt : Value) (ht : ReAt w0 t vs) (htx : IntsAt w0 vt text) :
    Ret Tryd.prog 51 #[.agg vs.toArray, vt, .int .i64 (i : Int), .int .i64 (j : Int)] w0 fun v w => v = .bool (relOf text t i j) ∧ Ext w0 w := by
  have ht0 := ht
  obtain ⟨sa, sc, aa, ac, rfl, hset, hlen, hargs⟩ := ht.form
  obtain ⟨ta, tc, rfl⟩ := SlAt.form htx
  simp only [List.length_map] at htx ⊢
  have hone := okRe_one hok (by omega)
  have hrep := okRe_rep hok h6
  obtain ⟨x, hx⟩ := get_of_lt (l := t.args) (i := 0) (by omega)
  have hxo := okRes_get (okRe_args hok) hx
  have hxs := Re.size_arg hx
  have hsp := rk6 hn h6 hx hrep.1 hrep.2.1 (i := i) (j := j) (by omega)
  obtain ⟨ab, ao, rfl, hres⟩ := args_at hargs (by omega)
  obtain ⟨us, hus, hxt⟩ := hres.get hx
  refine Ret_of Tryd.func51 rfl Tryd.ntmps51 (Nat.le_of_ble_eq_true rfl) ?_
  have E : Chg none1 w0 w0 := Chg.refl _ _
  refine Wp_seq_region ?_
  refine s_box (v := (.agg #[(.int .i64 t.kind), (.slice sa t.set.length sc), (.slice (some ⟨ab, ao, none⟩) t.args.length ac), (.int .i64 t.mn), (.int .i64 t.mx), (.bool t.neg)])) (c := #[(.int .i64 t.kind), (.slice sa t.set.length sc), (.slice (some ⟨ab, ao, none⟩) t.args.length ac), (.int .i64 t.mn), (.int .i64 t.mx), (.bool t.neg)]) (by decide) rfl rfl ?_
  intro b1 w1 N1
  have F1 := N1.ge E
  replace E := E.ext N1.ext
  have B1 := N1.blk
  refine WpL_val rfl rfl (by decide) (r_assign (v := (.bool false)) rfl) ?_
  refine WpL_nil ?_
  refine Wp_seq ?_
  refine Wp_seq_region ?_
  refine WpL_val rfl rfl (by decide) (r_fieldAddr (b := b1) (o := 0) (o' := 3) rfl Tryd.underlying27 rfl siz3 rfl) ?_
  refine WpL_val rfl rfl (by decide) (r_load (v := (.int .i64 t.mn)) rfl flat3 (B1.cell rfl)) ?_
  obtain ⟨e2, he2⟩ : ∃ e, (decide ((t.mn : Int) = 0)) = e := ⟨_, rfl⟩
  refine WpL_val rfl rfl (by decide) ((r_eql (k := .i64) (a := t.mn) (b := 0) rfl rfl).trans (by rw [he2]; try rfl)) ?_
  refine WpL_val rfl rfl (by decide) (r_move (v := (.bool e2)) rfl) ?_
  refine WpL_guard_any (oj := _) (gv := (.bool e2)) (u := (bif e2 then (.int .i64 ((i : Nat) : Int)) else undef)) rfl rfl (by decide) (by decide) rfl (by cases e2 <;> first | exact Or.inr ⟨Or.inl rfl, rfl⟩ | exact Or.inr ⟨Or.inr rfl, rfl⟩ | exact Or.inl ⟨rfl, r_move (v := (.int .i64 ((i : Nat) : Int))) rfl⟩) ?_
  refine WpL_guard_any (oj := _) (gv := (.bool e2)) (u := (bif e2 then (.int .i64 ((j : Nat) : Int)) else undef)) rfl rfl (by decide) (by decide) rfl (by cases e2 <;> first | exact Or.inr ⟨Or.inl rfl, rfl⟩ | exact Or.inr ⟨Or.inr rfl, rfl⟩ | exact Or.inl ⟨rfl, r_move (v := (.int .i64 ((j : Nat) : Int))) rfl⟩) ?_
  obtain ⟨e3, he3⟩ : ∃ e, (decide ((((i : Nat) : Int) : Int) = ((j : Nat) : Int))) = e := ⟨_, rfl⟩
  refine WpL_guard_any (oj := _) (gv := (.bool e2)) (u := (bif e2 then (.bool e3) else undef)) rfl rfl (by decide) (by decide) rfl (by cases e2 <;> first | exact Or.inr ⟨Or.inl rfl, rfl⟩ | exact Or.inr ⟨Or.inr rfl, rfl⟩ | exact Or.inl ⟨rfl, (r_eql (k := .i64) (a := ((i : Nat) : Int)) (b := ((j : Nat) : Int)) rfl rfl).trans (by rw [he3]; try rfl)⟩) ?_
  obtain ⟨e4, he4⟩ : ∃ e, (e2 && e3) = e := ⟨_, rfl⟩
  refine WpL_val rfl rfl (by decide) (r_pick (b := e2) (v := .bool e4) rfl (by rw [← he4]; cases e2 <;> rfl)) ?_
  refine WpL_nil ?_
  subst he4
  subst he3
  subst he2
  refine Wp_cond (b := ((decide ((t.mn : Int) = 0)) && (decide ((((i : Nat) : Int) : Int) = ((j : Nat) : Int))))) rfl (fun h0 => ?_) (fun h0 => ?_)
  · have kh0 := h0
    simp at h0
    refine Wp_seq_region ?_
    refine WpL_val rfl rfl (by decide) (r_assign (v := (.bool true)) rfl) ?_
    refine WpL_nil ?_
    refine Wp_ret ?_
    refine thn_ret ?_
    refine fin_tmp Tryd.results51 (v := (.bool true)) rfl ?_
    exact ⟨bool_true (hsp.2 (.inl ⟨h0.1, by omega⟩)), E⟩
  · have kh0 := h0
    simp at h0
    refine Wp_skip ?_
    refine thn_normal ?_
    refine Wp_seq ?_
    refine Wp_seq_region ?_
    refine WpL_val rfl rfl (by decide) (r_fieldAddr (b := b1) (o := 0) (o' := 4) rfl Tryd.underlying27 rfl siz3 rfl) ?_
    refine WpL_val rfl rfl (by decide) (r_load (v := (.int .i64 t.mx)) rfl flat3 (B1.cell rfl)) ?_
    refine WpL_val rfl rfl (by decide) (r_eql (k := .i64) (a := t.mx) (b := 0) rfl rfl) ?_
    refine WpL_nil ?_
    refine Wp_cond (b := decide ((t.mx : Int) = 0)) rfl (fun hmx => ?_) (fun hmx => ?_)
    · have khmx := hmx
      replace hmx := of_decide_eq_true hmx
      refine Wp_seq_region ?_
      refine WpL_val rfl rfl (by decide) (r_assign (v := (.bool false)) rfl) ?_
      refine WpL_nil ?_
      refine Wp_ret ?_
      refine thn_ret ?_
      refine fin_tmp Tryd.results51 (v := (.bool false)) rfl ?_
      exact ⟨bool_false (fun h => by rcases hsp.1 h with h | h <;> omega), E⟩
    · have khmx := hmx
      replace hmx := of_decide_eq_false hmx
      refine Wp_skip ?_
      refine thn_normal ?_
      refine Wp_seq_region ?_
      refine WpL_val rfl rfl (by decide) (r_fieldAddr (b := b1) (o := 0) (o' := 3) rfl Tryd.underlying27 rfl siz3 rfl) ?_
      refine WpL_val rfl rfl (by decide) (r_load (v := (.int .i64 t.mn)) rfl flat3 (B1.cell rfl)) ?_
      refine WpL_val rfl rfl (by decide) (r_sub (k := .i64) (a := t.mn) (b := 1) (c := t.mn - 1) rfl rfl (wI64 (by omega))) ?_
      refine WpL_val rfl rfl (by decide) (r_max2 (a := 0) (b := t.mn - 1) (c := max 0 (t.mn - 1)) rfl rfl rfl) ?_
      refine WpL_val rfl rfl (by decide) (r_fieldAddr (b := b1) (o := 0) (o' := 4) rfl Tryd.underlying27 rfl siz3 rfl) ?_
      refine WpL_val rfl rfl (by decide) (r_load (v := (.int .i64 t.mx)) rfl flat3 (B1.cell rfl)) ?_
      refine WpL_val rfl rfl (by decide) (r_sub (k := .i64) (a := t.mx) (b := 1) (c := t.mx - 1) rfl rfl (wI64 (by omega))) ?_
      refine WpL_val rfl rfl (by decide) (r_fieldAddr (b := b1) (o := 0) (o' := 2) rfl Tryd.underlying27 rfl siz25 rfl) ?_
      refine WpL_val rfl rfl (by decide) (r_load (v := (.slice (some ⟨ab, ao, none⟩) t.args.length ac)) rfl flat25 (B1.cell rfl)) ?_
      refine WpL_val rfl rfl (by decide) (r_build (ps := [(0, (.int .i64 6)), (3, (.int .i64 (max 0 (t.mn - 1)))), (4, (.int .i64 (t.mx - 1))), (2, (.slice (some ⟨ab, ao, none⟩) t.args.length ac))]) (v := (.agg #[(.int .i64 6), (.slice none 0 0), (.slice (some ⟨ab, ao, none⟩) t.args.length ac), (.int .i64 (max 0 (t.mn - 1))), (.int .i64 (t.mx - 1)), (.bool false)])) rfl (by kernel_rfl)) ?_
      refine s_allocStore (v := (.agg #[(.int .i64 6), (.slice none 0 0), (.slice (some ⟨ab, ao, none⟩) t.args.length ac), (.int .i64 (max 0 (t.mn - 1))), (.int .i64 (t.mx - 1)), (.bool false)])) (c := #[(.int .i64 6), (.slice none 0 0), (.slice (some ⟨ab, ao, none⟩) t.args.length ac), (.int .i64 (max 0 (t.mn - 1))), (.int .i64 (t.mx - 1)), (.bool false)]) (n := 6) (by decide) zer27 rfl siz27 rfl rfl rfl (by simp [Value.oneCell']) ?_
      intro b7 w7 N7
      have F7 := N7.ge E
      have O7_b1 := N7.lt B1
      replace B1 := N7.keep B1
      replace E := E.ext N7.ext
      have B7 := N7.blk
      refine WpL_nil ?_
      refine Wp_seq ?_
      refine Wp_seq_region ?_
      refine WpL_val rfl rfl (by decide) (r_move (v := (.int .i64 ((i : Nat) : Int))) rfl) ?_
      refine WpL_val rfl rfl (by decide) (r_assign (v := (.int .i64 ((i : Nat) : Int))) rfl) ?_
      refine WpL_nil ?_
      refine Wp_block ?_
      have hrest : ReAt w0 (.mk 6 [] t.args (max 0 (t.mn - 1)) (t.mx - 1) false) [.int .i64 6, .slice none 0 0, .slice (some ⟨ab, ao, none⟩) t.args.length ac, .int .i64 (max 0 (t.mn - 1)), .int .i64 (t.mx - 1), .bool false] := ReAt.of (set := []) (SlAt.nil _ _ _ _) hlen (.inr ⟨ab, ao, rfl, hres⟩)
      have hrok : okRe (.mk 6 [] t.args (max 0 (t.mn - 1)) (t.mx - 1) false) := by
        have hax : t.args = [x] := by
          match h : t.args, hone, hx with
          | [y], _, hy => simp at hy; rw [hy]
        rw [hax]; simp only [okRe, okRes]
        exact ⟨node_rep (by omega) (by omega) (by omega) x, hxo, trivial⟩
      have hrms : ∀ k, i ≤ k → k ≤ j → msr (.mk 6 [] t.args (max 0 (t.mn - 1)) (t.mx - 1) false) k j < M := by
        intro k h1 h2
        have hz : (Re.mk 6 [] t.args (max 0 (t.mn - 1)) (t.mx - 1) false).size = t.size := by rw [Re.size_eq, Re.size_eq]; rfl
        have e1 : (t.mx - 1).toNat + 1 = t.mx.toNat := by omega
        unfold msr at hM ⊢
        rw [hz, show (Re.mk 6 [] t.args (max 0 (t.mn - 1)) (t.mx - 1) false).mx = t.mx - 1 from rfl]; clear hz; generalize (t.mx - 1).toNat = p at e1 ⊢; generalize t.mx.toNat = q at e1 hM; omega
      refine Wp_loop (fun nn_ σ W8 => ∃ (k : Nat), (∃ jj_, σ = upds jj_ [(1, (.slice ta text.length tc)), (2, (.int .i64 ((i : Nat) : Int))), (3, (.int .i64 ((j : Nat) : Int))), (4, (.pointer (some ⟨b1, 0, none⟩))), (9, (.pointer (some ⟨b7, 0, none⟩))), (10, (.int .i64 ((k : Nat) : Int)))]) ∧ Chg none1 w0 W8 ∧ Blk W8 b1 #[(.int .i64 t.kind), (.slice sa t.set.length sc), (.slice (some ⟨ab, ao, none⟩) t.args.length ac), (.int .i64 t.mn), (.int .i64 t.mx), (.bool t.neg)] 27 ∧ Blk W8 b7 #[(.int .i64 6), (.slice none 0 0), (.slice (some ⟨ab, ao, none⟩) t.args.length ac), (.int .i64 (max 0 (t.mn - 1))), (.int .i64 (t.mx - 1)), (.bool false)] 27 ∧ (i ≤ k ∧ k ≤ j + 1) ∧ (∀ m, i ≤ m → m < k → ¬ (relOf text x i m = true ∧ relOf text (.mk 6 [] t.args (max 0 (t.mn - 1)) (t.mx - 1) false) m j = true)) ∧ nn_ = j + 1 - k) (n := j + 1 - i) ?_ ?_
      · exact ⟨i, Fits.out ⟨rfl, rfl, rfl, rfl, rfl, rfl, trivial⟩, E, B1, B7, (by omega), (fun m h1 h2 => by omega), rfl⟩
      · clear E B1 B7
        rintro _ _ W8 ⟨k, ⟨j8, rfl⟩, E, B1, B7, hk, hp, rfl⟩
        refine Wp_seq ?_
        refine Wp_seq_region ?_
        refine WpL_val rfl rfl (by decide) (r_move (v := (.int .i64 ((k : Nat) : Int))) rfl) ?_
        refine WpL_val rfl rfl (by decide) (r_move (v := (.int .i64 ((j : Nat) : Int))) rfl) ?_
        refine WpL_val rfl rfl (by decide) (r_leq (k := .i64) (a := ((k : Nat) : Int)) (b := ((j : Nat) : Int)) rfl rfl) ?_
        refine WpL_nil ?_
        refine Wp_cond (b := decide ((((k : Nat) : Int) : Int) ≤ ((j : Nat) : Int))) rfl (fun hlt => ?_) (fun hlt => ?_)
        · have khlt := hlt
          replace hlt := of_decide_eq_true hlt
          refine Wp_skip ?_
          refine thn_normal ?_
          refine Wp_seq ?_
          refine Wp_block ?_
          refine Wp_seq_region ?_
          refine WpL_val rfl rfl (by decide) (r_fieldAddr (b := b1) (o := 0) (o' := 2) rfl Tryd.underlying27 rfl siz25 rfl) ?_
          refine WpL_val rfl rfl (by decide) (r_load (v := (.slice (some ⟨ab, ao, none⟩) t.args.length ac)) rfl flat25 (B1.cell rfl)) ?_
          refine WpL_val rfl rfl (by decide) (r_indexSlice (b := ab) (o := ao) (len := t.args.length) (cap := ac) (i := 0) (o' := ao + 0 * 6) rfl rfl rfl Tryd.underlying25 siz27 (by omega) (by omega)) ?_
          refine WpL_val rfl rfl (by decide) (r_loadAgg (vs := us) rfl agg27 siz27 hxt.len (hus.ext E)) ?_
          refine WpL_val rfl rfl (by decide) (r_move (v := (.slice ta text.length tc)) rfl) ?_
          refine WpL_val rfl rfl (by decide) (r_move (v := (.int .i64 ((i : Nat) : Int))) rfl) ?_
          refine WpL_val rfl rfl (by decide) (r_move (v := (.int .i64 ((k : Nat) : Int))) rfl) ?_
          refine WpL_enter rfl rfl (by decide) (r_callF (vs := [(.agg us.toArray), (.slice ta text.length tc), (.int .i64 ((i : Nat) : Int)), (.int .i64 ((k : Nat) : Int))]) Tryd.func23 nm23 bd23 rfl) (ih x i k (by omega) (by omega) (Nat.lt_of_lt_of_le (msr_sub hxs (okM_mx (okM_of hxo)) (by omega)) hM) (okM_of hxo) _ us _ (ReAt.ext E x hxt) (htx.ext E)) ?_
          rintro _ w9 ⟨rfl, X9⟩
          replace B1 := X9.keep B1
          replace B7 := X9.keep B7
          replace E := E.ext X9
          refine WpL_val rfl rfl (by decide) (r_move (v := (.bool (relOf text x i k))) rfl) ?_
          rcases Bool.eq_false_or_eq_true (relOf text x i k) with hA | hA
          · have khA := hA
            refine WpL_guard_yes (oj := _) rfl rfl (by decide) (congrArg Value.bool hA) ?_
            refine WpL_val rfl rfl (by decide) (r_loadAgg (vs := [(.int .i64 6), (.slice none 0 0), (.slice (some ⟨ab, ao, none⟩) t.args.length ac), (.int .i64 (max 0 (t.mn - 1))), (.int .i64 (t.mx - 1)), (.bool false)]) rfl agg27 siz27 rfl (B7.cells rfl)) ?_
            refine WpL_guard_yes (oj := _) rfl rfl (by decide) (congrArg Value.bool hA) ?_
            refine WpL_val rfl rfl (by decide) (r_move (v := (.slice ta text.length tc)) rfl) ?_
            refine WpL_guard_yes (oj := _) rfl rfl (by decide) (congrArg Value.bool hA) ?_
            refine WpL_val rfl rfl (by decide) (r_move (v := (.int .i64 ((k : Nat) : Int))) rfl) ?_
            refine WpL_guard_yes (oj := _) rfl rfl (by decide) (congrArg Value.bool hA) ?_
            refine WpL_val rfl rfl (by decide) (r_move (v := (.int .i64 ((j : Nat) : Int))) rfl) ?_
            refine WpL_guard_yes (oj := _) rfl rfl (by decide) (congrArg Value.bool hA) ?_
            refine WpL_enter rfl rfl (by decide) (r_callF (vs := [(.agg #[(.int .i64 6), (.slice none 0 0), (.slice (some ⟨ab, ao, none⟩) t.args.length ac), (.int .i64 (max 0 (t.mn - 1))), (.int .i64 (t.mx - 1)), (.bool false)]), (.slice ta text.length tc), (.int .i64 ((k : Nat) : Int)), (.int .i64 ((j : Nat) : Int))]) Tryd.func23 nm23 bd23 rfl) (ih _ k j (by omega) (by omega) (hrms k (by omega) (by omega)) (okM_of hrok) _ _ _ (ReAt.ext E _ hrest) (htx.ext E)) ?_
            rintro _ w19 ⟨rfl, X19⟩
            replace B1 := X19.keep B1
            replace B7 := X19.keep B7
            replace E := E.ext X19
            refine WpL_val rfl rfl (by decide) (r_pick (b := relOf text x i k) (v := (.bool (relOf text (.mk 6 [] t.args (max 0 (t.mn - 1)) (t.mx - 1) false) k j))) rfl (by rw [hA]; rfl)) ?_
            refine WpL_nil ?_
            refine Wp_cond (b := relOf text (.mk 6 [] t.args (max 0 (t.mn - 1)) (t.mx - 1) false) k j) rfl (fun hB => ?_) (fun hB => ?_)
            · have khB := hB
              refine Wp_seq_region ?_
              refine WpL_val rfl rfl (by decide) (r_assign (v := (.bool true)) rfl) ?_
              refine WpL_nil ?_
              refine Wp_ret ?_
              refine inB_ret ?_
              refine thn_ret ?_
              refine thn_ret ?_
              refine inB_ret ?_
              refine thn_ret ?_
              refine fin_tmp Tryd.results51 (v := (.bool true)) rfl ?_
              exact ⟨bool_true (hsp.2 (.inr ⟨hmx, k, by omega, by omega, hA, hB⟩)), E⟩
            · have khB := hB
              refine Wp_skip ?_
              refine inB_normal ?_
              refine thn_normal ?_
              refine Wp_region ?_
              refine WpL_val rfl rfl (by decide) (r_move (v := (.int .i64 ((k : Nat) : Int))) rfl) ?_
              refine WpL_val rfl rfl (by decide) (r_add (k := .i64) (a := ((k : Nat) : Int)) (b := 1) (c := ((k : Nat) : Int) + 1) rfl rfl (wI64 (by omega))) ?_
              refine WpL_val rfl rfl (by decide) (r_assign (v := (.int .i64 (((k : Nat) : Int) + 1))) rfl) ?_
              refine WpL_nil ?_
              refine thn_normal ?_
              exact ⟨j + 1 - (k + 1), by omega, k + 1, Fits.out ⟨rfl, rfl, rfl, rfl, rfl, rfl, trivial⟩, E, B1, B7, (by omega), search_next hp (fun h => absurd h.2 (by rw [hB]; decide)), rfl⟩
          · have khA := hA
            refine WpL_guard_no (oj := _) rfl rfl (by decide) (v := .bool false) (congrArg Value.bool hA) (Or.inl rfl) ?_
            refine WpL_guard_no (oj := _) rfl rfl (by decide) (v := .bool false) (congrArg Value.bool hA) (Or.inl rfl) ?_
            refine WpL_guard_no (oj := _) rfl rfl (by decide) (v := .bool false) (congrArg Value.bool hA) (Or.inl rfl) ?_
            refine WpL_guard_no (oj := _) rfl rfl (by decide) (v := .bool false) (congrArg Value.bool hA) (Or.inl rfl) ?_
            refine WpL_guard_no (oj := _) rfl rfl (by decide) (v := .bool false) (congrArg Value.bool hA) (Or.inl rfl) ?_
            refine WpL_val rfl rfl (by decide) (r_pick (b := relOf text x i k) (v := (.bool false)) rfl (by rw [hA]; rfl)) ?_
            refine WpL_nil ?_
            refine Wp_cond_false rfl ?_
            refine Wp_skip ?_
            refine inB_normal ?_
            refine thn_normal ?_
            refine Wp_region ?_
            refine WpL_val rfl rfl (by decide) (r_move (v := (.int .i64 ((k : Nat) : Int))) rfl) ?_
            refine WpL_val rfl rfl (by decide) (r_add (k := .i64) (a := ((k : Nat) : Int)) (b := 1) (c := ((k : Nat) : Int) + 1) rfl rfl (wI64 (by omega))) ?_
            refine WpL_val rfl rfl (by decide) (r_assign (v := (.int .i64 (((k : Nat) : Int) + 1))) rfl) ?_
            refine WpL_nil ?_
            refine thn_normal ?_
            exact ⟨j + 1 - (k + 1), by omega, k + 1, Fits.out ⟨rfl, rfl, rfl, rfl, rfl, rfl, trivial⟩, E, B1, B7, (by omega), search_next hp (fun h => absurd h.1 (by rw [hA]; decide)), rfl⟩
        · have khlt := hlt
          replace hlt := of_decide_eq_false hlt
          refine Wp_exit ?_
          refine thn_exit ?_
          refine thn_exit ?_
          refine inB_here ?_
          refine thn_normal ?_
          refine Wp_seq_region ?_
          refine WpL_val rfl rfl (by decide) (r_assign (v := (.bool false)) rfl) ?_
          refine WpL_nil ?_
          refine Wp_ret ?_
          refine fin_tmp Tryd.results51 (v := (.bool false)) rfl ?_
          exact ⟨bool_false (fun h => by rcases hsp.1 h with h | ⟨_, m, h1, h2, h3, h4⟩; omega; exact hp m h1 (by omega) ⟨h3, h4⟩), E⟩
set_option maxHeartbeats 8000000 in
theorem match_c (text : List Int) (hn : text.length ≤ 24) : ∀ M, MatchOk text M := by
  intro M
  induction M with
  | zero => intro t i j _ _ h; omega
  | succ M ih =>
  intro t i j hij hj hM hok w0 vs vt ht htx
  have ht0 := ht
  have hok0 := hok
  have hoka := okM_args hok
  obtain ⟨sa, sc, aa, ac, rfl, hset, hlen, hargs⟩ := ht.form
  obtain ⟨ta, tc, rfl⟩ := SlAt.form htx
  simp only [List.length_map] at htx ⊢
  have hM' : msr t i j ≤ M := by omega
  refine Ret_of Tryd.func23 rfl Tryd.ntmps23 (Nat.le_of_ble_eq_true rfl) ?_
  have E : Chg none1 w0 w0 := Chg.refl _ _
  refine Wp_seq_region ?_
  refine s_box (v := (.agg #[(.int .i64 t.kind), (.slice sa t.set.length sc), (.slice aa t.args.length ac), (.int .i64 t.mn), (.int .i64 t.mx), (.bool t.neg)])) (c := #[(.int .i64 t.kind), (.slice sa t.set.length sc), (.slice aa t.args.length ac), (.int .i64 t.mn), (.int .i64 t.mx), (.bool t.neg)]) (by decide) rfl rfl ?_
  intro b1 w1 N1
  have F1 := N1.ge E
  replace E := E.ext N1.ext
  have B1 := N1.blk
  refine WpL_val rfl rfl (by decide) (r_assign (v := (.bool false)) rfl) ?_
  refine WpL_nil ?_
  refine Wp_seq ?_
  refine Wp_seq_region ?_
  refine WpL_val rfl rfl (by decide) (r_fieldAddr (b := b1) (o := 0) (o' := 0) rfl Tryd.underlying27 rfl siz3 rfl) ?_
  refine WpL_val rfl rfl (by decide) (r_load (v := (.int .i64 t.kind)) rfl flat3 (B1.cell rfl)) ?_
  refine WpL_nil ?_
  refine Wp_block ?_
  refine Wp_seq_region ?_
  refine WpL_val rfl rfl (by decide) (r_eql (k := .i64) (a := t.kind) (b := 1) rfl rfl) ?_
  refine WpL_val rfl rfl (by decide) (r_assign (v := (.bool (decide ((t.kind : Int) = 1)))) rfl) ?_
  refine WpL_nil ?_
  refine Wp_cond (b := decide ((t.kind : Int) = 1)) rfl (fun h1 => ?_) (fun h1 => ?_)
  · have kh1 := h1
    replace h1 := of_decide_eq_true h1
    refine Wp_seq_region ?_
    refine WpL_val rfl rfl (by decide) (r_move (v := (.int .i64 ((i : Nat) : Int))) rfl) ?_
    refine WpL_val rfl rfl (by decide) (r_move (v := (.int .i64 ((j : Nat) : Int))) rfl) ?_
    refine WpL_val rfl rfl (by decide) (r_eql (k := .i64) (a := ((i : Nat) : Int)) (b := ((j : Nat) : Int)) rfl rfl) ?_
    refine WpL_val rfl rfl (by decide) (r_assign (v := (.bool (decide ((((i : Nat) : Int) : Int) = ((j : Nat) : Int))))) rfl) ?_
    refine WpL_nil ?_
    refine Wp_ret ?_
    refine inB_ret ?_
    refine thn_ret ?_
    refine fin_tmp Tryd.results23 (v := (.bool (decide ((((i : Nat) : Int) : Int) = ((j : Nat) : Int))))) rfl ?_
    exact ⟨bool_eq (rk1 h1 (by omega)).symm, E⟩
  · have kh1 := h1
    replace h1 := of_decide_eq_false h1
    refine Wp_seq_region ?_
    refine WpL_val rfl rfl (by decide) (r_eql (k := .i64) (a := t.kind) (b := 2) rfl rfl) ?_
    refine WpL_val rfl rfl (by decide) (r_assign (v := (.bool (decide ((t.kind : Int) = 2)))) rfl) ?_
    refine WpL_nil ?_
    refine Wp_cond (b := decide ((t.kind : Int) = 2)) rfl (fun h2 => ?_) (fun h2 => ?_)
    · have kh2 := h2
      replace h2 := of_decide_eq_true h2
      rcases Bool.eq_false_or_eq_true (decide (((j : Nat) : Int) = ((i : Nat) : Int) + 1)) with hs | hs
      · have khs := hs
        replace khs := of_decide_eq_true khs
        obtain ⟨c, hc⟩ := get_of_lt (l := text) (i := i) (by omega)
        obtain ⟨tb, to_, rfl, hcl⟩ := ints_cells htx (by omega)
        refine Wp_seq ?_
        obtain ⟨Fs4, hFs4⟩ : ∃ Fs : List Fact, Fs = [.eq (.int .i64 ((j : Nat) : Int)), .eq (.int .i64 ((i : Nat) : Int)), .eq (.int .i64 (((i : Nat) : Int) + 1)), .eq (.bool true), .eq (.bool true), .eq (.pointer (some ⟨b1, 1, none⟩)), .eq (.slice sa t.set.length sc), .eq (.slice (some ⟨tb, to_, none⟩) text.length tc), .eq (.int .i64 ((i : Nat) : Int)), .eq (.pointer (some ⟨tb, to_ + i, none⟩)), .eq (.int .i64 c), .eq (.bool (inS t.set c)), .eq (.bool (inS t.set c)), .eq (.bool (inS t.set c))] := ⟨_, rfl⟩
        refine Wp_dag [27, 28, 29, 30, 31, 32, 33, 34, 35, 36, 37, 38, 39, 8] [[], [], [1], [0, 2], [3], [4], [4, 5], [4], [4], [4, 7, 8], [4, 9], [4, 6, 10], [4, 11], [0, 1, 2, 3, 4, 5, 6, 7, 8, 9, 10, 11, 12]] Fs4 hFs4 mixed (by kernel_rfl) (by kernel_rfl) ?_ ?_
        · intro wd X0
          refine DagSteps.cons (fun s' w' X U H => Or.inl ⟨?_, ?_⟩) ?_
          · exact Guarded_none rfl
          · exact Does_val (r_move (v := (.int .i64 ((j : Nat) : Int))) (U 3 rfl)) (Ext.refl _) rfl
          refine DagSteps.cons (fun s' w' X U H => Or.inl ⟨?_, ?_⟩) ?_
          · exact Guarded_none rfl
          · exact Does_val (r_move (v := (.int .i64 ((i : Nat) : Int))) (U 2 rfl)) (Ext.refl _) rfl
          refine DagSteps.cons (fun s' w' X U H => Or.inl ⟨?_, ?_⟩) ?_
          · exact Guarded_none rfl
          · have e28 : s' 28 = (.int .i64 ((i : Nat) : Int)) := H 1 rfl 28 (.eq (.int .i64 ((i : Nat) : Int))) rfl (by rw [hFs4]; rfl)
            exact Does_val (r_add (k := .i64) (a := ((i : Nat) : Int)) (b := 1) (c := ((i : Nat) : Int) + 1) e28 rfl (wI64 (by omega))) (Ext.refl _) rfl
          refine DagSteps.cons (fun s' w' X U H => Or.inl ⟨?_, ?_⟩) ?_
          · exact Guarded_none rfl
          · have e27 : s' 27 = (.int .i64 ((j : Nat) : Int)) := H 0 rfl 27 (.eq (.int .i64 ((j : Nat) : Int))) rfl (by rw [hFs4]; rfl)
            have e29 : s' 29 = (.int .i64 (((i : Nat) : Int) + 1)) := H 2 rfl 29 (.eq (.int .i64 (((i : Nat) : Int) + 1))) rfl (by rw [hFs4]; rfl)
            exact Does_val (Eq.trans (r_eql (k := .i64) (a := ((j : Nat) : Int)) (b := ((i : Nat) : Int) + 1) e27 e29) (by rw [hs])) (Ext.refl _) rfl
          refine DagSteps.cons (fun s' w' X U H => Or.inl ⟨?_, ?_⟩) ?_
          · exact Guarded_none rfl
          · have e30 : s' 30 = (.bool true) := H 3 rfl 30 (.eq (.bool true)) rfl (by rw [hFs4]; rfl)
            exact Does_val (r_move (v := (.bool true)) e30) (Ext.refl _) rfl
          refine DagSteps.cons (fun s' w' X U H => Or.inl ⟨?_, ?_⟩) ?_
          · exact Guarded_some rfl rfl (d := 31) (H 4 rfl 31 (.eq (.bool true)) rfl (by rw [hFs4]; rfl))
          · exact Does_val (r_fieldAddr (b := b1) (o := 0) (o' := 1) (U 4 rfl) Tryd.underlying27 rfl siz24 rfl) (Ext.refl _) rfl
          refine DagSteps.cons (fun s' w' X U H => Or.inl ⟨?_, ?_⟩) ?_
          · exact Guarded_some rfl rfl (d := 31) (H 4 rfl 31 (.eq (.bool true)) rfl (by rw [hFs4]; rfl))
          · have e32 : s' 32 = (.pointer (some ⟨b1, 1, none⟩)) := H 5 rfl 32 (.eq (.pointer (some ⟨b1, 1, none⟩))) rfl (by rw [hFs4]; rfl)
            exact Does_val (r_load (v := (.slice sa t.set.length sc)) e32 flat24 (((X0.trans X).keep B1).cell rfl)) (Ext.refl _) rfl
          refine DagSteps.cons (fun s' w' X U H => Or.inl ⟨?_, ?_⟩) ?_
          · exact Guarded_some rfl rfl (d := 31) (H 4 rfl 31 (.eq (.bool true)) rfl (by rw [hFs4]; rfl))
          · exact Does_val (r_move (v := (.slice (some ⟨tb, to_, none⟩) text.length tc)) (U 1 rfl)) (Ext.refl _) rfl
          refine DagSteps.cons (fun s' w' X U H => Or.inl ⟨?_, ?_⟩) ?_
          · exact Guarded_some rfl rfl (d := 31) (H 4 rfl 31 (.eq (.bool true)) rfl (by rw [hFs4]; rfl))
          · exact Does_val (r_move (v := (.int .i64 ((i : Nat) : Int))) (U 2 rfl)) (Ext.refl _) rfl
          refine DagSteps.cons (fun s' w' X U H => Or.inl ⟨?_, ?_⟩) ?_
          · exact Guarded_some rfl rfl (d := 31) (H 4 rfl 31 (.eq (.bool true)) rfl (by rw [hFs4]; rfl))
          · have e34 : s' 34 = (.slice (some ⟨tb, to_, none⟩) text.length tc) := H 7 rfl 34 (.eq (.slice (some ⟨tb, to_, none⟩) text.length tc)) rfl (by rw [hFs4]; rfl)
            have e35 : s' 35 = (.int .i64 ((i : Nat) : Int)) := H 8 rfl 35 (.eq (.int .i64 ((i : Nat) : Int))) rfl (by rw [hFs4]; rfl)
            exact Does_val (r_indexSlice (b := tb) (o := to_) (len := text.length) (cap := tc) (i := i) (o' := to_ + i) e34 e35 rfl Tryd.underlying22 siz3 (by omega) (by omega)) (Ext.refl _) rfl
          refine DagSteps.cons (fun s' w' X U H => Or.inl ⟨?_, ?_⟩) ?_
          · exact Guarded_some rfl rfl (d := 31) (H 4 rfl 31 (.eq (.bool true)) rfl (by rw [hFs4]; rfl))
          · have e36 : s' 36 = (.pointer (some ⟨tb, to_ + i, none⟩)) := H 9 rfl 36 (.eq (.pointer (some ⟨tb, to_ + i, none⟩))) rfl (by rw [hFs4]; rfl)
            exact Does_val (r_load (v := (.int .i64 c)) e36 flat3 ((Ext.trans E (X0.trans X)).cell (hcl i c hc))) (Ext.refl _) rfl
          refine DagSteps.cons (fun s' w' X U H => Or.inl ⟨?_, ?_⟩) ?_
          · exact Guarded_some rfl rfl (d := 31) (H 4 rfl 31 (.eq (.bool true)) rfl (by rw [hFs4]; rfl))
          · have e33 : s' 33 = (.slice sa t.set.length sc) := H 6 rfl 33 (.eq (.slice sa t.set.length sc)) rfl (by rw [hFs4]; rfl)
            have e37 : s' 37 = (.int .i64 c) := H 10 rfl 37 (.eq (.int .i64 c)) rfl (by rw [hFs4]; rfl)
            exact Does_enter (r_callF (vs := [(.slice sa t.set.length sc), (.int .i64 c)]) Tryd.func50 nm50 bd50 (lst2 e33 e37)) (inset_c _ _ t.set c (hset.ext (Ext.trans E (X0.trans X))))
          refine DagSteps.cons (fun s' w' X U H => Or.inl ⟨?_, ?_⟩) ?_
          · exact Guarded_none rfl
          · have e31 : s' 31 = (.bool true) := H 4 rfl 31 (.eq (.bool true)) rfl (by rw [hFs4]; rfl)
            have e38 : s' 38 = (.bool (inS t.set c)) := H 11 rfl 38 (.eq (.bool (inS t.set c))) rfl (by rw [hFs4]; rfl)
            exact Does_val (r_pick (b := true) (v := (.bool (inS t.set c))) e31 e38) (Ext.refl _) rfl
          refine DagSteps.cons (fun s' w' X U H => Or.inl ⟨?_, ?_⟩) ?_
          · exact Guarded_none rfl
          · have e39 : s' 39 = (.bool (inS t.set c)) := H 12 rfl 39 (.eq (.bool (inS t.set c))) rfl (by rw [hFs4]; rfl)
            exact Does_val (r_assign (v := (.bool (inS t.set c))) e39) (Ext.refl _) rfl
          exact DagSteps.nil
        · intro s' w4 X4 U H
          obtain ⟨j4, rfl⟩ := Fits.out (σ := s') (l := [(8, (.bool (inS t.set c)))]) ⟨(show s' 8 = (.bool (inS t.set c)) from H 13 8 (.eq (.bool (inS t.set c))) rfl (by rw [hFs4]; rfl)), trivial⟩
          clear U H
          replace B1 := X4.keep B1
          replace E := E.ext X4
          refine thn_normal ?_
          refine Wp_ret ?_
          refine inB_ret ?_
          refine thn_ret ?_
          refine fin_tmp Tryd.results23 (v := (.bool (inS t.set c))) rfl ?_
          exact ⟨bool_eq (by rw [rk2 h2 hc, show decide (j = i + 1) = true from decide_eq_true (by omega)]; simp), E⟩
      · have khs := hs
        replace khs := of_decide_eq_false khs
        refine Wp_seq ?_
        obtain ⟨Fs5, hFs5⟩ : ∃ Fs : List Fact, Fs = [.eq (.int .i64 ((j : Nat) : Int)), .eq (.int .i64 ((i : Nat) : Int)), .eq (.int .i64 (((i : Nat) : Int) + 1)), .eq (.bool false), .eq (.bool false), .eq undef, .eq undef, .eq undef, .eq undef, .eq undef, .eq undef, .eq undef, .eq (.bool false), .eq (.bool false)] := ⟨_, rfl⟩
        refine Wp_dag [27, 28, 29, 30, 31, 32, 33, 34, 35, 36, 37, 38, 39, 8] [[], [], [1], [0, 2], [3], [4], [4, 5], [4], [4], [4, 7, 8], [4, 9], [4, 6, 10], [4, 11], [0, 1, 2, 3, 4, 5, 6, 7, 8, 9, 10, 11, 12]] Fs5 hFs5 mixed (by kernel_rfl) (by kernel_rfl) ?_ ?_
        · intro wd X0
          refine DagSteps.cons (fun s' w' X U H => Or.inl ⟨?_, ?_⟩) ?_
          · exact Guarded_none rfl
          · exact Does_val (r_move (v := (.int .i64 ((j : Nat) : Int))) (U 3 rfl)) (Ext.refl _) rfl
          refine DagSteps.cons (fun s' w' X U H => Or.inl ⟨?_, ?_⟩) ?_
          · exact Guarded_none rfl
          · exact Does_val (r_move (v := (.int .i64 ((i : Nat) : Int))) (U 2 rfl)) (Ext.refl _) rfl
          refine DagSteps.cons (fun s' w' X U H => Or.inl ⟨?_, ?_⟩) ?_
          · exact Guarded_none rfl
          · have e28 : s' 28 = (.int .i64 ((i : Nat) : Int)) := H 1 rfl 28 (.eq (.int .i64 ((i : Nat) : Int))) rfl (by rw [hFs5]; rfl)
            exact Does_val (r_add (k := .i64) (a := ((i : Nat) : Int)) (b := 1) (c := ((i : Nat) : Int) + 1) e28 rfl (wI64 (by omega))) (Ext.refl _) rfl
          refine DagSteps.cons (fun s' w' X U H => Or.inl ⟨?_, ?_⟩) ?_
          · exact Guarded_none rfl
          · have e27 : s' 27 = (.int .i64 ((j : Nat) : Int)) := H 0 rfl 27 (.eq (.int .i64 ((j : Nat) : Int))) rfl (by rw [hFs5]; rfl)
            have e29 : s' 29 = (.int .i64 (((i : Nat) : Int) + 1)) := H 2 rfl 29 (.eq (.int .i64 (((i : Nat) : Int) + 1))) rfl (by rw [hFs5]; rfl)
            exact Does_val (Eq.trans (r_eql (k := .i64) (a := ((j : Nat) : Int)) (b := ((i : Nat) : Int) + 1) e27 e29) (by rw [hs])) (Ext.refl _) rfl
          refine DagSteps.cons (fun s' w' X U H => Or.inl ⟨?_, ?_⟩) ?_
          · exact Guarded_none rfl
          · have e30 : s' 30 = (.bool false) := H 3 rfl 30 (.eq (.bool false)) rfl (by rw [hFs5]; rfl)
            exact Does_val (r_move (v := (.bool false)) e30) (Ext.refl _) rfl
          refine DagSteps.cons (fun s' w' X U H => Or.inr ⟨?_, rfl⟩) ?_
          · exact Unmet_mk rfl rfl (d := 31) (Or.inl (H 4 rfl 31 (.eq (.bool false)) rfl (by rw [hFs5]; rfl)))
          refine DagSteps.cons (fun s' w' X U H => Or.inr ⟨?_, rfl⟩) ?_
          · exact Unmet_mk rfl rfl (d := 31) (Or.inl (H 4 rfl 31 (.eq (.bool false)) rfl (by rw [hFs5]; rfl)))
          refine DagSteps.cons (fun s' w' X U H => Or.inr ⟨?_, rfl⟩) ?_
          · exact Unmet_mk rfl rfl (d := 31) (Or.inl (H 4 rfl 31 (.eq (.bool false)) rfl (by rw [hFs5]; rfl)))
          refine DagSteps.cons (fun s' w' X U H => Or.inr ⟨?_, rfl⟩) ?_
          · exact Unmet_mk rfl rfl (d := 31) (Or.inl (H 4 rfl 31 (.eq (.bool false)) rfl (by rw [hFs5]; rfl)))
          refine DagSteps.cons (fun s' w' X U H => Or.inr ⟨?_, rfl⟩) ?_
          · exact Unmet_mk rfl rfl (d := 31) (Or.inl (H 4 rfl 31 (.eq (.bool false)) rfl (by rw [hFs5]; rfl)))
          refine DagSteps.cons (fun s' w' X U H => Or.inr ⟨?_, rfl⟩) ?_
          · exact Unmet_mk rfl rfl (d := 31) (Or.inl (H 4 rfl 31 (.eq (.bool false)) rfl (by rw [hFs5]; rfl)))
          refine DagSteps.cons (fun s' w' X U H => Or.inr ⟨?_, rfl⟩) ?_
          · exact Unmet_mk rfl rfl (d := 31) (Or.inl (H 4 rfl 31 (.eq (.bool false)) rfl (by rw [hFs5]; rfl)))
          refine DagSteps.cons (fun s' w' X U H => Or.inl ⟨?_, ?_⟩) ?_
          · exact Guarded_none rfl
          · have e31 : s' 31 = (.bool false) := H 4 rfl 31 (.eq (.bool false)) rfl (by rw [hFs5]; rfl)
            exact Does_val (r_pick (b := false) (v := (.bool false)) e31 rfl) (Ext.refl _) rfl
          refine DagSteps.cons (fun s' w' X U H => Or.inl ⟨?_, ?_⟩) ?_
          · exact Guarded_none rfl
          · have e39 : s' 39 = (.bool false) := H 12 rfl 39 (.eq (.bool false)) rfl (by rw [hFs5]; rfl)
            exact Does_val (r_assign (v := (.bool false)) e39) (Ext.refl _) rfl
          exact DagSteps.nil
        · intro s' w5 X5 U H
          obtain ⟨j5, rfl⟩ := Fits.out (σ := s') (l := [(8, (.bool false))]) ⟨(show s' 8 = (.bool false) from H 13 8 (.eq (.bool false)) rfl (by rw [hFs5]; rfl)), trivial⟩
          clear U H
          replace B1 := X5.keep B1
          replace E := E.ext X5
          refine thn_normal ?_
          refine Wp_ret ?_
          refine inB_ret ?_
          refine thn_ret ?_
          refine fin_tmp Tryd.results23 (v := (.bool false)) rfl ?_
          exact ⟨bool_false (by rw [rk2' h2 (by omega)]; decide), E⟩
    · have kh2 := h2
      replace h2 := of_decide_eq_false h2
      refine Wp_seq_region ?_
      refine WpL_val rfl rfl (by decide) (r_eql (k := .i64) (a := t.kind) (b := 3) rfl rfl) ?_
      refine WpL_val rfl rfl (by decide) (r_assign (v := (.bool (decide ((t.kind : Int) = 3)))) rfl) ?_
      refine WpL_nil ?_
      refine Wp_cond (b := decide ((t.kind : Int) = 3)) rfl (fun h3 => ?_) (fun h3 => ?_)
      · have kh3 := h3
        replace h3 := of_decide_eq_true h3
        have hlen0 : 0 < t.args.length := by
          rcases hok with ⟨_, h, _, _⟩ | ⟨_, h⟩
          · exact h
          · exact absurd h3 h
        obtain ⟨x, hx⟩ := get_of_lt (l := t.args) (i := 0) (by omega)
        have hxo := okRes_get hoka hx
        have hxs := Re.size_arg hx
        obtain ⟨ab, ao, rfl, hres⟩ := args_at hargs (by omega)
        obtain ⟨us, hus, hxt⟩ := hres.get hx
        have hcons : t.args = x :: t.args.drop 1 := by rw [← drop_cons hx]; rfl
        refine Wp_seq ?_
        refine Wp_seq_region ?_
        refine WpL_val rfl rfl (by decide) (r_fieldAddr (b := b1) (o := 0) (o' := 2) rfl Tryd.underlying27 rfl siz25 rfl) ?_
        refine WpL_val rfl rfl (by decide) (r_load (v := (.slice (some ⟨ab, ao, none⟩) t.args.length ac)) rfl flat25 (B1.cell rfl)) ?_
        refine WpL_val rfl rfl (by decide) (r_lenSlice (ad := some ⟨ab, ao, none⟩) (n := t.args.length) (cap := ac) Tryd.underlying25 rfl) ?_
        refine WpL_val rfl rfl (by decide) (r_eql (k := .i64) (a := ((t.args.length : Nat) : Int)) (b := 1) rfl rfl) ?_
        refine WpL_nil ?_
        refine Wp_cond (b := decide ((((t.args.length : Nat) : Int) : Int) = 1)) rfl (fun hl1 => ?_) (fun hl1 => ?_)
        · have khl1 := hl1
          replace hl1 := of_decide_eq_true hl1
          refine Wp_seq_region ?_
          refine WpL_val rfl rfl (by decide) (r_fieldAddr (b := b1) (o := 0) (o' := 2) rfl Tryd.underlying27 rfl siz25 rfl) ?_
          refine WpL_val rfl rfl (by decide) (r_load (v := (.slice (some ⟨ab, ao, none⟩) t.args.length ac)) rfl flat25 (B1.cell rfl)) ?_
          refine WpL_val rfl rfl (by decide) (r_indexSlice (b := ab) (o := ao) (len := t.args.length) (cap := ac) (i := 0) (o' := ao + 0 * 6) rfl rfl rfl Tryd.underlying25 siz27 (by omega) (by omega)) ?_
          refine WpL_val rfl rfl (by decide) (r_loadAgg (vs := us) rfl agg27 siz27 hxt.len (hus.ext E)) ?_
          refine WpL_val rfl rfl (by decide) (r_move (v := (.slice ta text.length tc)) rfl) ?_
          refine WpL_val rfl rfl (by decide) (r_move (v := (.int .i64 ((i : Nat) : Int))) rfl) ?_
          refine WpL_val rfl rfl (by decide) (r_move (v := (.int .i64 ((j : Nat) : Int))) rfl) ?_
          refine WpL_enter rfl rfl (by decide) (r_callF (vs := [(.agg us.toArray), (.slice ta text.length tc), (.int .i64 ((i : Nat) : Int)), (.int .i64 ((j : Nat) : Int))]) Tryd.func23 nm23 bd23 rfl) (ih x i j hij hj (Nat.lt_of_lt_of_le (msr_sub hxs (okM_mx (okM_of hxo)) (by omega)) hM') (okM_of hxo) _ us _ (ReAt.ext E x hxt) (htx.ext E)) ?_
          rintro _ w9 ⟨rfl, X9⟩
          replace B1 := X9.keep B1
          replace E := E.ext X9
          refine WpL_val rfl rfl (by decide) (r_assign (v := (.bool (relOf text x i j))) rfl) ?_
          refine WpL_nil ?_
          refine Wp_ret ?_
          refine thn_ret ?_
          refine inB_ret ?_
          refine thn_ret ?_
          refine fin_tmp Tryd.results23 (v := (.bool (relOf text x i j))) rfl ?_
          exact ⟨bool_eq (by rw [rk3_1 hn h3 (x := x) (by rw [hcons, List.drop_eq_nil_of_le (by omega)])]), E⟩
        · have khl1 := hl1
          replace hl1 := of_decide_eq_false hl1
          have hsp := rk3 hn h3 hcons (i := i) (j := j)
          refine Wp_skip ?_
          refine thn_normal ?_
          refine Wp_seq_region ?_
          refine WpL_val rfl rfl (by decide) (r_fieldAddr (b := b1) (o := 0) (o' := 2) rfl Tryd.underlying27 rfl siz25 rfl) ?_
          refine WpL_val rfl rfl (by decide) (r_load (v := (.slice (some ⟨ab, ao, none⟩) t.args.length ac)) rfl flat25 (B1.cell rfl)) ?_
          obtain ⟨sl, hsl⟩ : ∃ a' : Option Addr, (if ac = 1 then (some ⟨ab, ao, none⟩) else Option.map (fun q : Addr => q.add (1 * 6)) (some ⟨ab, ao, none⟩)) = a' := ⟨_, rfl⟩
          refine WpL_val rfl rfl (by decide) (r_sliceLo (a := (some ⟨ab, ao, none⟩)) (len := t.args.length) (cap := ac) (lo := 1) (l := 1) (n' := (t.args.length - 1)) (c' := (ac - 1)) Tryd.underlying25 siz27 rfl rfl (by omega) (by omega) hsl (by omega) (by omega)) ?_
          rw [if_neg (by omega)] at hsl
          simp only [Option.map_some, Addr.add_lit] at hsl
          subst hsl
          have hdl : (t.args.drop 1).length = t.args.length - 1 := by simp
          have hrest : ReAt w0 (.mk 3 [] (t.args.drop 1) 0 0 false) [.int .i64 3, .slice none 0 0, .slice (some ⟨ab, ao + 1 * 6, none⟩) (t.args.length - 1) (ac - 1), .int .i64 0, .int .i64 0, .bool false] := by
            rw [← hdl]
            refine ReAt.of (set := []) (SlAt.nil _ _ _ _) ⟨by omega, by omega⟩ (.inr ⟨ab, ao + 1 * 6, rfl, ResAt.mk fun i' t' ht' => ?_⟩)
            rw [List.getElem?_drop] at ht'
            have := hres.get ht'
            rwa [show ao + (1 + i') * 6 = ao + 1 * 6 + i' * 6 from by omega] at this
          have hroka : okRes (t.args.drop 1) := by rw [hcons] at hoka; simp only [okRes] at hoka; exact hoka.2
          have hrok : okM (.mk 3 [] (t.args.drop 1) 0 0 false) := .inl ⟨rfl, by show 0 < (t.args.drop 1).length; omega, hroka, rfl⟩
          have hrs : (Re.mk 3 [] (t.args.drop 1) 0 0 false).size < t.size := by
            have hz : Re.sizes t.args = x.size + Re.sizes (t.args.drop 1) := by rw [hcons]; simp [Re.sizes]
            have hp := x.size_pos
            rw [Re.size_eq, Re.size_eq t]
            show Re.sizes (t.args.drop 1) + 1 < _
            omega
          refine WpL_val rfl rfl (by decide) (r_build (ps := [(0, (.int .i64 3)), (2, (.slice (some ⟨ab, ao + 1 * 6, none⟩) (t.args.length - 1) (ac - 1)))]) (v := (.agg #[(.int .i64 3), (.slice none 0 0), (.slice (some ⟨ab, ao + 1 * 6, none⟩) (t.args.length - 1) (ac - 1)), (.int .i64 0), (.int .i64 0), (.bool false)])) rfl (by kernel_rfl)) ?_
          refine s_allocStore (v := (.agg #[(.int .i64 3), (.slice none 0 0), (.slice (some ⟨ab, ao + 1 * 6, none⟩) (t.args.length - 1) (ac - 1)), (.int .i64 0), (.int .i64 0), (.bool false)])) (c := #[(.int .i64 3), (.slice none 0 0), (.slice (some ⟨ab, ao + 1 * 6, none⟩) (t.args.length - 1) (ac - 1)), (.int .i64 0), (.int .i64 0), (.bool false)]) (n := 6) (by decide) zer27 rfl siz27 rfl rfl rfl (by simp [Value.oneCell']) ?_
          intro bq wq Nq
          have Fq := Nq.ge E
          have Oq_b1 := Nq.lt B1
          replace B1 := Nq.keep B1
          replace E := E.ext Nq.ext
          have Bq := Nq.blk
          refine WpL_nil ?_
          refine Wp_seq_region ?_
          refine WpL_val rfl rfl (by decide) (r_move (v := (.int .i64 ((i : Nat) : Int))) rfl) ?_
          refine WpL_val rfl rfl (by decide) (r_assign (v := (.int .i64 ((i : Nat) : Int))) rfl) ?_
          refine WpL_nil ?_
          refine Wp_block ?_
          refine Wp_loop (fun nn_ σ W8 => ∃ (k : Nat), (∃ jj_, σ = upds jj_ [(1, (.slice ta text.length tc)), (2, (.int .i64 ((i : Nat) : Int))), (3, (.int .i64 ((j : Nat) : Int))), (4, (.pointer (some ⟨b1, 0, none⟩))), (9, (.pointer (some ⟨bq, 0, none⟩))), (10, (.int .i64 ((k : Nat) : Int)))]) ∧ Chg none1 w0 W8 ∧ Blk W8 b1 #[(.int .i64 t.kind), (.slice sa t.set.length sc), (.slice (some ⟨ab, ao, none⟩) t.args.length ac), (.int .i64 t.mn), (.int .i64 t.mx), (.bool t.neg)] 27 ∧ Blk W8 bq #[(.int .i64 3), (.slice none 0 0), (.slice (some ⟨ab, ao + 1 * 6, none⟩) (t.args.length - 1) (ac - 1)), (.int .i64 0), (.int .i64 0), (.bool false)] 27 ∧ (i ≤ k ∧ k ≤ j + 1) ∧ (∀ m, i ≤ m → m < k → ¬ (relOf text x i m = true ∧ relOf text (.mk 3 [] (t.args.drop 1) 0 0 false) m j = true)) ∧ nn_ = j + 1 - k) (n := j + 1 - i) ?_ ?_
          · exact ⟨i, Fits.out ⟨rfl, rfl, rfl, rfl, rfl, rfl, trivial⟩, E, B1, Bq, (by omega), (fun m h1 h2 => by omega), rfl⟩
          · clear E B1 Bq
            rintro _ _ W8 ⟨k, ⟨j8, rfl⟩, E, B1, Bq, hk, hp, rfl⟩
            refine Wp_seq ?_
            refine Wp_seq_region ?_
            refine WpL_val rfl rfl (by decide) (r_move (v := (.int .i64 ((k : Nat) : Int))) rfl) ?_
            refine WpL_val rfl rfl (by decide) (r_move (v := (.int .i64 ((j : Nat) : Int))) rfl) ?_
            refine WpL_val rfl rfl (by decide) (r_leq (k := .i64) (a := ((k : Nat) : Int)) (b := ((j : Nat) : Int)) rfl rfl) ?_
            refine WpL_nil ?_
            refine Wp_cond (b := decide ((((k : Nat) : Int) : Int) ≤ ((j : Nat) : Int))) rfl (fun hlt => ?_) (fun hlt => ?_)
            · have khlt := hlt
              replace hlt := of_decide_eq_true hlt
              refine Wp_skip ?_
              refine thn_normal ?_
              refine Wp_seq ?_
              refine Wp_block ?_
              refine Wp_seq_region ?_
              refine WpL_val rfl rfl (by decide) (r_fieldAddr (b := b1) (o := 0) (o' := 2) rfl Tryd.underlying27 rfl siz25 rfl) ?_
              refine WpL_val rfl rfl (by decide) (r_load (v := (.slice (some ⟨ab, ao, none⟩) t.args.length ac)) rfl flat25 (B1.cell rfl)) ?_
              refine WpL_val rfl rfl (by decide) (r_indexSlice (b := ab) (o := ao) (len := t.args.length) (cap := ac) (i := 0) (o' := ao + 0 * 6) rfl rfl rfl Tryd.underlying25 siz27 (by omega) (by omega)) ?_
              refine WpL_val rfl rfl (by decide) (r_loadAgg (vs := us) rfl agg27 siz27 hxt.len (hus.ext E)) ?_
              refine WpL_val rfl rfl (by decide) (r_move (v := (.slice ta text.length tc)) rfl) ?_
              refine WpL_val rfl rfl (by decide) (r_move (v := (.int .i64 ((i : Nat) : Int))) rfl) ?_
              refine WpL_val rfl rfl (by decide) (r_move (v := (.int .i64 ((k : Nat) : Int))) rfl) ?_
              refine WpL_enter rfl rfl (by decide) (r_callF (vs := [(.agg us.toArray), (.slice ta text.length tc), (.int .i64 ((i : Nat) : Int)), (.int .i64 ((k : Nat) : Int))]) Tryd.func23 nm23 bd23 rfl) (ih x i k (by omega) (by omega) (Nat.lt_of_lt_of_le (msr_sub hxs (okM_mx (okM_of hxo)) (by omega)) hM') (okM_of hxo) _ us _ (ReAt.ext E x hxt) (htx.ext E)) ?_
              rintro _ w9 ⟨rfl, X9⟩
              replace B1 := X9.keep B1
              replace Bq := X9.keep Bq
              replace E := E.ext X9
              refine WpL_val rfl rfl (by decide) (r_move (v := (.bool (relOf text x i k))) rfl) ?_
              rcases Bool.eq_false_or_eq_true (relOf text x i k) with hA | hA
              · have khA := hA
                refine WpL_guard_yes (oj := _) rfl rfl (by decide) (congrArg Value.bool hA) ?_
                refine WpL_val rfl rfl (by decide) (r_loadAgg (vs := [(.int .i64 3), (.slice none 0 0), (.slice (some ⟨ab, ao + 1 * 6, none⟩) (t.args.length - 1) (ac - 1)), (.int .i64 0), (.int .i64 0), (.bool false)]) rfl agg27 siz27 rfl (Bq.cells rfl)) ?_
                refine WpL_guard_yes (oj := _) rfl rfl (by decide) (congrArg Value.bool hA) ?_
                refine WpL_val rfl rfl (by decide) (r_move (v := (.slice ta text.length tc)) rfl) ?_
                refine WpL_guard_yes (oj := _) rfl rfl (by decide) (congrArg Value.bool hA) ?_
                refine WpL_val rfl rfl (by decide) (r_move (v := (.int .i64 ((k : Nat) : Int))) rfl) ?_
                refine WpL_guard_yes (oj := _) rfl rfl (by decide) (congrArg Value.bool hA) ?_
                refine WpL_val rfl rfl (by decide) (r_move (v := (.int .i64 ((j : Nat) : Int))) rfl) ?_
                refine WpL_guard_yes (oj := _) rfl rfl (by decide) (congrArg Value.bool hA) ?_
                refine WpL_enter rfl rfl (by decide) (r_callF (vs := [(.agg #[(.int .i64 3), (.slice none 0 0), (.slice (some ⟨ab, ao + 1 * 6, none⟩) (t.args.length - 1) (ac - 1)), (.int .i64 0), (.int .i64 0), (.bool false)]), (.slice ta text.length tc), (.int .i64 ((k : Nat) : Int)), (.int .i64 ((j : Nat) : Int))]) Tryd.func23 nm23 bd23 rfl) (ih _ k j (by omega) (by omega) (Nat.lt_of_lt_of_le (msr_sub hrs (Nat.zero_le _) (by omega)) hM') hrok _ _ _ (ReAt.ext E _ hrest) (htx.ext E)) ?_
                rintro _ w19 ⟨rfl, X19⟩
                replace B1 := X19.keep B1
                replace Bq := X19.keep Bq
                replace E := E.ext X19
                refine WpL_val rfl rfl (by decide) (r_pick (b := relOf text x i k) (v := (.bool (relOf text (.mk 3 [] (t.args.drop 1) 0 0 false) k j))) rfl (by rw [hA]; rfl)) ?_
                refine WpL_nil ?_
                refine Wp_cond (b := relOf text (.mk 3 [] (t.args.drop 1) 0 0 false) k j) rfl (fun hB => ?_) (fun hB => ?_)
                · have khB := hB
                  refine Wp_seq_region ?_
                  refine WpL_val rfl rfl (by decide) (r_assign (v := (.bool true)) rfl) ?_
                  refine WpL_nil ?_
                  refine Wp_ret ?_
                  refine inB_ret ?_
                  refine thn_ret ?_
                  refine thn_ret ?_
                  refine inB_ret ?_
                  refine inB_ret ?_
                  refine thn_ret ?_
                  refine fin_tmp Tryd.results23 (v := (.bool true)) rfl ?_
                  exact ⟨bool_true (hsp.2 ⟨k, by omega, by omega, hA, hB⟩), E⟩
                · have khB := hB
                  refine Wp_skip ?_
                  refine inB_normal ?_
                  refine thn_normal ?_
                  refine Wp_region ?_
                  refine WpL_val rfl rfl (by decide) (r_move (v := (.int .i64 ((k : Nat) : Int))) rfl) ?_
                  refine WpL_val rfl rfl (by decide) (r_add (k := .i64) (a := ((k : Nat) : Int)) (b := 1) (c := ((k : Nat) : Int) + 1) rfl rfl (wI64 (by omega))) ?_
                  refine WpL_val rfl rfl (by decide) (r_assign (v := (.int .i64 (((k : Nat) : Int) + 1))) rfl) ?_
                  refine WpL_nil ?_
                  refine thn_normal ?_
                  exact ⟨j + 1 - (k + 1), by omega, k + 1, Fits.out ⟨rfl, rfl, rfl, rfl, rfl, rfl, trivial⟩, E, B1, Bq, (by omega), search_next hp (fun h => absurd h.2 (by rw [hB]; decide)), rfl⟩
              · have khA := hA
                refine WpL_guard_no (oj := _) rfl rfl (by decide) (v := .bool false) (congrArg Value.bool hA) (Or.inl rfl) ?_
                refine WpL_guard_no (oj := _) rfl rfl (by decide) (v := .bool false) (congrArg Value.bool hA) (Or.inl rfl) ?_
                refine WpL_guard_no (oj := _) rfl rfl (by decide) (v := .bool false) (congrArg Value.bool hA) (Or.inl rfl) ?_
                refine WpL_guard_no (oj := _) rfl rfl (by decide) (v := .bool false) (congrArg Value.bool hA) (Or.inl rfl) ?_
                refine WpL_guard_no (oj := _) rfl rfl (by decide) (v := .bool false) (congrArg Value.bool hA) (Or.inl rfl) ?_
                refine WpL_val rfl rfl (by decide) (r_pick (b := relOf text x i k) (v := (.bool false)) rfl (by rw [hA]; rfl)) ?_
                refine WpL_nil ?_
                refine Wp_cond_false rfl ?_
                refine Wp_skip ?_
                refine inB_normal ?_
                refine thn_normal ?_
                refine Wp_region ?_
                refine WpL_val rfl rfl (by decide) (r_move (v := (.int .i64 ((k : Nat) : Int))) rfl) ?_
                refine WpL_val rfl rfl (by decide) (r_add (k := .i64) (a := ((k : Nat) : Int)) (b := 1) (c := ((k : Nat) : Int) + 1) rfl rfl (wI64 (by omega))) ?_
                refine WpL_val rfl rfl (by decide) (r_assign (v := (.int .i64 (((k : Nat) : Int) + 1))) rfl) ?_
                refine WpL_nil ?_
                refine thn_normal ?_
                exact ⟨j + 1 - (k + 1), by omega, k + 1, Fits.out ⟨rfl, rfl, rfl, rfl, rfl, rfl, trivial⟩, E, B1, Bq, (by omega), search_next hp (fun h => absurd h.1 (by rw [hA]; decide)), rfl⟩
            · have khlt := hlt
              replace hlt := of_decide_eq_false hlt
              refine Wp_exit ?_
              refine thn_exit ?_
              refine thn_exit ?_
              refine inB_here ?_
              refine inB_normal ?_
              refine thn_normal ?_
              refine Wp_seq_region ?_
              refine WpL_val rfl rfl (by decide) (r_assign (v := (.bool false)) rfl) ?_
              refine WpL_nil ?_
              refine Wp_ret ?_
              refine fin_tmp Tryd.results23 (v := (.bool false)) rfl ?_
              exact ⟨bool_false (fun h => by obtain ⟨m, h1, h2, h3, h4⟩ := hsp.1 h; exact hp m h1 (by omega) ⟨h3, h4⟩), E⟩
      · have kh3 := h3
        replace h3 := of_decide_eq_false h3
        have hokr : okRe t := by
          rcases hok with ⟨h, _⟩ | ⟨h, _⟩
          · exact absurd h h3
          · exact h
        refine Wp_seq_region ?_
        refine WpL_val rfl rfl (by decide) (r_eql (k := .i64) (a := t.kind) (b := 4) rfl rfl) ?_
        refine WpL_val rfl rfl (by decide) (r_assign (v := (.bool (decide ((t.kind : Int) = 4)))) rfl) ?_
        refine WpL_nil ?_
        refine Wp_cond (b := decide ((t.kind : Int) = 4)) rfl (fun h4 => ?_) (fun h4 => ?_)
        · have kh4 := h4
          replace h4 := of_decide_eq_true h4
          have hsp := rk4 (text := text) h4 (i := i) (j := j)
          refine Wp_seq_region ?_
          refine WpL_val rfl rfl (by decide) (r_fieldAddr (b := b1) (o := 0) (o' := 2) rfl Tryd.underlying27 rfl siz25 rfl) ?_
          refine WpL_val rfl rfl (by decide) (r_load (v := (.slice aa t.args.length ac)) rfl flat25 (B1.cell rfl)) ?_
          refine WpL_val rfl rfl (by decide) (r_lenSlice (ad := aa) (n := t.args.length) (cap := ac) Tryd.underlying25 rfl) ?_
          refine WpL_val rfl rfl (by decide) (r_move (v := (.int .i64 0)) rfl) ?_
          refine WpL_nil ?_
          refine Wp_block ?_
          refine Wp_loop (fun nn_ σ W13 => ∃ (k : Nat), (∃ jj_, σ = upds jj_ [(1, (.slice ta text.length tc)), (2, (.int .i64 ((i : Nat) : Int))), (3, (.int .i64 ((j : Nat) : Int))), (82, (.slice aa t.args.length ac)), (83, (.int .i64 ((t.args.length : Nat) : Int))), (84, (.int .i64 ((k : Nat) : Int)))]) ∧ Chg none1 w0 W13 ∧ Blk W13 b1 #[(.int .i64 t.kind), (.slice sa t.set.length sc), (.slice aa t.args.length ac), (.int .i64 t.mn), (.int .i64 t.mx), (.bool t.neg)] 27 ∧ (k ≤ t.args.length) ∧ ((t.args.any fun a => relOf text a i j) = ((t.args.drop k).any fun a => relOf text a i j)) ∧ nn_ = t.args.length - k) (n := t.args.length - 0) ?_ ?_
          · exact ⟨0, Fits.out ⟨rfl, rfl, rfl, rfl, rfl, rfl, trivial⟩, E, B1, Nat.zero_le _, rfl, rfl⟩
          · clear E B1
            rintro _ _ W13 ⟨k, ⟨j13, rfl⟩, E, B1, hk, hp, rfl⟩
            refine Wp_seq_region ?_
            refine WpL_val rfl rfl (by decide) (r_lss (k := .i64) (a := ((k : Nat) : Int)) (b := ((t.args.length : Nat) : Int)) rfl rfl) ?_
            refine WpL_nil ?_
            refine Wp_seq ?_
            refine Wp_cond (b := decide ((((k : Nat) : Int) : Int) < ((t.args.length : Nat) : Int))) rfl (fun hlt => ?_) (fun hlt => ?_)
            · have khlt := hlt
              replace hlt := of_decide_eq_true hlt
              obtain ⟨x, hx⟩ := get_of_lt (l := t.args) (i := k) (by omega)
              have hxo := okRes_get hoka hx
              have hxs := Re.size_arg hx
              obtain ⟨ab, ao, rfl, hres⟩ := args_at hargs (by omega)
              obtain ⟨us, hus, hxt⟩ := hres.get hx
              have hd := drop_cons hx
              refine Wp_skip ?_
              refine thn_normal ?_
              refine Wp_seq ?_
              refine Wp_block ?_
              refine Wp_seq_region ?_
              refine WpL_val rfl rfl (by decide) (r_indexSlice (b := ab) (o := ao) (len := t.args.length) (cap := ac) (i := k) (o' := ao + k * 6) rfl rfl rfl Tryd.underlying25 siz27 (by omega) (by omega)) ?_
              refine WpL_val rfl rfl (by decide) (r_loadAgg (vs := us) rfl agg27 siz27 hxt.len (hus.ext E)) ?_
              refine s_allocStore (v := (.agg us.toArray)) (c := us.toArray) (n := 6) (by decide) zer27 rfl siz27 rfl rfl (by simpa using hxt.len) (by simpa using ReAt.one hxt) ?_
              intro b15 w15 N15
              have F15 := N15.ge E
              have O15_b1 := N15.lt B1
              replace B1 := N15.keep B1
              replace E := E.ext N15.ext
              have B15 := N15.blk
              refine WpL_nil ?_
              refine Wp_seq_region ?_
              refine WpL_val rfl rfl (by decide) (r_loadAgg (vs := us) rfl agg27 siz27 hxt.len (B15.cells (by simp))) ?_
              refine WpL_val rfl rfl (by decide) (r_move (v := (.slice ta text.length tc)) rfl) ?_
              refine WpL_val rfl rfl (by decide) (r_move (v := (.int .i64 ((i : Nat) : Int))) rfl) ?_
              refine WpL_val rfl rfl (by decide) (r_move (v := (.int .i64 ((j : Nat) : Int))) rfl) ?_
              refine WpL_enter rfl rfl (by decide) (r_callF (vs := [(.agg us.toArray), (.slice ta text.length tc), (.int .i64 ((i : Nat) : Int)), (.int .i64 ((j : Nat) : Int))]) Tryd.func23 nm23 bd23 rfl) (ih x i j hij hj (Nat.lt_of_lt_of_le (msr_sub hxs (okM_mx (okM_of hxo)) (by omega)) hM') (okM_of hxo) _ us _ (ReAt.ext E x hxt) (htx.ext E)) ?_
              rintro _ w9 ⟨rfl, X9⟩
              replace B1 := X9.keep B1
              replace B15 := X9.keep B15
              replace E := E.ext X9
              refine WpL_nil ?_
              refine Wp_cond (b := relOf text x i j) rfl (fun hB => ?_) (fun hB => ?_)
              · have khB := hB
                refine Wp_seq_region ?_
                refine WpL_val rfl rfl (by decide) (r_assign (v := (.bool true)) rfl) ?_
                refine WpL_nil ?_
                refine Wp_ret ?_
                refine inB_ret ?_
                refine thn_ret ?_
                refine thn_ret ?_
                refine inB_ret ?_
                refine inB_ret ?_
                refine thn_ret ?_
                refine fin_tmp Tryd.results23 (v := (.bool true)) rfl ?_
                exact ⟨bool_true (by rw [hsp, hp, hd, List.any_cons, hB]; rfl), E⟩
              · have khB := hB
                refine Wp_skip ?_
                refine inB_normal ?_
                refine thn_normal ?_
                refine Wp_region ?_
                refine WpL_val rfl rfl (by decide) (r_add (k := .i64) (a := ((k : Nat) : Int)) (b := 1) (c := ((k : Nat) : Int) + 1) rfl rfl (wI64 (by omega))) ?_
                refine WpL_val rfl rfl (by decide) (r_move (v := (.int .i64 (((k : Nat) : Int) + 1))) rfl) ?_
                refine WpL_nil ?_
                refine thn_normal ?_
                exact ⟨t.args.length - (k + 1), by omega, k + 1, Fits.out ⟨rfl, rfl, rfl, rfl, rfl, rfl, trivial⟩, E, B1, (by omega), (by rw [hp, hd, List.any_cons, hB]; rfl), rfl⟩
            · have khlt := hlt
              replace hlt := of_decide_eq_false hlt
              have hkl : t.args.drop k = [] := List.drop_eq_nil_of_le (by omega)
              refine Wp_exit ?_
              refine thn_exit ?_
              refine thn_exit ?_
              refine inB_here ?_
              refine inB_normal ?_
              refine thn_normal ?_
              refine Wp_seq_region ?_
              refine WpL_val rfl rfl (by decide) (r_assign (v := (.bool false)) rfl) ?_
              refine WpL_nil ?_
              refine Wp_ret ?_
              refine fin_tmp Tryd.results23 (v := (.bool false)) rfl ?_
              exact ⟨bool_false (by rw [hsp, hp, hkl]; simp), E⟩
        · have kh4 := h4
          replace h4 := of_decide_eq_false h4
          refine Wp_seq_region ?_
          refine WpL_val rfl rfl (by decide) (r_eql (k := .i64) (a := t.kind) (b := 5) rfl rfl) ?_
          refine WpL_val rfl rfl (by decide) (r_assign (v := (.bool (decide ((t.kind : Int) = 5)))) rfl) ?_
          refine WpL_nil ?_
          refine Wp_cond (b := decide ((t.kind : Int) = 5)) rfl (fun h5 => ?_) (fun h5 => ?_)
          · have kh5 := h5
            replace h5 := of_decide_eq_true h5
            have hone := okRe_one hokr (by omega)
            obtain ⟨x, hx⟩ := get_of_lt (l := t.args) (i := 0) (by omega)
            have hxo := okRes_get hoka hx
            have hxs := Re.size_arg hx
            obtain ⟨ab, ao, rfl, hres⟩ := args_at hargs (by omega)
            obtain ⟨us, hus, hxt⟩ := hres.get hx
            have hsp := rk5 hn h5 hx (i := i) (j := j) (by omega)
            refine Wp_seq ?_
            refine Wp_seq_region ?_
            refine WpL_val rfl rfl (by decide) (r_move (v := (.int .i64 ((i : Nat) : Int))) rfl) ?_
            refine WpL_val rfl rfl (by decide) (r_move (v := (.int .i64 ((j : Nat) : Int))) rfl) ?_
            refine WpL_val rfl rfl (by decide) (r_eql (k := .i64) (a := ((i : Nat) : Int)) (b := ((j : Nat) : Int)) rfl rfl) ?_
            refine WpL_nil ?_
            refine Wp_cond (b := decide ((((i : Nat) : Int) : Int) = ((j : Nat) : Int))) rfl (fun he => ?_) (fun he => ?_)
            · have khe := he
              replace he := of_decide_eq_true he
              refine Wp_seq_region ?_
              refine WpL_val rfl rfl (by decide) (r_assign (v := (.bool true)) rfl) ?_
              refine WpL_nil ?_
              refine Wp_ret ?_
              refine thn_ret ?_
              refine inB_ret ?_
              refine thn_ret ?_
              refine fin_tmp Tryd.results23 (v := (.bool true)) rfl ?_
              exact ⟨bool_true (hsp.2 (.inl (by omega))), E⟩
            · have khe := he
              replace he := of_decide_eq_false he
              refine Wp_skip ?_
              refine thn_normal ?_
              refine Wp_seq_region ?_
              refine WpL_val rfl rfl (by decide) (r_move (v := (.int .i64 ((i : Nat) : Int))) rfl) ?_
              refine WpL_val rfl rfl (by decide) (r_add (k := .i64) (a := ((i : Nat) : Int)) (b := 1) (c := ((i + 1 : Nat) : Int)) rfl rfl (by rw [wI64 (by omega)]; omega)) ?_
              refine WpL_val rfl rfl (by decide) (r_assign (v := (.int .i64 ((i + 1 : Nat) : Int))) rfl) ?_
              refine WpL_nil ?_
              refine Wp_block ?_
              refine Wp_loop (fun nn_ σ W19 => ∃ (k : Nat), (∃ jj_, σ = upds jj_ [(1, (.slice ta text.length tc)), (2, (.int .i64 ((i : Nat) : Int))), (3, (.int .i64 ((j : Nat) : Int))), (4, (.pointer (some ⟨b1, 0, none⟩))), (13, (.int .i64 ((k : Nat) : Int)))]) ∧ Chg none1 w0 W19 ∧ Blk W19 b1 #[(.int .i64 t.kind), (.slice sa t.set.length sc), (.slice (some ⟨ab, ao, none⟩) t.args.length ac), (.int .i64 t.mn), (.int .i64 t.mx), (.bool t.neg)] 27 ∧ (i + 1 ≤ k ∧ k ≤ j + 1) ∧ (∀ m, i + 1 ≤ m → m < k → ¬ (relOf text x i m = true ∧ relOf text t m j = true)) ∧ nn_ = j + 1 - k) (n := j + 1 - (i + 1)) ?_ ?_
              · exact ⟨i + 1, Fits.out ⟨rfl, rfl, rfl, rfl, rfl, trivial⟩, E, B1, (by omega), (fun m h1 h2 => by omega), rfl⟩
              · clear E B1
                rintro _ _ W19 ⟨k, ⟨j19, rfl⟩, E, B1, hk, hp, rfl⟩
                refine Wp_seq ?_
                refine Wp_seq_region ?_
                refine WpL_val rfl rfl (by decide) (r_move (v := (.int .i64 ((k : Nat) : Int))) rfl) ?_
                refine WpL_val rfl rfl (by decide) (r_move (v := (.int .i64 ((j : Nat) : Int))) rfl) ?_
                refine WpL_val rfl rfl (by decide) (r_leq (k := .i64) (a := ((k : Nat) : Int)) (b := ((j : Nat) : Int)) rfl rfl) ?_
                refine WpL_nil ?_
                refine Wp_cond (b := decide ((((k : Nat) : Int) : Int) ≤ ((j : Nat) : Int))) rfl (fun hlt => ?_) (fun hlt => ?_)
                · have khlt := hlt
                  replace hlt := of_decide_eq_true hlt
                  refine Wp_skip ?_
                  refine thn_normal ?_
                  refine Wp_seq ?_
                  refine Wp_block ?_
                  refine Wp_seq_region ?_
                  refine WpL_val rfl rfl (by decide) (r_fieldAddr (b := b1) (o := 0) (o' := 2) rfl Tryd.underlying27 rfl siz25 rfl) ?_
                  refine WpL_val rfl rfl (by decide) (r_load (v := (.slice (some ⟨ab, ao, none⟩) t.args.length ac)) rfl flat25 (B1.cell rfl)) ?_
                  refine WpL_val rfl rfl (by decide) (r_indexSlice (b := ab) (o := ao) (len := t.args.length) (cap := ac) (i := 0) (o' := ao + 0 * 6) rfl rfl rfl Tryd.underlying25 siz27 (by omega) (by omega)) ?_
                  refine WpL_val rfl rfl (by decide) (r_loadAgg (vs := us) rfl agg27 siz27 hxt.len (hus.ext E)) ?_
                  refine WpL_val rfl rfl (by decide) (r_move (v := (.slice ta text.length tc)) rfl) ?_
                  refine WpL_val rfl rfl (by decide) (r_move (v := (.int .i64 ((i : Nat) : Int))) rfl) ?_
                  refine WpL_val rfl rfl (by decide) (r_move (v := (.int .i64 ((k : Nat) : Int))) rfl) ?_
                  refine WpL_enter rfl rfl (by decide) (r_callF (vs := [(.agg us.toArray), (.slice ta text.length tc), (.int .i64 ((i : Nat) : Int)), (.int .i64 ((k : Nat) : Int))]) Tryd.func23 nm23 bd23 rfl) (ih x i k (by omega) (by omega) (Nat.lt_of_lt_of_le (msr_sub hxs (okM_mx (okM_of hxo)) (by omega)) hM') (okM_of hxo) _ us _ (ReAt.ext E x hxt) (htx.ext E)) ?_
                  rintro _ w9 ⟨rfl, X9⟩
                  replace B1 := X9.keep B1
                  replace E := E.ext X9
                  refine WpL_val rfl rfl (by decide) (r_move (v := (.bool (relOf text x i k))) rfl) ?_
                  rcases Bool.eq_false_or_eq_true (relOf text x i k) with hA | hA
                  · have khA := hA
                    refine WpL_guard_yes (oj := _) rfl rfl (by decide) (congrArg Value.bool hA) ?_
                    refine WpL_val rfl rfl (by decide) (r_loadAgg (vs := [(.int .i64 t.kind), (.slice sa t.set.length sc), (.slice (some ⟨ab, ao, none⟩) t.args.length ac), (.int .i64 t.mn), (.int .i64 t.mx), (.bool t.neg)]) rfl agg27 siz27 rfl (B1.cells rfl)) ?_
                    refine WpL_guard_yes (oj := _) rfl rfl (by decide) (congrArg Value.bool hA) ?_
                    refine WpL_val rfl rfl (by decide) (r_move (v := (.slice ta text.length tc)) rfl) ?_
                    refine WpL_guard_yes (oj := _) rfl rfl (by decide) (congrArg Value.bool hA) ?_
                    refine WpL_val rfl rfl (by decide) (r_move (v := (.int .i64 ((k : Nat) : Int))) rfl) ?_
                    refine WpL_guard_yes (oj := _) rfl rfl (by decide) (congrArg Value.bool hA) ?_
                    refine WpL_val rfl rfl (by decide) (r_move (v := (.int .i64 ((j : Nat) : Int))) rfl) ?_
                    refine WpL_guard_yes (oj := _) rfl rfl (by decide) (congrArg Value.bool hA) ?_
                    refine WpL_enter rfl rfl (by decide) (r_callF (vs := [(.agg #[(.int .i64 t.kind), (.slice sa t.set.length sc), (.slice (some ⟨ab, ao, none⟩) t.args.length ac), (.int .i64 t.mn), (.int .i64 t.mx), (.bool t.neg)]), (.slice ta text.length tc), (.int .i64 ((k : Nat) : Int)), (.int .i64 ((j : Nat) : Int))]) Tryd.func23 nm23 bd23 rfl) (ih t k j (by omega) (by omega) (by unfold msr at hM' ⊢; omega) hok0 _ _ _ (ReAt.ext E t ht0) (htx.ext E)) ?_
                    rintro _ w19 ⟨rfl, X19⟩
                    replace B1 := X19.keep B1
                    replace E := E.ext X19
                    refine WpL_val rfl rfl (by decide) (r_pick (b := relOf text x i k) (v := (.bool (relOf text t k j))) rfl (by rw [hA]; rfl)) ?_
                    refine WpL_nil ?_
                    refine Wp_cond (b := relOf text t k j) rfl (fun hB => ?_) (fun hB => ?_)
                    · have khB := hB
                      refine Wp_seq_region ?_
                      refine WpL_val rfl rfl (by decide) (r_assign (v := (.bool true)) rfl) ?_
                      refine WpL_nil ?_
                      refine Wp_ret ?_
                      refine inB_ret ?_
                      refine thn_ret ?_
                      refine thn_ret ?_
                      refine inB_ret ?_
                      refine inB_ret ?_
                      refine thn_ret ?_
                      refine fin_tmp Tryd.results23 (v := (.bool true)) rfl ?_
                      exact ⟨bool_true (hsp.2 (.inr ⟨k, by omega, by omega, hA, hB⟩)), E⟩
                    · have khB := hB
                      refine Wp_skip ?_
                      refine inB_normal ?_
                      refine thn_normal ?_
                      refine Wp_region ?_
                      refine WpL_val rfl rfl (by decide) (r_move (v := (.int .i64 ((k : Nat) : Int))) rfl) ?_
                      refine WpL_val rfl rfl (by decide) (r_add (k := .i64) (a := ((k : Nat) : Int)) (b := 1) (c := ((k : Nat) : Int) + 1) rfl rfl (wI64 (by omega))) ?_
                      refine WpL_val rfl rfl (by decide) (r_assign (v := (.int .i64 (((k : Nat) : Int) + 1))) rfl) ?_
                      refine WpL_nil ?_
                      refine thn_normal ?_
                      exact ⟨j + 1 - (k + 1), by omega, k + 1, Fits.out ⟨rfl, rfl, rfl, rfl, rfl, trivial⟩, E, B1, (by omega), search_next hp (fun h => absurd h.2 (by rw [hB]; decide)), rfl⟩
                  · have khA := hA
                    refine WpL_guard_no (oj := _) rfl rfl (by decide) (v := .bool false) (congrArg Value.bool hA) (Or.inl rfl) ?_
                    refine WpL_guard_no (oj := _) rfl rfl (by decide) (v := .bool false) (congrArg Value.bool hA) (Or.inl rfl) ?_
                    refine WpL_guard_no (oj := _) rfl rfl (by decide) (v := .bool false) (congrArg Value.bool hA) (Or.inl rfl) ?_
                    refine WpL_guard_no (oj := _) rfl rfl (by decide) (v := .bool false) (congrArg Value.bool hA) (Or.inl rfl) ?_
                    refine WpL_guard_no (oj := _) rfl rfl (by decide) (v := .bool false) (congrArg Value.bool hA) (Or.inl rfl) ?_
                    refine WpL_val rfl rfl (by decide) (r_pick (b := relOf text x i k) (v := (.bool false)) rfl (by rw [hA]; rfl)) ?_
                    refine WpL_nil ?_
                    refine Wp_cond_false rfl ?_
                    refine Wp_skip ?_
                    refine inB_normal ?_
                    refine thn_normal ?_
                    refine Wp_region ?_
                    refine WpL_val rfl rfl (by decide) (r_move (v := (.int .i64 ((k : Nat) : Int))) rfl) ?_
                    refine WpL_val rfl rfl (by decide) (r_add (k := .i64) (a := ((k : Nat) : Int)) (b := 1) (c := ((k : Nat) : Int) + 1) rfl rfl (wI64 (by omega))) ?_
                    refine WpL_val rfl rfl (by decide) (r_assign (v := (.int .i64 (((k : Nat) : Int) + 1))) rfl) ?_
                    refine WpL_nil ?_
                    refine thn_normal ?_
                    exact ⟨j + 1 - (k + 1), by omega, k + 1, Fits.out ⟨rfl, rfl, rfl, rfl, rfl, trivial⟩, E, B1, (by omega), search_next hp (fun h => absurd h.1 (by rw [hA]; decide)), rfl⟩
                · have khlt := hlt
                  replace hlt := of_decide_eq_false hlt
                  refine Wp_exit ?_
                  refine thn_exit ?_
                  refine thn_exit ?_
                  refine inB_here ?_
                  refine inB_normal ?_
                  refine thn_normal ?_
                  refine Wp_seq_region ?_
                  refine WpL_val rfl rfl (by decide) (r_assign (v := (.bool false)) rfl) ?_
                  refine WpL_nil ?_
                  refine Wp_ret ?_
                  refine fin_tmp Tryd.results23 (v := (.bool false)) rfl ?_
                  exact ⟨bool_false (fun h => by rcases hsp.1 h with h | ⟨m, h1, h2, h3, h4⟩; omega; exact hp m h1 (by omega) ⟨h3, h4⟩), E⟩
          · have kh5 := h5
            replace h5 := of_decide_eq_false h5
            refine Wp_seq_region ?_
            refine WpL_val rfl rfl (by decide) (r_eql (k := .i64) (a := t.kind) (b := 6) rfl rfl) ?_
            refine WpL_val rfl rfl (by decide) (r_assign (v := (.bool (decide ((t.kind : Int) = 6)))) rfl) ?_
            refine WpL_nil ?_
            refine Wp_cond (b := decide ((t.kind : Int) = 6)) rfl (fun h6 => ?_) (fun h6 => ?_)
            · have kh6 := h6
              replace h6 := of_decide_eq_true h6
              refine Wp_seq_region ?_
              refine WpL_val rfl rfl (by decide) (r_loadAgg (vs := [(.int .i64 t.kind), (.slice sa t.set.length sc), (.slice aa t.args.length ac), (.int .i64 t.mn), (.int .i64 t.mx), (.bool t.neg)]) rfl agg27 siz27 rfl (B1.cells rfl)) ?_
              refine WpL_val rfl rfl (by decide) (r_move (v := (.slice ta text.length tc)) rfl) ?_
              refine WpL_val rfl rfl (by decide) (r_move (v := (.int .i64 ((i : Nat) : Int))) rfl) ?_
              refine WpL_val rfl rfl (by decide) (r_move (v := (.int .i64 ((j : Nat) : Int))) rfl) ?_
              refine WpL_enter rfl rfl (by decide) (r_callF (vs := [(.agg #[(.int .i64 t.kind), (.slice sa t.set.length sc), (.slice aa t.args.length ac), (.int .i64 t.mn), (.int .i64 t.mx), (.bool t.neg)]), (.slice ta text.length tc), (.int .i64 ((i : Nat) : Int)), (.int .i64 ((j : Nat) : Int))]) Tryd.func51 nm51 bd51 rfl) (repeats_c text hn M ih t i j hij hj hM' hokr h6 _ _ _ (ReAt.ext E t ht0) (htx.ext E)) ?_
              rintro _ w9 ⟨rfl, X9⟩
              replace B1 := X9.keep B1
              replace E := E.ext X9
              refine WpL_val rfl rfl (by decide) (r_assign (v := (.bool (relOf text t i j))) rfl) ?_
              refine WpL_nil ?_
              refine Wp_ret ?_
              refine inB_ret ?_
              refine thn_ret ?_
              refine fin_tmp Tryd.results23 (v := (.bool (relOf text t i j))) rfl ?_
              exact ⟨rfl, E⟩
            · have kh6 := h6
              replace h6 := of_decide_eq_false h6
              refine Wp_seq_region ?_
              refine WpL_val rfl rfl (by decide) (r_eql (k := .i64) (a := t.kind) (b := 7) rfl rfl) ?_
              refine WpL_val rfl rfl (by decide) (r_assign (v := (.bool (decide ((t.kind : Int) = 7)))) rfl) ?_
              refine WpL_nil ?_
              refine Wp_cond (b := decide ((t.kind : Int) = 7)) rfl (fun h7 => ?_) (fun h7 => ?_)
              · have kh7 := h7
                replace h7 := of_decide_eq_true h7
                have hsp := rk7 (text := text) h7 (by have := okRe_two hokr (by omega); omega) (i := i) (j := j)
                refine Wp_seq ?_
                refine Wp_seq_region ?_
                refine WpL_val rfl rfl (by decide) (r_fieldAddr (b := b1) (o := 0) (o' := 2) rfl Tryd.underlying27 rfl siz25 rfl) ?_
                refine WpL_val rfl rfl (by decide) (r_load (v := (.slice aa t.args.length ac)) rfl flat25 (B1.cell rfl)) ?_
                refine WpL_val rfl rfl (by decide) (r_lenSlice (ad := aa) (n := t.args.length) (cap := ac) Tryd.underlying25 rfl) ?_
                refine WpL_val rfl rfl (by decide) (r_move (v := (.int .i64 0)) rfl) ?_
                refine WpL_nil ?_
                refine Wp_block ?_
                refine Wp_loop (fun nn_ σ W25 => ∃ (k : Nat), (∃ jj_, σ = upds jj_ [(1, (.slice ta text.length tc)), (2, (.int .i64 ((i : Nat) : Int))), (3, (.int .i64 ((j : Nat) : Int))), (131, (.slice aa t.args.length ac)), (132, (.int .i64 ((t.args.length : Nat) : Int))), (133, (.int .i64 ((k : Nat) : Int)))]) ∧ Chg none1 w0 W25 ∧ Blk W25 b1 #[(.int .i64 t.kind), (.slice sa t.set.length sc), (.slice aa t.args.length ac), (.int .i64 t.mn), (.int .i64 t.mx), (.bool t.neg)] 27 ∧ (k ≤ t.args.length) ∧ ((t.args.all fun a => relOf text a i j) = ((t.args.drop k).all fun a => relOf text a i j)) ∧ nn_ = t.args.length - k) (n := t.args.length - 0) ?_ ?_
                · exact ⟨0, Fits.out ⟨rfl, rfl, rfl, rfl, rfl, rfl, trivial⟩, E, B1, Nat.zero_le _, rfl, rfl⟩
                · clear E B1
                  rintro _ _ W25 ⟨k, ⟨j25, rfl⟩, E, B1, hk, hp, rfl⟩
                  refine Wp_seq_region ?_
                  refine WpL_val rfl rfl (by decide) (r_lss (k := .i64) (a := ((k : Nat) : Int)) (b := ((t.args.length : Nat) : Int)) rfl rfl) ?_
                  refine WpL_nil ?_
                  refine Wp_seq ?_
                  refine Wp_cond (b := decide ((((k : Nat) : Int) : Int) < ((t.args.length : Nat) : Int))) rfl (fun hlt => ?_) (fun hlt => ?_)
                  · have khlt := hlt
                    replace hlt := of_decide_eq_true hlt
                    obtain ⟨x, hx⟩ := get_of_lt (l := t.args) (i := k) (by omega)
                    have hxo := okRes_get hoka hx
                    have hxs := Re.size_arg hx
                    obtain ⟨ab, ao, rfl, hres⟩ := args_at hargs (by omega)
                    obtain ⟨us, hus, hxt⟩ := hres.get hx
                    have hd := drop_cons hx
                    refine Wp_skip ?_
                    refine thn_normal ?_
                    refine Wp_seq ?_
                    refine Wp_block ?_
                    refine Wp_seq_region ?_
                    refine WpL_val rfl rfl (by decide) (r_indexSlice (b := ab) (o := ao) (len := t.args.length) (cap := ac) (i := k) (o' := ao + k * 6) rfl rfl rfl Tryd.underlying25 siz27 (by omega) (by omega)) ?_
                    refine WpL_val rfl rfl (by decide) (r_loadAgg (vs := us) rfl agg27 siz27 hxt.len (hus.ext E)) ?_
                    refine s_allocStore (v := (.agg us.toArray)) (c := us.toArray) (n := 6) (by decide) zer27 rfl siz27 rfl rfl (by simpa using hxt.len) (by simpa using ReAt.one hxt) ?_
                    intro b27 w27 N27
                    have F27 := N27.ge E
                    have O27_b1 := N27.lt B1
                    replace B1 := N27.keep B1
                    replace E := E.ext N27.ext
                    have B27 := N27.blk
                    refine WpL_nil ?_
                    refine Wp_seq_region ?_
                    refine WpL_val rfl rfl (by decide) (r_loadAgg (vs := us) rfl agg27 siz27 hxt.len (B27.cells (by simp))) ?_
                    refine WpL_val rfl rfl (by decide) (r_move (v := (.slice ta text.length tc)) rfl) ?_
                    refine WpL_val rfl rfl (by decide) (r_move (v := (.int .i64 ((i : Nat) : Int))) rfl) ?_
                    refine WpL_val rfl rfl (by decide) (r_move (v := (.int .i64 ((j : Nat) : Int))) rfl) ?_
                    refine WpL_enter rfl rfl (by decide) (r_callF (vs := [(.agg us.toArray), (.slice ta text.length tc), (.int .i64 ((i : Nat) : Int)), (.int .i64 ((j : Nat) : Int))]) Tryd.func23 nm23 bd23 rfl) (ih x i j hij hj (Nat.lt_of_lt_of_le (msr_sub hxs (okM_mx (okM_of hxo)) (by omega)) hM') (okM_of hxo) _ us _ (ReAt.ext E x hxt) (htx.ext E)) ?_
                    rintro _ w9 ⟨rfl, X9⟩
                    replace B1 := X9.keep B1
                    replace B27 := X9.keep B27
                    replace E := E.ext X9
                    refine WpL_val rfl rfl (by decide) (r_not (b := relOf text x i j) rfl) ?_
                    refine WpL_nil ?_
                    refine Wp_cond (b := !(relOf text x i j)) rfl (fun hB => ?_) (fun hB => ?_)
                    · have khB := hB
                      replace hB := by simpa using hB
                      refine Wp_seq_region ?_
                      refine WpL_val rfl rfl (by decide) (r_assign (v := (.bool false)) rfl) ?_
                      refine WpL_nil ?_
                      refine Wp_ret ?_
                      refine inB_ret ?_
                      refine thn_ret ?_
                      refine thn_ret ?_
                      refine inB_ret ?_
                      refine thn_ret ?_
                      refine inB_ret ?_
                      refine thn_ret ?_
                      refine fin_tmp Tryd.results23 (v := (.bool false)) rfl ?_
                      exact ⟨bool_false (by rw [hsp, hp, hd, List.all_cons, hB]; simp), E⟩
                    · have khB := hB
                      replace hB := by simpa using hB
                      refine Wp_skip ?_
                      refine inB_normal ?_
                      refine thn_normal ?_
                      refine Wp_region ?_
                      refine WpL_val rfl rfl (by decide) (r_add (k := .i64) (a := ((k : Nat) : Int)) (b := 1) (c := ((k : Nat) : Int) + 1) rfl rfl (wI64 (by omega))) ?_
                      refine WpL_val rfl rfl (by decide) (r_move (v := (.int .i64 (((k : Nat) : Int) + 1))) rfl) ?_
                      refine WpL_nil ?_
                      refine thn_normal ?_
                      exact ⟨t.args.length - (k + 1), by omega, k + 1, Fits.out ⟨rfl, rfl, rfl, rfl, rfl, rfl, trivial⟩, E, B1, (by omega), (by rw [hp, hd, List.all_cons, hB]; rfl), rfl⟩
                  · have khlt := hlt
                    replace hlt := of_decide_eq_false hlt
                    have hkl : t.args.drop k = [] := List.drop_eq_nil_of_le (by omega)
                    refine Wp_exit ?_
                    refine thn_exit ?_
                    refine thn_exit ?_
                    refine inB_here ?_
                    refine thn_normal ?_
                    refine Wp_seq_region ?_
                    refine WpL_val rfl rfl (by decide) (r_assign (v := (.bool true)) rfl) ?_
                    refine WpL_nil ?_
                    refine Wp_ret ?_
                    refine inB_ret ?_
                    refine thn_ret ?_
                    refine fin_tmp Tryd.results23 (v := (.bool true)) rfl ?_
                    exact ⟨bool_true (by rw [hsp, hp, hkl]; rfl), E⟩
              · have kh7 := h7
                replace h7 := of_decide_eq_false h7
                refine Wp_seq_region ?_
                refine WpL_val rfl rfl (by decide) (r_eql (k := .i64) (a := t.kind) (b := 8) rfl rfl) ?_
                refine WpL_val rfl rfl (by decide) (r_assign (v := (.bool (decide ((t.kind : Int) = 8)))) rfl) ?_
                refine WpL_nil ?_
                refine Wp_cond (b := decide ((t.kind : Int) = 8)) rfl (fun h8 => ?_) (fun h8 => ?_)
                · have kh8 := h8
                  replace h8 := of_decide_eq_true h8
                  have hone := okRe_one hokr (by omega)
                  obtain ⟨x, hx⟩ := get_of_lt (l := t.args) (i := 0) (by omega)
                  have hxo := okRes_get hoka hx
                  have hxs := Re.size_arg hx
                  obtain ⟨ab, ao, rfl, hres⟩ := args_at hargs (by omega)
                  obtain ⟨us, hus, hxt⟩ := hres.get hx
                  refine Wp_seq_region ?_
                  refine WpL_val rfl rfl (by decide) (r_fieldAddr (b := b1) (o := 0) (o' := 2) rfl Tryd.underlying27 rfl siz25 rfl) ?_
                  refine WpL_val rfl rfl (by decide) (r_load (v := (.slice (some ⟨ab, ao, none⟩) t.args.length ac)) rfl flat25 (B1.cell rfl)) ?_
                  refine WpL_val rfl rfl (by decide) (r_indexSlice (b := ab) (o := ao) (len := t.args.length) (cap := ac) (i := 0) (o' := ao + 0 * 6) rfl rfl rfl Tryd.underlying25 siz27 (by omega) (by omega)) ?_
                  refine WpL_val rfl rfl (by decide) (r_loadAgg (vs := us) rfl agg27 siz27 hxt.len (hus.ext E)) ?_
                  refine WpL_val rfl rfl (by decide) (r_move (v := (.slice ta text.length tc)) rfl) ?_
                  refine WpL_val rfl rfl (by decide) (r_move (v := (.int .i64 ((i : Nat) : Int))) rfl) ?_
                  refine WpL_val rfl rfl (by decide) (r_move (v := (.int .i64 ((j : Nat) : Int))) rfl) ?_
                  refine WpL_enter rfl rfl (by decide) (r_callF (vs := [(.agg us.toArray), (.slice ta text.length tc), (.int .i64 ((i : Nat) : Int)), (.int .i64 ((j : Nat) : Int))]) Tryd.func23 nm23 bd23 rfl) (ih x i j hij hj (Nat.lt_of_lt_of_le (msr_sub hxs (okM_mx (okM_of hxo)) (by omega)) hM') (okM_of hxo) _ us _ (ReAt.ext E x hxt) (htx.ext E)) ?_
                  rintro _ w9 ⟨rfl, X9⟩
                  replace B1 := X9.keep B1
                  replace E := E.ext X9
                  refine WpL_val rfl rfl (by decide) (r_not (b := relOf text x i j) rfl) ?_
                  refine WpL_val rfl rfl (by decide) (r_assign (v := (.bool (!(relOf text x i j)))) rfl) ?_
                  refine WpL_nil ?_
                  refine Wp_ret ?_
                  refine inB_ret ?_
                  refine thn_ret ?_
                  refine fin_tmp Tryd.results23 (v := (.bool (!(relOf text x i j)))) rfl ?_
                  exact ⟨bool_eq (rk8 h8 hx hij hj).symm, E⟩
                · have kh8 := h8
                  replace h8 := of_decide_eq_false h8
                  refine Wp_seq_region ?_
                  refine WpL_val rfl rfl (by decide) (r_eql (k := .i64) (a := t.kind) (b := 9) rfl rfl) ?_
                  refine WpL_val rfl rfl (by decide) (r_assign (v := (.bool (decide ((t.kind : Int) = 9)))) rfl) ?_
                  refine WpL_nil ?_
                  refine Wp_cond (b := decide ((t.kind : Int) = 9)) rfl (fun h9 => ?_) (fun h9 => ?_)
                  · have kh9 := h9
                    replace h9 := of_decide_eq_true h9
                    have hone := okRe_one hokr (by omega)
                    obtain ⟨x, hx⟩ := get_of_lt (l := t.args) (i := 0) (by omega)
                    have hxo := okRes_get hoka hx
                    have hxs := Re.size_arg hx
                    obtain ⟨ab, ao, rfl, hres⟩ := args_at hargs (by omega)
                    obtain ⟨us, hus, hxt⟩ := hres.get hx
                    refine Wp_seq_region ?_
                    refine WpL_val rfl rfl (by decide) (r_fieldAddr (b := b1) (o := 0) (o' := 2) rfl Tryd.underlying27 rfl siz25 rfl) ?_
                    refine WpL_val rfl rfl (by decide) (r_load (v := (.slice (some ⟨ab, ao, none⟩) t.args.length ac)) rfl flat25 (B1.cell rfl)) ?_
                    refine WpL_val rfl rfl (by decide) (r_indexSlice (b := ab) (o := ao) (len := t.args.length) (cap := ac) (i := 0) (o' := ao + 0 * 6) rfl rfl rfl Tryd.underlying25 siz27 (by omega) (by omega)) ?_
                    refine WpL_val rfl rfl (by decide) (r_loadAgg (vs := us) rfl agg27 siz27 hxt.len (hus.ext E)) ?_
                    refine WpL_val rfl rfl (by decide) (r_move (v := (.slice ta text.length tc)) rfl) ?_
                    refine WpL_val rfl rfl (by decide) (r_move (v := (.int .i64 ((i : Nat) : Int))) rfl) ?_
                    refine WpL_val rfl rfl (by decide) (r_move (v := (.int .i64 ((j : Nat) : Int))) rfl) ?_
                    refine WpL_enter rfl rfl (by decide) (r_callF (vs := [(.agg us.toArray), (.slice ta text.length tc), (.int .i64 ((i : Nat) : Int)), (.int .i64 ((j : Nat) : Int))]) Tryd.func23 nm23 bd23 rfl) (ih x i j hij hj (Nat.lt_of_lt_of_le (msr_sub hxs (okM_mx (okM_of hxo)) (by omega)) hM') (okM_of hxo) _ us _ (ReAt.ext E x hxt) (htx.ext E)) ?_
                    rintro _ w9 ⟨rfl, X9⟩
                    replace B1 := X9.keep B1
                    replace E := E.ext X9
                    refine WpL_val rfl rfl (by decide) (r_assign (v := (.bool (relOf text x i j))) rfl) ?_
                    refine WpL_nil ?_
                    refine Wp_ret ?_
                    refine inB_ret ?_
                    refine thn_ret ?_
                    refine fin_tmp Tryd.results23 (v := (.bool (relOf text x i j))) rfl ?_
                    exact ⟨bool_eq (by rw [rk9 h9 hx]), E⟩
                  · have kh9 := h9
                    replace h9 := of_decide_eq_false h9
                    refine Wp_seq_region ?_
                    refine WpL_val rfl rfl (by decide) (r_eql (k := .i64) (a := t.kind) (b := 10) rfl rfl) ?_
                    refine WpL_val rfl rfl (by decide) (r_assign (v := (.bool (decide ((t.kind : Int) = 10)))) rfl) ?_
                    refine WpL_nil ?_
                    refine Wp_cond (b := decide ((t.kind : Int) = 10)) rfl (fun h10 => ?_) (fun h10 => ?_)
                    · have kh10 := h10
                      replace h10 := of_decide_eq_true h10
                      have hone := okRe_one hokr (by omega)
                      obtain ⟨x, hx⟩ := get_of_lt (l := t.args) (i := 0) (by omega)
                      have hxo := okRes_get hoka hx
                      have hxs := Re.size_arg hx
                      obtain ⟨ab, ao, rfl, hres⟩ := args_at hargs (by omega)
                      obtain ⟨us, hus, hxt⟩ := hres.get hx
                      have hsp := rk10 hn h10 hx (i := i) (j := j) (by omega)
                      refine Wp_seq_region ?_
                      refine WpL_val rfl rfl (by decide) (r_assign (v := (.bool false)) rfl) ?_
                      refine WpL_nil ?_
                      refine Wp_seq ?_
                      refine Wp_seq_region ?_
                      refine WpL_val rfl rfl (by decide) (r_move (v := (.int .i64 ((i : Nat) : Int))) rfl) ?_
                      refine WpL_val rfl rfl (by decide) (r_assign (v := (.int .i64 ((i : Nat) : Int))) rfl) ?_
                      refine WpL_nil ?_
                      refine Wp_block ?_
                      refine Wp_loop (fun nn_ σ W32 => ∃ (k : Nat) (s : Bool), (∃ jj_, σ = upds jj_ [(1, (.slice ta text.length tc)), (2, (.int .i64 ((i : Nat) : Int))), (3, (.int .i64 ((j : Nat) : Int))), (4, (.pointer (some ⟨b1, 0, none⟩))), (17, (.int .i64 ((k : Nat) : Int))), (16, (.bool s))]) ∧ Chg none1 w0 W32 ∧ Blk W32 b1 #[(.int .i64 t.kind), (.slice sa t.set.length sc), (.slice (some ⟨ab, ao, none⟩) t.args.length ac), (.int .i64 t.mn), (.int .i64 t.mx), (.bool t.neg)] 27 ∧ (i ≤ k ∧ k ≤ text.length + 1) ∧ (s = (List.range k).any fun m => decide (i ≤ m) && relOf text x i m) ∧ (i ≠ j → k = i) ∧ nn_ = text.length + 1 - k) (n := text.length + 1 - i) ?_ ?_
                      · exact ⟨i, false, Fits.out ⟨rfl, rfl, rfl, rfl, rfl, rfl, trivial⟩, E, B1, (by omega), (by symm; rw [List.any_eq_false]; intro m hm; simp at hm ⊢; omega), (fun _ => rfl), rfl⟩
                      · clear E B1
                        rintro _ _ W32 ⟨k, s, ⟨j32, rfl⟩, E, B1, hk, hp, hq, rfl⟩
                        refine Wp_seq ?_
                        refine Wp_seq_region ?_
                        refine WpL_val rfl rfl (by decide) (r_move (v := (.int .i64 ((k : Nat) : Int))) rfl) ?_
                        refine WpL_val rfl rfl (by decide) (r_move (v := (.slice ta text.length tc)) rfl) ?_
                        refine WpL_val rfl rfl (by decide) (r_lenSlice (ad := ta) (n := text.length) (cap := tc) Tryd.underlying22 rfl) ?_
                        obtain ⟨e33, he33⟩ : ∃ e, (decide ((((k : Nat) : Int) : Int) ≤ ((text.length : Nat) : Int))) = e := ⟨_, rfl⟩
                        refine WpL_val rfl rfl (by decide) ((r_leq (k := .i64) (a := ((k : Nat) : Int)) (b := ((text.length : Nat) : Int)) rfl rfl).trans (by rw [he33]; try rfl)) ?_
                        refine WpL_val rfl rfl (by decide) (r_move (v := (.bool e33)) rfl) ?_
                        refine WpL_guard_any (oj := _) (gv := (.bool e33)) (u := (bif e33 then (.int .i64 ((i : Nat) : Int)) else undef)) rfl rfl (by decide) (by decide) rfl (by cases e33 <;> first | exact Or.inr ⟨Or.inl rfl, rfl⟩ | exact Or.inr ⟨Or.inr rfl, rfl⟩ | exact Or.inl ⟨rfl, r_move (v := (.int .i64 ((i : Nat) : Int))) rfl⟩) ?_
                        refine WpL_guard_any (oj := _) (gv := (.bool e33)) (u := (bif e33 then (.int .i64 ((j : Nat) : Int)) else undef)) rfl rfl (by decide) (by decide) rfl (by cases e33 <;> first | exact Or.inr ⟨Or.inl rfl, rfl⟩ | exact Or.inr ⟨Or.inr rfl, rfl⟩ | exact Or.inl ⟨rfl, r_move (v := (.int .i64 ((j : Nat) : Int))) rfl⟩) ?_
                        obtain ⟨e34, he34⟩ : ∃ e, (decide ((((i : Nat) : Int) : Int) = ((j : Nat) : Int))) = e := ⟨_, rfl⟩
                        refine WpL_guard_any (oj := _) (gv := (.bool e33)) (u := (bif e33 then (.bool e34) else undef)) rfl rfl (by decide) (by decide) rfl (by cases e33 <;> first | exact Or.inr ⟨Or.inl rfl, rfl⟩ | exact Or.inr ⟨Or.inr rfl, rfl⟩ | exact Or.inl ⟨rfl, (r_eql (k := .i64) (a := ((i : Nat) : Int)) (b := ((j : Nat) : Int)) rfl rfl).trans (by rw [he34]; try rfl)⟩) ?_
                        obtain ⟨e35, he35⟩ : ∃ e, (e33 && e34) = e := ⟨_, rfl⟩
                        refine WpL_val rfl rfl (by decide) (r_pick (b := e33) (v := .bool e35) rfl (by rw [← he35]; cases e33 <;> rfl)) ?_
                        refine WpL_nil ?_
                        subst he35
                        subst he34
                        subst he33
                        refine Wp_cond (b := ((decide ((((k : Nat) : Int) : Int) ≤ ((text.length : Nat) : Int))) && (decide ((((i : Nat) : Int) : Int) = ((j : Nat) : Int))))) rfl (fun hlt => ?_) (fun hlt => ?_)
                        · have khlt := hlt
                          simp at hlt
                          refine Wp_skip ?_
                          refine thn_normal ?_
                          refine Wp_seq ?_
                          refine Wp_block ?_
                          refine Wp_region ?_
                          refine WpL_val rfl rfl (by decide) (r_move (v := (.bool s)) rfl) ?_
                          refine WpL_val rfl rfl (by decide) (r_move (v := (.bool s)) rfl) ?_
                          rcases Bool.eq_false_or_eq_true (s) with hS | hS
                          · have khS := hS
                            refine WpL_guard_no (oj := _) rfl rfl (by decide) (v := .bool true) (congrArg Value.bool hS) (Or.inl rfl) ?_
                            refine WpL_guard_no (oj := _) rfl rfl (by decide) (v := .bool true) (congrArg Value.bool hS) (Or.inl rfl) ?_
                            refine WpL_guard_no (oj := _) rfl rfl (by decide) (v := .bool true) (congrArg Value.bool hS) (Or.inl rfl) ?_
                            refine WpL_guard_no (oj := _) rfl rfl (by decide) (v := .bool true) (congrArg Value.bool hS) (Or.inl rfl) ?_
                            refine WpL_guard_no (oj := _) rfl rfl (by decide) (v := .bool true) (congrArg Value.bool hS) (Or.inl rfl) ?_
                            refine WpL_guard_no (oj := _) rfl rfl (by decide) (v := .bool true) (congrArg Value.bool hS) (Or.inl rfl) ?_
                            refine WpL_guard_no (oj := _) rfl rfl (by decide) (v := .bool true) (congrArg Value.bool hS) (Or.inl rfl) ?_
                            refine WpL_guard_no (oj := _) rfl rfl (by decide) (v := .bool true) (congrArg Value.bool hS) (Or.inl rfl) ?_
                            refine WpL_val rfl rfl (by decide) (r_pick (b := s) (v := (.bool true)) rfl (by rw [hS]; rfl)) ?_
                            refine WpL_val rfl rfl (by decide) (r_assign (v := (.bool true)) rfl) ?_
                            refine WpL_nil ?_
                            refine inB_normal ?_
                            refine thn_normal ?_
                            refine Wp_region ?_
                            refine WpL_val rfl rfl (by decide) (r_move (v := (.int .i64 ((k : Nat) : Int))) rfl) ?_
                            refine WpL_val rfl rfl (by decide) (r_add (k := .i64) (a := ((k : Nat) : Int)) (b := 1) (c := ((k : Nat) : Int) + 1) rfl rfl (wI64 (by omega))) ?_
                            refine WpL_val rfl rfl (by decide) (r_assign (v := (.int .i64 (((k : Nat) : Int) + 1))) rfl) ?_
                            refine WpL_nil ?_
                            refine thn_normal ?_
                            exact ⟨text.length + 1 - (k + 1), by omega, k + 1, true, Fits.out ⟨rfl, rfl, rfl, rfl, rfl, rfl, trivial⟩, E, B1, (by omega), (by rw [any_range_succ, ← hp, hS]; rfl), (fun h => by omega), rfl⟩
                          · have khS := hS
                            refine WpL_guard_yes (oj := _) rfl rfl (by decide) (congrArg Value.bool hS) ?_
                            refine WpL_val rfl rfl (by decide) (r_fieldAddr (b := b1) (o := 0) (o' := 2) rfl Tryd.underlying27 rfl siz25 rfl) ?_
                            refine WpL_guard_yes (oj := _) rfl rfl (by decide) (congrArg Value.bool hS) ?_
                            refine WpL_val rfl rfl (by decide) (r_load (v := (.slice (some ⟨ab, ao, none⟩) t.args.length ac)) rfl flat25 (B1.cell rfl)) ?_
                            refine WpL_guard_yes (oj := _) rfl rfl (by decide) (congrArg Value.bool hS) ?_
                            refine WpL_val rfl rfl (by decide) (r_indexSlice (b := ab) (o := ao) (len := t.args.length) (cap := ac) (i := 0) (o' := ao + 0 * 6) rfl rfl rfl Tryd.underlying25 siz27 (by omega) (by omega)) ?_
                            refine WpL_guard_yes (oj := _) rfl rfl (by decide) (congrArg Value.bool hS) ?_
                            refine WpL_val rfl rfl (by decide) (r_loadAgg (vs := us) rfl agg27 siz27 hxt.len (hus.ext E)) ?_
                            refine WpL_guard_yes (oj := _) rfl rfl (by decide) (congrArg Value.bool hS) ?_
                            refine WpL_val rfl rfl (by decide) (r_move (v := (.slice ta text.length tc)) rfl) ?_
                            refine WpL_guard_yes (oj := _) rfl rfl (by decide) (congrArg Value.bool hS) ?_
                            refine WpL_val rfl rfl (by decide) (r_move (v := (.int .i64 ((i : Nat) : Int))) rfl) ?_
                            refine WpL_guard_yes (oj := _) rfl rfl (by decide) (congrArg Value.bool hS) ?_
                            refine WpL_val rfl rfl (by decide) (r_move (v := (.int .i64 ((k : Nat) : Int))) rfl) ?_
                            refine WpL_guard_yes (oj := _) rfl rfl (by decide) (congrArg Value.bool hS) ?_
                            refine WpL_enter rfl rfl (by decide) (r_callF (vs := [(.agg us.toArray), (.slice ta text.length tc), (.int .i64 ((i : Nat) : Int)), (.int .i64 ((k : Nat) : Int))]) Tryd.func23 nm23 bd23 rfl) (ih x i k (by omega) (by omega) (Nat.lt_of_lt_of_le (msr_sub hxs (okM_mx (okM_of hxo)) (by omega)) hM') (okM_of hxo) _ us _ (ReAt.ext E x hxt) (htx.ext E)) ?_
                            rintro _ w9 ⟨rfl, X9⟩
                            replace B1 := X9.keep B1
                            replace E := E.ext X9
                            refine WpL_val rfl rfl (by decide) (r_pick (b := s) (v := (.bool (relOf text x i k))) rfl (by rw [hS]; rfl)) ?_
                            refine WpL_val rfl rfl (by decide) (r_assign (v := (.bool (relOf text x i k))) rfl) ?_
                            refine WpL_nil ?_
                            refine inB_normal ?_
                            refine thn_normal ?_
                            refine Wp_region ?_
                            refine WpL_val rfl rfl (by decide) (r_move (v := (.int .i64 ((k : Nat) : Int))) rfl) ?_
                            refine WpL_val rfl rfl (by decide) (r_add (k := .i64) (a := ((k : Nat) : Int)) (b := 1) (c := ((k : Nat) : Int) + 1) rfl rfl (wI64 (by omega))) ?_
                            refine WpL_val rfl rfl (by decide) (r_assign (v := (.int .i64 (((k : Nat) : Int) + 1))) rfl) ?_
                            refine WpL_nil ?_
                            refine thn_normal ?_
                            exact ⟨text.length + 1 - (k + 1), by omega, k + 1, relOf text x i k, Fits.out ⟨rfl, rfl, rfl, rfl, rfl, rfl, trivial⟩, E, B1, (by omega), (by rw [any_range_succ, ← hp, hS, show decide (i ≤ k) = true from decide_eq_true (by omega)]; rfl), (fun h => by omega), rfl⟩
                        · have khlt := hlt
                          simp at hlt
                          refine Wp_exit ?_
                          refine thn_exit ?_
                          refine thn_exit ?_
                          refine inB_here ?_
                          refine thn_normal ?_
                          refine Wp_seq_region ?_
                          refine WpL_val rfl rfl (by decide) (r_move (v := (.int .i64 ((i : Nat) : Int))) rfl) ?_
                          refine WpL_val rfl rfl (by decide) (r_move (v := (.int .i64 ((j : Nat) : Int))) rfl) ?_
                          obtain ⟨e38, he38⟩ : ∃ e, (decide ((((i : Nat) : Int) : Int) = ((j : Nat) : Int))) = e := ⟨_, rfl⟩
                          refine WpL_val rfl rfl (by decide) ((r_eql (k := .i64) (a := ((i : Nat) : Int)) (b := ((j : Nat) : Int)) rfl rfl).trans (by rw [he38]; try rfl)) ?_
                          refine WpL_val rfl rfl (by decide) (r_move (v := (.bool e38)) rfl) ?_
                          refine WpL_guard_any (oj := _) (gv := (.bool e38)) (u := (bif e38 then (.bool s) else undef)) rfl rfl (by decide) (by decide) rfl (by cases e38 <;> first | exact Or.inr ⟨Or.inl rfl, rfl⟩ | exact Or.inr ⟨Or.inr rfl, rfl⟩ | exact Or.inl ⟨rfl, r_move (v := (.bool s)) rfl⟩) ?_
                          refine WpL_guard_any (oj := _) (gv := (.bool e38)) (u := (bif e38 then (.pointer (some ⟨b1, 5, none⟩)) else undef)) rfl rfl (by decide) (by decide) rfl (by cases e38 <;> first | exact Or.inr ⟨Or.inl rfl, rfl⟩ | exact Or.inr ⟨Or.inr rfl, rfl⟩ | exact Or.inl ⟨rfl, r_fieldAddr (b := b1) (o := 0) (o' := 5) rfl Tryd.underlying27 rfl siz4 rfl⟩) ?_
                          refine WpL_guard_any (oj := _) (gv := (.bool e38)) (u := (bif e38 then (.bool t.neg) else undef)) rfl rfl (by decide) (by decide) rfl (by cases e38 <;> first | exact Or.inr ⟨Or.inl rfl, rfl⟩ | exact Or.inr ⟨Or.inr rfl, rfl⟩ | exact Or.inl ⟨rfl, r_load (v := (.bool t.neg)) rfl flat4 (B1.cell rfl)⟩) ?_
                          refine WpL_guard_any (oj := _) (gv := (.bool e38)) (u := (bif e38 then (.bool (s != t.neg)) else undef)) rfl rfl (by decide) (by decide) rfl (by cases e38 <;> first | exact Or.inr ⟨Or.inl rfl, rfl⟩ | exact Or.inr ⟨Or.inr rfl, rfl⟩ | exact Or.inl ⟨rfl, r_neqB (p := s) (q := t.neg) Tryd.underlying4 rfl rfl⟩) ?_
                          obtain ⟨e39, he39⟩ : ∃ e, (e38 && (s != t.neg)) = e := ⟨_, rfl⟩
                          refine WpL_val rfl rfl (by decide) (r_pick (b := e38) (v := .bool e39) rfl (by rw [← he39]; cases e38 <;> rfl)) ?_
                          refine WpL_val rfl rfl (by decide) (r_assign (v := (.bool e39)) rfl) ?_
                          refine WpL_nil ?_
                          subst he39
                          subst he38
                          refine Wp_ret ?_
                          refine inB_ret ?_
                          refine thn_ret ?_
                          refine fin_tmp Tryd.results23 (v := (.bool ((decide ((((i : Nat) : Int) : Int) = ((j : Nat) : Int))) && (s != t.neg)))) rfl ?_
                          exact ⟨bool_eq (by rw [hsp]; by_cases hh : i = j; obtain rfl : k = text.length + 1 := (by omega); rw [← hp]; subst hh; simp; simp [hh, show ¬ ((i : Int) = (j : Int)) from by omega]), E⟩
                    · have kh10 := h10
                      replace h10 := of_decide_eq_false h10
                      have h0 : t.kind = 0 := by have := okRe_form hokr; omega
                      refine Wp_skip ?_
                      refine inB_normal ?_
                      refine thn_normal ?_
                      refine Wp_seq_region ?_
                      refine WpL_val rfl rfl (by decide) (r_assign (v := (.bool false)) rfl) ?_
                      refine WpL_nil ?_
                      refine Wp_ret ?_
                      refine fin_tmp Tryd.results23 (v := (.bool false)) rfl ?_
                      exact ⟨bool_false (by rw [rk0 h0]; decide), E⟩
end Go.Proofs
