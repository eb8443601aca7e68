/- Contracts: checking, and all pairs of positions. -/
import Derived.Test.YtiepeobnpmoghaaDoorW5
import Derived.Test.YtiepeobnpmoghaaDoorW9
namespace Go.Proofs
open Go Go.Eng
set_option maxRecDepth 100000

theorem fitF_eq {most : Int} {n e : Int} (t : Re) (h0 : 0 ≤ n) (h1 : n ≤ 1000000) : fitF most (n, e) t = (decide ((if most < n + 1 then 2 else nodeE t) = 0), (n + 1, if most < n + 1 then 2 else nodeE t)) := by
  simp only [fitF]; rw [wI64 (by omega)]
mutual
theorem fits_yes {most : Int} (hm : most ≤ 1000000) : ∀ (t : Re) (n e : Int), 0 ≤ n → n + t.size ≤ most → okRe t → walkF (fitF most) t (n, e) = (true, (n + t.size, 0))
  | .mk k set args mn mx ng, n, e, h0, h1, hok => by
    simp only [Re.size] at h1 ⊢
    rw [walkF_eq, fitF_eq _ h0 (by omega)]
    have hn := okRe_node hok
    have hlt : ¬ most < n + 1 := by omega
    simp only [if_neg hlt, hn, decide_true, if_true, Re.args]
    have ha := okRe_args hok
    simp only [Re.args] at ha
    rw [fits_yess hm args (n + 1) 0 (by omega) (by omega) ha rfl]
    simp; omega
theorem fits_yess {most : Int} (hm : most ≤ 1000000) : ∀ (ts : List Re) (n e : Int), 0 ≤ n → n + Re.sizes ts ≤ most → okRes ts → e = 0 → walkFs (fitF most) ts (n, e) = (true, (n + Re.sizes ts, 0))
  | [], n, e, _, _, _, he => by simp [walkFs, Re.sizes, he]
  | t :: ts, n, e, h0, h1, hok, he => by
    simp only [Re.sizes] at h1 ⊢
    simp only [okRes] at hok
    rw [walkFs_cons, fits_yes hm t n e h0 (by omega) hok.1]
    simp only [if_true]
    rw [fits_yess hm ts _ _ (by omega) (by omega) hok.2 rfl]
    simp; omega
end
mutual
theorem fits_no {most : Int} (hm : most ≤ 1000000) : ∀ (t : Re) (n e : Int), 0 ≤ n → n ≤ most → (walkF (fitF most) t (n, e)).1 = true → okRe t ∧ n + t.size ≤ most ∧ (walkF (fitF most) t (n, e)).2 = (n + t.size, 0)
  | .mk k set args mn mx ng, n, e, h0, h1, h => by
    rw [walkF_eq, fitF_eq _ h0 (by omega)] at h ⊢
    by_cases hc : (if most < n + 1 then 2 else nodeE (.mk k set args mn mx ng)) = 0
    · have hlt : ¬ most < n + 1 := by intro h'; rw [if_pos h'] at hc; omega
      rw [if_neg hlt] at hc
      simp only [if_neg hlt, hc, decide_true, if_true, Re.args] at h ⊢
      obtain ⟨a, b, c⟩ := fits_nos hm args (n + 1) 0 (by omega) (by omega) h rfl
      refine ⟨by simp only [okRe]; exact ⟨hc, a⟩, by simp only [Re.size]; omega, by rw [c]; simp only [Re.size]; simp; omega⟩
    · simp [hc] at h
theorem fits_nos {most : Int} (hm : most ≤ 1000000) : ∀ (ts : List Re) (n e : Int), 0 ≤ n → n ≤ most → (walkFs (fitF most) ts (n, e)).1 = true → e = 0 → okRes ts ∧ n + Re.sizes ts ≤ most ∧ (walkFs (fitF most) ts (n, e)).2 = (n + Re.sizes ts, 0)
  | [], n, e, _, h1, _, he => by simp [walkFs, Re.sizes, okRes, he]; omega
  | t :: ts, n, e, h0, h1, h, he => by
    rw [walkFs_cons] at h ⊢
    by_cases hc : (walkF (fitF most) t (n, e)).1 = true
    · rw [if_pos hc] at h ⊢
      obtain ⟨a, b, c⟩ := fits_no hm t n e h0 h1 hc
      rw [c] at h ⊢
      obtain ⟨a', b', c'⟩ := fits_nos hm ts _ _ (by omega) b h rfl
      exact ⟨by simp only [okRes]; exact ⟨a, a'⟩, by simp only [Re.sizes]; omega, by rw [c']; simp only [Re.sizes]; simp; omega⟩
    · rw [if_neg hc] at h; simp at h
end
mutual
theorem fits_last {most : Int} : ∀ (t : Re) (s : Int × Int), (walkF (fitF most) t s).1 = decide ((walkF (fitF most) t s).2.2 = 0)
  | .mk k set args mn mx ng, s => by
    rw [walkF_eq]
    by_cases hc : (fitF most s (.mk k set args mn mx ng)).1 = true
    · rw [if_pos hc]
      exact fits_lasts args _ (by simpa [fitF] using hc)
    · rw [if_neg hc]
      have h2 : (fitF most s (.mk k set args mn mx ng)).1 = false := by simpa using hc
      simp only [fitF] at h2 ⊢
      exact h2.symm
theorem fits_lasts {most : Int} : ∀ (ts : List Re) (s : Int × Int), s.2 = 0 → (walkFs (fitF most) ts s).1 = decide ((walkFs (fitF most) ts s).2.2 = 0)
  | [], s, h => by simp [walkFs, h]
  | t :: ts, s, h => by
    rw [walkFs_cons]
    have := fits_last (most := most) t s
    by_cases hc : (walkF (fitF most) t s).1 = true
    · rw [if_pos hc]
      rw [hc] at this
      exact fits_lasts ts _ (by simpa using this.symm)
    · rw [if_neg hc]
      have h2 : (walkF (fitF most) t s).1 = false := by simpa using hc
      rw [h2] at this
      exact this
end
theorem fitsE_zero {t : Re} {most : Int} (h0 : 0 ≤ most) (hm : most ≤ 1000000) : fitsE t most = 0 ↔ okRe t ∧ (t.size : Int) ≤ most := by
  unfold fitsE
  constructor
  · intro h
    have h1 := fits_last (most := most) t (0, 0)
    rw [h] at h1
    obtain ⟨a, b, _⟩ := fits_no hm t 0 0 (Int.le_refl 0) h0 (by simpa using h1)
    exact ⟨a, by omega⟩
  · rintro ⟨a, b⟩
    rw [fits_yes hm t 0 0 (Int.le_refl 0) (by omega) a]

def checkP (t : Re) (text : List Int) : Int := if fitsE t 40 ≠ 0 then fitsE t 40 else if 24 < text.length then 2 else if (text.any fun r => !runeB r) = true then 1 else 0
theorem pcheck_c (w0 : World) (t : Re) (vs : List Value) (vt : Value) (text : List Int) (ht : ReAt w0 t vs) (htx : IntsAt w0 vt text) :
    Ret Tryd.prog 39 #[.agg vs.toArray, vt] w0 fun v w => v = .int .i64 (checkP t text) ∧ Ext w0 w := by
  have ht0 := ht
  obtain ⟨sa, sc, aa, ac, rfl, hset, hlen, hargs⟩ := ht.form
  obtain ⟨ta, tc, rfl⟩ := SlAt.form htx
  simp only [List.length_map] at htx ⊢
  refine Ret_of Tryd.func39 rfl Tryd.ntmps39 (Nat.le_of_ble_eq_true rfl) ?_
  have E : Chg none1 w0 w0 := Chg.refl _ _
  refine Wp_seq_region ?_
  refine s_box (v := (.agg #[(.int .i64 t.kind), (.slice sa t.set.length sc), (.slice aa t.args.length ac), (.int .i64 t.mn), (.int .i64 t.mx), (.bool t.neg)])) (c := #[(.int .i64 t.kind), (.slice sa t.set.length sc), (.slice aa t.args.length ac), (.int .i64 t.mn), (.int .i64 t.mx), (.bool t.neg)]) (by decide) rfl rfl ?_
  intro b1 w1 N1
  have F1 := N1.ge E
  replace E := E.ext N1.ext
  have B1 := N1.blk
  refine WpL_val rfl rfl (by decide) (r_assign (v := (.int .i64 0)) rfl) ?_
  refine WpL_nil ?_
  refine Wp_seq ?_
  refine Wp_seq_region ?_
  refine WpL_val rfl rfl (by decide) (r_loadAgg (vs := [(.int .i64 t.kind), (.slice sa t.set.length sc), (.slice aa t.args.length ac), (.int .i64 t.mn), (.int .i64 t.mx), (.bool t.neg)]) rfl agg27 siz27 rfl (B1.cells rfl)) ?_
  refine WpL_enter rfl rfl (by decide) (r_callF (vs := [(.agg #[(.int .i64 t.kind), (.slice sa t.set.length sc), (.slice aa t.args.length ac), (.int .i64 t.mn), (.int .i64 t.mx), (.bool t.neg)])]) Tryd.func52 nm52 bd52 rfl) (check_c _ t _ (ReAt.ext E t ht0)) ?_
  rintro _ w9 ⟨rfl, X9⟩
  replace B1 := X9.keep B1
  replace E := E.ext X9
  refine WpL_val rfl rfl (by decide) (r_assign (v := (.int .i64 (fitsE t 40))) rfl) ?_
  refine WpL_nil ?_
  refine Wp_seq_region ?_
  refine WpL_val rfl rfl (by decide) (r_move (v := (.int .i64 (fitsE t 40))) rfl) ?_
  refine WpL_val rfl rfl (by decide) (r_neq (k := .i64) (a := fitsE t 40) (b := 0) rfl rfl) ?_
  refine WpL_nil ?_
  refine Wp_cond (b := decide ((fitsE t 40 : Int) ≠ 0)) rfl (fun h1 => ?_) (fun h1 => ?_)
  · have kh1 := h1
    replace h1 := of_decide_eq_true h1
    refine Wp_seq_region ?_
    refine WpL_val rfl rfl (by decide) (r_move (v := (.int .i64 (fitsE t 40))) rfl) ?_
    refine WpL_val rfl rfl (by decide) (r_assign (v := (.int .i64 (fitsE t 40))) rfl) ?_
    refine WpL_nil ?_
    refine Wp_ret ?_
    refine thn_ret ?_
    refine fin_tmp Tryd.results39 (v := (.int .i64 (fitsE t 40))) rfl ?_
    exact ⟨int_eq (by unfold checkP; rw [if_pos h1]), E⟩
  · have kh1 := h1
    replace h1 := of_decide_eq_false h1
    refine Wp_skip ?_
    refine thn_normal ?_
    refine Wp_seq ?_
    refine Wp_seq_region ?_
    refine WpL_val rfl rfl (by decide) (r_move (v := (.slice ta text.length tc)) rfl) ?_
    refine WpL_val rfl rfl (by decide) (r_lenSlice (ad := ta) (n := text.length) (cap := tc) Tryd.underlying22 rfl) ?_
    refine WpL_val rfl rfl (by decide) (r_gtr (k := .i64) (a := ((text.length : Nat) : Int)) (b := 24) rfl rfl) ?_
    refine WpL_nil ?_
    refine Wp_cond (b := decide ((24 : Int) < ((text.length : Nat) : Int))) rfl (fun h2 => ?_) (fun h2 => ?_)
    · have kh2 := h2
      replace h2 := of_decide_eq_true h2
      refine Wp_seq_region ?_
      refine WpL_val rfl rfl (by decide) (r_assign (v := (.int .i64 2)) rfl) ?_
      refine WpL_nil ?_
      refine Wp_ret ?_
      refine thn_ret ?_
      refine fin_tmp Tryd.results39 (v := (.int .i64 2)) rfl ?_
      exact ⟨int_eq (by unfold checkP; rw [if_neg h1, if_pos (by omega)]), E⟩
    · have kh2 := h2
      replace h2 := of_decide_eq_false h2
      refine Wp_skip ?_
      refine thn_normal ?_
      refine Wp_seq ?_
      refine Wp_seq_region ?_
      refine WpL_val rfl rfl (by decide) (r_move (v := (.slice ta text.length tc)) rfl) ?_
      refine WpL_enter rfl rfl (by decide) (r_callF (vs := [(.slice ta text.length tc)]) Tryd.func64 nm64 bd64 rfl) (runes_c _ _ text (htx.ext E)) ?_
      rintro _ w19 ⟨rfl, X19⟩
      replace B1 := X19.keep B1
      replace E := E.ext X19
      refine WpL_val rfl rfl (by decide) (r_not (b := !(text.any fun r => !runeB r)) rfl) ?_
      refine WpL_nil ?_
      refine Wp_cond (b := !(!(text.any fun r => !runeB r))) rfl (fun h3 => ?_) (fun h3 => ?_)
      · have kh3 := h3
        replace h3 := by simpa using h3
        replace h3 := by simpa using h3
        refine Wp_seq_region ?_
        refine WpL_val rfl rfl (by decide) (r_assign (v := (.int .i64 1)) rfl) ?_
        refine WpL_nil ?_
        refine Wp_ret ?_
        refine thn_ret ?_
        refine fin_tmp Tryd.results39 (v := (.int .i64 1)) rfl ?_
        exact ⟨int_eq (by unfold checkP; rw [if_neg h1, if_neg (by omega), if_pos (by simpa using h3)]), E⟩
      · have kh3 := h3
        replace h3 := by simpa using h3
        replace h3 := by simpa using h3
        refine Wp_skip ?_
        refine thn_normal ?_
        refine Wp_seq_region ?_
        refine WpL_val rfl rfl (by decide) (r_assign (v := (.int .i64 0)) rfl) ?_
        refine WpL_nil ?_
        refine Wp_ret ?_
        refine fin_tmp Tryd.results39 (v := (.int .i64 0)) rfl ?_
        exact ⟨int_eq (by unfold checkP; rw [if_neg h1, if_neg (by omega), if_neg (by simpa using h3)]), E⟩

def pairV (p : Nat × Nat) : List Value := [.int .i64 (p.1 : Int), .int .i64 (p.2 : Int)]
def PairsAt (w : World) (v : Value) (l : List (Nat × Nat)) : Prop := SlAt w 2 v (l.map pairV)
def rowL (R : Rl) (i p : Nat) : List (Nat × Nat) := ((List.range p).filter (R i)).map fun j => (i, j)
def pairsL (R : Rl) (n : Nat) : List (Nat × Nat) := (List.range n).flatMap fun i => rowL R i 25
theorem pairsL_succ (R : Rl) (n : Nat) : pairsL R (n + 1) = pairsL R n ++ rowL R n 25 := by simp [pairsL, List.range_succ]
theorem rowL_skip {R : Rl} {i p q : Nat} (h : ∀ j, p ≤ j → j < q → R i j = false) (hpq : p ≤ q) : rowL R i q = rowL R i p := by
  unfold rowL
  congr 1
  obtain ⟨d, rfl⟩ := Nat.exists_eq_add_of_le hpq
  clear hpq
  induction d with
  | zero => rfl
  | succ d ih =>
    rw [← Nat.add_assoc, List.range_succ, List.filter_append, ih fun j h1 h2 => h j h1 (by omega)]
    simp [h (p + d) (by omega) (by omega)]
theorem rowL_succ {R : Rl} {i p : Nat} (h : R i p = true) : rowL R i (p + 1) = rowL R i p ++ [(i, p)] := by
  unfold rowL
  rw [List.range_succ, List.filter_append]
  simp [h]
theorem pairs_len (R : Rl) (n : Nat) : (pairsL R n).length ≤ n * 25 := by
  induction n with
  | zero => simp [pairsL]
  | succ n ih =>
    rw [pairsL_succ, List.length_append]
    have : (rowL R n 25).length ≤ 25 := by
      unfold rowL; simp only [List.length_map]
      exact Nat.le_trans (List.length_filter_le _ _) (by simp)
    omega
theorem row_len (R : Rl) (i p : Nat) : (rowL R i p).length ≤ p := by
  unfold rowL; simp only [List.length_map]
  exact Nat.le_trans (List.length_filter_le _ _) (by simp)

def accL (R : Rl) (i p : Nat) : List (Nat × Nat) := pairsL R i ++ rowL R i p
theorem acc_len (R : Rl) (i p : Nat) : (accL R i p).length ≤ i * 25 + p := by
  have h1 := pairs_len R i
  have h2 := row_len R i p
  unfold accL; rw [List.length_append]; omega
theorem acc_step {R : Rl} {i p k : Nat} (hlow : ∀ j, p ≤ j → j < k → R i j = false) (hpk : p ≤ k) (hk : R i k = true) : accL R i (k + 1) = accL R i p ++ [(i, k)] := by
  unfold accL
  rw [rowL_succ hk, rowL_skip hlow hpk, List.append_assoc]
theorem acc_end {R : Rl} {i p : Nat} (hp : p ≤ 25) (hz : maskN 25 (fun j => R i j && decide (p ≤ j)) = 0) : accL R i p = accL R (i + 1) 0 := by
  rw [mask_eq_zero] at hz
  unfold accL
  rw [pairsL_succ, ← rowL_skip (R := R) (i := i) (p := p) (q := 25) (fun j h1 h2 => by have := hz j h2; simpa [h1] using this) hp]
  simp [rowL]

set_option maxHeartbeats 1000000 in
theorem pairs_c (w0 : World) (t : Re) (vs : List Value) (vt : Value) (text : List Int) (ht : ReAt w0 t vs) (htx : IntsAt w0 vt text) (hT : TabOk w0) :
    Ret Tryd.prog 16 #[.agg vs.toArray, vt] w0 fun v w => ∃ a c, v = .tuple #[.slice a (if checkP t text = 0 then pairsL (relOf text t) (text.length + 1) else []).length c, .int .i64 (checkP t text)] ∧
      PairsAt w (.slice a (if checkP t text = 0 then pairsL (relOf text t) (text.length + 1) else []).length c) (if checkP t text = 0 then pairsL (relOf text t) (text.length + 1) else []) ∧ Ext w0 w := by
  have ht0 := ht
  obtain ⟨sa, sc, aa, ac, rfl, hset, hlen, hargs⟩ := ht.form
  obtain ⟨ta, tc, rfl⟩ := SlAt.form htx
  simp only [List.length_map] at htx ⊢
  refine Ret_of Tryd.func16 rfl Tryd.ntmps16 (Nat.le_of_ble_eq_true rfl) ?_
  have E : Chg none1 w0 w0 := Chg.refl _ _
  refine Wp_seq_region ?_
  refine s_box (v := (.agg #[(.int .i64 t.kind), (.slice sa t.set.length sc), (.slice aa t.args.length ac), (.int .i64 t.mn), (.int .i64 t.mx), (.bool t.neg)])) (c := #[(.int .i64 t.kind), (.slice sa t.set.length sc), (.slice aa t.args.length ac), (.int .i64 t.mn), (.int .i64 t.mx), (.bool t.neg)]) (by decide) rfl rfl ?_
  intro b1 w1 N1
  have F1 := N1.ge E
  replace E := E.ext N1.ext
  have B1 := N1.blk
  refine WpL_val rfl rfl (by decide) (r_assign (v := (.slice none 0 0)) rfl) ?_
  refine WpL_val rfl rfl (by decide) (r_assign (v := (.int .i64 0)) rfl) ?_
  refine WpL_nil ?_
  refine Wp_seq ?_
  refine Wp_seq_region ?_
  refine WpL_val rfl rfl (by decide) (r_loadAgg (vs := [(.int .i64 t.kind), (.slice sa t.set.length sc), (.slice aa t.args.length ac), (.int .i64 t.mn), (.int .i64 t.mx), (.bool t.neg)]) rfl agg27 siz27 rfl (B1.cells rfl)) ?_
  refine WpL_val rfl rfl (by decide) (r_move (v := (.slice ta text.length tc)) rfl) ?_
  refine WpL_enter rfl rfl (by decide) (r_callF (vs := [(.agg #[(.int .i64 t.kind), (.slice sa t.set.length sc), (.slice aa t.args.length ac), (.int .i64 t.mn), (.int .i64 t.mx), (.bool t.neg)]), (.slice ta text.length tc)]) Tryd.func39 nm39 bd39 rfl) (pcheck_c _ t _ _ text (ReAt.ext E t ht0) (htx.ext E)) ?_
  rintro _ w9 ⟨rfl, X9⟩
  replace B1 := X9.keep B1
  replace E := E.ext X9
  refine WpL_val rfl rfl (by decide) (r_assign (v := (.int .i64 (checkP t text))) rfl) ?_
  refine WpL_nil ?_
  refine Wp_seq_region ?_
  refine WpL_val rfl rfl (by decide) (r_move (v := (.int .i64 (checkP t text))) rfl) ?_
  refine WpL_val rfl rfl (by decide) (r_neq (k := .i64) (a := checkP t text) (b := 0) rfl rfl) ?_
  refine WpL_nil ?_
  refine Wp_cond (b := decide ((checkP t text : Int) ≠ 0)) rfl (fun h0 => ?_) (fun h0 => ?_)
  · have kh0 := h0
    replace h0 := of_decide_eq_true h0
    refine Wp_seq_region ?_
    refine WpL_val rfl rfl (by decide) (r_move (v := (.int .i64 (checkP t text))) rfl) ?_
    refine WpL_val rfl rfl (by decide) (r_assign (v := (.slice none 0 0)) rfl) ?_
    refine WpL_val rfl rfl (by decide) (r_assign (v := (.int .i64 (checkP t text))) rfl) ?_
    refine WpL_nil ?_
    refine Wp_ret ?_
    refine thn_ret ?_
    refine fin_tmp2 Tryd.results16 (v := (.slice none 0 0)) (v' := (.int .i64 (checkP t text))) rfl rfl ?_
    exact ⟨none, 0, by rw [if_neg h0]; rfl, by rw [if_neg h0]; exact SlAt.nil _ _ _ _, E⟩
  · have kh0 := h0
    replace h0 := of_decide_eq_false h0
    have h0' : checkP t text = 0 := by omega
    have hok : okRe t ∧ (t.size : Int) ≤ 40 ∧ text.length ≤ 24 := by
      have h00 := h0'
      unfold checkP at h00
      by_cases h1 : fitsE t 40 = 0
      · rw [if_neg (by omega)] at h00
        obtain ⟨a, b⟩ := (fitsE_zero (by decide) (by decide)).1 h1
        refine ⟨a, b, ?_⟩
        split at h00 <;> omega
      · rw [if_pos h1] at h00; omega
    obtain ⟨hok, hsz, hn⟩ := hok
    refine Wp_skip ?_
    refine thn_normal ?_
    refine Wp_seq_region ?_
    refine WpL_val rfl rfl (by decide) (r_loadAgg (vs := [(.int .i64 t.kind), (.slice sa t.set.length sc), (.slice aa t.args.length ac), (.int .i64 t.mn), (.int .i64 t.mx), (.bool t.neg)]) rfl agg27 siz27 rfl (B1.cells rfl)) ?_
    refine WpL_val rfl rfl (by decide) (r_move (v := (.slice ta text.length tc)) rfl) ?_
    refine WpL_enter rfl rfl (by decide) (r_callF (vs := [(.agg #[(.int .i64 t.kind), (.slice sa t.set.length sc), (.slice aa t.args.length ac), (.int .i64 t.mn), (.int .i64 t.mx), (.bool t.neg)]), (.slice ta text.length tc)]) Tryd.func40 nm40 bd40 rfl) (of_c text hn 40 (by decide) t (by omega) hok _ _ _ (ReAt.ext E t ht0) (htx.ext E) (hT.ext E)) ?_
    rintro _ w19 ⟨bm, rfl, hbm, Bm, X19⟩
    replace B1 := X19.keep B1
    replace E := E.ext X19
    rw [h0', if_pos rfl]
    obtain ⟨base, hbase⟩ : ∃ base, base = w19.heap.size := ⟨_, rfl⟩
    have hb1 : b1 < base := by have := B1.lt; omega
    have hbm1 : bm < base := by have := Bm.lt; omega
    have hb0 : w0.heap.size ≤ base := by have := E.size; omega
    refine WpL_val rfl rfl (by decide) (r_assign (v := (.pointer (some ⟨bm, 0, none⟩))) rfl) ?_
    refine WpL_nil ?_
    refine Wp_seq_region ?_
    refine WpL_val rfl rfl (by decide) (r_assign (v := (.slice none 0 0)) rfl) ?_
    refine WpL_nil ?_
    refine Wp_seq ?_
    refine Wp_seq_region ?_
    refine WpL_val rfl rfl (by decide) (r_move (v := (.slice ta text.length tc)) rfl) ?_
    refine WpL_val rfl rfl (by decide) (r_lenSlice (ad := ta) (n := text.length) (cap := tc) Tryd.underlying22 rfl) ?_
    refine WpL_val rfl rfl (by decide) (r_add (k := .i64) (a := ((text.length : Nat) : Int)) (b := 1) (c := ((text.length : Nat) : Int) + 1) rfl rfl (wI64 (by omega))) ?_
    refine WpL_val rfl rfl (by decide) (r_move (v := (.int .i64 0)) rfl) ?_
    refine WpL_nil ?_
    refine Wp_block ?_
    refine Wp_loop (fun nn_ σ W3 => ∃ (i : Nat) (la : Option Addr) (lc : Nat), (∃ jj_, σ = upds jj_ [(7, (.pointer (some ⟨bm, 0, none⟩))), (22, (.int .i64 (((text.length : Nat) : Int) + 1))), (23, (.int .i64 ((i : Nat) : Int))), (8, (.slice la ((accL (relOf text t) i 0).length) lc))]) ∧ Chg none1 w0 W3 ∧ Blk W3 b1 #[(.int .i64 t.kind), (.slice sa t.set.length sc), (.slice aa t.args.length ac), (.int .i64 t.mn), (.int .i64 t.mx), (.bool t.neg)] 27 ∧ Blk W3 bm (rowArr (relOf text t)) TR ∧ (i ≤ text.length + 1) ∧ (W3.ownsRow base 43 2 (.slice la (accL (relOf text t) i 0).length lc) (accL (relOf text t) i 0).length ((accL (relOf text t) i 0).map pairV).flatten) ∧ (base ≤ W3.heap.size) ∧ nn_ = text.length + 1 - i) (n := text.length + 1 - 0) ?_ ?_
    · exact ⟨0, none, 0, Fits.out ⟨rfl, rfl, rfl, rfl, trivial⟩, E, B1, Bm, Nat.zero_le _, World.ownsRow_nil _ _ _ _, (by omega), rfl⟩
    · clear E B1 Bm
      rintro _ _ W3 ⟨i, la, lc, ⟨j3, rfl⟩, E, B1, Bm, hi, hown, hbs, rfl⟩
      refine Wp_seq_region ?_
      refine WpL_val rfl rfl (by decide) (r_lss (k := .i64) (a := ((i : Nat) : Int)) (b := ((text.length : Nat) : Int) + 1) rfl rfl) ?_
      refine WpL_nil ?_
      refine Wp_seq ?_
      refine Wp_cond (b := decide ((((i : Nat) : Int) : Int) < ((text.length : Nat) : Int) + 1)) rfl (fun hlt => ?_) (fun hlt => ?_)
      · have khlt := hlt
        replace hlt := of_decide_eq_true hlt
        refine Wp_skip ?_
        refine thn_normal ?_
        refine Wp_seq ?_
        refine Wp_block ?_
        refine Wp_seq_region ?_
        refine WpL_val rfl rfl (by decide) (r_move (v := (.int .i64 ((i : Nat) : Int))) rfl) ?_
        refine WpL_val rfl rfl (by decide) (r_assign (v := (.int .i64 ((i : Nat) : Int))) rfl) ?_
        refine WpL_nil ?_
        refine Wp_seq_region ?_
        refine WpL_val rfl rfl (by decide) (r_move (v := (.pointer (some ⟨bm, 0, none⟩))) rfl) ?_
        refine WpL_val rfl rfl (by decide) (r_move (v := (.int .i64 ((i : Nat) : Int))) rfl) ?_
        refine WpL_val rfl rfl (by decide) (r_nilCheck (a := ⟨bm, 0, none⟩) rfl) ?_
        refine WpL_val rfl rfl (by decide) (r_indexArr (b := bm) (o := 0) (i := i) (o' := i) rfl rfl rfl Tryd.underlying91 siz70 (by omega) (by omega)) ?_
        refine WpL_val rfl rfl (by decide) (r_load (v := (.int .u32 ((maskN 25 (fun j => relOf text t i j && decide (0 ≤ j)) : Nat) : Int))) rfl flat70 ((Bm.cell (rowArr_get _ (by omega))).trans (by rw [mask_congr (g := fun j => relOf text t i j && decide (0 ≤ j)) (fun j _ => by simp)]))) ?_
        refine WpL_val rfl rfl (by decide) (r_assign (v := (.int .u32 ((maskN 25 (fun j => relOf text t i j && decide (0 ≤ j)) : Nat) : Int))) rfl) ?_
        refine WpL_nil ?_
        refine Wp_block ?_
        refine Wp_loop (fun nn_ σ W5 => ∃ (p : Nat) (la : Option Addr) (lc : Nat), (∃ jj_, σ = upds jj_ [(7, (.pointer (some ⟨bm, 0, none⟩))), (9, (.int .i64 ((i : Nat) : Int))), (22, (.int .i64 (((text.length : Nat) : Int) + 1))), (23, (.int .i64 ((i : Nat) : Int))), (10, (.int .u32 ((maskN 25 (fun j => relOf text t i j && decide (p ≤ j)) : Nat) : Int))), (8, (.slice la ((accL (relOf text t) i p).length) lc))]) ∧ Chg none1 w0 W5 ∧ Blk W5 b1 #[(.int .i64 t.kind), (.slice sa t.set.length sc), (.slice aa t.args.length ac), (.int .i64 t.mn), (.int .i64 t.mx), (.bool t.neg)] 27 ∧ Blk W5 bm (rowArr (relOf text t)) TR ∧ (p ≤ 25) ∧ (W5.ownsRow base 43 2 (.slice la (accL (relOf text t) i p).length lc) (accL (relOf text t) i p).length ((accL (relOf text t) i p).map pairV).flatten) ∧ (base ≤ W5.heap.size) ∧ nn_ = 25 - p) (n := 25 - 0) ?_ ?_
        · exact ⟨0, la, lc, Fits.out ⟨rfl, rfl, rfl, rfl, rfl, rfl, trivial⟩, E, B1, Bm, Nat.zero_le _, hown, hbs, rfl⟩
        · clear E B1 Bm
          rintro _ _ W5 ⟨p, la, lc, ⟨j5, rfl⟩, E, B1, Bm, hp, hown, hbs, rfl⟩
          obtain ⟨x, hx⟩ : ∃ x, x = maskN 25 (fun j => relOf text t i j && decide (p ≤ j)) := ⟨_, rfl⟩
          have hxl : x < 4294967296 := hx ▸ mask_lt32 _
          have hal := acc_len (relOf text t) i p
          rw [← hx]
          refine Wp_seq ?_
          refine Wp_seq_region ?_
          refine WpL_val rfl rfl (by decide) (r_move (v := (.int .u32 ((x : Nat) : Int))) rfl) ?_
          refine WpL_val rfl rfl (by decide) (r_neq (k := .u32) (a := ((x : Nat) : Int)) (b := 0) rfl rfl) ?_
          refine WpL_nil ?_
          refine Wp_cond (b := decide ((((x : Nat) : Int) : Int) ≠ 0)) rfl (fun hne => ?_) (fun hne => ?_)
          · have khne := hne
            replace hne := of_decide_eq_true hne
            obtain ⟨k, m, hl⟩ := low_form x (by omega)
            obtain ⟨hk25, hAk, hpk, hlow, hclear⟩ := left_low hx hl
            refine Wp_skip ?_
            refine thn_normal ?_
            refine Wp_seq ?_
            refine Wp_block ?_
            refine Wp_region ?_
            refine WpL_val rfl rfl (by decide) (r_move (v := (.slice la ((accL (relOf text t) i p).length) lc)) rfl) ?_
            refine WpL_val rfl rfl (by decide) (r_move (v := (.int .i64 ((i : Nat) : Int))) rfl) ?_
            refine WpL_val rfl rfl (by decide) (r_move (v := (.int .u32 ((x : Nat) : Int))) rfl) ?_
            refine WpL_enter rfl rfl (by decide) (r_callF (vs := [(.int .u32 ((x : Nat) : Int))]) Tryd.func41 nm41 bd41 rfl) (tz_c _ x k m hl hxl (hT.ext E)) ?_
            rintro _ _ ⟨rfl, rfl⟩
            refine WpL_val rfl rfl (by decide) (r_build (ps := [(0, (.int .i64 ((i : Nat) : Int))), (1, (.int .i64 ((k : Nat) : Int)))]) (v := (.agg #[(.int .i64 ((i : Nat) : Int)), (.int .i64 ((k : Nat) : Int))])) rfl (by kernel_rfl)) ?_
            refine s_buildSlice (ps := [(0, (.agg #[(.int .i64 ((i : Nat) : Int)), (.int .i64 ((k : Nat) : Int))]))]) (c := #[(.int .i64 ((i : Nat) : Int)), (.int .i64 ((k : Nat) : Int))]) (by decide) rfl Tryd.underlying37 siz43 zer43 (by decide) (by decide) (by kernel_rfl) ?_
            intro b7 w7 N7
            have F7 := N7.ge E
            have O7_b1 := N7.lt B1
            have O7_bm := N7.lt Bm
            replace B1 := N7.keep B1
            replace Bm := N7.keep Bm
            replace hown := own_ext hown N7.ext
            replace hbs := Nat.le_trans hbs N7.ext.size
            replace E := E.ext N7.ext
            have B7 := N7.blk
            refine s_append (base := base) (n := (accL (relOf text t) i p).length) (m := 1) (xs := ((accL (relOf text t) i p).map pairV).flatten) (news := [(.int .i64 ((i : Nat) : Int)), (.int .i64 ((k : Nat) : Int))]) (size := 2) (bytes := 16) (v := (.slice la ((accL (relOf text t) i p).length) lc)) (by decide) Tryd.underlying37 siz43 byt43 zer43 rfl (by decide) rfl hown rfl (rfl) (B7.cells rfl) (by simp [Value.oneCell']) (by unfold maxLen; omega) (by omega) (hbs) ?_
            intro v9 w29 Ov9 Cv9 Dv9
            replace B1 := Cv9.keep (fun h => by have := (hown.lt _ h).1; omega) B1
            replace Bm := Cv9.keep (fun h => by have := (hown.lt _ h).1; omega) Bm
            replace E := E.step Cv9 (fun x hx h => absurd (hown.lt x h).1 (by omega))
            obtain ⟨la2, lc2, rfl⟩ := own_form Ov9
            have hst := acc_step hlow hpk hAk
            have hlen2 : (accL (relOf text t) i p).length + 1 = (accL (relOf text t) i (k + 1)).length := by rw [hst]; simp
            rw [hlen2] at Ov9 ⊢
            refine WpL_val rfl rfl (by decide) (r_assign (v := (.slice la2 ((accL (relOf text t) i (k + 1)).length) lc2)) rfl) ?_
            refine WpL_nil ?_
            refine inB_normal ?_
            refine thn_normal ?_
            refine Wp_region ?_
            refine WpL_val rfl rfl (by decide) (r_move (v := (.int .u32 ((x : Nat) : Int))) rfl) ?_
            refine WpL_val rfl rfl (by decide) (r_move (v := (.int .u32 ((x : Nat) : Int))) rfl) ?_
            refine WpL_val rfl rfl (by decide) (r_sub (k := .u32) (a := ((x : Nat) : Int)) (b := 1) (c := ((x - 1 : Nat) : Int)) rfl rfl (by rw [wU32 (by omega)]; omega)) ?_
            refine WpL_val rfl rfl (by decide) (r_bits (k := .u32) (a := ((x : Nat) : Int)) (b := ((x - 1 : Nat) : Int)) (v := .int .u32 ((maskN 25 (fun j => relOf text t i j && decide (k + 1 ≤ j)) : Nat) : Int)) rfl rfl (by simp) ((bits_and _ _ hxl (by omega)).trans (by rw [hclear]))) ?_
            refine WpL_val rfl rfl (by decide) (r_assign (v := (.int .u32 ((maskN 25 (fun j => relOf text t i j && decide (k + 1 ≤ j)) : Nat) : Int))) rfl) ?_
            refine WpL_nil ?_
            refine thn_normal ?_
            exact ⟨25 - (k + 1), by omega, k + 1, la2, lc2, Fits.out ⟨rfl, rfl, rfl, rfl, rfl, rfl, trivial⟩, E, B1, Bm, (by omega), (by rw [hst] at Ov9 ⊢; simpa [pairV] using Ov9), Nat.le_trans hbs Cv9.size, rfl⟩
          · have khne := hne
            replace hne := of_decide_eq_false hne
            have hz : x = 0 := by omega
            have he := acc_end hp (hx ▸ hz)
            rw [he] at hown ⊢
            refine Wp_exit ?_
            refine thn_exit ?_
            refine thn_exit ?_
            refine inB_here ?_
            refine inB_normal ?_
            refine thn_normal ?_
            refine Wp_region ?_
            refine WpL_val rfl rfl (by decide) (r_add (k := .i64) (a := ((i : Nat) : Int)) (b := 1) (c := ((i : Nat) : Int) + 1) rfl rfl (wI64 (by omega))) ?_
            refine WpL_val rfl rfl (by decide) (r_move (v := (.int .i64 (((i : Nat) : Int) + 1))) rfl) ?_
            refine WpL_nil ?_
            refine thn_normal ?_
            exact ⟨text.length + 1 - (i + 1), by omega, i + 1, la, lc, Fits.out ⟨rfl, rfl, rfl, rfl, trivial⟩, E, B1, Bm, (by omega), hown, hbs, rfl⟩
      · have khlt := hlt
        replace hlt := of_decide_eq_false hlt
        obtain rfl : i = text.length + 1 := by omega
        have hfin : accL (relOf text t) (text.length + 1) 0 = pairsL (relOf text t) (text.length + 1) := by simp [accL, rowL]
        rw [hfin] at hown ⊢
        refine Wp_exit ?_
        refine thn_exit ?_
        refine thn_exit ?_
        refine inB_here ?_
        refine thn_normal ?_
        refine Wp_seq_region ?_
        refine WpL_val rfl rfl (by decide) (r_move (v := (.slice la ((pairsL (relOf text t) (text.length + 1)).length) lc)) rfl) ?_
        refine WpL_val rfl rfl (by decide) (r_assign (v := (.slice la ((pairsL (relOf text t) (text.length + 1)).length) lc)) rfl) ?_
        refine WpL_val rfl rfl (by decide) (r_assign (v := (.int .i64 0)) rfl) ?_
        refine WpL_nil ?_
        refine Wp_ret ?_
        refine fin_tmp2 Tryd.results16 (v := (.slice la ((pairsL (relOf text t) (text.length + 1)).length) lc)) (v' := (.int .i64 0)) rfl rfl ?_
        exact ⟨la, lc, rfl, own_slat hown (by intro r hr; simp only [List.mem_map] at hr; obtain ⟨p, _, rfl⟩ := hr; rfl) (by simp) (by decide), E⟩
end Go.Proofs
