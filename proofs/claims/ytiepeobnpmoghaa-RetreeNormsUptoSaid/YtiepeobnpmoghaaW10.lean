/- Contracts: checking, and all pairs of positions. -/
import Derived.Test.YtiepeobnpmoghaaW5
import Derived.Test.YtiepeobnpmoghaaW9
namespace Go.Proofs
open Go Go.Eng
set_option maxRecDepth 100000

theorem fitF_eq {most : Int} {n e : Int} (t : Re) (h0 : 0 ≤ n) (h1 : n ≤ 1000000) : fitF most (n, e) t = (decide ((if most < n + 1 then 2 else nodeE t) = 0), (n + 1, if most < n + 1 then 2 else nodeE t)) := by
  simp only [fitF]; rw [wI64 (by omega)]
mutual
theorem fits_yes {most : Int} (hm : most ≤ 1000000) : ∀ (t : Re) (n e : Int), 0 ≤ n → n + t.size ≤ most → okRe t → walkF (fitF most) t (n, e) = (true, (n + t.size, 0))
  | .mk k set args mn mx ng, n, e, h0, h1, hok => by
    simp only [Re.size] at h1 ⊢
    rw [walkF_eq, fitF_eq _ h0 (by omega)]
    have hn := okRe_node hok
    have hlt : ¬ most < n + 1 := by omega
    simp only [if_neg hlt, hn, decide_true, if_true, Re.args]
    have ha := okRe_args hok
    simp only [Re.args] at ha
    rw [fits_yess hm args (n + 1) 0 (by omega) (by omega) ha rfl]
    simp; omega
theorem fits_yess {most : Int} (hm : most ≤ 1000000) : ∀ (ts : List Re) (n e : Int), 0 ≤ n → n + Re.sizes ts ≤ most → okRes ts → e = 0 → walkFs (fitF most) ts (n, e) = (true, (n + Re.sizes ts, 0))
  | [], n, e, _, _, _, he => by simp [walkFs, Re.sizes, he]
  | t :: ts, n, e, h0, h1, hok, he => by
    simp only [Re.sizes] at h1 ⊢
    simp only [okRes] at hok
    rw [walkFs_cons, fits_yes hm t n e h0 (by omega) hok.1]
    simp only [if_true]
    rw [fits_yess hm ts _ _ (by omega) (by omega) hok.2 rfl]
    simp; omega
end
mutual
theorem fits_no {most : Int} (hm : most ≤ 1000000) : ∀ (t : Re) (n e : Int), 0 ≤ n → n ≤ most → (walkF (fitF most) t (n, e)).1 = true → okRe t ∧ n + t.size ≤ most ∧ (walkF (fitF most) t (n, e)).2 = (n + t.size, 0)
  | .mk k set args mn mx ng, n, e, h0, h1, h => by
    rw [walkF_eq, fitF_eq _ h0 (by omega)] at h ⊢
    by_cases hc : (if most < n + 1 then 2 else nodeE (.mk k set args mn mx ng)) = 0
    · have hlt : ¬ most < n + 1 := by intro h'; rw [if_pos h'] at hc; omega
      rw [if_neg hlt] at hc
      simp only [if_neg hlt, hc, decide_true, if_true, Re.args] at h ⊢
      obtain ⟨a, b, c⟩ := fits_nos hm args (n + 1) 0 (by omega) (by omega) h rfl
      refine ⟨by simp only [okRe]; exact ⟨hc, a⟩, by simp only [Re.size]; omega, by rw [c]; simp only [Re.size]; simp; omega⟩
    · simp [hc] at h
theorem fits_nos {most : Int} (hm : most ≤ 1000000) : ∀ (ts : List Re) (n e : Int), 0 ≤ n → n ≤ most → (walkFs (fitF most) ts (n, e)).1 = true → e = 0 → okRes ts ∧ n + Re.sizes ts ≤ most ∧ (walkFs (fitF most) ts (n, e)).2 = (n + Re.sizes ts, 0)
  | [], n, e, _, h1, _, he => by simp [walkFs, Re.sizes, okRes, he]; omega
  | t :: ts, n, e, h0, h1, h, he => by
    rw [walkFs_cons] at h ⊢
    by_cases hc : (walkF (fitF most) t (n, e)).1 = true
    · rw [if_pos hc] at h ⊢
      obtain ⟨a, b, c⟩ := fits_no hm t n e h0 h1 hc
      rw [c] at h ⊢
      obtain ⟨a', b', c'⟩ := fits_nos hm ts _ _ (by omega) b h rfl
      exact ⟨by simp only [okRes]; exact ⟨a, a'⟩, by simp only [Re.sizes]; omega, by rw [c']; simp only [Re.sizes]; simp; omega⟩
    · rw [if_neg hc] at h; simp at h
end
mutual
theorem fits_last {most : Int} : ∀ (t : Re) (s : Int × Int), (walkF (fitF most) t s).1 = decide ((walkF (fitF most) t s).2.2 = 0)
  | .mk k set args mn mx ng, s => by
    rw [walkF_eq]
    by_cases hc : (fitF most s (.mk k set args mn mx ng)).1 = true
    · rw [if_pos hc]
      exact fits_lasts args _ (by simpa [fitF] using hc)
    · rw [if_neg hc]
      have h2 : (fitF most s (.mk k set args mn mx ng)).1 = false := by simpa using hc
      simp only [fitF] at h2 ⊢
      exact h2.symm
theorem fits_lasts {most : Int} : ∀ (ts : List Re) (s : Int × Int), s.2 = 0 → (walkFs (fitF most) ts s).1 = decide ((walkFs (fitF most) ts s).2.2 = 0)
  | [], s, h => by simp [walkFs, h]
  | t :: ts, s, h => by
    rw [walkFs_cons]
    have := fits_last (most := most) t s
    by_cases hc : (walkF (fitF most) t s).1 = true
    · rw [if_pos hc]
      rw [hc] at this
      exact fits_lasts ts _ (by simpa using this.symm)
    · rw [if_neg hc]
      have h2 : (walkF (fitF most) t s).1 = false := by simpa using hc
      rw [h2] at this
      exact this
end
theorem fitsE_zero {t : Re} {most : Int} (h0 : 0 ≤ most) (hm : most ≤ 1000000) : fitsE t most = 0 ↔ okRe t ∧ (t.size : Int) ≤ most := by
  unfold fitsE
  constructor
  · intro h
    have h1 := fits_last (most := most) t (0, 0)
    rw [h] at h1
    obtain ⟨a, b, _⟩ := fits_no hm t 0 0 (Int.le_refl 0) h0 (by simpa using h1)
    exact ⟨a, by omega⟩
  · rintro ⟨a, b⟩
    rw [fits_yes hm t 0 0 (Int.le_refl 0) (by omega) a]

def checkP (t : Re) (text : List Int) : Int := if fitsE t 40 ≠ 0 then fitsE t 40 else if 24 < text.length then 2 else if (text.any fun r => !runeB r) = true then 1 else 0
def pairV (p : Nat × Nat) : List Value := [.int .i64 (p.1 : Int), .int .i64 (p.2 : Int)]
def PairsAt (w : World) (v : Value) (l : List (Nat × Nat)) : Prop := SlAt w 2 v (l.map pairV)
def rowL (R : Rl) (i p : Nat) : List (Nat × Nat) := ((List.range p).filter (R i)).map fun j => (i, j)
def pairsL (R : Rl) (n : Nat) : List (Nat × Nat) := (List.range n).flatMap fun i => rowL R i 25
theorem pairsL_succ (R : Rl) (n : Nat) : pairsL R (n + 1) = pairsL R n ++ rowL R n 25 := by simp [pairsL, List.range_succ]
theorem rowL_skip {R : Rl} {i p q : Nat} (h : ∀ j, p ≤ j → j < q → R i j = false) (hpq : p ≤ q) : rowL R i q = rowL R i p := by
  unfold rowL
  congr 1
  obtain ⟨d, rfl⟩ := Nat.exists_eq_add_of_le hpq
  clear hpq
  induction d with
  | zero => rfl
  | succ d ih =>
    rw [← Nat.add_assoc, List.range_succ, List.filter_append, ih fun j h1 h2 => h j h1 (by omega)]
    simp [h (p + d) (by omega) (by omega)]
theorem rowL_succ {R : Rl} {i p : Nat} (h : R i p = true) : rowL R i (p + 1) = rowL R i p ++ [(i, p)] := by
  unfold rowL
  rw [List.range_succ, List.filter_append]
  simp [h]
theorem pairs_len (R : Rl) (n : Nat) : (pairsL R n).length ≤ n * 25 := by
  induction n with
  | zero => simp [pairsL]
  | succ n ih =>
    rw [pairsL_succ, List.length_append]
    have : (rowL R n 25).length ≤ 25 := by
      unfold rowL; simp only [List.length_map]
      exact Nat.le_trans (List.length_filter_le _ _) (by simp)
    omega
theorem row_len (R : Rl) (i p : Nat) : (rowL R i p).length ≤ p := by
  unfold rowL; simp only [List.length_map]
  exact Nat.le_trans (List.length_filter_le _ _) (by simp)

def accL (R : Rl) (i p : Nat) : List (Nat × Nat) := pairsL R i ++ rowL R i p
theorem acc_len (R : Rl) (i p : Nat) : (accL R i p).length ≤ i * 25 + p := by
  have h1 := pairs_len R i
  have h2 := row_len R i p
  unfold accL; rw [List.length_append]; omega
theorem acc_step {R : Rl} {i p k : Nat} (hlow : ∀ j, p ≤ j → j < k → R i j = false) (hpk : p ≤ k) (hk : R i k = true) : accL R i (k + 1) = accL R i p ++ [(i, k)] := by
  unfold accL
  rw [rowL_succ hk, rowL_skip hlow hpk, List.append_assoc]
theorem acc_end {R : Rl} {i p : Nat} (hp : p ≤ 25) (hz : maskN 25 (fun j => R i j && decide (p ≤ j)) = 0) : accL R i p = accL R (i + 1) 0 := by
  rw [mask_eq_zero] at hz
  unfold accL
  rw [pairsL_succ, ← rowL_skip (R := R) (i := i) (p := p) (q := 25) (fun j h1 h2 => by have := hz j h2; simpa [h1] using this) hp]
  simp [rowL]

end Go.Proofs
