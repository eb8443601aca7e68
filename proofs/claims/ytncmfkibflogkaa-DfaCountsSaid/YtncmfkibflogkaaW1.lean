/- Contracts of small functions. -/
import Derived.Test.YtncmfkibflogkaaTab
namespace Go.Proofs
open Go Go.Eng
set_option maxRecDepth 100000

theorem below_tmod (x n : Int) (hn : 0 < n) : (if x.tmod n < 0 then x.tmod n + n else x.tmod n) = x % n := by
  have h := Int.tmod_eq_emod (a := x) (b := n)
  have h1 := Int.emod_nonneg x (Int.ne_of_gt hn)
  have h2 := Int.emod_lt_of_pos x hn
  have h3 : n.natAbs = n := by omega
  split at h <;> split <;> omega

theorem below_c (x n : Int) (hn : 0 < n) (hm : n ≤ 2000) (w0 : World) :
    Ret Try.prog 69 #[.int .i64 x, .int .i64 n] w0 fun v w => v = .int .i64 (x % n) ∧ w = w0 := by
  have hb := below_tmod x n hn
  have h1 := Int.emod_nonneg x (Int.ne_of_gt hn)
  have h2 := Int.emod_lt_of_pos x hn
  refine Ret_of Try.func69 rfl Try.ntmps69 (Nat.le_of_ble_eq_true rfl) ?_
  have E : Chg none1 w0 w0 := Chg.refl _ _
  refine Wp_seq_region ?_
  refine WpL_val rfl rfl (by decide) (r_assign (v := (.int .i64 0)) rfl) ?_
  refine WpL_nil ?_
  refine Wp_seq_region ?_
  refine WpL_val rfl rfl (by decide) (r_move (v := (.int .i64 x)) rfl) ?_
  refine WpL_val rfl rfl (by decide) (r_move (v := (.int .i64 n)) rfl) ?_
  refine WpL_val rfl rfl (by decide) (r_rem (k := .i64) (a := x) (b := n) (c := x.tmod n) rfl rfl (by omega) rfl) ?_
  refine WpL_val rfl rfl (by decide) (r_assign (v := (.int .i64 (x.tmod n))) rfl) ?_
  refine WpL_nil ?_
  refine Wp_seq ?_
  refine Wp_seq_region ?_
  refine WpL_val rfl rfl (by decide) (r_move (v := (.int .i64 (x.tmod n))) rfl) ?_
  refine WpL_val rfl rfl (by decide) (r_lss (k := .i64) (a := x.tmod n) (b := 0) rfl rfl) ?_
  refine WpL_nil ?_
  refine Wp_cond (b := decide ((x.tmod n : Int) < 0)) rfl (fun h => ?_) (fun h => ?_)
  · have kh := h
    replace h := of_decide_eq_true h
    rw [if_pos h] at hb
    refine Wp_region ?_
    refine WpL_val rfl rfl (by decide) (r_move (v := (.int .i64 (x.tmod n))) rfl) ?_
    refine WpL_val rfl rfl (by decide) (r_move (v := (.int .i64 n)) rfl) ?_
    refine WpL_val rfl rfl (by decide) (r_add (k := .i64) (a := x.tmod n) (b := n) (c := (x.tmod n) + n) rfl rfl (wI64 (by omega))) ?_
    refine WpL_val rfl rfl (by decide) (r_assign (v := (.int .i64 ((x.tmod n) + n))) rfl) ?_
    refine WpL_nil ?_
    refine thn_normal ?_
    refine Wp_seq_region ?_
    refine WpL_val rfl rfl (by decide) (r_move (v := (.int .i64 ((x.tmod n) + n))) rfl) ?_
    refine WpL_val rfl rfl (by decide) (r_assign (v := (.int .i64 ((x.tmod n) + n))) rfl) ?_
    refine WpL_nil ?_
    refine Wp_ret ?_
    refine fin_tmp Try.results69 (v := (.int .i64 ((x.tmod n) + n))) rfl ?_
    exact ⟨by rw [hb], rfl⟩
  · have kh := h
    replace h := of_decide_eq_false h
    rw [if_neg h] at hb
    refine Wp_skip ?_
    refine thn_normal ?_
    refine Wp_seq_region ?_
    refine WpL_val rfl rfl (by decide) (r_move (v := (.int .i64 (x.tmod n))) rfl) ?_
    refine WpL_val rfl rfl (by decide) (r_assign (v := (.int .i64 (x.tmod n))) rfl) ?_
    refine WpL_nil ?_
    refine Wp_ret ?_
    refine fin_tmp Try.results69 (v := (.int .i64 (x.tmod n))) rfl ?_
    exact ⟨by rw [hb], rfl⟩
end Go.Proofs
