/- Contracts: the maker of expressions and of texts. -/
import Derived.Test.YtiepeobnpmoghaaW12
namespace Go.Proofs
open Go Go.Eng
set_option maxRecDepth 100000

mutual
def allRe (p : Re → Prop) : Re → Prop
  | .mk k set args mn mx ng => p (.mk k set args mn mx ng) ∧ allRes p args
def allRes (p : Re → Prop) : List Re → Prop
  | [] => True
  | t :: ts => allRe p t ∧ allRes p ts
end
def genP (kinds : Int) (t : Re) : Prop := nodeE t = 0 ∧ t.kind ≤ kinds ∧ (t.kind = 2 → ∃ lo hi, t.set = [(lo, hi)] ∧ 97 ≤ lo ∧ lo ≤ hi ∧ hi ≤ 100)
mutual
theorem gen_ok {kinds : Int} : ∀ (t : Re), allRe (genP kinds) t → okRe t
  | .mk k set args mn mx ng, h => by simp only [allRe] at h; simp only [okRe]; exact ⟨h.1.1, gen_oks args h.2⟩
theorem gen_oks {kinds : Int} : ∀ (ts : List Re), allRes (genP kinds) ts → okRes ts
  | [], _ => by simp only [okRes]
  | t :: ts, h => by simp only [allRes] at h; simp only [okRes]; exact ⟨gen_ok t h.1, gen_oks ts h.2⟩
end
theorem node_leaf {k : Int} (h : k = 0 ∨ k = 1) : nodeE (.mk k [] [] 0 0 false) = 0 := by
  rcases h with rfl | rfl <;> decide
theorem node_set {lo hi : Int} (h1 : 0 ≤ lo) (h2 : lo ≤ hi) (h3 : hi ≤ 1114111) : nodeE (.mk 2 [(lo, hi)] [] 0 0 false) = 0 := by
  simp [nodeE, formB, okB, checkE, checkL, validB, Re.kind, Re.set, Re.args, Re.mn, Re.mx, Re.neg, h1, h2, h3]
theorem node_two {k : Int} (h : k = 3 ∨ k = 4 ∨ k = 7) (t u : Re) : nodeE (.mk k [] [t, u] 0 0 false) = 0 := by
  rcases h with rfl | rfl | rfl <;> simp [nodeE, formB, okB, Re.kind, Re.set, Re.args, Re.mn, Re.mx, Re.neg]
theorem node_rep {mn mx : Int} (h0 : 0 ≤ mn) (h1 : mn ≤ mx) (h2 : mx ≤ 8) (t : Re) : nodeE (.mk 6 [] [t] mn mx false) = 0 := by
  simp [nodeE, formB, okB, Re.kind, Re.set, Re.args, Re.mn, Re.mx, Re.neg]; omega
theorem node_group {mn : Int} (h0 : 0 ≤ mn) (h1 : mn ≤ 9) (t : Re) : nodeE (.mk 9 [] [t] mn 0 false) = 0 := by
  simp [nodeE, formB, okB, Re.kind, Re.set, Re.args, Re.mn, Re.mx, Re.neg]; omega
theorem node_look (ng : Bool) (t : Re) : nodeE (.mk 10 [] [t] 0 0 ng) = 0 := by
  simp [nodeE, formB, okB, Re.kind, Re.set, Re.args, Re.mn, Re.mx, Re.neg]
theorem node_one {k : Int} (h : k = 5 ∨ k = 8) (t : Re) : nodeE (.mk k [] [t] 0 0 false) = 0 := by
  rcases h with rfl | rfl <;> simp [nodeE, formB, okB, Re.kind, Re.set, Re.args, Re.mn, Re.mx, Re.neg]
theorem gen_mk {kinds k mn mx : Int} {ng : Bool} {ts : List Re} (hk : k ≤ kinds) (h2 : k ≠ 2) (hn : nodeE (.mk k [] ts mn mx ng) = 0) (ht : allRes (genP kinds) ts) : allRe (genP kinds) (.mk k [] ts mn mx ng) := by
  simp only [allRe]; exact ⟨⟨hn, hk, fun h => absurd h h2⟩, ht⟩

theorem gen_pow {d : Nat} (h : 1 ≤ d) : 2 ^ (d - 1 + 1) = 2 ^ d := by rw [Nat.sub_add_cancel h]
theorem gen_size1 {d : Nat} (h : 1 ≤ d) {t : Re} (hs : t.size + 1 ≤ 2 ^ (d - 1 + 1)) {k mn mx : Int} {set : List (Int × Int)} {ng : Bool} : (Re.mk k set [t] mn mx ng).size + 1 ≤ 2 ^ (d + 1) := by
  rw [gen_pow h] at hs
  simp only [Re.size, Re.sizes, Nat.pow_succ]; have := t.size_pos; omega
theorem gen_size2 {d : Nat} (h : 1 ≤ d) {t u : Re} (hs : t.size + 1 ≤ 2 ^ (d - 1 + 1)) (hu : u.size + 1 ≤ 2 ^ (d - 1 + 1)) {k mn mx : Int} {set : List (Int × Int)} {ng : Bool} : (Re.mk k set [t, u] mn mx ng).size + 1 ≤ 2 ^ (d + 1) := by
  rw [gen_pow h] at hs hu
  simp only [Re.size, Re.sizes, Nat.pow_succ]; omega
end Go.Proofs
