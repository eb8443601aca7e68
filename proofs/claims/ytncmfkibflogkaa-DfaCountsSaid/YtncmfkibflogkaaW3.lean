/- Contracts: the checks of an expression's nodes. -/
import Derived.Test.YtncmfkibflogkaaTab
import Derived.Test.YtncmfkibflogkaaDat
namespace Go.Proofs
open Go Go.Eng
set_option maxRecDepth 100000

def validB (s : Int × Int) : Bool := (decide (0 ≤ s.1) && decide (s.1 ≤ s.2)) && decide (s.2 ≤ 1114111)

def okB (k n : Int) : Bool := if k = 3 ∨ k = 4 ∨ k = 7 then decide (2 ≤ n) else if k = 5 ∨ k = 6 ∨ k = 8 ∨ k = 9 ∨ k = 10 then decide (n = 1) else decide (n = 0)
def formB (t : Re) : Bool :=
  (((okB t.kind t.args.length && (decide (t.kind = 2) || decide ((t.set.length : Int) = 0))) && ((decide (t.kind = 6) || decide (t.kind = 9)) || decide (t.mn = 0))) && (decide (t.kind = 6) || decide (t.mx = 0))) && (decide (t.kind = 10) || !t.neg)

def checkL : Option Int → List (Int × Int) → Int
  | _, [] => 0
  | p, s :: r => if validB s = false then 1 else if (match p with | some h => decide (s.1 < h + 2) | none => false) = true then 3 else checkL (some s.2) r
theorem checkL_cons (p : Option Int) (s : Int × Int) (r : List (Int × Int)) : checkL p (s :: r) = if validB s = false then 1 else if (match p with | some h => decide (s.1 < h + 2) | none => false) = true then 3 else checkL (some s.2) r := rfl
def checkE (l : List (Int × Int)) : Int := if 16 < l.length then 2 else checkL none l
def prevHi (l : List (Int × Int)) (k : Nat) : Option Int := if k = 0 then none else (l[k - 1]?).map (·.2)

theorem nextHi {l : List (Int × Int)} {k : Nat} {s : Int × Int} (h : l[k]? = some s) : prevHi l (k + 1) = some s.2 := by
  unfold prevHi; simp [h]
theorem notHi {l : List (Int × Int)} {k : Nat} {s : Int × Int} {p : Int} (hpq : 0 < k → ∃ q, l[k - 1]? = some q ∧ q.2 = p ∧ prevHi l k = some p)
    (hf : (decide ((0 : Int) < ((k : Nat) : Int)) && decide (s.1 < p + 2)) = false) : ¬ (match prevHi l k with | some h => decide (s.1 < h + 2) | none => false) = true := by
  by_cases h0 : 0 < k
  · obtain ⟨q, _, _, h3⟩ := hpq h0
    rw [h3]
    simp at hf ⊢
    exact hf h0
  · have : prevHi l k = none := by unfold prevHi; rw [if_pos (by omega)]
    rw [this]; simp

end Go.Proofs
