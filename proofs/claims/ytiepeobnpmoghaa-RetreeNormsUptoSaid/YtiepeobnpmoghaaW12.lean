/- Contracts: making expressions and texts out of raw numbers. -/
import Derived.Test.YtiepeobnpmoghaaW1
import Derived.Test.YtiepeobnpmoghaaW11
import Derived.Test.YtiepeobnpmoghaaOwn
namespace Go.Proofs
open Go Go.Eng
set_option maxRecDepth 100000

def oneT (r : Int) : Re := .mk 2 [(r, r)] [] 0 0 false
theorem begun_check : checkP (oneT 97) [98, 97] = 0 := by decide
theorem begun_pairs : pairsL (relOf [98, 97] (oneT 97)) (([98, 97] : List Int).length + 1) = [(1, 2)] := by decide +kernel
theorem one_at {w : World} {b : Nat} {r : Int} (h : SpansAt w (.slice (some ⟨b, 0, none⟩) 1 1) [(r, r)]) : ReAt w (oneT r) [.int .i64 2, .slice (some ⟨b, 0, none⟩) 1 1, .slice none 0 0, .int .i64 0, .int .i64 0, .bool false] :=
  ReAt.of (set := [(r, r)]) (args := []) h (by simp) (.inl rfl)
/-! The numbers of a list, one by one. -/
end Go.Proofs
