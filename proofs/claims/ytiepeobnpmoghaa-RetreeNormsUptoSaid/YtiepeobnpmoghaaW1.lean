/- Contracts of small functions. -/
import Derived.Test.YtiepeobnpmoghaaTab
namespace Go.Proofs
open Go Go.Eng
set_option maxRecDepth 100000

theorem below_tmod (x n : Int) (hn : 0 < n) : (if x.tmod n < 0 then x.tmod n + n else x.tmod n) = x % n := by
  have h := Int.tmod_eq_emod (a := x) (b := n)
  have h1 := Int.emod_nonneg x (Int.ne_of_gt hn)
  have h2 := Int.emod_lt_of_pos x hn
  have h3 : n.natAbs = n := by omega
  split at h <;> split <;> omega

end Go.Proofs
