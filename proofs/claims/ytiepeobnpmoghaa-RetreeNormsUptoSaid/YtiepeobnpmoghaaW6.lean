/- Contracts: searches in slices, and what runeset and good do with them. -/
import Derived.Test.YtiepeobnpmoghaaW3
import Derived.Test.YtiepeobnpmoghaaRel
namespace Go.Proofs
open Go Go.Eng
set_option maxRecDepth 100000

def runeB (r : Int) : Bool := decide (0 ≤ r) && decide (r ≤ 1114111)
end Go.Proofs
