/- Walks: the laws RelationKleene and RelationBoole. -/
import Derived.Test.YtiepeobnpmoghaaW14
import Derived.Test.YtiepeobnpmoghaaLk
import Derived.Test.YtiepeobnpmoghaaDag
namespace Go.Proofs
open Go Go.Eng
set_option maxRecDepth 100000

theorem size_d {w : World} {t : Re} {vs : List Value} (ht : ReAt w t vs) (hs : t.size ≤ 1000) :
    Ret Try.prog 14 #[.agg vs.toArray] w fun v w' => (Fact.eq (.int .i64 ((t.size : Nat) : Int))).In v w' ∧ Ext w w' := size_c w t vs ht (by omega)

end Go.Proofs
