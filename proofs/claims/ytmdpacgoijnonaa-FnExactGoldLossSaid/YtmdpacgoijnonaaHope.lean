/- Hopes, golden losses: contracts. -/
import Derived.Test.YtmdpacgoijnonaaGoldSum
import Derived.Test.YtmdpacgoijnonaaGoldE
import Derived.Test.YtmdpacgoijnonaaLoss
namespace Go.Proofs.Ytmdpacgoijnonaa
open Go.RowKit

def canHope (W H X p t : Int) : Bool := positionOk W H X p && hasHole W H X t && decide (0 ≤ compareGold (goldSum W H X t p).1 (goldSum W H X t p).2 1 0)
theorem impl_PowerOf0 (w : World) : Calls Try.prog 12 #[.int .i64 0] w fun e w' => e = .returned (.agg #[.int .i64 1, .int .i64 0]) ∧ Below w.heap.size w w' := impl_PowerOf 0 w
end Go.Proofs.Ytmdpacgoijnonaa
