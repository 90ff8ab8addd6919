/- Golden numbers: contracts. -/
import Derived.Test.YtagdeaiboiomfaaGold
namespace Go.Proofs.Ytagdeaiboiomfaa
open Go.RowKit

end Go.Proofs.Ytagdeaiboiomfaa
