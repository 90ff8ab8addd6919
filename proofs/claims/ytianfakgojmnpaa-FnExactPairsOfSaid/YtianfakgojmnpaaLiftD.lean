/- What the laws' contracts are told of their arguments. -/
import Derived.Test.YtianfakgojmnpaaBase
namespace Go.Proofs.Ytianfakgojmnpaa

/-- an int of 64 bits -/
def R64 (n : Int) : Prop := -9223372036854775808 ≤ n ∧ n ≤ 9223372036854775807

end Go.Proofs.Ytianfakgojmnpaa
