/- A call that hands back a number and a Bool, with both known. -/
import Derived.Test.YtianfakgojmnpaaBase
namespace Go.Proofs.Ytianfakgojmnpaa
theorem calls_is2 {P : Program} {f : FuncId} {args : Array Value} {w : World} {a r : Int} {b s : Bool} {R : World → Prop} (h : Calls P f args w fun e w' => e = .returned (.tuple #[.int .i64 a, .bool b]) ∧ R w') (e1 : a = r) (e2 : b = s) :
    Calls P f args w fun e w' => e = .returned (.tuple #[.int .i64 r, .bool s]) ∧ R w' := by subst e1 e2; exact h
end Go.Proofs.Ytianfakgojmnpaa
