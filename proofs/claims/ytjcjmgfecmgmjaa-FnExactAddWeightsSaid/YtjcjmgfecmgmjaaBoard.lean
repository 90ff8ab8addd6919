/- Small boards, complements, steps, golden weights: contracts. -/
import Derived.Test.YtjcjmgfecmgmjaaGoldC
namespace Go.Proofs.Ytjcjmgfecmgmjaa
open Go.RowKit

def isSmall (W H X : Int) : Bool := boardOk W H X && decide (W * H ≤ 16)
def isComplement (W H X p q : Int) : Bool := positionOk W H X p && positionOk W H X q && (q == otherOf W H X p)
def stepsBetween (W H X j k : Int) : Int :=
  if boardOk W H X = true ∧ inB j 0 (W * H - 1) = true ∧ inB k 0 (W * H - 1) = true then absI (j % W - k % W) + absI (j / W - k / W) else -1

set_option maxHeartbeats 400000 in
theorem laws_toBoard (W H X : Int) (w : World) :
    Calls Try.prog 26 #[.agg #[.int .i64 W, .int .i64 H, .int .i64 X]] w fun e w' => e = .returned (.agg #[.int .i64 W, .int .i64 H, .int .i64 X]) ∧ Below w.heap.size w w' := by
  go_enter Try.func26, Try.ntmps26
  go_wp2
  exact bodyPost_ret (v := .agg #[.int .i64 W, .int .i64 H, .int .i64 X]) (by simp [results, Try.results26, go_sem]) rfl ⟨rfl, by (repeat (first | exact Below.refl _ _ | assumption | refine below_step ?_ (by assumption) | refine below_alloc ?_ _ | refine below_drewN ?_ _ | refine Below.drew ?_ | refine Below.setCell ?_ (by first | (simp; done) | omega | (simp; omega)) _))⟩
end Go.Proofs.Ytjcjmgfecmgmjaa
