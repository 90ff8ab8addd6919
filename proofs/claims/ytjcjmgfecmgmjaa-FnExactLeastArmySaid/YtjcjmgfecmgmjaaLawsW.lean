/- Laws: the least army. -/
import Derived.Test.YtjcjmgfecmgmjaaLeast
import Derived.Test.YtjcjmgfecmgmjaaLiftD
import Derived.Deep.DeepCutAuto
namespace Go.Proofs.Ytjcjmgfecmgmjaa
open Go.RowKit
attribute [local go_sem ↓] Go.wp_at_zero Go.wp_at_succ

set_option maxHeartbeats 400000 in
theorem law_FnExactLeastArmy (l : Int) (w : World) (_hl : R64 l) :
    Calls Try.prog 13 #[.int .i64 l] w fun e w' => e = .returned (.bool true) ∧ Below w.heap.size w w' := by
  go_enter Try.func13, Try.ntmps13
  go_wp2_with fail
  refine (spec_LeastArmy _ _).mono ?_
  rintro e w1 ⟨rfl, hb1⟩
  go_wp2_with fail
  refine (impl_LeastArmy _ _).mono ?_
  rintro e w2 ⟨rfl, hb2⟩
  go_wp2
  go_ret
  exact ⟨by simp, by (repeat (first | exact Below.refl _ _ | assumption | refine below_step ?_ (by assumption) | refine below_alloc ?_ _ | refine below_drewN ?_ _ | refine Below.drew ?_ | refine Below.setCell ?_ (by first | (simp; done) | omega | (simp; omega)) _))⟩
end Go.Proofs.Ytjcjmgfecmgmjaa
