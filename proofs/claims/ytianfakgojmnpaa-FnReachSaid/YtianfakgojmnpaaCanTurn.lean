/- Turned games: contracts of IsSolution and CanTurn. -/
import Derived.Test.YtianfakgojmnpaaPlay
import Derived.Test.YtianfakgojmnpaaHeld
import Derived.Test.YtianfakgojmnpaaBoard
import Derived.Test.YtianfakgojmnpaaLineS
namespace Go.Proofs.Ytianfakgojmnpaa
open Go.RowKit

def isSolution (W H X p goal : Int) (ls : List (Int × Int × Int)) : Bool := playOk W H X p ls && decide (playTo W H X p ls = goal)
def canTurn (W H X p : Int) (ls : List (Int × Int × Int)) : Bool := playOk W H X p ls && isSolution W H X (otherOf W H X (playTo W H X p ls)) (otherOf W H X p) ls.reverse
theorem otherOf_max {W H X p : Int} (hX : X ≤ 9223372036854775807) (hp : p ≤ 9223372036854775807) : otherOf W H X p ≤ 9223372036854775807 := by
  unfold otherOf
  split
  · have := Nat.xor_lt_two_pow (x := X.toNat) (y := p.toNat) (n := 63) (by omega) (by omega)
    omega
  · omega
set_option maxHeartbeats 2000000 in
theorem spec_IsSolution (W H X p g : Int) (A : Option Addr) (cap : Nat) (ls : List (Int × Int × Int)) (w : World) (hp : p ≤ 9223372036854775807) (hA : FAt w A (lflat ls)) (hn : ls.length ≤ 4294967296) :
    Calls Try.prog 57 #[.agg #[.int .i64 W, .int .i64 H, .int .i64 X], .int .i64 p, .int .i64 g, .slice A ls.length cap] w fun e w' => e = .returned (.bool (isSolution W H X p g ls)) ∧ Below w.heap.size w w' := by
  obtain ⟨z, hz⟩ : ∃ z, playTo W H X p ls = z := ⟨_, rfl⟩
  cases h1 : playOk W H X p ls
  all_goals
    go_enter Try.func57, Try.ntmps57
    go_wp2_with fail
    refine (calls_is2 (spec_PlayAll _ _ _ _ _ _ _ _ hp (hA.below (by (repeat (first | exact Below.refl _ _ | assumption | refine below_step ?_ (by assumption) | refine below_alloc ?_ _ | refine below_drewN ?_ _ | refine Below.drew ?_ | refine Below.setCell ?_ (by first | (simp; done) | omega | (simp; omega)) _)))) hn) hz h1).mono ?_
    rintro e w1 ⟨rfl, hb1⟩
    go_wp2
    go_ret
    exact ⟨ret_bool (by rw [Bool.eq_iff_iff]; simp [isSolution, h1, hz]), by (repeat (first | exact Below.refl _ _ | assumption | refine below_step ?_ (by assumption) | refine below_alloc ?_ _ | refine below_drewN ?_ _ | refine Below.drew ?_ | refine Below.setCell ?_ (by first | (simp; done) | omega | (simp; omega)) _))⟩
end Go.Proofs.Ytianfakgojmnpaa
