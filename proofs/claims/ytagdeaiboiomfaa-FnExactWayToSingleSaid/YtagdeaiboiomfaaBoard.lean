/- Small boards, complements, steps, golden weights: contracts. -/
import Derived.Test.YtagdeaiboiomfaaGoldC
namespace Go.Proofs.Ytagdeaiboiomfaa
open Go.RowKit

def isSmall (W H X : Int) : Bool := boardOk W H X && decide (W * H ≤ 16)
def isComplement (W H X p q : Int) : Bool := positionOk W H X p && positionOk W H X q && (q == otherOf W H X p)
def stepsBetween (W H X j k : Int) : Int :=
  if boardOk W H X = true ∧ inB j 0 (W * H - 1) = true ∧ inB k 0 (W * H - 1) = true then absI (j % W - k % W) + absI (j / W - k / W) else -1

set_option maxHeartbeats 400000 in
theorem laws_toBoard (W H X : Int) (w : World) :
    Calls Try.prog 19 #[.agg #[.int .i64 W, .int .i64 H, .int .i64 X]] w fun e w' => e = .returned (.agg #[.int .i64 W, .int .i64 H, .int .i64 X]) ∧ Below w.heap.size w w' := by
  go_enter Try.func19, Try.ntmps19
  go_wp2
  exact bodyPost_ret (v := .agg #[.int .i64 W, .int .i64 H, .int .i64 X]) (by simp [results, Try.results19, go_sem]) rfl ⟨rfl, by (repeat (first | exact Below.refl _ _ | assumption | refine below_step ?_ (by assumption) | refine below_alloc ?_ _ | refine below_drewN ?_ _ | refine Below.drew ?_ | refine Below.setCell ?_ (by first | (simp; done) | omega | (simp; omega)) _))⟩
set_option maxHeartbeats 400000 in
theorem impl_IsSmall (W H X : Int) (w : World) :
    Calls Try.prog 74 #[.agg #[.int .i64 W, .int .i64 H, .int .i64 X]] w fun e w' => e = .returned (.bool (isSmall W H X)) ∧ Below w.heap.size w w' := by
  cases h1 : boardOk W H X
  · have e : isSmall W H X = false := by simp [isSmall, h1]
    rw [e]; clear e
    go_enter Try.func74, Try.ntmps74
    go_wp2_with fail
    refine (calls_is (impl_BoardOk _ _ _ _) h1).mono ?_
    rintro e w1 ⟨rfl, hb1⟩
    obtain ⟨hc1, hf1, hs1⟩ := bcell3 hb1
    have hz1 := hb1.size
    (try simp at hz1)
    go_wp2
    go_ret
    exact ⟨rfl, by (repeat (first | exact Below.refl _ _ | assumption | refine below_step ?_ (by assumption) | refine below_alloc ?_ _ | refine below_drewN ?_ _ | refine Below.drew ?_ | refine Below.setCell ?_ (by first | (simp; done) | omega | (simp; omega)) _))⟩
  · have F := boardOk_facts h1
    have m1 := F.m1
    have m2 := F.m2
    have e : isSmall W H X = decide (W * H ≤ 16) := by simp [isSmall, h1]
    rw [e]; clear e F
    go_enter Try.func74, Try.ntmps74
    go_wp2_with fail
    refine (calls_is (impl_BoardOk _ _ _ _) h1).mono ?_
    rintro e w1 ⟨rfl, hb1⟩
    obtain ⟨hc1, hf1, hs1⟩ := bcell3 hb1
    have hz1 := hb1.size
    (try simp at hz1)
    go_wp2
    go_ret
    exact ⟨rfl, by (repeat (first | exact Below.refl _ _ | assumption | refine below_step ?_ (by assumption) | refine below_alloc ?_ _ | refine below_drewN ?_ _ | refine Below.drew ?_ | refine Below.setCell ?_ (by first | (simp; done) | omega | (simp; omega)) _))⟩
set_option maxHeartbeats 400000 in
theorem spec_IsSmall (W H X : Int) (w : World) :
    Calls Try.prog 59 #[.agg #[.int .i64 W, .int .i64 H, .int .i64 X]] w fun e w' => e = .returned (.bool (isSmall W H X)) ∧ Below w.heap.size w w' := by
  cases h1 : boardOk W H X
  · have e : isSmall W H X = false := by simp [isSmall, h1]
    rw [e]; clear e
    go_enter Try.func59, Try.ntmps59
    go_wp2_with fail
    refine (calls_is (spec_BoardOk _ _ _ _) h1).mono ?_
    rintro e w1 ⟨rfl, hb1⟩
    obtain ⟨hc1, hf1, hs1⟩ := bcell3 hb1
    have hz1 := hb1.size
    (try simp at hz1)
    go_wp2
    go_ret
    exact ⟨rfl, by (repeat (first | exact Below.refl _ _ | assumption | refine below_step ?_ (by assumption) | refine below_alloc ?_ _ | refine below_drewN ?_ _ | refine Below.drew ?_ | refine Below.setCell ?_ (by first | (simp; done) | omega | (simp; omega)) _))⟩
  · have F := boardOk_facts h1
    have m1 := F.m1
    have m2 := F.m2
    have e : isSmall W H X = decide (W * H ≤ 16) := by simp [isSmall, h1]
    rw [e]; clear e F
    go_enter Try.func59, Try.ntmps59
    go_wp2_with fail
    refine (calls_is (spec_BoardOk _ _ _ _) h1).mono ?_
    rintro e w1 ⟨rfl, hb1⟩
    obtain ⟨hc1, hf1, hs1⟩ := bcell3 hb1
    have hz1 := hb1.size
    (try simp at hz1)
    go_wp2
    go_ret
    exact ⟨rfl, by (repeat (first | exact Below.refl _ _ | assumption | refine below_step ?_ (by assumption) | refine below_alloc ?_ _ | refine below_drewN ?_ _ | refine Below.drew ?_ | refine Below.setCell ?_ (by first | (simp; done) | omega | (simp; omega)) _))⟩
end Go.Proofs.Ytagdeaiboiomfaa
