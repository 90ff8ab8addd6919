/- What an army may reach: contracts. -/
import Derived.Test.YtianfakgojmnpaaArmySum
namespace Go.Proofs.Ytianfakgojmnpaa
open Go.RowKit

def mayReach (zs : List (Int × Int)) (l : Int) : Bool := armyOk zs && inB l 1 5 && decide (0 ≤ compareGold (armySum zs l).1 (armySum zs l).2 1 0)
theorem impl_PowerOf0 (w : World) : Calls Try.prog 73 #[.int .i64 0] w fun e w' => e = .returned (.agg #[.int .i64 1, .int .i64 0]) ∧ Below w.heap.size w w' := impl_PowerOf 0 w
set_option maxHeartbeats 2000000 in
theorem impl_MayReach (A : Option Addr) (cap : Nat) (zs : List (Int × Int)) (l : Int) (w : World) (hA : FAt w A (sflat zs)) (hn : zs.length ≤ 4294967296) (hcap : zs.length ≤ cap) :
    Calls Try.prog 13 #[.slice A zs.length cap, .int .i64 l] w fun e w' => e = .returned (.bool (mayReach zs l)) ∧ Below w.heap.size w w' := by
  cases h1 : armyOk zs
  · go_enter Try.func13, Try.ntmps13
    go_wp2_with fail
    refine (calls_is (impl_ArmyOk _ _ _ _ (hA.below (by (repeat (first | exact Below.refl _ _ | assumption | refine below_step ?_ (by assumption) | refine below_alloc ?_ _ | refine below_drewN ?_ _ | refine Below.drew ?_ | refine Below.setCell ?_ (by first | (simp; done) | omega | (simp; omega)) _)))) hn hcap) h1).mono ?_
    rintro e w1 ⟨rfl, hb1⟩
    go_wp2
    go_ret
    exact ⟨ret_bool (by simp [mayReach, h1]), by (repeat (first | exact Below.refl _ _ | assumption | refine below_step ?_ (by assumption) | refine below_alloc ?_ _ | refine below_drewN ?_ _ | refine Below.drew ?_ | refine Below.setCell ?_ (by first | (simp; done) | omega | (simp; omega)) _))⟩
  cases h2 : inB l 1 5
  · go_enter Try.func13, Try.ntmps13
    go_wp2_with fail
    refine (calls_is (impl_ArmyOk _ _ _ _ (hA.below (by (repeat (first | exact Below.refl _ _ | assumption | refine below_step ?_ (by assumption) | refine below_alloc ?_ _ | refine below_drewN ?_ _ | refine Below.drew ?_ | refine Below.setCell ?_ (by first | (simp; done) | omega | (simp; omega)) _)))) hn hcap) h1).mono ?_
    rintro e w1 ⟨rfl, hb1⟩
    go_wp2_with fail
    refine (calls_is (impl_within _ _ _ _) h2).mono ?_
    rintro e _ ⟨rfl, rfl⟩
    go_wp2
    go_ret
    exact ⟨ret_bool (by simp [mayReach, h1, h2]), by (repeat (first | exact Below.refl _ _ | assumption | refine below_step ?_ (by assumption) | refine below_alloc ?_ _ | refine below_drewN ?_ _ | refine Below.drew ?_ | refine Below.setCell ?_ (by first | (simp; done) | omega | (simp; omega)) _))⟩
  obtain ⟨q, hq⟩ : ∃ q, compareGold (armySum zs l).1 (armySum zs l).2 1 0 = q := ⟨_, rfl⟩
  have e : mayReach zs l = decide (0 ≤ q) := by simp [mayReach, h1, h2, hq]
  rw [e]
  clear e
  by_cases h3 : 0 ≤ q
  all_goals
    go_enter Try.func13, Try.ntmps13
    go_wp2_with fail
    refine (calls_is (impl_ArmyOk _ _ _ _ (hA.below (by (repeat (first | exact Below.refl _ _ | assumption | refine below_step ?_ (by assumption) | refine below_alloc ?_ _ | refine below_drewN ?_ _ | refine Below.drew ?_ | refine Below.setCell ?_ (by first | (simp; done) | omega | (simp; omega)) _)))) hn hcap) h1).mono ?_
    rintro e w1 ⟨rfl, hb1⟩
    go_wp2_with fail
    refine (calls_is (impl_within _ _ _ _) h2).mono ?_
    rintro e _ ⟨rfl, rfl⟩
    go_wp2_with fail
    refine (impl_ArmySum _ _ _ _ _ (hA.below (by (repeat (first | exact Below.refl _ _ | assumption | refine below_step ?_ (by assumption) | refine below_alloc ?_ _ | refine below_drewN ?_ _ | refine Below.drew ?_ | refine Below.setCell ?_ (by first | (simp; done) | omega | (simp; omega)) _)))) hn hcap).mono ?_
    rintro e w3 ⟨rfl, hb3⟩
    go_wp2_with fail
    refine (impl_PowerOf0 _).mono ?_
    rintro e w4 ⟨rfl, hb4⟩
    go_wp2_with fail
    refine (impl_CompareGold _ _ _ _ _).mono ?_
    rintro e w5 ⟨rfl, hb5⟩
    rw [hq]
    go_wp2
    go_ret
    exact ⟨ret_bool (by simp [h3]), by (repeat (first | exact Below.refl _ _ | assumption | refine below_step ?_ (by assumption) | refine below_alloc ?_ _ | refine below_drewN ?_ _ | refine Below.drew ?_ | refine Below.setCell ?_ (by first | (simp; done) | omega | (simp; omega)) _))⟩
end Go.Proofs.Ytianfakgojmnpaa
