/- Laws: what armies may reach. -/
import Derived.Test.YtjcjmgfecmgmjaaLawsI
import Derived.Test.YtjcjmgfecmgmjaaMayReach
import Derived.Test.YtjcjmgfecmgmjaaLiftD
namespace Go.Proofs.Ytjcjmgfecmgmjaa
open Go.RowKit

set_option maxHeartbeats 3000000 in
theorem law_FnExactMayReach (A : Option Addr) (C : Nat) (zs : List (Int × Int)) (l : Int) (w : World) (hAm : FAt w A (sflat zs) ∧ zs.length ≤ maxLen) (_hl : R64 l) :
    Calls Try.prog 14 #[.slice A zs.length C, .int .i64 l] w fun e w' => e = .returned (.bool true) ∧ Below w.heap.size w w' := by
  obtain ⟨hA, hmax⟩ := hAm
  have hmx : zs.length ≤ 9223372036854775807 := by simp only [maxLen] at hmax; omega
  clear hmax
  by_cases hbig : 1048576 < zs.length
  · go_enter Try.func14, Try.ntmps14
    go_wp2_with fail
    refine (sz_big _ _ _ _ hmx hbig).mono ?_
    rintro e w1 ⟨rfl, hb1⟩
    go_wp2
    go_ret
    exact ⟨rfl, by (repeat (first | exact Below.refl _ _ | assumption | refine below_step ?_ (by assumption) | refine below_alloc ?_ _ | refine below_drewN ?_ _ | refine Below.drew ?_ | refine Below.setCell ?_ (by first | (simp; done) | omega | (simp; omega)) _))⟩
  have hnz : zs.length ≤ 4294967296 := by omega
  go_enter Try.func14, Try.ntmps14
  have v0 := Below.refl w.heap.size w
  have hV := Below.refl w.heap.size w
  go_wp2_with fail
  refine (sz_small _ _ _ _ hmx hbig).mono ?_
  rintro e u1 ⟨rfl, hb1⟩
  replace hV := below_step hV hb1
  go_wp2_with fail
  have LoA := hV.size
  refine (laws_toSoldierS _ _ _ _ (hA.below (below_step v0 hV)) hnz).mono ?_
  rintro e u2 ⟨AoA, coA, rfl, oA, hb2⟩
  replace hV := below_step hV hb2
  go_wp2_with fail
  refine (spec_MayReach _ _ _ _ _ (FAt_of_own oA) hnz).mono ?_
  rintro e u3 ⟨rfl, hb3⟩
  replace oA := own_below oA hb3
  replace hV := below_step hV hb3
  go_wp2_with fail
  have LoX := hV.size
  have QoA_oX := own_top oA
  refine (laws_toSoldierS _ _ _ _ (hA.below (below_step v0 hV)) hnz).mono ?_
  rintro e u4 ⟨AoX, coX, rfl, oX, hb4⟩
  replace oA := own_below oA hb4
  replace hV := below_step hV hb4
  go_wp2_with fail
  refine (impl_MayReach _ _ _ _ _ (FAt_of_own oX) hnz (own_cap oX)).mono ?_
  rintro e u5 ⟨rfl, hb5⟩
  replace oA := own_below oA hb5
  replace oX := own_below oX hb5
  replace hV := below_step hV hb5
  go_wp2_with fail
  have LoY := hV.size
  have QoA_oY := own_top oA
  have QoX_oY := own_top oX
  refine (laws_toSoldierS _ _ _ _ (hA.below (below_step v0 hV)) hnz).mono ?_
  rintro e u6 ⟨AoY, coY, rfl, oY, hb6⟩
  replace oA := own_below oA hb6
  replace oX := own_below oX hb6
  replace hV := below_step hV hb6
  go_wp2_with fail
  refine (laws_eqSoldierS _ _ _ _ _ _ (FAt_of_own oX) (FAt_of_own oY) hnz).mono ?_
  rintro e u7 ⟨rfl, hb7⟩
  replace oA := own_below oA hb7
  replace oX := own_below oX hb7
  replace oY := own_below oY hb7
  replace hV := below_step hV hb7
  go_wp2
  go_ret
  exact ⟨by simp, below_step v0 hV⟩
end Go.Proofs.Ytjcjmgfecmgmjaa
