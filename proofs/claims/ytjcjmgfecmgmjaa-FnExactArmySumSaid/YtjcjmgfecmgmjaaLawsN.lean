/- Laws: sums of armies. -/
import Derived.Test.YtjcjmgfecmgmjaaLawsI
import Derived.Test.YtjcjmgfecmgmjaaArmySum
import Derived.Deep.DeepCutAuto
import Derived.Test.YtjcjmgfecmgmjaaLiftD
namespace Go.Proofs.Ytjcjmgfecmgmjaa
open Go.RowKit
attribute [local go_sem ↓] Go.wp_at_zero Go.wp_at_succ

set_option maxHeartbeats 3000000 in
theorem law_FnExactArmySum (A : Option Addr) (C : Nat) (zs : List (Int × Int)) (l : Int) (w : World) (hAm : FAt w A (sflat zs) ∧ zs.length ≤ maxLen) (_hl : R64 l) :
    Calls Try.prog 12 #[.slice A zs.length C, .int .i64 l] w fun e w' => e = .returned (.bool true) ∧ Below w.heap.size w w' := by
  obtain ⟨hA, hmax⟩ := hAm
  have hmx : zs.length ≤ 9223372036854775807 := by simp only [maxLen] at hmax; omega
  clear hmax
  by_cases hbig : 1048576 < zs.length
  · go_enter Try.func12, Try.ntmps12
    go_wp2_with fail
    refine (sz_big _ _ _ _ hmx hbig).mono ?_
    rintro e w1 ⟨rfl, hb1⟩
    go_wp2
    go_ret
    exact ⟨rfl, by (repeat (first | exact Below.refl _ _ | assumption | refine below_step ?_ (by assumption) | refine below_alloc ?_ _ | refine below_drewN ?_ _ | refine Below.drew ?_ | refine Below.setCell ?_ (by first | (simp; done) | omega | (simp; omega)) _))⟩
  have hnz : zs.length ≤ 4294967296 := by omega
  go_enter Try.func12, Try.ntmps12
  have v0 := Below.refl w.heap.size w
  have hV := Below.refl w.heap.size w
  go_wp2_with fail
  refine (sz_small _ _ _ _ hmx hbig).mono ?_
  rintro e u1 ⟨rfl, hb1⟩
  replace hV := below_step hV hb1
  go_wp2_with fail
  have LoA := hV.size
  refine (laws_toSoldierS _ _ _ _ (hA.below (below_step v0 hV)) hnz).mono ?_
  rintro e u2 ⟨AoA, coA, rfl, oA, hb2⟩
  replace hV := below_step hV hb2
  go_wp2_with fail
  refine (spec_ArmySum _ _ _ _ _ (FAt_of_own oA) hnz).mono ?_
  rintro e u3 ⟨rfl, hb3⟩
  replace oA := own_below oA hb3
  replace hV := below_step hV hb3
  go_wp2_with fail
  generalize hU : u3.alloc (.cells #[.int .i64 (armySum zs l).1, .int .i64 (armySum zs l).2] 31) = U
  have bU : Below u3.heap.size u3 U := by subst hU; (repeat (first | exact Below.refl _ _ | assumption | refine below_step ?_ (by assumption) | refine below_alloc ?_ _ | refine below_drewN ?_ _ | refine Below.drew ?_ | refine Below.setCell ?_ (by first | (simp; done) | omega | (simp; omega)) _))
  have zU : u3.heap.size < U.heap.size := by subst hU; simp
  have cU0 : U.cell? ⟨u3.heap.size, 0, none⟩ = some (.int .i64 (armySum zs l).1) := by subst hU; simp
  have cU1 : U.cell? ⟨u3.heap.size, 1, none⟩ = some (.int .i64 (armySum zs l).2) := by subst hU; simp
  clear hU
  replace oA := own_below oA bU
  replace hV := below_step hV bU
  have qU := Below.refl U.heap.size U
  have eU0 := cU0
  have eU1 := cU1
  have LoX := hV.size
  have QoA_oX := own_top oA
  refine (laws_toSoldierS _ _ _ _ (hA.below (below_step v0 hV)) hnz).mono ?_
  rintro e u4 ⟨AoX, coX, rfl, oX, hb4⟩
  replace oA := own_below oA hb4
  replace hV := below_step hV hb4
  replace qU := below_step qU hb4
  clear eU0; have eU0 := bel_cell qU zU cU0
  clear eU1; have eU1 := bel_cell qU zU cU1
  have lU_4 := Nat.lt_of_lt_of_le zU qU.size
  go_wp2_with fail
  refine (impl_ArmySum _ _ _ _ _ (FAt_of_own oX) hnz (own_cap oX)).mono ?_
  rintro e u5 ⟨rfl, hb5⟩
  replace oA := own_below oA hb5
  replace oX := own_below oX hb5
  replace hV := below_step hV hb5
  replace qU := below_step qU hb5
  clear eU0; have eU0 := bel_cell qU zU cU0
  clear eU1; have eU1 := bel_cell qU zU cU1
  have lU_5 := Nat.lt_of_lt_of_le zU qU.size
  go_wp2_with fail
  generalize hT : u5.alloc (.cells #[.int .i64 (armySum zs l).1, .int .i64 (armySum zs l).2] 31) = T
  have bT : Below u5.heap.size u5 T := by subst hT; (repeat (first | exact Below.refl _ _ | assumption | refine below_step ?_ (by assumption) | refine below_alloc ?_ _ | refine below_drewN ?_ _ | refine Below.drew ?_ | refine Below.setCell ?_ (by first | (simp; done) | omega | (simp; omega)) _))
  have zT : u5.heap.size < T.heap.size := by subst hT; simp
  have cT0 : T.cell? ⟨u5.heap.size, 0, none⟩ = some (.int .i64 (armySum zs l).1) := by subst hT; simp
  have cT1 : T.cell? ⟨u5.heap.size, 1, none⟩ = some (.int .i64 (armySum zs l).2) := by subst hT; simp
  clear hT
  replace oA := own_below oA bT
  replace oX := own_below oX bT
  replace hV := below_step hV bT
  replace qU := below_step qU bT
  clear eU0; have eU0 := bel_cell qU zU cU0
  clear eU1; have eU1 := bel_cell qU zU cU1
  have qT := Below.refl T.heap.size T
  have eT0 := cT0
  have eT1 := cT1
  refine (laws_eqGold _ _ _).mono ?_
  rintro e u6 ⟨rfl, hb6⟩
  replace oA := own_below oA hb6
  replace oX := own_below oX hb6
  replace hV := below_step hV hb6
  replace qU := below_step qU hb6
  clear eU0; have eU0 := bel_cell qU zU cU0
  clear eU1; have eU1 := bel_cell qU zU cU1
  have lU_6 := Nat.lt_of_lt_of_le zU qU.size
  replace qT := below_step qT hb6
  clear eT0; have eT0 := bel_cell qT zT cT0
  clear eT1; have eT1 := bel_cell qT zT cT1
  have lT_6 := Nat.lt_of_lt_of_le zT qT.size
  go_wp2_with fail
  have LoY := hV.size
  have QoA_oY := own_top oA
  have QoX_oY := own_top oX
  refine (laws_toSoldierS _ _ _ _ (hA.below (below_step v0 hV)) hnz).mono ?_
  rintro e u7 ⟨AoY, coY, rfl, oY, hb7⟩
  replace oA := own_below oA hb7
  replace oX := own_below oX hb7
  replace hV := below_step hV hb7
  replace qU := below_step qU hb7
  clear eU0; have eU0 := bel_cell qU zU cU0
  clear eU1; have eU1 := bel_cell qU zU cU1
  have lU_7 := Nat.lt_of_lt_of_le zU qU.size
  replace qT := below_step qT hb7
  clear eT0; have eT0 := bel_cell qT zT cT0
  clear eT1; have eT1 := bel_cell qT zT cT1
  have lT_7 := Nat.lt_of_lt_of_le zT qT.size
  go_wp2_with fail
  refine (laws_eqSoldierS _ _ _ _ _ _ (FAt_of_own oX) (FAt_of_own oY) hnz).mono ?_
  rintro e u8 ⟨rfl, hb8⟩
  replace oA := own_below oA hb8
  replace oX := own_below oX hb8
  replace oY := own_below oY hb8
  replace hV := below_step hV hb8
  replace qU := below_step qU hb8
  clear eU0; have eU0 := bel_cell qU zU cU0
  clear eU1; have eU1 := bel_cell qU zU cU1
  have lU_8 := Nat.lt_of_lt_of_le zU qU.size
  replace qT := below_step qT hb8
  clear eT0; have eT0 := bel_cell qT zT cT0
  clear eT1; have eT1 := bel_cell qT zT cT1
  have lT_8 := Nat.lt_of_lt_of_le zT qT.size
  go_wp2
  go_ret
  exact ⟨by simp, below_step v0 hV⟩
end Go.Proofs.Ytjcjmgfecmgmjaa
