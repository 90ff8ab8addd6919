/- Laws: turned games. -/
import Derived.Test.YtmdpacgoijnonaaCanTurn
import Derived.Test.YtmdpacgoijnonaaLiftL
import Derived.Deep.DeepCutAuto
import Derived.Test.YtmdpacgoijnonaaLiftD
namespace Go.Proofs.Ytmdpacgoijnonaa
open Go.RowKit

set_option maxHeartbeats 4000000 in
theorem law_FnExactCanTurn (W H X p : Int) (A : Option Addr) (C : Nat) (zs : List (Int × Int × Int)) (w : World) (_hW : R64 W) (_hH : R64 H) (hX : R64 X) (hp : R64 p) (hAm : FAt w A (lflat zs) ∧ zs.length ≤ maxLen) :
    Calls Try.prog 6 #[.agg #[.int .i64 W, .int .i64 H, .int .i64 X], .int .i64 p, .slice A zs.length C] w fun e w' => e = .returned (.bool true) ∧ Below w.heap.size w w' := by
  obtain ⟨hA, hmax⟩ := hAm
  have hmx : zs.length ≤ 9223372036854775807 := by simp only [maxLen] at hmax; omega
  clear hmax
  by_cases hbig : 1048576 < zs.length
  · go_enter Try.func6, Try.ntmps6
    go_wp2_with fail
    refine (szL_big _ _ _ _ hmx hbig).mono ?_
    rintro e w1 ⟨rfl, hb1⟩
    go_wp2
    go_ret
    exact ⟨rfl, by (repeat (first | exact Below.refl _ _ | assumption | refine below_step ?_ (by assumption) | refine below_alloc ?_ _ | refine below_drewN ?_ _ | refine Below.drew ?_ | refine Below.setCell ?_ (by first | (simp; done) | omega | (simp; omega)) _))⟩
  have hnz : zs.length ≤ 4294967296 := by omega
  go_enter Try.func6, Try.ntmps6
  go_wp2_with fail
  generalize hV : w.alloc (.cells #[.int .i64 W, .int .i64 H, .int .i64 X] 36) = V
  have v0 : Below w.heap.size w V := by subst hV; (repeat (first | exact Below.refl _ _ | assumption | refine below_step ?_ (by assumption) | refine below_alloc ?_ _ | refine below_drewN ?_ _ | refine Below.drew ?_ | refine Below.setCell ?_ (by first | (simp; done) | omega | (simp; omega)) _))
  have z0 : w.heap.size < V.heap.size := by subst hV; simp <;> omega
  have v0_0 : V.cell? ⟨w.heap.size, 0, none⟩ = some (.int .i64 W) := by subst hV; simp
  have v0_1 : V.cell? ⟨w.heap.size, 1, none⟩ = some (.int .i64 H) := by subst hV; simp
  have v0_2 : V.cell? ⟨w.heap.size, 2, none⟩ = some (.int .i64 X) := by subst hV; simp
  have K : Hid (∀ w', Below V.heap.size V w' → Below V.heap.size V w' ∧ w'.cell? ⟨w.heap.size, 0, none⟩ = some (.int .i64 W) ∧ w'.cell? ⟨w.heap.size, 1, none⟩ = some (.int .i64 H) ∧ w'.cell? ⟨w.heap.size, 2, none⟩ = some (.int .i64 X)) := fun w' hB => ⟨hB, bel_cell hB z0 v0_0, bel_cell hB z0 v0_1, bel_cell hB z0 v0_2⟩
  have ZV : Hid (w.heap.size + 1 = V.heap.size) := by subst hV; unfold Hid; simp
  clear hV
  have hV := Below.refl V.heap.size V
  have d0 := bel_cell hV z0 v0_0
  have d1 := bel_cell hV z0 v0_1
  have d2 := bel_cell hV z0 v0_2
  refine (szL_small _ _ _ _ hmx hbig).mono ?_
  rintro e u1 ⟨rfl, hb1⟩
  replace hV := below_step hV hb1
  clear d0; have d0 := bel_cell hV z0 v0_0
  clear d1; have d1 := bel_cell hV z0 v0_1
  clear d2; have d2 := bel_cell hV z0 v0_2
  go_wp2_with fail
  refine (laws_toBoard _ _ _ _).mono ?_
  rintro e u2 ⟨rfl, hb2⟩
  replace hV := below_step hV hb2
  clear d0; have d0 := bel_cell hV z0 v0_0
  clear d1; have d1 := bel_cell hV z0 v0_1
  clear d2; have d2 := bel_cell hV z0 v0_2
  go_wp2_with fail
  have LoA := hV.size
  refine (laws_toLineS _ _ _ _ (hA.below (below_step v0 hV)) hnz).mono ?_
  rintro e u3 ⟨AoA, coA, rfl, oA, hb3⟩
  replace hV := below_step hV hb3
  clear d0; have d0 := bel_cell hV z0 v0_0
  clear d1; have d1 := bel_cell hV z0 v0_1
  clear d2; have d2 := bel_cell hV z0 v0_2
  go_wp2_with fail
  refine (spec_CanTurn _ _ _ _ _ _ _ _ hX.2 hp.2 (FAt_of_own oA) hnz).mono ?_
  rintro e u4 ⟨rfl, hb4⟩
  replace oA := own_below oA hb4
  replace hV := below_step hV hb4
  clear d0; have d0 := bel_cell hV z0 v0_0
  clear d1; have d1 := bel_cell hV z0 v0_1
  clear d2; have d2 := bel_cell hV z0 v0_2
  go_wp2_with fail
  have LoX := hV.size
  have QoA_oX := own_top oA
  refine (laws_toLineS _ _ _ _ (hA.below (below_step v0 hV)) hnz).mono ?_
  rintro e u5 ⟨AoX, coX, rfl, oX, hb5⟩
  replace oA := own_below oA hb5
  replace hV := below_step hV hb5
  clear d0; have d0 := bel_cell hV z0 v0_0
  clear d1; have d1 := bel_cell hV z0 v0_1
  clear d2; have d2 := bel_cell hV z0 v0_2
  go_wp2_with fail
  refine (laws_toBoard _ _ _ _).mono ?_
  rintro e u6 ⟨rfl, hb6⟩
  replace oA := own_below oA hb6
  replace oX := own_below oX hb6
  replace hV := below_step hV hb6
  clear d0; have d0 := bel_cell hV z0 v0_0
  clear d1; have d1 := bel_cell hV z0 v0_1
  clear d2; have d2 := bel_cell hV z0 v0_2
  go_wp2_with fail
  refine (impl_CanTurn _ _ _ _ _ _ _ _ hX.2 hp.2 (FAt_of_own oX) hnz).mono ?_
  rintro e u7 ⟨rfl, hb7⟩
  replace oA := own_below oA hb7
  replace oX := own_below oX hb7
  replace hV := below_step hV hb7
  clear d0; have d0 := bel_cell hV z0 v0_0
  clear d1; have d1 := bel_cell hV z0 v0_1
  clear d2; have d2 := bel_cell hV z0 v0_2
  go_wp2_with fail
  have LoY := hV.size
  have QoA_oY := own_top oA
  have QoX_oY := own_top oX
  refine (laws_toLineS _ _ _ _ (hA.below (below_step v0 hV)) hnz).mono ?_
  rintro e u8 ⟨AoY, coY, rfl, oY, hb8⟩
  replace oA := own_below oA hb8
  replace oX := own_below oX hb8
  replace hV := below_step hV hb8
  clear d0; have d0 := bel_cell hV z0 v0_0
  clear d1; have d1 := bel_cell hV z0 v0_1
  clear d2; have d2 := bel_cell hV z0 v0_2
  go_wp2_with fail
  refine (laws_eqLineS _ _ _ _ zs _ (FAt_of_own oX) (FAt_of_own oY) hnz).mono ?_
  rintro e u9 ⟨rfl, hb9⟩
  replace oA := own_below oA hb9
  replace oX := own_below oX hb9
  replace oY := own_below oY hb9
  replace hV := below_step hV hb9
  clear d0; have d0 := bel_cell hV z0 v0_0
  clear d1; have d1 := bel_cell hV z0 v0_1
  clear d2; have d2 := bel_cell hV z0 v0_2
  go_wp2
  go_ret
  exact ⟨by simp, below_step v0 hV⟩
end Go.Proofs.Ytmdpacgoijnonaa
