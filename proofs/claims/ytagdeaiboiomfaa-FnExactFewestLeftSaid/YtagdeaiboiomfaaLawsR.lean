/- Laws: pegs left. -/
import Derived.Test.YtagdeaiboiomfaaPegsF
import Derived.Test.YtagdeaiboiomfaaBoard
import Derived.Test.YtagdeaiboiomfaaLift
import Derived.Test.YtagdeaiboiomfaaLiftD
namespace Go.Proofs.Ytagdeaiboiomfaa
open Go.RowKit

set_option maxHeartbeats 2000000 in
theorem law_FnExactJumpsBetween (W H X p q : Int) (w : World) (_hW : R64 W) (_hH : R64 H) (_hX : R64 X) (hp : R64 p) (hq : R64 q) :
    Calls Try.prog 9 #[.agg #[.int .i64 W, .int .i64 H, .int .i64 X], .int .i64 p, .int .i64 q] w fun e w' => e = .returned (.bool true) ∧ Below w.heap.size w w' := by
  go_enter Try.func9, Try.ntmps9
  go_wp2_with fail
  generalize hV : w.alloc (.cells #[.int .i64 W, .int .i64 H, .int .i64 X] 23) = V
  have v0 : Below w.heap.size w V := by subst hV; (repeat (first | exact Below.refl _ _ | assumption | refine below_step ?_ (by assumption) | refine below_alloc ?_ _ | refine below_drewN ?_ _ | refine Below.drew ?_ | refine Below.setCell ?_ (by first | (simp; done) | omega | (simp; omega)) _))
  have z0 : w.heap.size < V.heap.size := by subst hV; simp <;> omega
  have v0_0 : V.cell? ⟨w.heap.size, 0, none⟩ = some (.int .i64 W) := by subst hV; simp
  have v0_1 : V.cell? ⟨w.heap.size, 1, none⟩ = some (.int .i64 H) := by subst hV; simp
  have v0_2 : V.cell? ⟨w.heap.size, 2, none⟩ = some (.int .i64 X) := by subst hV; simp
  have K : Hid (∀ w', Below V.heap.size V w' → Below V.heap.size V w' ∧ w'.cell? ⟨w.heap.size, 0, none⟩ = some (.int .i64 W) ∧ w'.cell? ⟨w.heap.size, 1, none⟩ = some (.int .i64 H) ∧ w'.cell? ⟨w.heap.size, 2, none⟩ = some (.int .i64 X)) := fun w' hB => ⟨hB, bel_cell hB z0 v0_0, bel_cell hB z0 v0_1, bel_cell hB z0 v0_2⟩
  have ZV : Hid (w.heap.size + 1 = V.heap.size) := by subst hV; unfold Hid; simp
  clear hV
  have hV := Below.refl V.heap.size V
  have d0 := bel_cell hV z0 v0_0
  have d1 := bel_cell hV z0 v0_1
  have d2 := bel_cell hV z0 v0_2
  refine (laws_toBoard _ _ _ _).mono ?_
  rintro e u1 ⟨rfl, hb1⟩
  replace hV := below_step hV hb1
  clear d0; have d0 := bel_cell hV z0 v0_0
  clear d1; have d1 := bel_cell hV z0 v0_1
  clear d2; have d2 := bel_cell hV z0 v0_2
  go_wp2_with fail
  refine (spec_JumpsBetween _ _ _ _ _ _ hp.2 hq.2).mono ?_
  rintro e u2 ⟨rfl, hb2⟩
  replace hV := below_step hV hb2
  clear d0; have d0 := bel_cell hV z0 v0_0
  clear d1; have d1 := bel_cell hV z0 v0_1
  clear d2; have d2 := bel_cell hV z0 v0_2
  go_wp2_with fail
  refine (laws_toBoard _ _ _ _).mono ?_
  rintro e u3 ⟨rfl, hb3⟩
  replace hV := below_step hV hb3
  clear d0; have d0 := bel_cell hV z0 v0_0
  clear d1; have d1 := bel_cell hV z0 v0_1
  clear d2; have d2 := bel_cell hV z0 v0_2
  go_wp2_with fail
  refine (impl_JumpsBetween _ _ _ _ _ _ hp.2 hq.2).mono ?_
  rintro e u4 ⟨rfl, hb4⟩
  replace hV := below_step hV hb4
  clear d0; have d0 := bel_cell hV z0 v0_0
  clear d1; have d1 := bel_cell hV z0 v0_1
  clear d2; have d2 := bel_cell hV z0 v0_2
  go_wp2
  go_ret
  exact ⟨by simp, below_step v0 hV⟩
set_option maxHeartbeats 2000000 in
theorem law_FnExactFewestLeft (W H X p : Int) (w : World) (_hW : R64 W) (_hH : R64 H) (_hX : R64 X) (hp : R64 p) :
    Calls Try.prog 12 #[.agg #[.int .i64 W, .int .i64 H, .int .i64 X], .int .i64 p] w fun e w' => e = .returned (.bool true) ∧ Below w.heap.size w w' := by
  go_enter Try.func12, Try.ntmps12
  go_wp2_with fail
  generalize hV : w.alloc (.cells #[.int .i64 W, .int .i64 H, .int .i64 X] 23) = V
  have v0 : Below w.heap.size w V := by subst hV; (repeat (first | exact Below.refl _ _ | assumption | refine below_step ?_ (by assumption) | refine below_alloc ?_ _ | refine below_drewN ?_ _ | refine Below.drew ?_ | refine Below.setCell ?_ (by first | (simp; done) | omega | (simp; omega)) _))
  have z0 : w.heap.size < V.heap.size := by subst hV; simp <;> omega
  have v0_0 : V.cell? ⟨w.heap.size, 0, none⟩ = some (.int .i64 W) := by subst hV; simp
  have v0_1 : V.cell? ⟨w.heap.size, 1, none⟩ = some (.int .i64 H) := by subst hV; simp
  have v0_2 : V.cell? ⟨w.heap.size, 2, none⟩ = some (.int .i64 X) := by subst hV; simp
  have K : Hid (∀ w', Below V.heap.size V w' → Below V.heap.size V w' ∧ w'.cell? ⟨w.heap.size, 0, none⟩ = some (.int .i64 W) ∧ w'.cell? ⟨w.heap.size, 1, none⟩ = some (.int .i64 H) ∧ w'.cell? ⟨w.heap.size, 2, none⟩ = some (.int .i64 X)) := fun w' hB => ⟨hB, bel_cell hB z0 v0_0, bel_cell hB z0 v0_1, bel_cell hB z0 v0_2⟩
  have ZV : Hid (w.heap.size + 1 = V.heap.size) := by subst hV; unfold Hid; simp
  clear hV
  have hV := Below.refl V.heap.size V
  have d0 := bel_cell hV z0 v0_0
  have d1 := bel_cell hV z0 v0_1
  have d2 := bel_cell hV z0 v0_2
  refine (laws_toBoard _ _ _ _).mono ?_
  rintro e u1 ⟨rfl, hb1⟩
  replace hV := below_step hV hb1
  clear d0; have d0 := bel_cell hV z0 v0_0
  clear d1; have d1 := bel_cell hV z0 v0_1
  clear d2; have d2 := bel_cell hV z0 v0_2
  go_wp2_with fail
  refine (spec_FewestLeft _ _ _ _ _ hp.2).mono ?_
  rintro e u2 ⟨rfl, hb2⟩
  replace hV := below_step hV hb2
  clear d0; have d0 := bel_cell hV z0 v0_0
  clear d1; have d1 := bel_cell hV z0 v0_1
  clear d2; have d2 := bel_cell hV z0 v0_2
  go_wp2_with fail
  refine (laws_toBoard _ _ _ _).mono ?_
  rintro e u3 ⟨rfl, hb3⟩
  replace hV := below_step hV hb3
  clear d0; have d0 := bel_cell hV z0 v0_0
  clear d1; have d1 := bel_cell hV z0 v0_1
  clear d2; have d2 := bel_cell hV z0 v0_2
  go_wp2_with fail
  refine (impl_FewestLeft _ _ _ _ _ hp.2).mono ?_
  rintro e u4 ⟨rfl, hb4⟩
  replace hV := below_step hV hb4
  clear d0; have d0 := bel_cell hV z0 v0_0
  clear d1; have d1 := bel_cell hV z0 v0_1
  clear d2; have d2 := bel_cell hV z0 v0_2
  go_wp2
  go_ret
  exact ⟨by simp, below_step v0 hV⟩
end Go.Proofs.Ytagdeaiboiomfaa
