/- Laws: weights by classes, columns, rows. -/
import Derived.Test.YtjcjmgfecmgmjaaGridW
import Derived.Test.YtjcjmgfecmgmjaaBoard
import Derived.Test.YtjcjmgfecmgmjaaLiftD
namespace Go.Proofs.Ytjcjmgfecmgmjaa
open Go.RowKit

theorem classW_small (W H X a : Int) : (classW W H X a).length ≤ 4294967296 := by
  unfold classW; split
  · rename_i h; rw [grid_len]; have := (boardOk_facts h.1).m2; omega
  · simp
set_option maxHeartbeats 2000000 in
theorem law_FnExactClassWeights (W H X r : Int) (w : World) (hW : R64 W) (hH : R64 H) (hX : R64 X) (hr : R64 r) :
    Calls Try.prog 6 #[.agg #[.int .i64 W, .int .i64 H, .int .i64 X], .int .i64 r] w fun e w' => e = .returned (.bool true) ∧ Below w.heap.size w w' := by
  go_enter Try.func6, Try.ntmps6
  have hlen : (classW W H X r).length ≤ 4294967296 := classW_small _ _ _ _
  go_wp2_with fail
  generalize hV : w.alloc (.cells #[.int .i64 W, .int .i64 H, .int .i64 X] 40) = V
  have v0 : Below w.heap.size w V := by subst hV; (repeat (first | exact Below.refl _ _ | assumption | refine below_step ?_ (by assumption) | refine below_alloc ?_ _ | refine below_drewN ?_ _ | refine Below.drew ?_ | refine Below.setCell ?_ (by first | (simp; done) | omega | (simp; omega)) _))
  have z0 : w.heap.size < V.heap.size := by subst hV; simp <;> omega
  have v0_0 : V.cell? ⟨w.heap.size, 0, none⟩ = some (.int .i64 W) := by subst hV; simp
  have v0_1 : V.cell? ⟨w.heap.size, 1, none⟩ = some (.int .i64 H) := by subst hV; simp
  have v0_2 : V.cell? ⟨w.heap.size, 2, none⟩ = some (.int .i64 X) := by subst hV; simp
  have K : Hid (∀ w', Below V.heap.size V w' → Below V.heap.size V w' ∧ w'.cell? ⟨w.heap.size, 0, none⟩ = some (.int .i64 W) ∧ w'.cell? ⟨w.heap.size, 1, none⟩ = some (.int .i64 H) ∧ w'.cell? ⟨w.heap.size, 2, none⟩ = some (.int .i64 X)) := fun w' hB => ⟨hB, bel_cell hB z0 v0_0, bel_cell hB z0 v0_1, bel_cell hB z0 v0_2⟩
  have ZV : Hid (w.heap.size + 1 = V.heap.size) := by subst hV; unfold Hid; simp
  clear hV
  have hV := Below.refl V.heap.size V
  have d0 := bel_cell hV z0 v0_0
  have d1 := bel_cell hV z0 v0_1
  have d2 := bel_cell hV z0 v0_2
  refine (laws_toBoard _ _ _ _).mono ?_
  rintro e u1 ⟨rfl, hb1⟩
  replace hV := below_step hV hb1
  clear d0; have d0 := bel_cell hV z0 v0_0
  clear d1; have d1 := bel_cell hV z0 v0_1
  clear d2; have d2 := bel_cell hV z0 v0_2
  go_wp2_with fail
  have LoW := hV.size
  refine (spec_ClassWeights _ _ _ _ _).mono ?_
  rintro e u2 ⟨A0, c0, rfl, oW, hb2⟩
  replace hV := below_step hV hb2
  clear d0; have d0 := bel_cell hV z0 v0_0
  clear d1; have d1 := bel_cell hV z0 v0_1
  clear d2; have d2 := bel_cell hV z0 v0_2
  go_wp2_with fail
  refine (laws_toBoard _ _ _ _).mono ?_
  rintro e u3 ⟨rfl, hb3⟩
  replace oW := own_below oW hb3
  replace hV := below_step hV hb3
  clear d0; have d0 := bel_cell hV z0 v0_0
  clear d1; have d1 := bel_cell hV z0 v0_1
  clear d2; have d2 := bel_cell hV z0 v0_2
  go_wp2_with fail
  have LoG := hV.size
  have QoW_oG := own_top oW
  refine (impl_ClassWeights _ _ _ _ _).mono ?_
  rintro e u4 ⟨A1, c1, rfl, oG, hb4⟩
  replace oW := own_below oW hb4
  replace hV := below_step hV hb4
  clear d0; have d0 := bel_cell hV z0 v0_0
  clear d1; have d1 := bel_cell hV z0 v0_1
  clear d2; have d2 := bel_cell hV z0 v0_2
  go_wp2_with fail
  refine (laws_eqIntS _ _ _ _ _ _ (FAt_of_own oG) (FAt_of_own oW) hlen).mono ?_
  rintro e u5 ⟨rfl, hb5⟩
  replace oW := own_below oW hb5
  replace oG := own_below oG hb5
  replace hV := below_step hV hb5
  clear d0; have d0 := bel_cell hV z0 v0_0
  clear d1; have d1 := bel_cell hV z0 v0_1
  clear d2; have d2 := bel_cell hV z0 v0_2
  go_wp2_with fail
  refine (laws_markIntS _ _ _ _ 1 _ oG hlen (by omega) (by omega)).mono ?_
  rintro e u6 ⟨rfl, moG, hg6⟩
  replace hV := hV.grown hg6 hV.size (fun k hk => Nat.le_trans LoG (oG.lt k hk).1)
  replace oW := oW.kept hg6 (own_apart QoW_oG oG)
  clear oG
  have oG := moG
  clear moG
  clear d0; have d0 := bel_cell hV z0 v0_0
  clear d1; have d1 := bel_cell hV z0 v0_1
  clear d2; have d2 := bel_cell hV z0 v0_2
  go_wp2_with fail
  refine (laws_heldIntS _ _ _ 1 _ (FAt_of_own oG) hlen (by omega) (by omega)).mono ?_
  rintro e _ ⟨rfl, rfl⟩
  go_wp2_with fail
  refine (laws_toBoard _ _ _ _).mono ?_
  rintro e u8 ⟨rfl, hb8⟩
  replace oW := own_below oW hb8
  replace oG := own_below oG hb8
  replace hV := below_step hV hb8
  clear d0; have d0 := bel_cell hV z0 v0_0
  clear d1; have d1 := bel_cell hV z0 v0_1
  clear d2; have d2 := bel_cell hV z0 v0_2
  go_wp2_with fail
  have LoH := hV.size
  have QoW_oH := own_top oW
  have QoG_oH := own_top oG
  refine (impl_ClassWeights _ _ _ _ _).mono ?_
  rintro e u9 ⟨A2, c2, rfl, oH, hb9⟩
  replace oW := own_below oW hb9
  replace oG := own_below oG hb9
  replace hV := below_step hV hb9
  clear d0; have d0 := bel_cell hV z0 v0_0
  clear d1; have d1 := bel_cell hV z0 v0_1
  clear d2; have d2 := bel_cell hV z0 v0_2
  go_wp2_with fail
  refine (laws_eqIntS _ _ _ _ _ _ (FAt_of_own oH) (FAt_of_own oW) hlen).mono ?_
  rintro e u10 ⟨rfl, hb10⟩
  replace oW := own_below oW hb10
  replace oG := own_below oG hb10
  replace oH := own_below oH hb10
  replace hV := below_step hV hb10
  clear d0; have d0 := bel_cell hV z0 v0_0
  clear d1; have d1 := bel_cell hV z0 v0_1
  clear d2; have d2 := bel_cell hV z0 v0_2
  go_wp2_with fail
  refine (laws_heldIntS _ _ _ 1 _ (FAt_of_own oG) hlen (by omega) (by omega)).mono ?_
  rintro e _ ⟨rfl, rfl⟩
  go_wp2
  go_ret
  exact ⟨by simp, below_step v0 hV⟩
theorem colW_small (W H X a : Int) : (colW W H X a).length ≤ 4294967296 := by
  unfold colW; split
  · rename_i h; rw [grid_len]; have := (boardOk_facts h.1).m2; omega
  · simp
set_option maxHeartbeats 2000000 in
theorem law_FnExactColumnWeights (W H X a : Int) (w : World) (hW : R64 W) (hH : R64 H) (hX : R64 X) (ha : R64 a) :
    Calls Try.prog 8 #[.agg #[.int .i64 W, .int .i64 H, .int .i64 X], .int .i64 a] w fun e w' => e = .returned (.bool true) ∧ Below w.heap.size w w' := by
  go_enter Try.func8, Try.ntmps8
  have hlen : (colW W H X a).length ≤ 4294967296 := colW_small _ _ _ _
  go_wp2_with fail
  generalize hV : w.alloc (.cells #[.int .i64 W, .int .i64 H, .int .i64 X] 40) = V
  have v0 : Below w.heap.size w V := by subst hV; (repeat (first | exact Below.refl _ _ | assumption | refine below_step ?_ (by assumption) | refine below_alloc ?_ _ | refine below_drewN ?_ _ | refine Below.drew ?_ | refine Below.setCell ?_ (by first | (simp; done) | omega | (simp; omega)) _))
  have z0 : w.heap.size < V.heap.size := by subst hV; simp <;> omega
  have v0_0 : V.cell? ⟨w.heap.size, 0, none⟩ = some (.int .i64 W) := by subst hV; simp
  have v0_1 : V.cell? ⟨w.heap.size, 1, none⟩ = some (.int .i64 H) := by subst hV; simp
  have v0_2 : V.cell? ⟨w.heap.size, 2, none⟩ = some (.int .i64 X) := by subst hV; simp
  have K : Hid (∀ w', Below V.heap.size V w' → Below V.heap.size V w' ∧ w'.cell? ⟨w.heap.size, 0, none⟩ = some (.int .i64 W) ∧ w'.cell? ⟨w.heap.size, 1, none⟩ = some (.int .i64 H) ∧ w'.cell? ⟨w.heap.size, 2, none⟩ = some (.int .i64 X)) := fun w' hB => ⟨hB, bel_cell hB z0 v0_0, bel_cell hB z0 v0_1, bel_cell hB z0 v0_2⟩
  have ZV : Hid (w.heap.size + 1 = V.heap.size) := by subst hV; unfold Hid; simp
  clear hV
  have hV := Below.refl V.heap.size V
  have d0 := bel_cell hV z0 v0_0
  have d1 := bel_cell hV z0 v0_1
  have d2 := bel_cell hV z0 v0_2
  refine (laws_toBoard _ _ _ _).mono ?_
  rintro e u1 ⟨rfl, hb1⟩
  replace hV := below_step hV hb1
  clear d0; have d0 := bel_cell hV z0 v0_0
  clear d1; have d1 := bel_cell hV z0 v0_1
  clear d2; have d2 := bel_cell hV z0 v0_2
  go_wp2_with fail
  have LoW := hV.size
  refine (spec_ColumnWeights _ _ _ _ _).mono ?_
  rintro e u2 ⟨A0, c0, rfl, oW, hb2⟩
  replace hV := below_step hV hb2
  clear d0; have d0 := bel_cell hV z0 v0_0
  clear d1; have d1 := bel_cell hV z0 v0_1
  clear d2; have d2 := bel_cell hV z0 v0_2
  go_wp2_with fail
  refine (laws_toBoard _ _ _ _).mono ?_
  rintro e u3 ⟨rfl, hb3⟩
  replace oW := own_below oW hb3
  replace hV := below_step hV hb3
  clear d0; have d0 := bel_cell hV z0 v0_0
  clear d1; have d1 := bel_cell hV z0 v0_1
  clear d2; have d2 := bel_cell hV z0 v0_2
  go_wp2_with fail
  have LoG := hV.size
  have QoW_oG := own_top oW
  refine (impl_ColumnWeights _ _ _ _ _).mono ?_
  rintro e u4 ⟨A1, c1, rfl, oG, hb4⟩
  replace oW := own_below oW hb4
  replace hV := below_step hV hb4
  clear d0; have d0 := bel_cell hV z0 v0_0
  clear d1; have d1 := bel_cell hV z0 v0_1
  clear d2; have d2 := bel_cell hV z0 v0_2
  go_wp2_with fail
  refine (laws_eqIntS _ _ _ _ _ _ (FAt_of_own oG) (FAt_of_own oW) hlen).mono ?_
  rintro e u5 ⟨rfl, hb5⟩
  replace oW := own_below oW hb5
  replace oG := own_below oG hb5
  replace hV := below_step hV hb5
  clear d0; have d0 := bel_cell hV z0 v0_0
  clear d1; have d1 := bel_cell hV z0 v0_1
  clear d2; have d2 := bel_cell hV z0 v0_2
  go_wp2_with fail
  refine (laws_markIntS _ _ _ _ 1 _ oG hlen (by omega) (by omega)).mono ?_
  rintro e u6 ⟨rfl, moG, hg6⟩
  replace hV := hV.grown hg6 hV.size (fun k hk => Nat.le_trans LoG (oG.lt k hk).1)
  replace oW := oW.kept hg6 (own_apart QoW_oG oG)
  clear oG
  have oG := moG
  clear moG
  clear d0; have d0 := bel_cell hV z0 v0_0
  clear d1; have d1 := bel_cell hV z0 v0_1
  clear d2; have d2 := bel_cell hV z0 v0_2
  go_wp2_with fail
  refine (laws_heldIntS _ _ _ 1 _ (FAt_of_own oG) hlen (by omega) (by omega)).mono ?_
  rintro e _ ⟨rfl, rfl⟩
  go_wp2_with fail
  refine (laws_toBoard _ _ _ _).mono ?_
  rintro e u8 ⟨rfl, hb8⟩
  replace oW := own_below oW hb8
  replace oG := own_below oG hb8
  replace hV := below_step hV hb8
  clear d0; have d0 := bel_cell hV z0 v0_0
  clear d1; have d1 := bel_cell hV z0 v0_1
  clear d2; have d2 := bel_cell hV z0 v0_2
  go_wp2_with fail
  have LoH := hV.size
  have QoW_oH := own_top oW
  have QoG_oH := own_top oG
  refine (impl_ColumnWeights _ _ _ _ _).mono ?_
  rintro e u9 ⟨A2, c2, rfl, oH, hb9⟩
  replace oW := own_below oW hb9
  replace oG := own_below oG hb9
  replace hV := below_step hV hb9
  clear d0; have d0 := bel_cell hV z0 v0_0
  clear d1; have d1 := bel_cell hV z0 v0_1
  clear d2; have d2 := bel_cell hV z0 v0_2
  go_wp2_with fail
  refine (laws_eqIntS _ _ _ _ _ _ (FAt_of_own oH) (FAt_of_own oW) hlen).mono ?_
  rintro e u10 ⟨rfl, hb10⟩
  replace oW := own_below oW hb10
  replace oG := own_below oG hb10
  replace oH := own_below oH hb10
  replace hV := below_step hV hb10
  clear d0; have d0 := bel_cell hV z0 v0_0
  clear d1; have d1 := bel_cell hV z0 v0_1
  clear d2; have d2 := bel_cell hV z0 v0_2
  go_wp2_with fail
  refine (laws_heldIntS _ _ _ 1 _ (FAt_of_own oG) hlen (by omega) (by omega)).mono ?_
  rintro e _ ⟨rfl, rfl⟩
  go_wp2
  go_ret
  exact ⟨by simp, below_step v0 hV⟩
theorem rowW_small (W H X a : Int) : (rowW W H X a).length ≤ 4294967296 := by
  unfold rowW; split
  · rename_i h; rw [grid_len]; have := (boardOk_facts h.1).m2; omega
  · simp
set_option maxHeartbeats 2000000 in
theorem law_FnExactRowWeights (W H X a : Int) (w : World) (hW : R64 W) (hH : R64 H) (hX : R64 X) (ha : R64 a) :
    Calls Try.prog 9 #[.agg #[.int .i64 W, .int .i64 H, .int .i64 X], .int .i64 a] w fun e w' => e = .returned (.bool true) ∧ Below w.heap.size w w' := by
  go_enter Try.func9, Try.ntmps9
  have hlen : (rowW W H X a).length ≤ 4294967296 := rowW_small _ _ _ _
  go_wp2_with fail
  generalize hV : w.alloc (.cells #[.int .i64 W, .int .i64 H, .int .i64 X] 40) = V
  have v0 : Below w.heap.size w V := by subst hV; (repeat (first | exact Below.refl _ _ | assumption | refine below_step ?_ (by assumption) | refine below_alloc ?_ _ | refine below_drewN ?_ _ | refine Below.drew ?_ | refine Below.setCell ?_ (by first | (simp; done) | omega | (simp; omega)) _))
  have z0 : w.heap.size < V.heap.size := by subst hV; simp <;> omega
  have v0_0 : V.cell? ⟨w.heap.size, 0, none⟩ = some (.int .i64 W) := by subst hV; simp
  have v0_1 : V.cell? ⟨w.heap.size, 1, none⟩ = some (.int .i64 H) := by subst hV; simp
  have v0_2 : V.cell? ⟨w.heap.size, 2, none⟩ = some (.int .i64 X) := by subst hV; simp
  have K : Hid (∀ w', Below V.heap.size V w' → Below V.heap.size V w' ∧ w'.cell? ⟨w.heap.size, 0, none⟩ = some (.int .i64 W) ∧ w'.cell? ⟨w.heap.size, 1, none⟩ = some (.int .i64 H) ∧ w'.cell? ⟨w.heap.size, 2, none⟩ = some (.int .i64 X)) := fun w' hB => ⟨hB, bel_cell hB z0 v0_0, bel_cell hB z0 v0_1, bel_cell hB z0 v0_2⟩
  have ZV : Hid (w.heap.size + 1 = V.heap.size) := by subst hV; unfold Hid; simp
  clear hV
  have hV := Below.refl V.heap.size V
  have d0 := bel_cell hV z0 v0_0
  have d1 := bel_cell hV z0 v0_1
  have d2 := bel_cell hV z0 v0_2
  refine (laws_toBoard _ _ _ _).mono ?_
  rintro e u1 ⟨rfl, hb1⟩
  replace hV := below_step hV hb1
  clear d0; have d0 := bel_cell hV z0 v0_0
  clear d1; have d1 := bel_cell hV z0 v0_1
  clear d2; have d2 := bel_cell hV z0 v0_2
  go_wp2_with fail
  have LoW := hV.size
  refine (spec_RowWeights _ _ _ _ _).mono ?_
  rintro e u2 ⟨A0, c0, rfl, oW, hb2⟩
  replace hV := below_step hV hb2
  clear d0; have d0 := bel_cell hV z0 v0_0
  clear d1; have d1 := bel_cell hV z0 v0_1
  clear d2; have d2 := bel_cell hV z0 v0_2
  go_wp2_with fail
  refine (laws_toBoard _ _ _ _).mono ?_
  rintro e u3 ⟨rfl, hb3⟩
  replace oW := own_below oW hb3
  replace hV := below_step hV hb3
  clear d0; have d0 := bel_cell hV z0 v0_0
  clear d1; have d1 := bel_cell hV z0 v0_1
  clear d2; have d2 := bel_cell hV z0 v0_2
  go_wp2_with fail
  have LoG := hV.size
  have QoW_oG := own_top oW
  refine (impl_RowWeights _ _ _ _ _).mono ?_
  rintro e u4 ⟨A1, c1, rfl, oG, hb4⟩
  replace oW := own_below oW hb4
  replace hV := below_step hV hb4
  clear d0; have d0 := bel_cell hV z0 v0_0
  clear d1; have d1 := bel_cell hV z0 v0_1
  clear d2; have d2 := bel_cell hV z0 v0_2
  go_wp2_with fail
  refine (laws_eqIntS _ _ _ _ _ _ (FAt_of_own oG) (FAt_of_own oW) hlen).mono ?_
  rintro e u5 ⟨rfl, hb5⟩
  replace oW := own_below oW hb5
  replace oG := own_below oG hb5
  replace hV := below_step hV hb5
  clear d0; have d0 := bel_cell hV z0 v0_0
  clear d1; have d1 := bel_cell hV z0 v0_1
  clear d2; have d2 := bel_cell hV z0 v0_2
  go_wp2_with fail
  refine (laws_markIntS _ _ _ _ 1 _ oG hlen (by omega) (by omega)).mono ?_
  rintro e u6 ⟨rfl, moG, hg6⟩
  replace hV := hV.grown hg6 hV.size (fun k hk => Nat.le_trans LoG (oG.lt k hk).1)
  replace oW := oW.kept hg6 (own_apart QoW_oG oG)
  clear oG
  have oG := moG
  clear moG
  clear d0; have d0 := bel_cell hV z0 v0_0
  clear d1; have d1 := bel_cell hV z0 v0_1
  clear d2; have d2 := bel_cell hV z0 v0_2
  go_wp2_with fail
  refine (laws_heldIntS _ _ _ 1 _ (FAt_of_own oG) hlen (by omega) (by omega)).mono ?_
  rintro e _ ⟨rfl, rfl⟩
  go_wp2_with fail
  refine (laws_toBoard _ _ _ _).mono ?_
  rintro e u8 ⟨rfl, hb8⟩
  replace oW := own_below oW hb8
  replace oG := own_below oG hb8
  replace hV := below_step hV hb8
  clear d0; have d0 := bel_cell hV z0 v0_0
  clear d1; have d1 := bel_cell hV z0 v0_1
  clear d2; have d2 := bel_cell hV z0 v0_2
  go_wp2_with fail
  have LoH := hV.size
  have QoW_oH := own_top oW
  have QoG_oH := own_top oG
  refine (impl_RowWeights _ _ _ _ _).mono ?_
  rintro e u9 ⟨A2, c2, rfl, oH, hb9⟩
  replace oW := own_below oW hb9
  replace oG := own_below oG hb9
  replace hV := below_step hV hb9
  clear d0; have d0 := bel_cell hV z0 v0_0
  clear d1; have d1 := bel_cell hV z0 v0_1
  clear d2; have d2 := bel_cell hV z0 v0_2
  go_wp2_with fail
  refine (laws_eqIntS _ _ _ _ _ _ (FAt_of_own oH) (FAt_of_own oW) hlen).mono ?_
  rintro e u10 ⟨rfl, hb10⟩
  replace oW := own_below oW hb10
  replace oG := own_below oG hb10
  replace oH := own_below oH hb10
  replace hV := below_step hV hb10
  clear d0; have d0 := bel_cell hV z0 v0_0
  clear d1; have d1 := bel_cell hV z0 v0_1
  clear d2; have d2 := bel_cell hV z0 v0_2
  go_wp2_with fail
  refine (laws_heldIntS _ _ _ 1 _ (FAt_of_own oG) hlen (by omega) (by omega)).mono ?_
  rintro e _ ⟨rfl, rfl⟩
  go_wp2
  go_ret
  exact ⟨by simp, below_step v0 hV⟩
end Go.Proofs.Ytjcjmgfecmgmjaa
