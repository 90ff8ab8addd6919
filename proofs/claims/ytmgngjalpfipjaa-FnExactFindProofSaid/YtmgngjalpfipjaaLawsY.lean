/- Laws: the search for a proof by weights. -/
import Derived.Test.YtmgngjalpfipjaaFindP
import Derived.Test.YtmgngjalpfipjaaBoard
import Derived.Test.YtmgngjalpfipjaaLiftD
namespace Go.Proofs.Ytmgngjalpfipjaa
open Go.RowKit

set_option maxHeartbeats 2000000 in
theorem law_FnExactFindProof (W H X p q : Int) (w : World) (_hW : R64 W) (_hH : R64 H) (_hX : R64 X) (hp : R64 p) (hq : R64 q) :
    Calls Try.prog 13 #[.agg #[.int .i64 W, .int .i64 H, .int .i64 X], .int .i64 p, .int .i64 q] w fun e w' => e = .returned (.bool true) ∧ Below w.heap.size w w' := by
  go_enter Try.func13, Try.ntmps13
  have hlen : (findW W H X p q).length ≤ 4294967296 := findW_len _ _ _ _ _
  go_wp2_with fail
  generalize hV : w.alloc (.cells #[.int .i64 W, .int .i64 H, .int .i64 X] 36) = V
  have v0 : Below w.heap.size w V := by subst hV; (repeat (first | exact Below.refl _ _ | assumption | refine below_step ?_ (by assumption) | refine below_alloc ?_ _ | refine below_drewN ?_ _ | refine Below.drew ?_ | refine Below.setCell ?_ (by first | (simp; done) | omega | (simp; omega)) _))
  have z0 : w.heap.size < V.heap.size := by subst hV; simp <;> omega
  have v0_0 : V.cell? ⟨w.heap.size, 0, none⟩ = some (.int .i64 W) := by subst hV; simp
  have v0_1 : V.cell? ⟨w.heap.size, 1, none⟩ = some (.int .i64 H) := by subst hV; simp
  have v0_2 : V.cell? ⟨w.heap.size, 2, none⟩ = some (.int .i64 X) := by subst hV; simp
  have K : Hid (∀ w', Below V.heap.size V w' → Below V.heap.size V w' ∧ w'.cell? ⟨w.heap.size, 0, none⟩ = some (.int .i64 W) ∧ w'.cell? ⟨w.heap.size, 1, none⟩ = some (.int .i64 H) ∧ w'.cell? ⟨w.heap.size, 2, none⟩ = some (.int .i64 X)) := fun w' hB => ⟨hB, bel_cell hB z0 v0_0, bel_cell hB z0 v0_1, bel_cell hB z0 v0_2⟩
  have ZV : Hid (w.heap.size + 1 = V.heap.size) := by subst hV; unfold Hid; simp
  clear hV
  have hV := Below.refl V.heap.size V
  have d0 := bel_cell hV z0 v0_0
  have d1 := bel_cell hV z0 v0_1
  have d2 := bel_cell hV z0 v0_2
  refine (laws_toBoard _ _ _ _).mono ?_
  rintro e u1 ⟨rfl, hb1⟩
  replace hV := below_step hV hb1
  clear d0; have d0 := bel_cell hV z0 v0_0
  clear d1; have d1 := bel_cell hV z0 v0_1
  clear d2; have d2 := bel_cell hV z0 v0_2
  go_wp2_with fail
  have LoW := hV.size
  refine (spec_FindProof _ _ _ _ _ _ hp.2 hq.2).mono ?_
  rintro e u2 ⟨A0, c0, rfl, oW, hb2⟩
  replace hV := below_step hV hb2
  clear d0; have d0 := bel_cell hV z0 v0_0
  clear d1; have d1 := bel_cell hV z0 v0_1
  clear d2; have d2 := bel_cell hV z0 v0_2
  go_wp2_with fail
  refine (laws_toBoard _ _ _ _).mono ?_
  rintro e u3 ⟨rfl, hb3⟩
  replace oW := own_below oW hb3
  replace hV := below_step hV hb3
  clear d0; have d0 := bel_cell hV z0 v0_0
  clear d1; have d1 := bel_cell hV z0 v0_1
  clear d2; have d2 := bel_cell hV z0 v0_2
  go_wp2_with fail
  have LoG := hV.size
  have QoW_oG := own_top oW
  refine (impl_FindProof _ _ _ _ _ _ hp.2 hq.2).mono ?_
  rintro e u4 ⟨A1, c1, rfl, oG, hb4⟩
  replace oW := own_below oW hb4
  replace hV := below_step hV hb4
  clear d0; have d0 := bel_cell hV z0 v0_0
  clear d1; have d1 := bel_cell hV z0 v0_1
  clear d2; have d2 := bel_cell hV z0 v0_2
  go_wp2_with fail
  refine (laws_eqIntS _ _ _ _ _ _ (FAt_of_own oG) (FAt_of_own oW) hlen).mono ?_
  rintro e u5 ⟨rfl, hb5⟩
  replace oW := own_below oW hb5
  replace oG := own_below oG hb5
  replace hV := below_step hV hb5
  clear d0; have d0 := bel_cell hV z0 v0_0
  clear d1; have d1 := bel_cell hV z0 v0_1
  clear d2; have d2 := bel_cell hV z0 v0_2
  go_wp2_with fail
  refine (laws_markIntS _ _ _ _ 1 _ oG hlen (by omega) (by omega)).mono ?_
  rintro e u6 ⟨rfl, moG, hg6⟩
  replace hV := hV.grown hg6 hV.size (fun k hk => Nat.le_trans LoG (oG.lt k hk).1)
  replace oW := oW.kept hg6 (own_apart QoW_oG oG)
  clear oG
  have oG := moG
  clear moG
  clear d0; have d0 := bel_cell hV z0 v0_0
  clear d1; have d1 := bel_cell hV z0 v0_1
  clear d2; have d2 := bel_cell hV z0 v0_2
  go_wp2_with fail
  refine (laws_heldIntS _ _ _ 1 _ (FAt_of_own oG) hlen (by omega) (by omega)).mono ?_
  rintro e _ ⟨rfl, rfl⟩
  go_wp2_with fail
  refine (laws_toBoard _ _ _ _).mono ?_
  rintro e u8 ⟨rfl, hb8⟩
  replace oW := own_below oW hb8
  replace oG := own_below oG hb8
  replace hV := below_step hV hb8
  clear d0; have d0 := bel_cell hV z0 v0_0
  clear d1; have d1 := bel_cell hV z0 v0_1
  clear d2; have d2 := bel_cell hV z0 v0_2
  go_wp2_with fail
  have LoH := hV.size
  have QoW_oH := own_top oW
  have QoG_oH := own_top oG
  refine (impl_FindProof _ _ _ _ _ _ hp.2 hq.2).mono ?_
  rintro e u9 ⟨A2, c2, rfl, oH, hb9⟩
  replace oW := own_below oW hb9
  replace oG := own_below oG hb9
  replace hV := below_step hV hb9
  clear d0; have d0 := bel_cell hV z0 v0_0
  clear d1; have d1 := bel_cell hV z0 v0_1
  clear d2; have d2 := bel_cell hV z0 v0_2
  go_wp2_with fail
  refine (laws_eqIntS _ _ _ _ _ _ (FAt_of_own oH) (FAt_of_own oW) hlen).mono ?_
  rintro e u10 ⟨rfl, hb10⟩
  replace oW := own_below oW hb10
  replace oG := own_below oG hb10
  replace oH := own_below oH hb10
  replace hV := below_step hV hb10
  clear d0; have d0 := bel_cell hV z0 v0_0
  clear d1; have d1 := bel_cell hV z0 v0_1
  clear d2; have d2 := bel_cell hV z0 v0_2
  go_wp2_with fail
  refine (laws_heldIntS _ _ _ 1 _ (FAt_of_own oG) hlen (by omega) (by omega)).mono ?_
  rintro e _ ⟨rfl, rfl⟩
  go_wp2
  go_ret
  exact ⟨by simp, below_step v0 hV⟩
end Go.Proofs.Ytmgngjalpfipjaa
