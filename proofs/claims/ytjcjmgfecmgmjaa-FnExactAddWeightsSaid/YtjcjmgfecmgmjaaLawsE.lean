/- Laws: sums of weight lists. -/
import Derived.Test.YtjcjmgfecmgmjaaAddW
import Derived.Test.YtjcjmgfecmgmjaaBoard
import Derived.Test.YtjcjmgfecmgmjaaLiftD
namespace Go.Proofs.Ytjcjmgfecmgmjaa
open Go.RowKit

theorem addWs_small {W H X : Int} {v u : List Int} (h : v.length ≤ 4294967296) : (addWs W H X v u).length ≤ 4294967296 := by
  unfold addWs; split
  · rw [addW_len]; exact h
  · simp
set_option maxHeartbeats 3000000 in
theorem law_FnExactAddWeights (W H X : Int) (A : Option Addr) (C : Nat) (v : List Int) (D : Option Addr) (E : Nat) (u : List Int) (w : World) (hW : R64 W) (hH : R64 H) (hX : R64 X) (hA : FAt w A v) (hD : FAt w D u) :
    Calls Try.prog 11 #[.agg #[.int .i64 W, .int .i64 H, .int .i64 X], .slice A v.length C, .slice D u.length E] w fun e w' => e = .returned (.bool true) ∧ Below w.heap.size w w' := by
  by_cases hbigv : 1048576 < v.length
  · go_enter Try.func11, Try.ntmps11
    go_wp2
    go_ret
    exact ⟨rfl, by (repeat (first | exact Below.refl _ _ | assumption | refine below_step ?_ (by assumption) | refine below_alloc ?_ _ | refine below_drewN ?_ _ | refine Below.drew ?_ | refine Below.setCell ?_ (by first | (simp; done) | omega | (simp; omega)) _))⟩
  by_cases hbigu : 1048576 < u.length
  · go_enter Try.func11, Try.ntmps11
    go_wp2
    go_ret
    exact ⟨rfl, by (repeat (first | exact Below.refl _ _ | assumption | refine below_step ?_ (by assumption) | refine below_alloc ?_ _ | refine below_drewN ?_ _ | refine Below.drew ?_ | refine Below.setCell ?_ (by first | (simp; done) | omega | (simp; omega)) _))⟩
  have hnv : v.length ≤ 4294967296 := by omega
  have hnu : u.length ≤ 4294967296 := by omega
  go_enter Try.func11, Try.ntmps11
  go_wp2_with fail
  generalize hV : w.alloc (.cells #[.int .i64 W, .int .i64 H, .int .i64 X] 40) = V
  have v0 : Below w.heap.size w V := by subst hV; (repeat (first | exact Below.refl _ _ | assumption | refine below_step ?_ (by assumption) | refine below_alloc ?_ _ | refine below_drewN ?_ _ | refine Below.drew ?_ | refine Below.setCell ?_ (by first | (simp; done) | omega | (simp; omega)) _))
  have z0 : w.heap.size < V.heap.size := by subst hV; simp <;> omega
  have v0_0 : V.cell? ⟨w.heap.size, 0, none⟩ = some (.int .i64 W) := by subst hV; simp
  have v0_1 : V.cell? ⟨w.heap.size, 1, none⟩ = some (.int .i64 H) := by subst hV; simp
  have v0_2 : V.cell? ⟨w.heap.size, 2, none⟩ = some (.int .i64 X) := by subst hV; simp
  have K : Hid (∀ w', Below V.heap.size V w' → Below V.heap.size V w' ∧ w'.cell? ⟨w.heap.size, 0, none⟩ = some (.int .i64 W) ∧ w'.cell? ⟨w.heap.size, 1, none⟩ = some (.int .i64 H) ∧ w'.cell? ⟨w.heap.size, 2, none⟩ = some (.int .i64 X)) := fun w' hB => ⟨hB, bel_cell hB z0 v0_0, bel_cell hB z0 v0_1, bel_cell hB z0 v0_2⟩
  have ZV : Hid (w.heap.size + 1 = V.heap.size) := by subst hV; unfold Hid; simp
  clear hV
  have hV := Below.refl V.heap.size V
  have d0 := bel_cell hV z0 v0_0
  have d1 := bel_cell hV z0 v0_1
  have d2 := bel_cell hV z0 v0_2
  have hlen := addWs_small (W := W) (H := H) (X := X) (u := u) hnv
  refine (laws_toBoard _ _ _ _).mono ?_
  rintro e u1 ⟨rfl, hb1⟩
  replace hV := below_step hV hb1
  clear d0; have d0 := bel_cell hV z0 v0_0
  clear d1; have d1 := bel_cell hV z0 v0_1
  clear d2; have d2 := bel_cell hV z0 v0_2
  go_wp2_with fail
  have LoA := hV.size
  refine (laws_toIntS _ _ _ _ (hA.below (below_step v0 hV)) hnv).mono ?_
  rintro e u2 ⟨AoA, coA, rfl, oA, hb2⟩
  replace hV := below_step hV hb2
  clear d0; have d0 := bel_cell hV z0 v0_0
  clear d1; have d1 := bel_cell hV z0 v0_1
  clear d2; have d2 := bel_cell hV z0 v0_2
  go_wp2_with fail
  have LoB := hV.size
  have QoA_oB := own_top oA
  refine (laws_toIntS _ _ _ _ (hD.below (below_step v0 hV)) hnu).mono ?_
  rintro e u3 ⟨AoB, coB, rfl, oB, hb3⟩
  replace oA := own_below oA hb3
  replace hV := below_step hV hb3
  clear d0; have d0 := bel_cell hV z0 v0_0
  clear d1; have d1 := bel_cell hV z0 v0_1
  clear d2; have d2 := bel_cell hV z0 v0_2
  go_wp2_with fail
  have LoW := hV.size
  have QoA_oW := own_top oA
  have QoB_oW := own_top oB
  refine (spec_AddWeights _ _ _ _ _ _ _ _ _ _ (FAt_of_own oA) hnv (FAt_of_own oB) hnu).mono ?_
  rintro e u4 ⟨A0, c0, rfl, oW, hb4⟩
  replace oA := own_below oA hb4
  replace oB := own_below oB hb4
  replace hV := below_step hV hb4
  clear d0; have d0 := bel_cell hV z0 v0_0
  clear d1; have d1 := bel_cell hV z0 v0_1
  clear d2; have d2 := bel_cell hV z0 v0_2
  go_wp2_with fail
  have LoX := hV.size
  have QoA_oX := own_top oA
  have QoB_oX := own_top oB
  have QoW_oX := own_top oW
  refine (laws_toIntS _ _ _ _ (hA.below (below_step v0 hV)) hnv).mono ?_
  rintro e u5 ⟨AoX, coX, rfl, oX, hb5⟩
  replace oA := own_below oA hb5
  replace oB := own_below oB hb5
  replace oW := own_below oW hb5
  replace hV := below_step hV hb5
  clear d0; have d0 := bel_cell hV z0 v0_0
  clear d1; have d1 := bel_cell hV z0 v0_1
  clear d2; have d2 := bel_cell hV z0 v0_2
  go_wp2_with fail
  have LoY := hV.size
  have QoA_oY := own_top oA
  have QoB_oY := own_top oB
  have QoW_oY := own_top oW
  have QoX_oY := own_top oX
  refine (laws_toIntS _ _ _ _ (hD.below (below_step v0 hV)) hnu).mono ?_
  rintro e u6 ⟨AoY, coY, rfl, oY, hb6⟩
  replace oA := own_below oA hb6
  replace oB := own_below oB hb6
  replace oW := own_below oW hb6
  replace oX := own_below oX hb6
  replace hV := below_step hV hb6
  clear d0; have d0 := bel_cell hV z0 v0_0
  clear d1; have d1 := bel_cell hV z0 v0_1
  clear d2; have d2 := bel_cell hV z0 v0_2
  go_wp2_with fail
  refine (laws_toBoard _ _ _ _).mono ?_
  rintro e u7 ⟨rfl, hb7⟩
  replace oA := own_below oA hb7
  replace oB := own_below oB hb7
  replace oW := own_below oW hb7
  replace oX := own_below oX hb7
  replace oY := own_below oY hb7
  replace hV := below_step hV hb7
  clear d0; have d0 := bel_cell hV z0 v0_0
  clear d1; have d1 := bel_cell hV z0 v0_1
  clear d2; have d2 := bel_cell hV z0 v0_2
  go_wp2_with fail
  have LoG := hV.size
  have QoA_oG := own_top oA
  have QoB_oG := own_top oB
  have QoW_oG := own_top oW
  have QoX_oG := own_top oX
  have QoY_oG := own_top oY
  refine (impl_AddWeights _ _ _ _ _ _ _ _ _ _ (FAt_of_own oX) hnv (FAt_of_own oY) hnu).mono ?_
  rintro e u8 ⟨A1, c1, rfl, oG, hb8⟩
  replace oA := own_below oA hb8
  replace oB := own_below oB hb8
  replace oW := own_below oW hb8
  replace oX := own_below oX hb8
  replace oY := own_below oY hb8
  replace hV := below_step hV hb8
  clear d0; have d0 := bel_cell hV z0 v0_0
  clear d1; have d1 := bel_cell hV z0 v0_1
  clear d2; have d2 := bel_cell hV z0 v0_2
  go_wp2_with fail
  refine (laws_eqIntS _ _ _ _ _ _ (FAt_of_own oG) (FAt_of_own oW) hlen).mono ?_
  rintro e u9 ⟨rfl, hb9⟩
  replace oA := own_below oA hb9
  replace oB := own_below oB hb9
  replace oW := own_below oW hb9
  replace oX := own_below oX hb9
  replace oY := own_below oY hb9
  replace oG := own_below oG hb9
  replace hV := below_step hV hb9
  clear d0; have d0 := bel_cell hV z0 v0_0
  clear d1; have d1 := bel_cell hV z0 v0_1
  clear d2; have d2 := bel_cell hV z0 v0_2
  go_wp2_with fail
  have LoP := hV.size
  have QoA_oP := own_top oA
  have QoB_oP := own_top oB
  have QoW_oP := own_top oW
  have QoX_oP := own_top oX
  have QoY_oP := own_top oY
  have QoG_oP := own_top oG
  refine (laws_toIntS _ _ _ _ (hA.below (below_step v0 hV)) hnv).mono ?_
  rintro e u10 ⟨AoP, coP, rfl, oP, hb10⟩
  replace oA := own_below oA hb10
  replace oB := own_below oB hb10
  replace oW := own_below oW hb10
  replace oX := own_below oX hb10
  replace oY := own_below oY hb10
  replace oG := own_below oG hb10
  replace hV := below_step hV hb10
  clear d0; have d0 := bel_cell hV z0 v0_0
  clear d1; have d1 := bel_cell hV z0 v0_1
  clear d2; have d2 := bel_cell hV z0 v0_2
  go_wp2_with fail
  refine (laws_eqIntS _ _ _ _ _ _ (FAt_of_own oX) (FAt_of_own oP) hnv).mono ?_
  rintro e u11 ⟨rfl, hb11⟩
  replace oA := own_below oA hb11
  replace oB := own_below oB hb11
  replace oW := own_below oW hb11
  replace oX := own_below oX hb11
  replace oY := own_below oY hb11
  replace oG := own_below oG hb11
  replace oP := own_below oP hb11
  replace hV := below_step hV hb11
  clear d0; have d0 := bel_cell hV z0 v0_0
  clear d1; have d1 := bel_cell hV z0 v0_1
  clear d2; have d2 := bel_cell hV z0 v0_2
  go_wp2_with fail
  have LoQ := hV.size
  have QoA_oQ := own_top oA
  have QoB_oQ := own_top oB
  have QoW_oQ := own_top oW
  have QoX_oQ := own_top oX
  have QoY_oQ := own_top oY
  have QoG_oQ := own_top oG
  have QoP_oQ := own_top oP
  refine (laws_toIntS _ _ _ _ (hD.below (below_step v0 hV)) hnu).mono ?_
  rintro e u12 ⟨AoQ, coQ, rfl, oQ, hb12⟩
  replace oA := own_below oA hb12
  replace oB := own_below oB hb12
  replace oW := own_below oW hb12
  replace oX := own_below oX hb12
  replace oY := own_below oY hb12
  replace oG := own_below oG hb12
  replace oP := own_below oP hb12
  replace hV := below_step hV hb12
  clear d0; have d0 := bel_cell hV z0 v0_0
  clear d1; have d1 := bel_cell hV z0 v0_1
  clear d2; have d2 := bel_cell hV z0 v0_2
  go_wp2_with fail
  refine (laws_eqIntS _ _ _ _ _ _ (FAt_of_own oY) (FAt_of_own oQ) hnu).mono ?_
  rintro e u13 ⟨rfl, hb13⟩
  replace oA := own_below oA hb13
  replace oB := own_below oB hb13
  replace oW := own_below oW hb13
  replace oX := own_below oX hb13
  replace oY := own_below oY hb13
  replace oG := own_below oG hb13
  replace oP := own_below oP hb13
  replace oQ := own_below oQ hb13
  replace hV := below_step hV hb13
  clear d0; have d0 := bel_cell hV z0 v0_0
  clear d1; have d1 := bel_cell hV z0 v0_1
  clear d2; have d2 := bel_cell hV z0 v0_2
  go_wp2_with fail
  refine (laws_markIntS _ _ _ _ 1 _ oX hnv (by omega) (by omega)).mono ?_
  rintro e u14 ⟨rfl, moX, hg14⟩
  replace hV := hV.grown hg14 hV.size (fun k hk => Nat.le_trans LoX (oX.lt k hk).1)
  replace oA := oA.kept hg14 (own_apart QoA_oX oX)
  replace oB := oB.kept hg14 (own_apart QoB_oX oX)
  replace oW := oW.kept hg14 (own_apart QoW_oX oX)
  replace oY := oY.kept hg14 (own_apart' QoX_oY oY)
  replace oG := oG.kept hg14 (own_apart' QoX_oG oG)
  replace oP := oP.kept hg14 (own_apart' QoX_oP oP)
  replace oQ := oQ.kept hg14 (own_apart' QoX_oQ oQ)
  clear oX
  have oX := moX
  clear moX
  clear d0; have d0 := bel_cell hV z0 v0_0
  clear d1; have d1 := bel_cell hV z0 v0_1
  clear d2; have d2 := bel_cell hV z0 v0_2
  go_wp2_with fail
  refine (laws_markIntS _ _ _ _ (1 + (v.length : Int)) _ oY hnu (by omega) (by omega)).mono ?_
  rintro e u15 ⟨rfl, moY, hg15⟩
  replace hV := hV.grown hg15 hV.size (fun k hk => Nat.le_trans LoY (oY.lt k hk).1)
  replace oA := oA.kept hg15 (own_apart QoA_oY oY)
  replace oB := oB.kept hg15 (own_apart QoB_oY oY)
  replace oW := oW.kept hg15 (own_apart QoW_oY oY)
  replace oX := oX.kept hg15 (own_apart QoX_oY oY)
  replace oG := oG.kept hg15 (own_apart' QoY_oG oG)
  replace oP := oP.kept hg15 (own_apart' QoY_oP oP)
  replace oQ := oQ.kept hg15 (own_apart' QoY_oQ oQ)
  clear oY
  have oY := moY
  clear moY
  clear d0; have d0 := bel_cell hV z0 v0_0
  clear d1; have d1 := bel_cell hV z0 v0_1
  clear d2; have d2 := bel_cell hV z0 v0_2
  go_wp2_with fail
  refine (laws_eqIntS _ _ _ _ _ _ (FAt_of_own oG) (FAt_of_own oW) hlen).mono ?_
  rintro e u16 ⟨rfl, hb16⟩
  replace oA := own_below oA hb16
  replace oB := own_below oB hb16
  replace oW := own_below oW hb16
  replace oX := own_below oX hb16
  replace oY := own_below oY hb16
  replace oG := own_below oG hb16
  replace oP := own_below oP hb16
  replace oQ := own_below oQ hb16
  replace hV := below_step hV hb16
  clear d0; have d0 := bel_cell hV z0 v0_0
  clear d1; have d1 := bel_cell hV z0 v0_1
  clear d2; have d2 := bel_cell hV z0 v0_2
  go_wp2_with fail
  refine (laws_markIntS _ _ _ _ 1 _ oG hlen (by omega) (by omega)).mono ?_
  rintro e u17 ⟨rfl, moG, hg17⟩
  replace hV := hV.grown hg17 hV.size (fun k hk => Nat.le_trans LoG (oG.lt k hk).1)
  replace oA := oA.kept hg17 (own_apart QoA_oG oG)
  replace oB := oB.kept hg17 (own_apart QoB_oG oG)
  replace oW := oW.kept hg17 (own_apart QoW_oG oG)
  replace oX := oX.kept hg17 (own_apart QoX_oG oG)
  replace oY := oY.kept hg17 (own_apart QoY_oG oG)
  replace oP := oP.kept hg17 (own_apart' QoG_oP oP)
  replace oQ := oQ.kept hg17 (own_apart' QoG_oQ oQ)
  clear oG
  have oG := moG
  clear moG
  clear d0; have d0 := bel_cell hV z0 v0_0
  clear d1; have d1 := bel_cell hV z0 v0_1
  clear d2; have d2 := bel_cell hV z0 v0_2
  go_wp2_with fail
  refine (laws_heldIntS _ _ _ 1 _ (FAt_of_own oG) hlen (by omega) (by omega)).mono ?_
  rintro e _ ⟨rfl, rfl⟩
  go_wp2_with fail
  refine (laws_toBoard _ _ _ _).mono ?_
  rintro e u19 ⟨rfl, hb19⟩
  replace oA := own_below oA hb19
  replace oB := own_below oB hb19
  replace oW := own_below oW hb19
  replace oX := own_below oX hb19
  replace oY := own_below oY hb19
  replace oG := own_below oG hb19
  replace oP := own_below oP hb19
  replace oQ := own_below oQ hb19
  replace hV := below_step hV hb19
  clear d0; have d0 := bel_cell hV z0 v0_0
  clear d1; have d1 := bel_cell hV z0 v0_1
  clear d2; have d2 := bel_cell hV z0 v0_2
  go_wp2_with fail
  have LoR := hV.size
  have QoA_oR := own_top oA
  have QoB_oR := own_top oB
  have QoW_oR := own_top oW
  have QoX_oR := own_top oX
  have QoY_oR := own_top oY
  have QoG_oR := own_top oG
  have QoP_oR := own_top oP
  have QoQ_oR := own_top oQ
  refine (laws_toIntS _ _ _ _ (hA.below (below_step v0 hV)) hnv).mono ?_
  rintro e u20 ⟨AoR, coR, rfl, oR, hb20⟩
  replace oA := own_below oA hb20
  replace oB := own_below oB hb20
  replace oW := own_below oW hb20
  replace oX := own_below oX hb20
  replace oY := own_below oY hb20
  replace oG := own_below oG hb20
  replace oP := own_below oP hb20
  replace oQ := own_below oQ hb20
  replace hV := below_step hV hb20
  clear d0; have d0 := bel_cell hV z0 v0_0
  clear d1; have d1 := bel_cell hV z0 v0_1
  clear d2; have d2 := bel_cell hV z0 v0_2
  go_wp2_with fail
  have LoS := hV.size
  have QoA_oS := own_top oA
  have QoB_oS := own_top oB
  have QoW_oS := own_top oW
  have QoX_oS := own_top oX
  have QoY_oS := own_top oY
  have QoG_oS := own_top oG
  have QoP_oS := own_top oP
  have QoQ_oS := own_top oQ
  have QoR_oS := own_top oR
  refine (laws_toIntS _ _ _ _ (hD.below (below_step v0 hV)) hnu).mono ?_
  rintro e u21 ⟨AoS, coS, rfl, oS, hb21⟩
  replace oA := own_below oA hb21
  replace oB := own_below oB hb21
  replace oW := own_below oW hb21
  replace oX := own_below oX hb21
  replace oY := own_below oY hb21
  replace oG := own_below oG hb21
  replace oP := own_below oP hb21
  replace oQ := own_below oQ hb21
  replace oR := own_below oR hb21
  replace hV := below_step hV hb21
  clear d0; have d0 := bel_cell hV z0 v0_0
  clear d1; have d1 := bel_cell hV z0 v0_1
  clear d2; have d2 := bel_cell hV z0 v0_2
  go_wp2_with fail
  have LoH := hV.size
  have QoA_oH := own_top oA
  have QoB_oH := own_top oB
  have QoW_oH := own_top oW
  have QoX_oH := own_top oX
  have QoY_oH := own_top oY
  have QoG_oH := own_top oG
  have QoP_oH := own_top oP
  have QoQ_oH := own_top oQ
  have QoR_oH := own_top oR
  have QoS_oH := own_top oS
  refine (impl_AddWeights _ _ _ _ _ _ _ _ _ _ (FAt_of_own oR) hnv (FAt_of_own oS) hnu).mono ?_
  rintro e u22 ⟨A2, c2, rfl, oH, hb22⟩
  replace oA := own_below oA hb22
  replace oB := own_below oB hb22
  replace oW := own_below oW hb22
  replace oX := own_below oX hb22
  replace oY := own_below oY hb22
  replace oG := own_below oG hb22
  replace oP := own_below oP hb22
  replace oQ := own_below oQ hb22
  replace oR := own_below oR hb22
  replace oS := own_below oS hb22
  replace hV := below_step hV hb22
  clear d0; have d0 := bel_cell hV z0 v0_0
  clear d1; have d1 := bel_cell hV z0 v0_1
  clear d2; have d2 := bel_cell hV z0 v0_2
  go_wp2_with fail
  refine (laws_eqIntS _ _ _ _ _ _ (FAt_of_own oH) (FAt_of_own oW) hlen).mono ?_
  rintro e u23 ⟨rfl, hb23⟩
  replace oA := own_below oA hb23
  replace oB := own_below oB hb23
  replace oW := own_below oW hb23
  replace oX := own_below oX hb23
  replace oY := own_below oY hb23
  replace oG := own_below oG hb23
  replace oP := own_below oP hb23
  replace oQ := own_below oQ hb23
  replace oR := own_below oR hb23
  replace oS := own_below oS hb23
  replace oH := own_below oH hb23
  replace hV := below_step hV hb23
  clear d0; have d0 := bel_cell hV z0 v0_0
  clear d1; have d1 := bel_cell hV z0 v0_1
  clear d2; have d2 := bel_cell hV z0 v0_2
  go_wp2_with fail
  refine (laws_heldIntS _ _ _ 1 _ (FAt_of_own oG) hlen (by omega) (by omega)).mono ?_
  rintro e _ ⟨rfl, rfl⟩
  go_wp2
  go_ret
  exact ⟨by simp, below_step v0 hV⟩
end Go.Proofs.Ytjcjmgfecmgmjaa
