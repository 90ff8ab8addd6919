/- Laws: games turned. -/
import Derived.Test.YtnobnahngjbmfaaLineS
import Derived.Test.YtnobnahngjbmfaaLiftL
import Derived.Test.YtnobnahngjbmfaaLiftD
namespace Go.Proofs.Ytnobnahngjbmfaa
open Go.RowKit

theorem own_capL {w : World} {lo e s n cap : Nat} {A : Option Addr} {cs : List Value} (h : w.ownsRow lo e s (.slice A n cap) n cs) : n ≤ cap := by
  rcases h.2 with ⟨_, rfl⟩ | ⟨g, cap', cur, h, _, _, hle, _⟩
  · exact Nat.zero_le _
  · injection h with _ _ h; omega
theorem impl_TurnGameR (A : Option Addr) (cap : Nat) (zs : List (Int × Int × Int)) (w : World) (hA : FAt w A (lflat zs)) (hn : zs.length ≤ 4294967296) {R : List (Int × Int × Int)} (hR : zs.reverse = R) :
    Calls Try.prog 43 #[.slice A zs.length cap] w (RetOwn 61 3 w R.length (lflat R)) := by
  subst hR; rw [List.length_reverse]; exact impl_TurnGame A cap zs w hA hn
theorem spec_TurnGameR (A : Option Addr) (cap : Nat) (zs : List (Int × Int × Int)) (w : World) (hA : FAt w A (lflat zs)) (hn : zs.length ≤ 4294967296) {R : List (Int × Int × Int)} (hR : zs.reverse = R) :
    Calls Try.prog 41 #[.slice A zs.length cap] w (RetOwn 61 3 w R.length (lflat R)) := by
  subst hR; rw [List.length_reverse]; exact spec_TurnGame A cap zs w hA hn
set_option maxHeartbeats 4000000 in
theorem law_FnExactTurnGame (A : Option Addr) (C : Nat) (zs : List (Int × Int × Int)) (w : World) (hAm : FAt w A (lflat zs) ∧ zs.length ≤ maxLen) :
    Calls Try.prog 14 #[.slice A zs.length C] w fun e w' => e = .returned (.bool true) ∧ Below w.heap.size w w' := by
  obtain ⟨hA, hmax⟩ := hAm
  have hmx : zs.length ≤ 9223372036854775807 := by simp only [maxLen] at hmax; omega
  clear hmax
  by_cases hbig : 1048576 < zs.length
  · go_enter Try.func14, Try.ntmps14
    go_wp2_with fail
    refine (szL_big _ _ _ _ hmx hbig).mono ?_
    rintro e w1 ⟨rfl, hb1⟩
    go_wp2
    go_ret
    exact ⟨rfl, by (repeat (first | exact Below.refl _ _ | assumption | refine below_step ?_ (by assumption) | refine below_alloc ?_ _ | refine below_drewN ?_ _ | refine Below.drew ?_ | refine Below.setCell ?_ (by first | (simp; done) | omega | (simp; omega)) _))⟩
  have hnz : zs.length ≤ 4294967296 := by omega
  obtain ⟨R, hR⟩ : ∃ R, zs.reverse = R := ⟨_, rfl⟩
  have hnr : R.length ≤ 4294967296 := by rw [← hR, List.length_reverse]; exact hnz
  have HR := Lib.hid hR
  clear hR
  go_enter Try.func14, Try.ntmps14
  have v0 := Below.refl w.heap.size w
  have hV := Below.refl w.heap.size w
  go_wp2_with fail
  refine (szL_small _ _ _ _ hmx hbig).mono ?_
  rintro e u1 ⟨rfl, hb1⟩
  replace hV := below_step hV hb1
  go_wp2_with fail
  have LoA := hV.size
  refine (laws_toLineS _ _ _ _ (hA.below (below_step v0 hV)) hnz).mono ?_
  rintro e u2 ⟨AoA, coA, rfl, oA, hb2⟩
  replace hV := below_step hV hb2
  go_wp2_with fail
  have LoW := hV.size
  have QoA_oW := own_top oA
  refine (spec_TurnGameR _ _ _ _ (FAt_of_own oA) hnz HR.out).mono ?_
  rintro e u3 ⟨AoW, coW, rfl, oW, hb3⟩
  replace oA := own_below oA hb3
  replace hV := below_step hV hb3
  go_wp2_with fail
  have LoX := hV.size
  have QoA_oX := own_top oA
  have QoW_oX := own_top oW
  refine (laws_toLineS _ _ _ _ (hA.below (below_step v0 hV)) hnz).mono ?_
  rintro e u4 ⟨AoX, coX, rfl, oX, hb4⟩
  replace oA := own_below oA hb4
  replace oW := own_below oW hb4
  replace hV := below_step hV hb4
  go_wp2_with fail
  have LoG := hV.size
  have QoA_oG := own_top oA
  have QoW_oG := own_top oW
  have QoX_oG := own_top oX
  refine (impl_TurnGameR _ _ _ _ (FAt_of_own oX) hnz HR.out).mono ?_
  rintro e u5 ⟨AoG, coG, rfl, oG, hb5⟩
  replace oA := own_below oA hb5
  replace oW := own_below oW hb5
  replace oX := own_below oX hb5
  replace hV := below_step hV hb5
  go_wp2_with fail
  refine (laws_eqLineS _ _ _ _ R _ (FAt_of_own oG) (FAt_of_own oW) hnr).mono ?_
  rintro e u6 ⟨rfl, hb6⟩
  replace oA := own_below oA hb6
  replace oW := own_below oW hb6
  replace oX := own_below oX hb6
  replace oG := own_below oG hb6
  replace hV := below_step hV hb6
  go_wp2_with fail
  have LoY := hV.size
  have QoA_oY := own_top oA
  have QoW_oY := own_top oW
  have QoX_oY := own_top oX
  have QoG_oY := own_top oG
  refine (laws_toLineS _ _ _ _ (hA.below (below_step v0 hV)) hnz).mono ?_
  rintro e u7 ⟨AoY, coY, rfl, oY, hb7⟩
  replace oA := own_below oA hb7
  replace oW := own_below oW hb7
  replace oX := own_below oX hb7
  replace oG := own_below oG hb7
  replace hV := below_step hV hb7
  go_wp2_with fail
  refine (laws_eqLineS _ _ _ _ zs _ (FAt_of_own oX) (FAt_of_own oY) hnz).mono ?_
  rintro e u8 ⟨rfl, hb8⟩
  replace oA := own_below oA hb8
  replace oW := own_below oW hb8
  replace oX := own_below oX hb8
  replace oG := own_below oG hb8
  replace oY := own_below oY hb8
  replace hV := below_step hV hb8
  go_wp2_with fail
  refine (laws_markLineS _ _ _ (zs.length) _ 1 _ oX hnz (by omega) (by omega)).mono ?_
  rintro e u9 ⟨rfl, moX, hg9⟩
  replace hV := hV.grown hg9 hV.size (fun k hk => Nat.le_trans LoX (oX.lt k hk).1)
  replace oA := oA.kept hg9 (own_apart QoA_oX oX)
  replace oW := oW.kept hg9 (own_apart QoW_oX oX)
  replace oG := oG.kept hg9 (own_apart' QoX_oG oG)
  replace oY := oY.kept hg9 (own_apart' QoX_oY oY)
  clear oX
  have oX := moX
  clear moX
  go_wp2_with fail
  refine (laws_eqLineS _ _ _ _ R _ (FAt_of_own oG) (FAt_of_own oW) hnr).mono ?_
  rintro e u10 ⟨rfl, hb10⟩
  replace oA := own_below oA hb10
  replace oW := own_below oW hb10
  replace oX := own_below oX hb10
  replace oG := own_below oG hb10
  replace oY := own_below oY hb10
  replace hV := below_step hV hb10
  go_wp2_with fail
  refine (laws_markLineS _ _ _ (R.length) _ 1 _ oG hnr (by omega) (by omega)).mono ?_
  rintro e u11 ⟨rfl, moG, hg11⟩
  replace hV := hV.grown hg11 hV.size (fun k hk => Nat.le_trans LoG (oG.lt k hk).1)
  replace oA := oA.kept hg11 (own_apart QoA_oG oG)
  replace oW := oW.kept hg11 (own_apart QoW_oG oG)
  replace oX := oX.kept hg11 (own_apart QoX_oG oG)
  replace oY := oY.kept hg11 (own_apart' QoG_oY oY)
  clear oG
  have oG := moG
  clear moG
  go_wp2_with fail
  refine (laws_heldLineS _ _ (R.length) 1 _ (FAt_of_own oG) hnr (by omega) (by omega)).mono ?_
  rintro e _ ⟨rfl, rfl⟩
  go_wp2_with fail
  have LoZ := hV.size
  have QoA_oZ := own_top oA
  have QoW_oZ := own_top oW
  have QoX_oZ := own_top oX
  have QoG_oZ := own_top oG
  have QoY_oZ := own_top oY
  refine (laws_toLineS _ _ _ _ (hA.below (below_step v0 hV)) hnz).mono ?_
  rintro e u13 ⟨AoZ, coZ, rfl, oZ, hb13⟩
  replace oA := own_below oA hb13
  replace oW := own_below oW hb13
  replace oX := own_below oX hb13
  replace oG := own_below oG hb13
  replace oY := own_below oY hb13
  replace hV := below_step hV hb13
  go_wp2_with fail
  have LoH := hV.size
  have QoA_oH := own_top oA
  have QoW_oH := own_top oW
  have QoX_oH := own_top oX
  have QoG_oH := own_top oG
  have QoY_oH := own_top oY
  have QoZ_oH := own_top oZ
  refine (impl_TurnGameR _ _ _ _ (FAt_of_own oZ) hnz HR.out).mono ?_
  rintro e u14 ⟨AoH, coH, rfl, oH, hb14⟩
  replace oA := own_below oA hb14
  replace oW := own_below oW hb14
  replace oX := own_below oX hb14
  replace oG := own_below oG hb14
  replace oY := own_below oY hb14
  replace oZ := own_below oZ hb14
  replace hV := below_step hV hb14
  go_wp2_with fail
  refine (laws_eqLineS _ _ _ _ R _ (FAt_of_own oH) (FAt_of_own oW) hnr).mono ?_
  rintro e u15 ⟨rfl, hb15⟩
  replace oA := own_below oA hb15
  replace oW := own_below oW hb15
  replace oX := own_below oX hb15
  replace oG := own_below oG hb15
  replace oY := own_below oY hb15
  replace oZ := own_below oZ hb15
  replace oH := own_below oH hb15
  replace hV := below_step hV hb15
  go_wp2_with fail
  refine (laws_heldLineS _ _ (R.length) 1 _ (FAt_of_own oG) hnr (by omega) (by omega)).mono ?_
  rintro e _ ⟨rfl, rfl⟩
  go_wp2
  go_ret
  exact ⟨by simp, below_step v0 hV⟩
end Go.Proofs.Ytnobnahngjbmfaa
