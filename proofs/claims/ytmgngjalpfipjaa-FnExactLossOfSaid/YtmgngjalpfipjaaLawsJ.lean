/- Laws: losses. -/
import Derived.Test.YtmgngjalpfipjaaLoss
import Derived.Test.YtmgngjalpfipjaaBoard
import Derived.Test.YtmgngjalpfipjaaLiftD
namespace Go.Proofs.Ytmgngjalpfipjaa
open Go.RowKit

set_option maxHeartbeats 400000 in
theorem laws_toLine (a b c : Int) (w : World) :
    Calls Try.prog 35 #[.agg #[.int .i64 a, .int .i64 b, .int .i64 c]] w fun e w' => e = .returned (.agg #[.int .i64 a, .int .i64 b, .int .i64 c]) ∧ Below w.heap.size w w' := by
  go_enter Try.func35, Try.ntmps35
  go_wp2
  exact bodyPost_ret (v := .agg #[.int .i64 a, .int .i64 b, .int .i64 c]) (by simp [results, Try.results35, go_sem]) rfl ⟨rfl, by (repeat (first | exact Below.refl _ _ | assumption | refine below_step ?_ (by assumption) | refine below_alloc ?_ _ | refine below_drewN ?_ _ | refine Below.drew ?_ | refine Below.setCell ?_ (by first | (simp; done) | omega | (simp; omega)) _))⟩
set_option maxHeartbeats 3000000 in
theorem law_FnExactLossOf (W H X : Int) (A : Option Addr) (C : Nat) (ws : List Int) (f o t : Int) (w : World) (hW : R64 W) (hH : R64 H) (hX : R64 X) (hA : FAt w A ws) (hf : R64 f) (ho : R64 o) (ht : R64 t) :
    Calls Try.prog 7 #[.agg #[.int .i64 W, .int .i64 H, .int .i64 X], .slice A ws.length C, .agg #[.int .i64 f, .int .i64 o, .int .i64 t]] w fun e w' => e = .returned (.bool true) ∧ Below w.heap.size w w' := by
  by_cases hbigws : 1048576 < ws.length
  · go_enter Try.func7, Try.ntmps7
    go_wp2
    go_ret
    exact ⟨rfl, by (repeat (first | exact Below.refl _ _ | assumption | refine below_step ?_ (by assumption) | refine below_alloc ?_ _ | refine below_drewN ?_ _ | refine Below.drew ?_ | refine Below.setCell ?_ (by first | (simp; done) | omega | (simp; omega)) _))⟩
  have hnws : ws.length ≤ 4294967296 := by omega
  go_enter Try.func7, Try.ntmps7
  go_wp2_with fail
  generalize hV : (w.alloc (.cells #[.int .i64 W, .int .i64 H, .int .i64 X] 36)).alloc (.cells #[.int .i64 f, .int .i64 o, .int .i64 t] 52) = V
  have v0 : Below w.heap.size w V := by subst hV; (repeat (first | exact Below.refl _ _ | assumption | refine below_step ?_ (by assumption) | refine below_alloc ?_ _ | refine below_drewN ?_ _ | refine Below.drew ?_ | refine Below.setCell ?_ (by first | (simp; done) | omega | (simp; omega)) _))
  have z0 : w.heap.size < V.heap.size := by subst hV; simp <;> omega
  have v0_0 : V.cell? ⟨w.heap.size, 0, none⟩ = some (.int .i64 W) := by subst hV; simp
  have v0_1 : V.cell? ⟨w.heap.size, 1, none⟩ = some (.int .i64 H) := by subst hV; simp
  have v0_2 : V.cell? ⟨w.heap.size, 2, none⟩ = some (.int .i64 X) := by subst hV; simp
  have z1 : w.heap.size + 1 < V.heap.size := by subst hV; simp <;> omega
  have v1_0 : V.cell? ⟨w.heap.size + 1, 0, none⟩ = some (.int .i64 f) := by subst hV; simp
  have v1_1 : V.cell? ⟨w.heap.size + 1, 1, none⟩ = some (.int .i64 o) := by subst hV; simp
  have v1_2 : V.cell? ⟨w.heap.size + 1, 2, none⟩ = some (.int .i64 t) := by subst hV; simp
  have K : Hid (∀ w', Below V.heap.size V w' → Below V.heap.size V w' ∧ w'.cell? ⟨w.heap.size, 0, none⟩ = some (.int .i64 W) ∧ w'.cell? ⟨w.heap.size, 1, none⟩ = some (.int .i64 H) ∧ w'.cell? ⟨w.heap.size, 2, none⟩ = some (.int .i64 X) ∧ w'.cell? ⟨w.heap.size + 1, 0, none⟩ = some (.int .i64 f) ∧ w'.cell? ⟨w.heap.size + 1, 1, none⟩ = some (.int .i64 o) ∧ w'.cell? ⟨w.heap.size + 1, 2, none⟩ = some (.int .i64 t)) := fun w' hB => ⟨hB, bel_cell hB z0 v0_0, bel_cell hB z0 v0_1, bel_cell hB z0 v0_2, bel_cell hB z1 v1_0, bel_cell hB z1 v1_1, bel_cell hB z1 v1_2⟩
  have ZV : Hid (w.heap.size + 1 + 1 = V.heap.size) := by subst hV; unfold Hid; simp
  clear hV
  have hV := Below.refl V.heap.size V
  have d0 := bel_cell hV z0 v0_0
  have d1 := bel_cell hV z0 v0_1
  have d2 := bel_cell hV z0 v0_2
  have d3 := bel_cell hV z1 v1_0
  have d4 := bel_cell hV z1 v1_1
  have d5 := bel_cell hV z1 v1_2
  have tok1 : True := trivial
  have tok2 : True := trivial
  have tok3 : True := trivial
  have tok4 : True := trivial
  go_region_held3 (fun w' => Below V.heap.size V w' ∧ w'.cell? ⟨w.heap.size, 0, none⟩ = some (.int .i64 W) ∧ w'.cell? ⟨w.heap.size, 1, none⟩ = some (.int .i64 H) ∧ w'.cell? ⟨w.heap.size, 2, none⟩ = some (.int .i64 X) ∧ w'.cell? ⟨w.heap.size + 1, 0, none⟩ = some (.int .i64 f) ∧ w'.cell? ⟨w.heap.size + 1, 1, none⟩ = some (.int .i64 o) ∧ w'.cell? ⟨w.heap.size + 1, 2, none⟩ = some (.int .i64 t))
    ((refine K.out _ ?_; (repeat (first | exact Below.refl _ _ | assumption | refine below_step ?_ (by assumption) | refine below_alloc ?_ _ | refine below_drewN ?_ _ | refine Below.drew ?_ | refine Below.setCell ?_ (by first | (simp; done) | omega | (simp; omega)) _))))
    (first | (have _t := tok1; go_at_call 24; refine (laws_toBoard _ _ _ _).mono ?_; rintro e w1 ⟨rfl, hb1⟩; clear _t tok1; obtain ⟨hc1, hf1, hs1⟩ := bcell3 hb1; have hz1 := hb1.size; (try simp at hz1)) | (have _t := tok2; go_at_call 28; refine (laws_toIntS _ _ _ _ (hA.below (below_step v0 (by (repeat (first | exact Below.refl _ _ | assumption | refine below_step ?_ (by assumption) | refine below_alloc ?_ _ | refine below_drewN ?_ _ | refine Below.drew ?_ | refine Below.setCell ?_ (by first | (simp; done) | omega | (simp; omega)) _))))) hnws).mono ?_; rintro e w2 ⟨AoA, coA, rfl, oA, hb2⟩; clear _t tok2; obtain ⟨hc2, hf2, hs2⟩ := bcell3 hb2; have hz2 := hb2.size; (try simp at hz2); have hb1_2 := below_step (below_step hb1 (by (repeat (first | exact Below.refl _ _ | assumption | refine below_step ?_ (by assumption) | refine below_alloc ?_ _ | refine below_drewN ?_ _ | refine Below.drew ?_ | refine Below.setCell ?_ (by first | (simp; done) | omega | (simp; omega)) _)))) hb2; clear hc1 hf1 hs1; obtain ⟨hc1_2, hf1_2, hs1_2⟩ := bcell3 hb1_2) | (have _t := tok3; go_at_call 35; refine (laws_toLine _ _ _ _).mono ?_; rintro e w3 ⟨rfl, hb3⟩; clear _t tok3; replace oA := own_below oA hb3; obtain ⟨hc3, hf3, hs3⟩ := bcell3 hb3; have hz3 := hb3.size; (try simp at hz3); have hb1_3 := below_step (below_step hb1_2 (by (repeat (first | exact Below.refl _ _ | assumption | refine below_step ?_ (by assumption) | refine below_alloc ?_ _ | refine below_drewN ?_ _ | refine Below.drew ?_ | refine Below.setCell ?_ (by first | (simp; done) | omega | (simp; omega)) _)))) hb3; clear hc1_2 hf1_2 hs1_2; obtain ⟨hc1_3, hf1_3, hs1_3⟩ := bcell3 hb1_3; have hb2_3 := below_step (below_step hb2 (by (repeat (first | exact Below.refl _ _ | assumption | refine below_step ?_ (by assumption) | refine below_alloc ?_ _ | refine below_drewN ?_ _ | refine Below.drew ?_ | refine Below.setCell ?_ (by first | (simp; done) | omega | (simp; omega)) _)))) hb3; clear hc2 hf2 hs2; obtain ⟨hc2_3, hf2_3, hs2_3⟩ := bcell3 hb2_3) | (have _t := tok4; go_at_call 34; refine (spec_LossOf _ _ _ _ _ _ _ _ _ _ (FAt_of_own oA) hnws).mono ?_; rintro e w4 ⟨rfl, hb4⟩; clear _t tok4; replace oA := own_below oA hb4; obtain ⟨hc4, hf4, hs4⟩ := bcell3 hb4; have hz4 := hb4.size; (try simp at hz4); have hb1_4 := below_step (below_step hb1_3 (by (repeat (first | exact Below.refl _ _ | assumption | refine below_step ?_ (by assumption) | refine below_alloc ?_ _ | refine below_drewN ?_ _ | refine Below.drew ?_ | refine Below.setCell ?_ (by first | (simp; done) | omega | (simp; omega)) _)))) hb4; clear hc1_3 hf1_3 hs1_3; obtain ⟨hc1_4, hf1_4, hs1_4⟩ := bcell3 hb1_4; have hb2_4 := below_step (below_step hb2_3 (by (repeat (first | exact Below.refl _ _ | assumption | refine below_step ?_ (by assumption) | refine below_alloc ?_ _ | refine below_drewN ?_ _ | refine Below.drew ?_ | refine Below.setCell ?_ (by first | (simp; done) | omega | (simp; omega)) _)))) hb4; clear hc2_3 hf2_3 hs2_3; obtain ⟨hc2_4, hf2_4, hs2_4⟩ := bcell3 hb2_4; have hb3_4 := below_step (below_step hb3 (by (repeat (first | exact Below.refl _ _ | assumption | refine below_step ?_ (by assumption) | refine below_alloc ?_ _ | refine below_drewN ?_ _ | refine Below.drew ?_ | refine Below.setCell ?_ (by first | (simp; done) | omega | (simp; omega)) _)))) hb4; clear hc3 hf3 hs3; obtain ⟨hc3_4, hf3_4, hs3_4⟩ := bcell3 hb3_4))
  clear hV
  have hV : Below V.heap.size V w4 := by (repeat (first | exact Below.refl _ _ | assumption | refine below_step ?_ (by assumption) | refine below_alloc ?_ _ | refine below_drewN ?_ _ | refine Below.drew ?_ | refine Below.setCell ?_ (by first | (simp; done) | omega | (simp; omega)) _))
  clear d0; have d0 := bel_cell hV z0 v0_0
  clear d1; have d1 := bel_cell hV z0 v0_1
  clear d2; have d2 := bel_cell hV z0 v0_2
  clear d3; have d3 := bel_cell hV z1 v1_0
  clear d4; have d4 := bel_cell hV z1 v1_1
  clear d5; have d5 := bel_cell hV z1 v1_2
  go_wp2_with fail
  have LoX := hV.size
  have QoA_oX := own_top oA
  refine (laws_toIntS _ _ _ _ (hA.below (below_step v0 hV)) hnws).mono ?_
  rintro e u5 ⟨AoX, coX, rfl, oX, hb5⟩
  replace oA := own_below oA hb5
  replace hV := below_step hV hb5
  clear d0; have d0 := bel_cell hV z0 v0_0
  clear d1; have d1 := bel_cell hV z0 v0_1
  clear d2; have d2 := bel_cell hV z0 v0_2
  clear d3; have d3 := bel_cell hV z1 v1_0
  clear d4; have d4 := bel_cell hV z1 v1_1
  clear d5; have d5 := bel_cell hV z1 v1_2
  go_wp2_with fail
  have tok6 : True := trivial
  have tok7 : True := trivial
  have tok8 : True := trivial
  go_region_held3 (fun w' => Below V.heap.size V w' ∧ w'.cell? ⟨w.heap.size, 0, none⟩ = some (.int .i64 W) ∧ w'.cell? ⟨w.heap.size, 1, none⟩ = some (.int .i64 H) ∧ w'.cell? ⟨w.heap.size, 2, none⟩ = some (.int .i64 X) ∧ w'.cell? ⟨w.heap.size + 1, 0, none⟩ = some (.int .i64 f) ∧ w'.cell? ⟨w.heap.size + 1, 1, none⟩ = some (.int .i64 o) ∧ w'.cell? ⟨w.heap.size + 1, 2, none⟩ = some (.int .i64 t))
    ((refine K.out _ ?_; (repeat (first | exact Below.refl _ _ | assumption | refine below_step ?_ (by assumption) | refine below_alloc ?_ _ | refine below_drewN ?_ _ | refine Below.drew ?_ | refine Below.setCell ?_ (by first | (simp; done) | omega | (simp; omega)) _))))
    (first | (have _t := tok6; go_at_call 24; refine (laws_toBoard _ _ _ _).mono ?_; rintro e w6 ⟨rfl, hb6⟩; clear _t tok6; replace oX := own_below oX (show Below u5.heap.size u5 w6 from by (repeat (first | exact Below.refl _ _ | assumption | refine below_step ?_ (by assumption) | refine below_alloc ?_ _ | refine below_drewN ?_ _ | refine Below.drew ?_ | refine Below.setCell ?_ (by first | (simp; done) | omega | (simp; omega)) _))); obtain ⟨hc6, hf6, hs6⟩ := bcell3 hb6; have hz6 := hb6.size; (try simp at hz6)) | (have _t := tok7; go_at_call 35; refine (laws_toLine _ _ _ _).mono ?_; rintro e w7 ⟨rfl, hb7⟩; clear _t tok7; replace oX := own_below oX hb7; obtain ⟨hc7, hf7, hs7⟩ := bcell3 hb7; have hz7 := hb7.size; (try simp at hz7); have hb6_7 := below_step (below_step hb6 (by (repeat (first | exact Below.refl _ _ | assumption | refine below_step ?_ (by assumption) | refine below_alloc ?_ _ | refine below_drewN ?_ _ | refine Below.drew ?_ | refine Below.setCell ?_ (by first | (simp; done) | omega | (simp; omega)) _)))) hb7; clear hc6 hf6 hs6; obtain ⟨hc6_7, hf6_7, hs6_7⟩ := bcell3 hb6_7) | (have _t := tok8; go_at_call 36; refine (impl_LossOf _ _ _ _ _ _ _ _ _ _ (FAt_of_own oX) hnws).mono ?_; rintro e w8 ⟨rfl, hb8⟩; clear _t tok8; replace oX := own_below oX hb8; obtain ⟨hc8, hf8, hs8⟩ := bcell3 hb8; have hz8 := hb8.size; (try simp at hz8); have hb6_8 := below_step (below_step hb6_7 (by (repeat (first | exact Below.refl _ _ | assumption | refine below_step ?_ (by assumption) | refine below_alloc ?_ _ | refine below_drewN ?_ _ | refine Below.drew ?_ | refine Below.setCell ?_ (by first | (simp; done) | omega | (simp; omega)) _)))) hb8; clear hc6_7 hf6_7 hs6_7; obtain ⟨hc6_8, hf6_8, hs6_8⟩ := bcell3 hb6_8; have hb7_8 := below_step (below_step hb7 (by (repeat (first | exact Below.refl _ _ | assumption | refine below_step ?_ (by assumption) | refine below_alloc ?_ _ | refine below_drewN ?_ _ | refine Below.drew ?_ | refine Below.setCell ?_ (by first | (simp; done) | omega | (simp; omega)) _)))) hb8; clear hc7 hf7 hs7; obtain ⟨hc7_8, hf7_8, hs7_8⟩ := bcell3 hb7_8))
  clear hV
  have hV : Below V.heap.size V w8 := by (repeat (first | exact Below.refl _ _ | assumption | refine below_step ?_ (by assumption) | refine below_alloc ?_ _ | refine below_drewN ?_ _ | refine Below.drew ?_ | refine Below.setCell ?_ (by first | (simp; done) | omega | (simp; omega)) _))
  clear d0; have d0 := bel_cell hV z0 v0_0
  clear d1; have d1 := bel_cell hV z0 v0_1
  clear d2; have d2 := bel_cell hV z0 v0_2
  clear d3; have d3 := bel_cell hV z1 v1_0
  clear d4; have d4 := bel_cell hV z1 v1_1
  clear d5; have d5 := bel_cell hV z1 v1_2
  go_wp2_with fail
  have LoY := hV.size
  have QoX_oY := own_top oX
  refine (laws_toIntS _ _ _ _ (hA.below (below_step v0 hV)) hnws).mono ?_
  rintro e u9 ⟨AoY, coY, rfl, oY, hb9⟩
  replace oX := own_below oX hb9
  replace hV := below_step hV hb9
  clear d0; have d0 := bel_cell hV z0 v0_0
  clear d1; have d1 := bel_cell hV z0 v0_1
  clear d2; have d2 := bel_cell hV z0 v0_2
  clear d3; have d3 := bel_cell hV z1 v1_0
  clear d4; have d4 := bel_cell hV z1 v1_1
  clear d5; have d5 := bel_cell hV z1 v1_2
  go_wp2_with fail
  refine (laws_eqIntS _ _ _ _ _ _ (FAt_of_own oX) (FAt_of_own oY) hnws).mono ?_
  rintro e u10 ⟨rfl, hb10⟩
  replace oX := own_below oX hb10
  replace oY := own_below oY hb10
  replace hV := below_step hV hb10
  clear d0; have d0 := bel_cell hV z0 v0_0
  clear d1; have d1 := bel_cell hV z0 v0_1
  clear d2; have d2 := bel_cell hV z0 v0_2
  clear d3; have d3 := bel_cell hV z1 v1_0
  clear d4; have d4 := bel_cell hV z1 v1_1
  clear d5; have d5 := bel_cell hV z1 v1_2
  go_wp2
  go_ret
  exact ⟨by simp, below_step v0 hV⟩
end Go.Proofs.Ytmgngjalpfipjaa
