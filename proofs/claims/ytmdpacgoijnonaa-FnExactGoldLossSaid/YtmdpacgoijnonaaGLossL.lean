/- Laws: golden losses. -/
import Derived.Test.YtmdpacgoijnonaaGLoss
import Derived.Test.YtmdpacgoijnonaaLineS
import Derived.Test.YtmdpacgoijnonaaLift
import Derived.Deep.DeepCutAuto
import Derived.Test.YtmdpacgoijnonaaLiftD
namespace Go.Proofs.Ytmdpacgoijnonaa
open Go.RowKit
attribute [local go_sem ↓] Go.wp_at_zero Go.wp_at_succ

set_option maxHeartbeats 4000000 in
theorem law_FnExactGoldLoss (W H X t f o k : Int) (w : World) (_hW : R64 W) (_hH : R64 H) (_hX : R64 X) (_ht : R64 t) (_hf : R64 f) (_ho : R64 o) (_hk : R64 k) :
    Calls Try.prog 4 #[.agg #[.int .i64 W, .int .i64 H, .int .i64 X], .int .i64 t, .agg #[.int .i64 f, .int .i64 o, .int .i64 k]] w fun e w' => e = .returned (.bool true) ∧ Below w.heap.size w w' := by
  go_enter Try.func4, Try.ntmps4
  go_upto_region 1 with fail
  generalize hV : (w.alloc (.cells #[.int .i64 W, .int .i64 H, .int .i64 X] 36)).alloc (.cells #[.int .i64 f, .int .i64 o, .int .i64 k] 38) = V
  have v0 : Below w.heap.size w V := by subst hV; (repeat (first | exact Below.refl _ _ | assumption | refine below_step ?_ (by assumption) | refine below_alloc ?_ _ | refine below_drewN ?_ _ | refine Below.drew ?_ | refine Below.setCell ?_ (by first | (simp; done) | omega | (simp; omega)) _))
  have z0 : w.heap.size < V.heap.size := by subst hV; simp <;> omega
  have v0_0 : V.cell? ⟨w.heap.size, 0, none⟩ = some (.int .i64 W) := by subst hV; simp
  have v0_1 : V.cell? ⟨w.heap.size, 1, none⟩ = some (.int .i64 H) := by subst hV; simp
  have v0_2 : V.cell? ⟨w.heap.size, 2, none⟩ = some (.int .i64 X) := by subst hV; simp
  have z1 : w.heap.size + 1 < V.heap.size := by subst hV; simp <;> omega
  have v1_0 : V.cell? ⟨w.heap.size + 1, 0, none⟩ = some (.int .i64 f) := by subst hV; simp
  have v1_1 : V.cell? ⟨w.heap.size + 1, 1, none⟩ = some (.int .i64 o) := by subst hV; simp
  have v1_2 : V.cell? ⟨w.heap.size + 1, 2, none⟩ = some (.int .i64 k) := by subst hV; simp
  have K : Hid (∀ w', Below V.heap.size V w' → Below V.heap.size V w' ∧ w'.cell? ⟨w.heap.size, 0, none⟩ = some (.int .i64 W) ∧ w'.cell? ⟨w.heap.size, 1, none⟩ = some (.int .i64 H) ∧ w'.cell? ⟨w.heap.size, 2, none⟩ = some (.int .i64 X) ∧ w'.cell? ⟨w.heap.size + 1, 0, none⟩ = some (.int .i64 f) ∧ w'.cell? ⟨w.heap.size + 1, 1, none⟩ = some (.int .i64 o) ∧ w'.cell? ⟨w.heap.size + 1, 2, none⟩ = some (.int .i64 k)) := fun w' hB => ⟨hB, bel_cell hB z0 v0_0, bel_cell hB z0 v0_1, bel_cell hB z0 v0_2, bel_cell hB z1 v1_0, bel_cell hB z1 v1_1, bel_cell hB z1 v1_2⟩
  have ZV : Hid (w.heap.size + 1 + 1 = V.heap.size) := by subst hV; unfold Hid; simp
  clear hV
  go_cut [7] (fun s7 wx => ∃ g : Nat, s7 = .pointer (some ⟨g, 0, none⟩) ∧ Below V.heap.size V wx ∧ w.heap.size ≤ g ∧ wx.cell? ⟨g, 0, none⟩ = some (.int .i64 (goldLoss W H X t f o k).1) ∧ wx.cell? ⟨g, 1, none⟩ = some (.int .i64 (goldLoss W H X t f o k).2) ∧ g < wx.heap.size)
  case first =>
    have tok1 : True := trivial
    have tok2 : True := trivial
    have tok3 : True := trivial
    go_region_held3 (fun w' => Below V.heap.size V w' ∧ w'.cell? ⟨w.heap.size, 0, none⟩ = some (.int .i64 W) ∧ w'.cell? ⟨w.heap.size, 1, none⟩ = some (.int .i64 H) ∧ w'.cell? ⟨w.heap.size, 2, none⟩ = some (.int .i64 X) ∧ w'.cell? ⟨w.heap.size + 1, 0, none⟩ = some (.int .i64 f) ∧ w'.cell? ⟨w.heap.size + 1, 1, none⟩ = some (.int .i64 o) ∧ w'.cell? ⟨w.heap.size + 1, 2, none⟩ = some (.int .i64 k))
      ((refine K.out _ ?_; (repeat (first | exact Below.refl _ _ | assumption | refine below_step ?_ (by assumption) | refine below_alloc ?_ _ | refine below_drewN ?_ _ | refine Below.drew ?_ | refine Below.setCell ?_ (by first | (simp; done) | omega | (simp; omega)) _))))
      (first | (have _t := tok1; go_at_call 17; refine (laws_toBoard _ _ _ _).mono ?_; rintro e w1 ⟨rfl, hb1⟩; clear _t tok1; obtain ⟨hc1, hf1, hs1⟩ := bcell3 hb1; have hz1 := hb1.size; (try simp at hz1)) | (have _t := tok2; go_at_call 18; refine (laws_toLine _ _ _ _).mono ?_; rintro e w2 ⟨rfl, hb2⟩; clear _t tok2; obtain ⟨hc2, hf2, hs2⟩ := bcell3 hb2; have hz2 := hb2.size; (try simp at hz2); have hb1_2 := below_step (below_step hb1 (by (repeat (first | exact Below.refl _ _ | assumption | refine below_step ?_ (by assumption) | refine below_alloc ?_ _ | refine below_drewN ?_ _ | refine Below.drew ?_ | refine Below.setCell ?_ (by first | (simp; done) | omega | (simp; omega)) _)))) hb2; clear hc1 hf1 hs1; obtain ⟨hc1_2, hf1_2, hs1_2⟩ := bcell3 hb1_2) | (have _t := tok3; go_at_call 16; refine (spec_GoldLoss _ _ _ _ _ _ _ _).mono ?_; rintro e w3 ⟨rfl, hb3⟩; clear _t tok3; obtain ⟨hc3, hf3, hs3⟩ := bcell3 hb3; have hz3 := hb3.size; (try simp at hz3); have hb1_3 := below_step (below_step hb1_2 (by (repeat (first | exact Below.refl _ _ | assumption | refine below_step ?_ (by assumption) | refine below_alloc ?_ _ | refine below_drewN ?_ _ | refine Below.drew ?_ | refine Below.setCell ?_ (by first | (simp; done) | omega | (simp; omega)) _)))) hb3; clear hc1_2 hf1_2 hs1_2; obtain ⟨hc1_3, hf1_3, hs1_3⟩ := bcell3 hb1_3; have hb2_3 := below_step (below_step hb2 (by (repeat (first | exact Below.refl _ _ | assumption | refine below_step ?_ (by assumption) | refine below_alloc ?_ _ | refine below_drewN ?_ _ | refine Below.drew ?_ | refine Below.setCell ?_ (by first | (simp; done) | omega | (simp; omega)) _)))) hb3; clear hc2 hf2 hs2; obtain ⟨hc2_3, hf2_3, hs2_3⟩ := bcell3 hb2_3))
    all_goals (go_wp2_with fail; go_meet; exact ⟨_, rfl, by (repeat (first | exact Below.refl _ _ | assumption | refine below_step ?_ (by assumption) | refine below_alloc ?_ _ | refine below_drewN ?_ _ | refine Below.drew ?_ | refine Below.setCell ?_ (by first | (simp; done) | omega | (simp; omega)) _)), by first | omega | (simp; omega), by first | (simp; done) | (refine (set2_cells (u := .int .i64 0) (v := .int .i64 0) ?_ ?_).1 <;> (first | (simp [hc1_3, hc2_3, hc3, go_sem]; done) | (simp [hc1_3, hc2_3, hc3]; done))), by first | (simp; done) | (refine (set2_cells (u := .int .i64 0) (v := .int .i64 0) ?_ ?_).2 <;> (first | (simp [hc1_3, hc2_3, hc3, go_sem]; done) | (simp [hc1_3, hc2_3, hc3]; done))), by (try simp only [size_set]); first | omega | (simp; done) | (simp; omega)⟩)
  case rest =>
    obtain ⟨g1, rfl, hv1, hg1, c10, c11, l1⟩ := hcut
    generalize hU : wc = U at *
    clear hU
    have hVU := hv1.size
    go_upto_region 2 with fail
    go_cut [8] (fun s8 wx => ∃ g : Nat, s8 = .pointer (some ⟨g, 0, none⟩) ∧ Below U.heap.size U wx ∧ w.heap.size ≤ g ∧ wx.cell? ⟨g, 0, none⟩ = some (.int .i64 (goldLoss W H X t f o k).1) ∧ wx.cell? ⟨g, 1, none⟩ = some (.int .i64 (goldLoss W H X t f o k).2) ∧ g < wx.heap.size)
    case first =>
      have tok4 : True := trivial
      have tok5 : True := trivial
      have tok6 : True := trivial
      go_region_held3 (fun w' => Below V.heap.size V w' ∧ w'.cell? ⟨w.heap.size, 0, none⟩ = some (.int .i64 W) ∧ w'.cell? ⟨w.heap.size, 1, none⟩ = some (.int .i64 H) ∧ w'.cell? ⟨w.heap.size, 2, none⟩ = some (.int .i64 X) ∧ w'.cell? ⟨w.heap.size + 1, 0, none⟩ = some (.int .i64 f) ∧ w'.cell? ⟨w.heap.size + 1, 1, none⟩ = some (.int .i64 o) ∧ w'.cell? ⟨w.heap.size + 1, 2, none⟩ = some (.int .i64 k))
        ((refine K.out _ ?_; (repeat (first | exact Below.refl _ _ | assumption | refine below_step ?_ (by assumption) | refine below_alloc ?_ _ | refine below_drewN ?_ _ | refine Below.drew ?_ | refine Below.setCell ?_ (by first | (simp; done) | omega | (simp; omega)) _))))
        (first | (have _t := tok4; go_at_call 17; refine (laws_toBoard _ _ _ _).mono ?_; rintro e w4 ⟨rfl, hb4⟩; clear _t tok4; obtain ⟨hc4, hf4, hs4⟩ := bcell3 hb4; have hz4 := hb4.size; (try simp at hz4)) | (have _t := tok5; go_at_call 18; refine (laws_toLine _ _ _ _).mono ?_; rintro e w5 ⟨rfl, hb5⟩; clear _t tok5; obtain ⟨hc5, hf5, hs5⟩ := bcell3 hb5; have hz5 := hb5.size; (try simp at hz5); have hb4_5 := below_step (below_step hb4 (by (repeat (first | exact Below.refl _ _ | assumption | refine below_step ?_ (by assumption) | refine below_alloc ?_ _ | refine below_drewN ?_ _ | refine Below.drew ?_ | refine Below.setCell ?_ (by first | (simp; done) | omega | (simp; omega)) _)))) hb5; clear hc4 hf4 hs4; obtain ⟨hc4_5, hf4_5, hs4_5⟩ := bcell3 hb4_5) | (have _t := tok6; go_at_call 19; refine (impl_GoldLoss _ _ _ _ _ _ _ _).mono ?_; rintro e w6 ⟨rfl, hb6⟩; clear _t tok6; obtain ⟨hc6, hf6, hs6⟩ := bcell3 hb6; have hz6 := hb6.size; (try simp at hz6); have hb4_6 := below_step (below_step hb4_5 (by (repeat (first | exact Below.refl _ _ | assumption | refine below_step ?_ (by assumption) | refine below_alloc ?_ _ | refine below_drewN ?_ _ | refine Below.drew ?_ | refine Below.setCell ?_ (by first | (simp; done) | omega | (simp; omega)) _)))) hb6; clear hc4_5 hf4_5 hs4_5; obtain ⟨hc4_6, hf4_6, hs4_6⟩ := bcell3 hb4_6; have hb5_6 := below_step (below_step hb5 (by (repeat (first | exact Below.refl _ _ | assumption | refine below_step ?_ (by assumption) | refine below_alloc ?_ _ | refine below_drewN ?_ _ | refine Below.drew ?_ | refine Below.setCell ?_ (by first | (simp; done) | omega | (simp; omega)) _)))) hb6; clear hc5 hf5 hs5; obtain ⟨hc5_6, hf5_6, hs5_6⟩ := bcell3 hb5_6))
      all_goals (go_wp2_with fail; go_meet; exact ⟨_, rfl, by (repeat (first | exact Below.refl _ _ | assumption | refine below_step ?_ (by assumption) | refine below_alloc ?_ _ | refine below_drewN ?_ _ | refine Below.drew ?_ | refine Below.setCell ?_ (by first | (simp; done) | omega | (simp; omega)) _)), by first | omega | (simp; omega), by first | (simp; done) | (refine (set2_cells (u := .int .i64 0) (v := .int .i64 0) ?_ ?_).1 <;> (first | (simp [hc4_6, hc5_6, hc6, go_sem]; done) | (simp [hc4_6, hc5_6, hc6]; done))), by first | (simp; done) | (refine (set2_cells (u := .int .i64 0) (v := .int .i64 0) ?_ ?_).2 <;> (first | (simp [hc4_6, hc5_6, hc6, go_sem]; done) | (simp [hc4_6, hc5_6, hc6]; done))), by (try simp only [size_set]); first | omega | (simp; done) | (simp; omega)⟩)
    case rest =>
      obtain ⟨g2, rfl, hv2, hg2, c20, c21, l2⟩ := hcut
      have d10 := bel_cell hv2 l1 c10
      have d11 := bel_cell hv2 l1 c11
      go_wp2_with fail
      refine (laws_eqGold _ _ _).mono ?_
      rintro e w9 ⟨rfl, hb9⟩
      go_wp2
      go_ret
      exact ⟨by simp, by (repeat (first | exact Below.refl _ _ | assumption | refine below_step ?_ (by assumption) | refine below_alloc ?_ _ | refine below_drewN ?_ _ | refine Below.drew ?_ | refine Below.setCell ?_ (by first | (simp; done) | omega | (simp; omega)) _))⟩
end Go.Proofs.Ytmdpacgoijnonaa
