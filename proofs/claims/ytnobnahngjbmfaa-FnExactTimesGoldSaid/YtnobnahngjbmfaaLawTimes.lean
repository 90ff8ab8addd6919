/- Laws: golden numbers, TimesGold. -/
import Derived.Test.YtnobnahngjbmfaaGoldX
import Derived.Test.YtnobnahngjbmfaaGoldD
import Derived.Test.YtnobnahngjbmfaaLiftD
import Derived.Deep.DeepCutAuto
namespace Go.Proofs.Ytnobnahngjbmfaa
open Go.RowKit
attribute [local go_sem ↓] Go.wp_at_zero Go.wp_at_succ

set_option maxHeartbeats 2000000 in
theorem law_FnExactTimesGold (a b c d : Int) (w : World) (ha : R64 a) (hb : R64 b) (hc : R64 c) (hd : R64 d) :
    Calls Try.prog 10 #[.agg #[.int .i64 a, .int .i64 b], .agg #[.int .i64 c, .int .i64 d]] w fun e w' => e = .returned (.bool true) ∧ Below w.heap.size w w' := by
  go_enter Try.func10, Try.ntmps10
  go_upto_region 1 with fail
  generalize hV : (w.alloc (.cells #[.int .i64 a, .int .i64 b] 23)).alloc (.cells #[.int .i64 c, .int .i64 d] 23) = V
  have v0 : Below w.heap.size w V := by subst hV; (repeat (first | exact Below.refl _ _ | assumption | refine below_step ?_ (by assumption) | refine below_alloc ?_ _ | refine below_drewN ?_ _ | refine Below.drew ?_ | refine Below.setCell ?_ (by first | (simp; done) | omega | (simp; omega)) _))
  have z0 : w.heap.size < V.heap.size := by subst hV; simp <;> omega
  have v0_0 : V.cell? ⟨w.heap.size, 0, none⟩ = some (.int .i64 a) := by subst hV; simp
  have v0_1 : V.cell? ⟨w.heap.size, 1, none⟩ = some (.int .i64 b) := by subst hV; simp
  have z1 : w.heap.size + 1 < V.heap.size := by subst hV; simp <;> omega
  have v1_0 : V.cell? ⟨w.heap.size + 1, 0, none⟩ = some (.int .i64 c) := by subst hV; simp
  have v1_1 : V.cell? ⟨w.heap.size + 1, 1, none⟩ = some (.int .i64 d) := by subst hV; simp
  have K : Hid (∀ w', Below V.heap.size V w' → Below V.heap.size V w' ∧ w'.cell? ⟨w.heap.size, 0, none⟩ = some (.int .i64 a) ∧ w'.cell? ⟨w.heap.size, 1, none⟩ = some (.int .i64 b) ∧ w'.cell? ⟨w.heap.size + 1, 0, none⟩ = some (.int .i64 c) ∧ w'.cell? ⟨w.heap.size + 1, 1, none⟩ = some (.int .i64 d)) := fun w' hB => ⟨hB, bel_cell hB z0 v0_0, bel_cell hB z0 v0_1, bel_cell hB z1 v1_0, bel_cell hB z1 v1_1⟩
  clear hV
  go_cut [5, 6] (fun s5 s6 wx => ∃ g : Nat, s5 = .pointer (some ⟨g, 0, none⟩) ∧ s6 = .bool (mulOk a b c d) ∧ Below V.heap.size V wx ∧ w.heap.size ≤ g ∧ wx.cell? ⟨g, 0, none⟩ = some (.int .i64 (mulA a b c d)) ∧ wx.cell? ⟨g, 1, none⟩ = some (.int .i64 (mulB a b c d)) ∧ g < wx.heap.size)
  case first =>
    go_region_held3 (fun w' => Below V.heap.size V w' ∧ w'.cell? ⟨w.heap.size, 0, none⟩ = some (.int .i64 a) ∧ w'.cell? ⟨w.heap.size, 1, none⟩ = some (.int .i64 b) ∧ w'.cell? ⟨w.heap.size + 1, 0, none⟩ = some (.int .i64 c) ∧ w'.cell? ⟨w.heap.size + 1, 1, none⟩ = some (.int .i64 d))
      ((refine K.out _ ?_; (repeat (first | exact Below.refl _ _ | assumption | refine below_step ?_ (by assumption) | refine below_alloc ?_ _ | refine below_drewN ?_ _ | refine Below.drew ?_ | refine Below.setCell ?_ (by first | (simp; done) | omega | (simp; omega)) _))))
      (first | (go_at_call 16; refine (laws_toGold_at _ _ _).mono ?_; rintro e _ ⟨rfl, rfl⟩) | (go_at_call 32; refine (spec_TimesGold _ _ _ _ _).mono ?_; rintro e w1 ⟨rfl, hb1⟩; obtain ⟨hc1, hf1, hs1⟩ := bcell3 hb1; have hz1 := hb1.size; (try simp at hz1)))
    all_goals (go_wp2_with fail; go_meet; exact ⟨_, rfl, rfl, by (repeat (first | exact Below.refl _ _ | assumption | refine below_step ?_ (by assumption) | refine below_alloc ?_ _ | refine below_drewN ?_ _ | refine Below.drew ?_ | refine Below.setCell ?_ (by first | (simp; done) | omega | (simp; omega)) _)), by first | omega | (simp; omega), by first | (simp; done) | (refine (set2_cells (u := .int .i64 0) (v := .int .i64 0) ?_ ?_).1 <;> (first | (simp [hc1, go_sem]; done) | (simp [hc1]; done))), by first | (simp; done) | (refine (set2_cells (u := .int .i64 0) (v := .int .i64 0) ?_ ?_).2 <;> (first | (simp [hc1, go_sem]; done) | (simp [hc1]; done))), by (try simp only [size_set]); first | omega | (simp; done) | (simp; omega)⟩)
  case rest =>
    obtain ⟨g1, rfl, rfl, hv1, hg1, c10, c11, l1⟩ := hcut
    generalize hU : wc = U at *
    clear hU
    have hVU := hv1.size
    go_upto_region 2 with fail
    go_cut [7, 8] (fun s7 s8 wx => ∃ g : Nat, s7 = .pointer (some ⟨g, 0, none⟩) ∧ s8 = .bool (mulOk a b c d) ∧ Below U.heap.size U wx ∧ w.heap.size ≤ g ∧ wx.cell? ⟨g, 0, none⟩ = some (.int .i64 (mulA a b c d)) ∧ wx.cell? ⟨g, 1, none⟩ = some (.int .i64 (mulB a b c d)) ∧ g < wx.heap.size)
    case first =>
      go_region_held3 (fun w' => Below V.heap.size V w' ∧ w'.cell? ⟨w.heap.size, 0, none⟩ = some (.int .i64 a) ∧ w'.cell? ⟨w.heap.size, 1, none⟩ = some (.int .i64 b) ∧ w'.cell? ⟨w.heap.size + 1, 0, none⟩ = some (.int .i64 c) ∧ w'.cell? ⟨w.heap.size + 1, 1, none⟩ = some (.int .i64 d))
        ((refine K.out _ ?_; (repeat (first | exact Below.refl _ _ | assumption | refine below_step ?_ (by assumption) | refine below_alloc ?_ _ | refine below_drewN ?_ _ | refine Below.drew ?_ | refine Below.setCell ?_ (by first | (simp; done) | omega | (simp; omega)) _))))
        (first | (go_at_call 16; refine (laws_toGold_at _ _ _).mono ?_; rintro e _ ⟨rfl, rfl⟩) | (go_at_call 33; refine (impl_TimesGold _ _ _ _ _).mono ?_; rintro e w2 ⟨rfl, hb2⟩; obtain ⟨hc2, hf2, hs2⟩ := bcell3 hb2; have hz2 := hb2.size; (try simp at hz2)))
      all_goals (go_wp2_with fail; go_meet; exact ⟨_, rfl, rfl, by (repeat (first | exact Below.refl _ _ | assumption | refine below_step ?_ (by assumption) | refine below_alloc ?_ _ | refine below_drewN ?_ _ | refine Below.drew ?_ | refine Below.setCell ?_ (by first | (simp; done) | omega | (simp; omega)) _)), by first | omega | (simp; omega), by first | (simp; done) | (refine (set2_cells (u := .int .i64 0) (v := .int .i64 0) ?_ ?_).1 <;> (first | (simp [hc2, go_sem]; done) | (simp [hc2]; done))), by first | (simp; done) | (refine (set2_cells (u := .int .i64 0) (v := .int .i64 0) ?_ ?_).2 <;> (first | (simp [hc2, go_sem]; done) | (simp [hc2]; done))), by (try simp only [size_set]); first | omega | (simp; done) | (simp; omega)⟩)
    case rest =>
      obtain ⟨g2, rfl, rfl, hv2, hg2, c20, c21, l2⟩ := hcut
      have d10 := bel_cell hv2 l1 c10
      have d11 := bel_cell hv2 l1 c11
      go_wp2_with fail
      refine (laws_eqGold _ _ _).mono ?_
      rintro e w3 ⟨rfl, hb3⟩
      go_wp2
      go_ret
      exact ⟨by simp, by (repeat (first | exact Below.refl _ _ | assumption | refine below_step ?_ (by assumption) | refine below_alloc ?_ _ | refine below_drewN ?_ _ | refine Below.drew ?_ | refine Below.setCell ?_ (by first | (simp; done) | omega | (simp; omega)) _))⟩
end Go.Proofs.Ytnobnahngjbmfaa
