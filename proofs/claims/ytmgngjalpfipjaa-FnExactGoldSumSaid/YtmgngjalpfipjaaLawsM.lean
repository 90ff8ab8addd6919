/- Laws: golden sums. -/
import Derived.Test.YtmgngjalpfipjaaGoldSum
import Derived.Test.YtmgngjalpfipjaaLift
import Derived.Deep.DeepCutAuto
import Derived.Test.YtmgngjalpfipjaaLiftD
namespace Go.Proofs.Ytmgngjalpfipjaa
open Go.RowKit
attribute [local go_sem ↓] Go.wp_at_zero Go.wp_at_succ

set_option maxHeartbeats 1000000 in
theorem law_FnExactGoldSum (W H X t p : Int) (w : World) (hW : R64 W) (hH : R64 H) (hX : R64 X) (ht : R64 t) (hp : R64 p) :
    Calls Try.prog 4 #[.agg #[.int .i64 W, .int .i64 H, .int .i64 X], .int .i64 t, .int .i64 p] w fun e w' => e = .returned (.bool true) ∧ Below w.heap.size w w' := by
  go_enter Try.func4, Try.ntmps4
  go_wp2_with fail
  refine (laws_toBoard _ _ _ _).mono ?_
  rintro e w1 ⟨rfl, hb1⟩
  obtain ⟨hc1, hf1, hs1⟩ := bcell3 hb1
  have hz1 := hb1.size
  (try simp at hz1)
  go_wp2_with fail
  refine (spec_GoldSum _ _ _ _ _ _ hp.2).mono ?_
  rintro e w2 ⟨rfl, hb2⟩
  obtain ⟨hc2, hf2, hs2⟩ := bcell3 hb2
  have hz2 := hb2.size
  (try simp at hz2)
  have hb1_2 := below_step (below_step hb1 (by (repeat (first | exact Below.refl _ _ | assumption | refine below_step ?_ (by assumption) | refine below_alloc ?_ _ | refine below_drewN ?_ _ | refine Below.drew ?_ | refine Below.setCell ?_ (by first | (simp; done) | omega | (simp; omega)) _)))) hb2
  clear hc1 hf1 hs1
  obtain ⟨hc1_2, hf1_2, hs1_2⟩ := bcell3 hb1_2
  go_wp2_with fail
  refine (laws_toBoard _ _ _ _).mono ?_
  rintro e w3 ⟨rfl, hb3⟩
  obtain ⟨hc3, hf3, hs3⟩ := bcell3 hb3
  have hz3 := hb3.size
  (try simp at hz3)
  have hb1_3 := below_step (below_step hb1_2 (by (repeat (first | exact Below.refl _ _ | assumption | refine below_step ?_ (by assumption) | refine below_alloc ?_ _ | refine below_drewN ?_ _ | refine Below.drew ?_ | refine Below.setCell ?_ (by first | (simp; done) | omega | (simp; omega)) _)))) hb3
  clear hc1_2 hf1_2 hs1_2
  obtain ⟨hc1_3, hf1_3, hs1_3⟩ := bcell3 hb1_3
  have hb2_3 := below_step (below_step hb2 (by (repeat (first | exact Below.refl _ _ | assumption | refine below_step ?_ (by assumption) | refine below_alloc ?_ _ | refine below_drewN ?_ _ | refine Below.drew ?_ | refine Below.setCell ?_ (by first | (simp; done) | omega | (simp; omega)) _)))) hb3
  clear hc2 hf2 hs2
  obtain ⟨hc2_3, hf2_3, hs2_3⟩ := bcell3 hb2_3
  go_wp2_with fail
  refine (impl_GoldSum _ _ _ _ _ _ hp.2).mono ?_
  rintro e w4 ⟨rfl, hb4⟩
  obtain ⟨hc4, hf4, hs4⟩ := bcell3 hb4
  have hz4 := hb4.size
  (try simp at hz4)
  have hb1_4 := below_step (below_step hb1_3 (by (repeat (first | exact Below.refl _ _ | assumption | refine below_step ?_ (by assumption) | refine below_alloc ?_ _ | refine below_drewN ?_ _ | refine Below.drew ?_ | refine Below.setCell ?_ (by first | (simp; done) | omega | (simp; omega)) _)))) hb4
  clear hc1_3 hf1_3 hs1_3
  obtain ⟨hc1_4, hf1_4, hs1_4⟩ := bcell3 hb1_4
  have hb2_4 := below_step (below_step hb2_3 (by (repeat (first | exact Below.refl _ _ | assumption | refine below_step ?_ (by assumption) | refine below_alloc ?_ _ | refine below_drewN ?_ _ | refine Below.drew ?_ | refine Below.setCell ?_ (by first | (simp; done) | omega | (simp; omega)) _)))) hb4
  clear hc2_3 hf2_3 hs2_3
  obtain ⟨hc2_4, hf2_4, hs2_4⟩ := bcell3 hb2_4
  have hb3_4 := below_step (below_step hb3 (by (repeat (first | exact Below.refl _ _ | assumption | refine below_step ?_ (by assumption) | refine below_alloc ?_ _ | refine below_drewN ?_ _ | refine Below.drew ?_ | refine Below.setCell ?_ (by first | (simp; done) | omega | (simp; omega)) _)))) hb4
  clear hc3 hf3 hs3
  obtain ⟨hc3_4, hf3_4, hs3_4⟩ := bcell3 hb3_4
  go_wp2_with fail
  refine (laws_eqGold _ _ _).mono ?_
  rintro e w5 ⟨rfl, hb5⟩
  obtain ⟨hc5, hf5, hs5⟩ := bcell3 hb5
  have hz5 := hb5.size
  (try simp at hz5)
  have hb1_5 := below_step (below_step hb1_4 (by (repeat (first | exact Below.refl _ _ | assumption | refine below_step ?_ (by assumption) | refine below_alloc ?_ _ | refine below_drewN ?_ _ | refine Below.drew ?_ | refine Below.setCell ?_ (by first | (simp; done) | omega | (simp; omega)) _)))) hb5
  clear hc1_4 hf1_4 hs1_4
  obtain ⟨hc1_5, hf1_5, hs1_5⟩ := bcell3 hb1_5
  have hb2_5 := below_step (below_step hb2_4 (by (repeat (first | exact Below.refl _ _ | assumption | refine below_step ?_ (by assumption) | refine below_alloc ?_ _ | refine below_drewN ?_ _ | refine Below.drew ?_ | refine Below.setCell ?_ (by first | (simp; done) | omega | (simp; omega)) _)))) hb5
  clear hc2_4 hf2_4 hs2_4
  obtain ⟨hc2_5, hf2_5, hs2_5⟩ := bcell3 hb2_5
  have hb3_5 := below_step (below_step hb3_4 (by (repeat (first | exact Below.refl _ _ | assumption | refine below_step ?_ (by assumption) | refine below_alloc ?_ _ | refine below_drewN ?_ _ | refine Below.drew ?_ | refine Below.setCell ?_ (by first | (simp; done) | omega | (simp; omega)) _)))) hb5
  clear hc3_4 hf3_4 hs3_4
  obtain ⟨hc3_5, hf3_5, hs3_5⟩ := bcell3 hb3_5
  have hb4_5 := below_step (below_step hb4 (by (repeat (first | exact Below.refl _ _ | assumption | refine below_step ?_ (by assumption) | refine below_alloc ?_ _ | refine below_drewN ?_ _ | refine Below.drew ?_ | refine Below.setCell ?_ (by first | (simp; done) | omega | (simp; omega)) _)))) hb5
  clear hc4 hf4 hs4
  obtain ⟨hc4_5, hf4_5, hs4_5⟩ := bcell3 hb4_5
  go_wp2
  go_ret
  exact ⟨by simp, by (repeat (first | exact Below.refl _ _ | assumption | refine below_step ?_ (by assumption) | refine below_alloc ?_ _ | refine below_drewN ?_ _ | refine Below.drew ?_ | refine Below.setCell ?_ (by first | (simp; done) | omega | (simp; omega)) _))⟩
end Go.Proofs.Ytmgngjalpfipjaa
