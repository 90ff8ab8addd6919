/- Hopes, golden losses: contracts. -/
import Derived.Test.YtianfakgojmnpaaGoldSum
import Derived.Test.YtianfakgojmnpaaGoldE
import Derived.Test.YtianfakgojmnpaaLoss
namespace Go.Proofs.Ytianfakgojmnpaa
open Go.RowKit

def canHope (W H X p t : Int) : Bool := positionOk W H X p && hasHole W H X t && decide (0 ≤ compareGold (goldSum W H X t p).1 (goldSum W H X t p).2 1 0)
theorem impl_PowerOf0 (w : World) : Calls Try.prog 73 #[.int .i64 0] w fun e w' => e = .returned (.agg #[.int .i64 1, .int .i64 0]) ∧ Below w.heap.size w w' := impl_PowerOf 0 w
set_option maxHeartbeats 2000000 in
theorem impl_CanHope (W H X p t : Int) (w : World) (hp : p ≤ 9223372036854775807) :
    Calls Try.prog 49 #[.agg #[.int .i64 W, .int .i64 H, .int .i64 X], .int .i64 p, .int .i64 t] w fun e w' => e = .returned (.bool (canHope W H X p t)) ∧ Below w.heap.size w w' := by
  cases h1 : positionOk W H X p
  · go_enter Try.func49, Try.ntmps49
    go_wp2_with fail
    refine (calls_is (impl_PositionOk _ _ _ _ _ (by omega)) h1).mono ?_
    rintro e w1 ⟨rfl, hb1⟩
    obtain ⟨hc1, hf1, hs1⟩ := bcell3 hb1
    have hz1 := hb1.size
    (try simp at hz1)
    go_wp2
    go_ret
    exact ⟨ret_bool (by simp [canHope, h1]), by (repeat (first | exact Below.refl _ _ | assumption | refine below_step ?_ (by assumption) | refine below_alloc ?_ _ | refine below_drewN ?_ _ | refine Below.drew ?_ | refine Below.setCell ?_ (by first | (simp; done) | omega | (simp; omega)) _))⟩
  cases h2 : hasHole W H X t
  · go_enter Try.func49, Try.ntmps49
    go_wp2_with fail
    refine (calls_is (impl_PositionOk _ _ _ _ _ (by omega)) h1).mono ?_
    rintro e w1 ⟨rfl, hb1⟩
    obtain ⟨hc1, hf1, hs1⟩ := bcell3 hb1
    have hz1 := hb1.size
    (try simp at hz1)
    go_wp2_with fail
    refine (calls_is (impl_HasHole _ _ _ _ _) h2).mono ?_
    rintro e w2 ⟨rfl, hb2⟩
    obtain ⟨hc2, hf2, hs2⟩ := bcell3 hb2
    have hz2 := hb2.size
    (try simp at hz2)
    have hb1_2 := below_step (below_step hb1 (by (repeat (first | exact Below.refl _ _ | assumption | refine below_step ?_ (by assumption) | refine below_alloc ?_ _ | refine below_drewN ?_ _ | refine Below.drew ?_ | refine Below.setCell ?_ (by first | (simp; done) | omega | (simp; omega)) _)))) hb2
    clear hc1 hf1 hs1
    obtain ⟨hc1_2, hf1_2, hs1_2⟩ := bcell3 hb1_2
    go_wp2
    go_ret
    exact ⟨ret_bool (by simp [canHope, h1, h2]), by (repeat (first | exact Below.refl _ _ | assumption | refine below_step ?_ (by assumption) | refine below_alloc ?_ _ | refine below_drewN ?_ _ | refine Below.drew ?_ | refine Below.setCell ?_ (by first | (simp; done) | omega | (simp; omega)) _))⟩
  obtain ⟨q, hq⟩ : ∃ q, compareGold (goldSum W H X t p).1 (goldSum W H X t p).2 1 0 = q := ⟨_, rfl⟩
  have e : canHope W H X p t = decide (0 ≤ q) := by simp [canHope, h1, h2, hq]
  rw [e]
  clear e
  by_cases h3 : 0 ≤ q
  all_goals
    go_enter Try.func49, Try.ntmps49
    go_wp2_with fail
    refine (calls_is (impl_PositionOk _ _ _ _ _ (by omega)) h1).mono ?_
    rintro e w1 ⟨rfl, hb1⟩
    obtain ⟨hc1, hf1, hs1⟩ := bcell3 hb1
    have hz1 := hb1.size
    (try simp at hz1)
    go_wp2_with fail
    refine (calls_is (impl_HasHole _ _ _ _ _) h2).mono ?_
    rintro e w2 ⟨rfl, hb2⟩
    obtain ⟨hc2, hf2, hs2⟩ := bcell3 hb2
    have hz2 := hb2.size
    (try simp at hz2)
    have hb1_2 := below_step (below_step hb1 (by (repeat (first | exact Below.refl _ _ | assumption | refine below_step ?_ (by assumption) | refine below_alloc ?_ _ | refine below_drewN ?_ _ | refine Below.drew ?_ | refine Below.setCell ?_ (by first | (simp; done) | omega | (simp; omega)) _)))) hb2
    clear hc1 hf1 hs1
    obtain ⟨hc1_2, hf1_2, hs1_2⟩ := bcell3 hb1_2
    go_wp2_with fail
    refine (impl_GoldSum _ _ _ _ _ _ hp).mono ?_
    rintro e w3 ⟨rfl, hb3⟩
    obtain ⟨hc3, hf3, hs3⟩ := bcell3 hb3
    have hz3 := hb3.size
    (try simp at hz3)
    have hb1_3 := below_step (below_step hb1_2 (by (repeat (first | exact Below.refl _ _ | assumption | refine below_step ?_ (by assumption) | refine below_alloc ?_ _ | refine below_drewN ?_ _ | refine Below.drew ?_ | refine Below.setCell ?_ (by first | (simp; done) | omega | (simp; omega)) _)))) hb3
    clear hc1_2 hf1_2 hs1_2
    obtain ⟨hc1_3, hf1_3, hs1_3⟩ := bcell3 hb1_3
    have hb2_3 := below_step (below_step hb2 (by (repeat (first | exact Below.refl _ _ | assumption | refine below_step ?_ (by assumption) | refine below_alloc ?_ _ | refine below_drewN ?_ _ | refine Below.drew ?_ | refine Below.setCell ?_ (by first | (simp; done) | omega | (simp; omega)) _)))) hb3
    clear hc2 hf2 hs2
    obtain ⟨hc2_3, hf2_3, hs2_3⟩ := bcell3 hb2_3
    go_wp2_with fail
    refine (impl_PowerOf0 _).mono ?_
    rintro e w4 ⟨rfl, hb4⟩
    obtain ⟨hc4, hf4, hs4⟩ := bcell3 hb4
    have hz4 := hb4.size
    (try simp at hz4)
    have hb1_4 := below_step (below_step hb1_3 (by (repeat (first | exact Below.refl _ _ | assumption | refine below_step ?_ (by assumption) | refine below_alloc ?_ _ | refine below_drewN ?_ _ | refine Below.drew ?_ | refine Below.setCell ?_ (by first | (simp; done) | omega | (simp; omega)) _)))) hb4
    clear hc1_3 hf1_3 hs1_3
    obtain ⟨hc1_4, hf1_4, hs1_4⟩ := bcell3 hb1_4
    have hb2_4 := below_step (below_step hb2_3 (by (repeat (first | exact Below.refl _ _ | assumption | refine below_step ?_ (by assumption) | refine below_alloc ?_ _ | refine below_drewN ?_ _ | refine Below.drew ?_ | refine Below.setCell ?_ (by first | (simp; done) | omega | (simp; omega)) _)))) hb4
    clear hc2_3 hf2_3 hs2_3
    obtain ⟨hc2_4, hf2_4, hs2_4⟩ := bcell3 hb2_4
    have hb3_4 := below_step (below_step hb3 (by (repeat (first | exact Below.refl _ _ | assumption | refine below_step ?_ (by assumption) | refine below_alloc ?_ _ | refine below_drewN ?_ _ | refine Below.drew ?_ | refine Below.setCell ?_ (by first | (simp; done) | omega | (simp; omega)) _)))) hb4
    clear hc3 hf3 hs3
    obtain ⟨hc3_4, hf3_4, hs3_4⟩ := bcell3 hb3_4
    go_wp2_with fail
    refine (impl_CompareGold _ _ _ _ _).mono ?_
    rintro e w5 ⟨rfl, hb5⟩
    rw [hq]
    go_wp2
    go_ret
    exact ⟨ret_bool (by simp [h3]), by (repeat (first | exact Below.refl _ _ | assumption | refine below_step ?_ (by assumption) | refine below_alloc ?_ _ | refine below_drewN ?_ _ | refine Below.drew ?_ | refine Below.setCell ?_ (by first | (simp; done) | omega | (simp; omega)) _))⟩
end Go.Proofs.Ytianfakgojmnpaa
