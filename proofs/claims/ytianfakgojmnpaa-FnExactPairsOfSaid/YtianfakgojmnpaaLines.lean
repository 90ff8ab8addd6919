/- Lines: steps. -/
import Derived.Test.YtianfakgojmnpaaHoles
namespace Go.Proofs.Ytianfakgojmnpaa
open Go.RowKit

def dxOf (way : Int) : Int := if way = 0 then 1 else if way = 2 then -1 else 0
def dyOf (way : Int) : Int := if way = 1 then 1 else if way = 3 then -1 else 0
def stepTo (W H X x y : Int) : Int := if inB x 0 (W - 1) = true ∧ inB y 0 (H - 1) = true ∧ bitI X (y * W + x) = true then y * W + x else -1
def stepIn (W H X k way : Int) : Int := stepTo W H X (k % W + dxOf way) (k / W + dyOf way)
def stepAt (W H X k way : Int) : Int := if hasHole W H X k = true then stepIn W H X k way else -1

theorem row_bd {W H x y : Int} (w1 : 1 ≤ W) (w2 : W ≤ 7) (h2 : H ≤ 7) (hx : inB x 0 (W - 1) = true) (hy : inB y 0 (H - 1) = true) : 0 ≤ y * W ∧ y * W ≤ 42 ∧ 0 ≤ y * W + x ∧ y * W + x ≤ W * H - 1 := by
  obtain ⟨x1, x2⟩ := inB_iff.1 hx
  obtain ⟨y1, y2⟩ := inB_iff.1 hy
  have e1 : 0 ≤ y * W := Int.mul_nonneg y1 (by omega)
  have e2 : y * W ≤ (H - 1) * W := Int.mul_le_mul_of_nonneg_right y2 (by omega)
  have e3 : (H - 1) * W = W * H - W := by rw [Int.sub_mul, Int.mul_comm H W]; omega
  have e4 : (H - 1) * W ≤ 6 * 7 := by
    have := Int.mul_le_mul (show H - 1 ≤ 6 by omega) w2 (by omega) (by omega)
    exact this
  omega

set_option maxHeartbeats 4000000 in
theorem impl_beside_0 (W H X k : Int) (w : World) (h1 : boardOk W H X = true) (h2 : inB k 0 (W * H - 1) = true) (h3 : hasHole W H X k = true) :
    Calls Try.prog 132 #[.agg #[.int .i64 W, .int .i64 H, .int .i64 X], .int .i64 k, .int .i64 0] w fun e w' => e = .returned (.int .i64 (stepIn W H X k 0)) ∧ Below w.heap.size w w' := by
  have e : stepIn W H X k 0 = stepTo W H X (k % W + 1) (k / W) := by unfold stepIn; congr 1 <;> (first | (simp [dxOf]; done) | (simp [dyOf]; done) | (simp [dxOf]; omega) | (simp [dyOf]; omega))
  rw [e]; clear e
  obtain ⟨m1, m2, w1', w2', h1', h2', x1, x3⟩ : 1 ≤ W * H ∧ W * H ≤ 49 ∧ 1 ≤ W ∧ W ≤ 7 ∧ 1 ≤ H ∧ H ≤ 7 ∧ 1 ≤ X ∧ X < 562949953421312 := ⟨(boardOk_facts h1).m1, (boardOk_facts h1).m2, (boardOk_facts h1).w1, (boardOk_facts h1).w2, (boardOk_facts h1).h1, (boardOk_facts h1).h2, (boardOk_facts h1).x1, (boardOk_facts h1).x3⟩
  have hW0 : (W == 0) = false := by simp; omega
  obtain ⟨k1, k2⟩ := inB_iff.1 h2
  obtain ⟨a1, a2⟩ := mod_bd (j := k) w1'
  obtain ⟨a3, a4⟩ := div_bd (j := k) w1' k1
  go_enter Try.func132, Try.ntmps132
  go_wp2_with fail
  refine (calls_is (impl_HasHole _ _ _ _ _) h3).mono ?_
  rintro e w1 ⟨rfl, hb1⟩
  obtain ⟨hc1, hf1, hs1⟩ := bcell3 hb1
  have hz1 := hb1.size
  (try simp at hz1)
  have d0 : w1.cell? ⟨w.heap.size, 0, none⟩ = some (.int .i64 W) := by simp [hc1]
  have d1 : w1.cell? ⟨w.heap.size, 1, none⟩ = some (.int .i64 H) := by simp [hc1]
  have d2 : w1.cell? ⟨w.heap.size, 2, none⟩ = some (.int .i64 X) := by simp [hc1]
  have z0 : w.heap.size < w1.heap.size := by have := hb1.size; simp at this; omega
  have hbw : Below w.heap.size w w1 := by (repeat (first | exact Below.refl _ _ | assumption | refine below_step ?_ (by assumption) | refine below_alloc ?_ _ | refine below_drewN ?_ _ | refine Below.drew ?_ | refine Below.setCell ?_ (by first | (simp; done) | omega | (simp; omega)) _))
  clear hb1 hc1 hf1 hs1 hz1
  go_wp2_with fail
  go_region
  go_wp2_with fail
  go_region
  cases hx : inB (k % W + 1) 0 (W - 1)
  · skip
    go_wp2_with fail
    refine (calls_is (impl_within _ _ _ _) hx).mono ?_
    rintro e _ ⟨rfl, rfl⟩
    go_wp2
    go_ret
    exact ⟨ret_int (by simp [stepTo, hx]), by (repeat (first | exact Below.refl _ _ | assumption | refine below_step ?_ (by assumption) | refine below_alloc ?_ _ | refine below_drewN ?_ _ | refine Below.drew ?_ | refine Below.setCell ?_ (by first | (simp; done) | omega | (simp; omega)) _))⟩
  · cases hy : inB (k / W) 0 (H - 1)
    · skip
      go_wp2_with fail
      refine (calls_is (impl_within _ _ _ _) hx).mono ?_
      rintro e _ ⟨rfl, rfl⟩
      go_wp2_with fail
      refine (calls_is (impl_within _ _ _ _) hy).mono ?_
      rintro e _ ⟨rfl, rfl⟩
      go_wp2
      go_ret
      exact ⟨ret_int (by simp [stepTo, hy]), by (repeat (first | exact Below.refl _ _ | assumption | refine below_step ?_ (by assumption) | refine below_alloc ?_ _ | refine below_drewN ?_ _ | refine Below.drew ?_ | refine Below.setCell ?_ (by first | (simp; done) | omega | (simp; omega)) _))⟩
    · obtain ⟨r1, r2, r3, r4⟩ := row_bd w1' w2' h2' hx hy
      cases hb : bitI X ((k / W) * W + (k % W + 1))
      · skip
        go_wp2_with fail
        refine (calls_is (impl_within _ _ _ _) hx).mono ?_
        rintro e _ ⟨rfl, rfl⟩
        go_wp2_with fail
        refine (calls_is (impl_within _ _ _ _) hy).mono ?_
        rintro e _ ⟨rfl, rfl⟩
        go_wp2_with fail
        refine (calls_is (impl_hasBit _ _ _ (by omega) (by omega) (by omega) (by omega)) hb).mono ?_
        rintro e _ ⟨rfl, rfl⟩
        go_wp2
        go_ret
        exact ⟨ret_int (by simp [stepTo, hx, hy, hb]), by (repeat (first | exact Below.refl _ _ | assumption | refine below_step ?_ (by assumption) | refine below_alloc ?_ _ | refine below_drewN ?_ _ | refine Below.drew ?_ | refine Below.setCell ?_ (by first | (simp; done) | omega | (simp; omega)) _))⟩
      · skip
        go_wp2_with fail
        refine (calls_is (impl_within _ _ _ _) hx).mono ?_
        rintro e _ ⟨rfl, rfl⟩
        go_wp2_with fail
        refine (calls_is (impl_within _ _ _ _) hy).mono ?_
        rintro e _ ⟨rfl, rfl⟩
        go_wp2_with fail
        refine (calls_is (impl_hasBit _ _ _ (by omega) (by omega) (by omega) (by omega)) hb).mono ?_
        rintro e _ ⟨rfl, rfl⟩
        go_wp2
        go_ret
        exact ⟨ret_int (by simp [stepTo, hx, hy, hb]), by (repeat (first | exact Below.refl _ _ | assumption | refine below_step ?_ (by assumption) | refine below_alloc ?_ _ | refine below_drewN ?_ _ | refine Below.drew ?_ | refine Below.setCell ?_ (by first | (simp; done) | omega | (simp; omega)) _))⟩

set_option maxHeartbeats 4000000 in
theorem impl_beside_1 (W H X k : Int) (w : World) (h1 : boardOk W H X = true) (h2 : inB k 0 (W * H - 1) = true) (h3 : hasHole W H X k = true) :
    Calls Try.prog 132 #[.agg #[.int .i64 W, .int .i64 H, .int .i64 X], .int .i64 k, .int .i64 1] w fun e w' => e = .returned (.int .i64 (stepIn W H X k 1)) ∧ Below w.heap.size w w' := by
  have e : stepIn W H X k 1 = stepTo W H X (k % W) (k / W + 1) := by unfold stepIn; congr 1 <;> (first | (simp [dxOf]; done) | (simp [dyOf]; done) | (simp [dxOf]; omega) | (simp [dyOf]; omega))
  rw [e]; clear e
  obtain ⟨m1, m2, w1', w2', h1', h2', x1, x3⟩ : 1 ≤ W * H ∧ W * H ≤ 49 ∧ 1 ≤ W ∧ W ≤ 7 ∧ 1 ≤ H ∧ H ≤ 7 ∧ 1 ≤ X ∧ X < 562949953421312 := ⟨(boardOk_facts h1).m1, (boardOk_facts h1).m2, (boardOk_facts h1).w1, (boardOk_facts h1).w2, (boardOk_facts h1).h1, (boardOk_facts h1).h2, (boardOk_facts h1).x1, (boardOk_facts h1).x3⟩
  have hW0 : (W == 0) = false := by simp; omega
  obtain ⟨k1, k2⟩ := inB_iff.1 h2
  obtain ⟨a1, a2⟩ := mod_bd (j := k) w1'
  obtain ⟨a3, a4⟩ := div_bd (j := k) w1' k1
  go_enter Try.func132, Try.ntmps132
  go_wp2_with fail
  refine (calls_is (impl_HasHole _ _ _ _ _) h3).mono ?_
  rintro e w1 ⟨rfl, hb1⟩
  obtain ⟨hc1, hf1, hs1⟩ := bcell3 hb1
  have hz1 := hb1.size
  (try simp at hz1)
  have d0 : w1.cell? ⟨w.heap.size, 0, none⟩ = some (.int .i64 W) := by simp [hc1]
  have d1 : w1.cell? ⟨w.heap.size, 1, none⟩ = some (.int .i64 H) := by simp [hc1]
  have d2 : w1.cell? ⟨w.heap.size, 2, none⟩ = some (.int .i64 X) := by simp [hc1]
  have z0 : w.heap.size < w1.heap.size := by have := hb1.size; simp at this; omega
  have hbw : Below w.heap.size w w1 := by (repeat (first | exact Below.refl _ _ | assumption | refine below_step ?_ (by assumption) | refine below_alloc ?_ _ | refine below_drewN ?_ _ | refine Below.drew ?_ | refine Below.setCell ?_ (by first | (simp; done) | omega | (simp; omega)) _))
  clear hb1 hc1 hf1 hs1 hz1
  go_wp2_with fail
  go_region
  go_wp2_with fail
  go_region
  cases hx : inB (k % W) 0 (W - 1)
  · skip
    go_wp2_with fail
    refine (calls_is (impl_within _ _ _ _) hx).mono ?_
    rintro e _ ⟨rfl, rfl⟩
    go_wp2
    go_ret
    exact ⟨ret_int (by simp [stepTo, hx]), by (repeat (first | exact Below.refl _ _ | assumption | refine below_step ?_ (by assumption) | refine below_alloc ?_ _ | refine below_drewN ?_ _ | refine Below.drew ?_ | refine Below.setCell ?_ (by first | (simp; done) | omega | (simp; omega)) _))⟩
  · cases hy : inB (k / W + 1) 0 (H - 1)
    · skip
      go_wp2_with fail
      refine (calls_is (impl_within _ _ _ _) hx).mono ?_
      rintro e _ ⟨rfl, rfl⟩
      go_wp2_with fail
      refine (calls_is (impl_within _ _ _ _) hy).mono ?_
      rintro e _ ⟨rfl, rfl⟩
      go_wp2
      go_ret
      exact ⟨ret_int (by simp [stepTo, hy]), by (repeat (first | exact Below.refl _ _ | assumption | refine below_step ?_ (by assumption) | refine below_alloc ?_ _ | refine below_drewN ?_ _ | refine Below.drew ?_ | refine Below.setCell ?_ (by first | (simp; done) | omega | (simp; omega)) _))⟩
    · obtain ⟨r1, r2, r3, r4⟩ := row_bd w1' w2' h2' hx hy
      cases hb : bitI X ((k / W + 1) * W + (k % W))
      · skip
        go_wp2_with fail
        refine (calls_is (impl_within _ _ _ _) hx).mono ?_
        rintro e _ ⟨rfl, rfl⟩
        go_wp2_with fail
        refine (calls_is (impl_within _ _ _ _) hy).mono ?_
        rintro e _ ⟨rfl, rfl⟩
        go_wp2_with fail
        refine (calls_is (impl_hasBit _ _ _ (by omega) (by omega) (by omega) (by omega)) hb).mono ?_
        rintro e _ ⟨rfl, rfl⟩
        go_wp2
        go_ret
        exact ⟨ret_int (by simp [stepTo, hx, hy, hb]), by (repeat (first | exact Below.refl _ _ | assumption | refine below_step ?_ (by assumption) | refine below_alloc ?_ _ | refine below_drewN ?_ _ | refine Below.drew ?_ | refine Below.setCell ?_ (by first | (simp; done) | omega | (simp; omega)) _))⟩
      · skip
        go_wp2_with fail
        refine (calls_is (impl_within _ _ _ _) hx).mono ?_
        rintro e _ ⟨rfl, rfl⟩
        go_wp2_with fail
        refine (calls_is (impl_within _ _ _ _) hy).mono ?_
        rintro e _ ⟨rfl, rfl⟩
        go_wp2_with fail
        refine (calls_is (impl_hasBit _ _ _ (by omega) (by omega) (by omega) (by omega)) hb).mono ?_
        rintro e _ ⟨rfl, rfl⟩
        go_wp2
        go_ret
        exact ⟨ret_int (by simp [stepTo, hx, hy, hb]), by (repeat (first | exact Below.refl _ _ | assumption | refine below_step ?_ (by assumption) | refine below_alloc ?_ _ | refine below_drewN ?_ _ | refine Below.drew ?_ | refine Below.setCell ?_ (by first | (simp; done) | omega | (simp; omega)) _))⟩

set_option maxHeartbeats 4000000 in
theorem impl_beside_2 (W H X k : Int) (w : World) (h1 : boardOk W H X = true) (h2 : inB k 0 (W * H - 1) = true) (h3 : hasHole W H X k = true) :
    Calls Try.prog 132 #[.agg #[.int .i64 W, .int .i64 H, .int .i64 X], .int .i64 k, .int .i64 2] w fun e w' => e = .returned (.int .i64 (stepIn W H X k 2)) ∧ Below w.heap.size w w' := by
  have e : stepIn W H X k 2 = stepTo W H X (k % W + -1) (k / W) := by unfold stepIn; congr 1 <;> (first | (simp [dxOf]; done) | (simp [dyOf]; done) | (simp [dxOf]; omega) | (simp [dyOf]; omega))
  rw [e]; clear e
  obtain ⟨m1, m2, w1', w2', h1', h2', x1, x3⟩ : 1 ≤ W * H ∧ W * H ≤ 49 ∧ 1 ≤ W ∧ W ≤ 7 ∧ 1 ≤ H ∧ H ≤ 7 ∧ 1 ≤ X ∧ X < 562949953421312 := ⟨(boardOk_facts h1).m1, (boardOk_facts h1).m2, (boardOk_facts h1).w1, (boardOk_facts h1).w2, (boardOk_facts h1).h1, (boardOk_facts h1).h2, (boardOk_facts h1).x1, (boardOk_facts h1).x3⟩
  have hW0 : (W == 0) = false := by simp; omega
  obtain ⟨k1, k2⟩ := inB_iff.1 h2
  obtain ⟨a1, a2⟩ := mod_bd (j := k) w1'
  obtain ⟨a3, a4⟩ := div_bd (j := k) w1' k1
  go_enter Try.func132, Try.ntmps132
  go_wp2_with fail
  refine (calls_is (impl_HasHole _ _ _ _ _) h3).mono ?_
  rintro e w1 ⟨rfl, hb1⟩
  obtain ⟨hc1, hf1, hs1⟩ := bcell3 hb1
  have hz1 := hb1.size
  (try simp at hz1)
  have d0 : w1.cell? ⟨w.heap.size, 0, none⟩ = some (.int .i64 W) := by simp [hc1]
  have d1 : w1.cell? ⟨w.heap.size, 1, none⟩ = some (.int .i64 H) := by simp [hc1]
  have d2 : w1.cell? ⟨w.heap.size, 2, none⟩ = some (.int .i64 X) := by simp [hc1]
  have z0 : w.heap.size < w1.heap.size := by have := hb1.size; simp at this; omega
  have hbw : Below w.heap.size w w1 := by (repeat (first | exact Below.refl _ _ | assumption | refine below_step ?_ (by assumption) | refine below_alloc ?_ _ | refine below_drewN ?_ _ | refine Below.drew ?_ | refine Below.setCell ?_ (by first | (simp; done) | omega | (simp; omega)) _))
  clear hb1 hc1 hf1 hs1 hz1
  go_wp2_with fail
  go_region
  go_wp2_with fail
  go_region
  cases hx : inB (k % W + -1) 0 (W - 1)
  · skip
    go_wp2_with fail
    refine (calls_is (impl_within _ _ _ _) hx).mono ?_
    rintro e _ ⟨rfl, rfl⟩
    go_wp2
    go_ret
    exact ⟨ret_int (by simp [stepTo, hx]), by (repeat (first | exact Below.refl _ _ | assumption | refine below_step ?_ (by assumption) | refine below_alloc ?_ _ | refine below_drewN ?_ _ | refine Below.drew ?_ | refine Below.setCell ?_ (by first | (simp; done) | omega | (simp; omega)) _))⟩
  · cases hy : inB (k / W) 0 (H - 1)
    · skip
      go_wp2_with fail
      refine (calls_is (impl_within _ _ _ _) hx).mono ?_
      rintro e _ ⟨rfl, rfl⟩
      go_wp2_with fail
      refine (calls_is (impl_within _ _ _ _) hy).mono ?_
      rintro e _ ⟨rfl, rfl⟩
      go_wp2
      go_ret
      exact ⟨ret_int (by simp [stepTo, hy]), by (repeat (first | exact Below.refl _ _ | assumption | refine below_step ?_ (by assumption) | refine below_alloc ?_ _ | refine below_drewN ?_ _ | refine Below.drew ?_ | refine Below.setCell ?_ (by first | (simp; done) | omega | (simp; omega)) _))⟩
    · obtain ⟨r1, r2, r3, r4⟩ := row_bd w1' w2' h2' hx hy
      cases hb : bitI X ((k / W) * W + (k % W + -1))
      · skip
        go_wp2_with fail
        refine (calls_is (impl_within _ _ _ _) hx).mono ?_
        rintro e _ ⟨rfl, rfl⟩
        go_wp2_with fail
        refine (calls_is (impl_within _ _ _ _) hy).mono ?_
        rintro e _ ⟨rfl, rfl⟩
        go_wp2_with fail
        refine (calls_is (impl_hasBit _ _ _ (by omega) (by omega) (by omega) (by omega)) hb).mono ?_
        rintro e _ ⟨rfl, rfl⟩
        go_wp2
        go_ret
        exact ⟨ret_int (by simp [stepTo, hx, hy, hb]), by (repeat (first | exact Below.refl _ _ | assumption | refine below_step ?_ (by assumption) | refine below_alloc ?_ _ | refine below_drewN ?_ _ | refine Below.drew ?_ | refine Below.setCell ?_ (by first | (simp; done) | omega | (simp; omega)) _))⟩
      · skip
        go_wp2_with fail
        refine (calls_is (impl_within _ _ _ _) hx).mono ?_
        rintro e _ ⟨rfl, rfl⟩
        go_wp2_with fail
        refine (calls_is (impl_within _ _ _ _) hy).mono ?_
        rintro e _ ⟨rfl, rfl⟩
        go_wp2_with fail
        refine (calls_is (impl_hasBit _ _ _ (by omega) (by omega) (by omega) (by omega)) hb).mono ?_
        rintro e _ ⟨rfl, rfl⟩
        go_wp2
        go_ret
        exact ⟨ret_int (by simp [stepTo, hx, hy, hb]), by (repeat (first | exact Below.refl _ _ | assumption | refine below_step ?_ (by assumption) | refine below_alloc ?_ _ | refine below_drewN ?_ _ | refine Below.drew ?_ | refine Below.setCell ?_ (by first | (simp; done) | omega | (simp; omega)) _))⟩

set_option maxHeartbeats 4000000 in
theorem impl_beside_3 (W H X k : Int) (w : World) (h1 : boardOk W H X = true) (h2 : inB k 0 (W * H - 1) = true) (h3 : hasHole W H X k = true) :
    Calls Try.prog 132 #[.agg #[.int .i64 W, .int .i64 H, .int .i64 X], .int .i64 k, .int .i64 3] w fun e w' => e = .returned (.int .i64 (stepIn W H X k 3)) ∧ Below w.heap.size w w' := by
  have e : stepIn W H X k 3 = stepTo W H X (k % W) (k / W + -1) := by unfold stepIn; congr 1 <;> (first | (simp [dxOf]; done) | (simp [dyOf]; done) | (simp [dxOf]; omega) | (simp [dyOf]; omega))
  rw [e]; clear e
  obtain ⟨m1, m2, w1', w2', h1', h2', x1, x3⟩ : 1 ≤ W * H ∧ W * H ≤ 49 ∧ 1 ≤ W ∧ W ≤ 7 ∧ 1 ≤ H ∧ H ≤ 7 ∧ 1 ≤ X ∧ X < 562949953421312 := ⟨(boardOk_facts h1).m1, (boardOk_facts h1).m2, (boardOk_facts h1).w1, (boardOk_facts h1).w2, (boardOk_facts h1).h1, (boardOk_facts h1).h2, (boardOk_facts h1).x1, (boardOk_facts h1).x3⟩
  have hW0 : (W == 0) = false := by simp; omega
  obtain ⟨k1, k2⟩ := inB_iff.1 h2
  obtain ⟨a1, a2⟩ := mod_bd (j := k) w1'
  obtain ⟨a3, a4⟩ := div_bd (j := k) w1' k1
  go_enter Try.func132, Try.ntmps132
  go_wp2_with fail
  refine (calls_is (impl_HasHole _ _ _ _ _) h3).mono ?_
  rintro e w1 ⟨rfl, hb1⟩
  obtain ⟨hc1, hf1, hs1⟩ := bcell3 hb1
  have hz1 := hb1.size
  (try simp at hz1)
  have d0 : w1.cell? ⟨w.heap.size, 0, none⟩ = some (.int .i64 W) := by simp [hc1]
  have d1 : w1.cell? ⟨w.heap.size, 1, none⟩ = some (.int .i64 H) := by simp [hc1]
  have d2 : w1.cell? ⟨w.heap.size, 2, none⟩ = some (.int .i64 X) := by simp [hc1]
  have z0 : w.heap.size < w1.heap.size := by have := hb1.size; simp at this; omega
  have hbw : Below w.heap.size w w1 := by (repeat (first | exact Below.refl _ _ | assumption | refine below_step ?_ (by assumption) | refine below_alloc ?_ _ | refine below_drewN ?_ _ | refine Below.drew ?_ | refine Below.setCell ?_ (by first | (simp; done) | omega | (simp; omega)) _))
  clear hb1 hc1 hf1 hs1 hz1
  go_wp2_with fail
  go_region
  go_wp2_with fail
  go_region
  cases hx : inB (k % W) 0 (W - 1)
  · skip
    go_wp2_with fail
    refine (calls_is (impl_within _ _ _ _) hx).mono ?_
    rintro e _ ⟨rfl, rfl⟩
    go_wp2
    go_ret
    exact ⟨ret_int (by simp [stepTo, hx]), by (repeat (first | exact Below.refl _ _ | assumption | refine below_step ?_ (by assumption) | refine below_alloc ?_ _ | refine below_drewN ?_ _ | refine Below.drew ?_ | refine Below.setCell ?_ (by first | (simp; done) | omega | (simp; omega)) _))⟩
  · cases hy : inB (k / W + -1) 0 (H - 1)
    · skip
      go_wp2_with fail
      refine (calls_is (impl_within _ _ _ _) hx).mono ?_
      rintro e _ ⟨rfl, rfl⟩
      go_wp2_with fail
      refine (calls_is (impl_within _ _ _ _) hy).mono ?_
      rintro e _ ⟨rfl, rfl⟩
      go_wp2
      go_ret
      exact ⟨ret_int (by simp [stepTo, hy]), by (repeat (first | exact Below.refl _ _ | assumption | refine below_step ?_ (by assumption) | refine below_alloc ?_ _ | refine below_drewN ?_ _ | refine Below.drew ?_ | refine Below.setCell ?_ (by first | (simp; done) | omega | (simp; omega)) _))⟩
    · obtain ⟨r1, r2, r3, r4⟩ := row_bd w1' w2' h2' hx hy
      cases hb : bitI X ((k / W + -1) * W + (k % W))
      · skip
        go_wp2_with fail
        refine (calls_is (impl_within _ _ _ _) hx).mono ?_
        rintro e _ ⟨rfl, rfl⟩
        go_wp2_with fail
        refine (calls_is (impl_within _ _ _ _) hy).mono ?_
        rintro e _ ⟨rfl, rfl⟩
        go_wp2_with fail
        refine (calls_is (impl_hasBit _ _ _ (by omega) (by omega) (by omega) (by omega)) hb).mono ?_
        rintro e _ ⟨rfl, rfl⟩
        go_wp2
        go_ret
        exact ⟨ret_int (by simp [stepTo, hx, hy, hb]), by (repeat (first | exact Below.refl _ _ | assumption | refine below_step ?_ (by assumption) | refine below_alloc ?_ _ | refine below_drewN ?_ _ | refine Below.drew ?_ | refine Below.setCell ?_ (by first | (simp; done) | omega | (simp; omega)) _))⟩
      · skip
        go_wp2_with fail
        refine (calls_is (impl_within _ _ _ _) hx).mono ?_
        rintro e _ ⟨rfl, rfl⟩
        go_wp2_with fail
        refine (calls_is (impl_within _ _ _ _) hy).mono ?_
        rintro e _ ⟨rfl, rfl⟩
        go_wp2_with fail
        refine (calls_is (impl_hasBit _ _ _ (by omega) (by omega) (by omega) (by omega)) hb).mono ?_
        rintro e _ ⟨rfl, rfl⟩
        go_wp2
        go_ret
        exact ⟨ret_int (by simp [stepTo, hx, hy, hb]), by (repeat (first | exact Below.refl _ _ | assumption | refine below_step ?_ (by assumption) | refine below_alloc ?_ _ | refine below_drewN ?_ _ | refine Below.drew ?_ | refine Below.setCell ?_ (by first | (simp; done) | omega | (simp; omega)) _))⟩

set_option maxHeartbeats 400000 in
theorem impl_beside_no (W H X k way : Int) (w : World) (h3 : hasHole W H X k = false) :
    Calls Try.prog 132 #[.agg #[.int .i64 W, .int .i64 H, .int .i64 X], .int .i64 k, .int .i64 way] w fun e w' => e = .returned (.int .i64 (-1)) ∧ Below w.heap.size w w' := by
  go_enter Try.func132, Try.ntmps132
  go_wp2_with fail
  refine (calls_is (impl_HasHole _ _ _ _ _) h3).mono ?_
  rintro e w1 ⟨rfl, hb1⟩
  obtain ⟨hc1, hf1, hs1⟩ := bcell3 hb1
  have hz1 := hb1.size
  (try simp at hz1)
  go_wp2
  go_ret
  exact ⟨rfl, by (repeat (first | exact Below.refl _ _ | assumption | refine below_step ?_ (by assumption) | refine below_alloc ?_ _ | refine below_drewN ?_ _ | refine Below.drew ?_ | refine Below.setCell ?_ (by first | (simp; done) | omega | (simp; omega)) _))⟩

theorem impl_beside (W H X k way : Int) (w : World) (hw : way = 0 ∨ way = 1 ∨ way = 2 ∨ way = 3) :
    Calls Try.prog 132 #[.agg #[.int .i64 W, .int .i64 H, .int .i64 X], .int .i64 k, .int .i64 way] w fun e w' => e = .returned (.int .i64 (stepAt W H X k way)) ∧ Below w.heap.size w w' := by
  cases h3 : hasHole W H X k
  · exact (impl_beside_no W H X k way w h3).mono fun e w' h => ⟨h.1.trans (ret_int (by simp [stepAt, h3])), h.2⟩
  · have e : stepAt W H X k way = stepIn W H X k way := by simp [stepAt, h3]
    have h := h3
    simp only [hasHole, Bool.and_eq_true] at h
    rw [e]
    rcases hw with rfl | rfl | rfl | rfl
    · exact impl_beside_0 W H X k w h.1.1 h.1.2 h3
    · exact impl_beside_1 W H X k w h.1.1 h.1.2 h3
    · exact impl_beside_2 W H X k w h.1.1 h.1.2 h3
    · exact impl_beside_3 W H X k w h.1.1 h.1.2 h3
set_option maxHeartbeats 4000000 in
theorem spec_l03Step_0 (W H X k : Int) (w : World) (h1 : boardOk W H X = true) (h2 : inB k 0 (W * H - 1) = true) :
    Calls Try.prog 101 #[.agg #[.int .i64 W, .int .i64 H, .int .i64 X], .int .i64 k, .int .i64 0] w fun e w' => e = .returned (.int .i64 (stepIn W H X k 0)) ∧ Below w.heap.size w w' := by
  have e : stepIn W H X k 0 = stepTo W H X (k % W + 1) (k / W) := by unfold stepIn; congr 1 <;> (first | (simp [dxOf]; done) | (simp [dyOf]; done) | (simp [dxOf]; omega) | (simp [dyOf]; omega))
  rw [e]; clear e
  obtain ⟨m1, m2, w1', w2', h1', h2', x1, x3⟩ : 1 ≤ W * H ∧ W * H ≤ 49 ∧ 1 ≤ W ∧ W ≤ 7 ∧ 1 ≤ H ∧ H ≤ 7 ∧ 1 ≤ X ∧ X < 562949953421312 := ⟨(boardOk_facts h1).m1, (boardOk_facts h1).m2, (boardOk_facts h1).w1, (boardOk_facts h1).w2, (boardOk_facts h1).h1, (boardOk_facts h1).h2, (boardOk_facts h1).x1, (boardOk_facts h1).x3⟩
  have hW0 : (W == 0) = false := by simp; omega
  obtain ⟨k1, k2⟩ := inB_iff.1 h2
  obtain ⟨a1, a2⟩ := mod_bd (j := k) w1'
  obtain ⟨a3, a4⟩ := div_bd (j := k) w1' k1
  go_enter Try.func101, Try.ntmps101
  go_wp2_with fail
  generalize hV : w.alloc (.cells #[.int .i64 W, .int .i64 H, .int .i64 X] 44) = V
  have v0 : Below w.heap.size w V := by subst hV; (repeat (first | exact Below.refl _ _ | assumption | refine below_step ?_ (by assumption) | refine below_alloc ?_ _ | refine below_drewN ?_ _ | refine Below.drew ?_ | refine Below.setCell ?_ (by first | (simp; done) | omega | (simp; omega)) _))
  have z0 : w.heap.size < V.heap.size := by subst hV; simp <;> omega
  have v0_0 : V.cell? ⟨w.heap.size, 0, none⟩ = some (.int .i64 W) := by subst hV; simp
  have v0_1 : V.cell? ⟨w.heap.size, 1, none⟩ = some (.int .i64 H) := by subst hV; simp
  have v0_2 : V.cell? ⟨w.heap.size, 2, none⟩ = some (.int .i64 X) := by subst hV; simp
  have K : Hid (∀ w', Below V.heap.size V w' → Below V.heap.size V w' ∧ w'.cell? ⟨w.heap.size, 0, none⟩ = some (.int .i64 W) ∧ w'.cell? ⟨w.heap.size, 1, none⟩ = some (.int .i64 H) ∧ w'.cell? ⟨w.heap.size, 2, none⟩ = some (.int .i64 X)) := fun w' hB => ⟨hB, bel_cell hB z0 v0_0, bel_cell hB z0 v0_1, bel_cell hB z0 v0_2⟩
  have ZV : Hid (w.heap.size + 1 = V.heap.size) := by subst hV; unfold Hid; simp
  clear hV
  have hbw := v0
  go_region
  go_wp2_with fail
  go_region
  cases hx : inB (k % W + 1) 0 (W - 1)
  · skip
    go_wp2_with fail
    refine (calls_is (spec_l01In _ _ _ _) hx).mono ?_
    rintro e _ ⟨rfl, rfl⟩
    go_wp2
    go_ret
    exact ⟨ret_int (by simp [stepTo, hx]), by (repeat (first | exact Below.refl _ _ | assumption | refine below_step ?_ (by assumption) | refine below_alloc ?_ _ | refine below_drewN ?_ _ | refine Below.drew ?_ | refine Below.setCell ?_ (by first | (simp; done) | omega | (simp; omega)) _))⟩
  · cases hy : inB (k / W) 0 (H - 1)
    · skip
      go_wp2_with fail
      refine (calls_is (spec_l01In _ _ _ _) hx).mono ?_
      rintro e _ ⟨rfl, rfl⟩
      go_wp2_with fail
      refine (calls_is (spec_l01In _ _ _ _) hy).mono ?_
      rintro e _ ⟨rfl, rfl⟩
      go_wp2
      go_ret
      exact ⟨ret_int (by simp [stepTo, hy]), by (repeat (first | exact Below.refl _ _ | assumption | refine below_step ?_ (by assumption) | refine below_alloc ?_ _ | refine below_drewN ?_ _ | refine Below.drew ?_ | refine Below.setCell ?_ (by first | (simp; done) | omega | (simp; omega)) _))⟩
    · obtain ⟨r1, r2, r3, r4⟩ := row_bd w1' w2' h2' hx hy
      cases hb : bitI X ((k / W) * W + (k % W + 1))
      · skip
        have hz : (bits .and .i64 (X / 2 ^ ((k / W) * W + (k % W + 1)).toNat) 1 == 0) = true := by rw [beq_shr_zero (by omega) (by omega), hb]; rfl
        go_wp2_with fail
        refine (calls_is (spec_l01In _ _ _ _) hx).mono ?_
        rintro e _ ⟨rfl, rfl⟩
        go_wp2_with fail
        refine (calls_is (spec_l01In _ _ _ _) hy).mono ?_
        rintro e _ ⟨rfl, rfl⟩
        go_wp2
        go_ret
        exact ⟨ret_int (by simp [stepTo, hx, hy, hb]), by (repeat (first | exact Below.refl _ _ | assumption | refine below_step ?_ (by assumption) | refine below_alloc ?_ _ | refine below_drewN ?_ _ | refine Below.drew ?_ | refine Below.setCell ?_ (by first | (simp; done) | omega | (simp; omega)) _))⟩
      · skip
        have hz : (bits .and .i64 (X / 2 ^ ((k / W) * W + (k % W + 1)).toNat) 1 == 0) = false := by rw [beq_shr_zero (by omega) (by omega), hb]; rfl
        go_wp2_with fail
        refine (calls_is (spec_l01In _ _ _ _) hx).mono ?_
        rintro e _ ⟨rfl, rfl⟩
        go_wp2_with fail
        refine (calls_is (spec_l01In _ _ _ _) hy).mono ?_
        rintro e _ ⟨rfl, rfl⟩
        go_wp2
        go_ret
        exact ⟨ret_int (by simp [stepTo, hx, hy, hb]), by (repeat (first | exact Below.refl _ _ | assumption | refine below_step ?_ (by assumption) | refine below_alloc ?_ _ | refine below_drewN ?_ _ | refine Below.drew ?_ | refine Below.setCell ?_ (by first | (simp; done) | omega | (simp; omega)) _))⟩

set_option maxHeartbeats 4000000 in
theorem spec_l03Step_1 (W H X k : Int) (w : World) (h1 : boardOk W H X = true) (h2 : inB k 0 (W * H - 1) = true) :
    Calls Try.prog 101 #[.agg #[.int .i64 W, .int .i64 H, .int .i64 X], .int .i64 k, .int .i64 1] w fun e w' => e = .returned (.int .i64 (stepIn W H X k 1)) ∧ Below w.heap.size w w' := by
  have e : stepIn W H X k 1 = stepTo W H X (k % W) (k / W + 1) := by unfold stepIn; congr 1 <;> (first | (simp [dxOf]; done) | (simp [dyOf]; done) | (simp [dxOf]; omega) | (simp [dyOf]; omega))
  rw [e]; clear e
  obtain ⟨m1, m2, w1', w2', h1', h2', x1, x3⟩ : 1 ≤ W * H ∧ W * H ≤ 49 ∧ 1 ≤ W ∧ W ≤ 7 ∧ 1 ≤ H ∧ H ≤ 7 ∧ 1 ≤ X ∧ X < 562949953421312 := ⟨(boardOk_facts h1).m1, (boardOk_facts h1).m2, (boardOk_facts h1).w1, (boardOk_facts h1).w2, (boardOk_facts h1).h1, (boardOk_facts h1).h2, (boardOk_facts h1).x1, (boardOk_facts h1).x3⟩
  have hW0 : (W == 0) = false := by simp; omega
  obtain ⟨k1, k2⟩ := inB_iff.1 h2
  obtain ⟨a1, a2⟩ := mod_bd (j := k) w1'
  obtain ⟨a3, a4⟩ := div_bd (j := k) w1' k1
  go_enter Try.func101, Try.ntmps101
  go_wp2_with fail
  generalize hV : w.alloc (.cells #[.int .i64 W, .int .i64 H, .int .i64 X] 44) = V
  have v0 : Below w.heap.size w V := by subst hV; (repeat (first | exact Below.refl _ _ | assumption | refine below_step ?_ (by assumption) | refine below_alloc ?_ _ | refine below_drewN ?_ _ | refine Below.drew ?_ | refine Below.setCell ?_ (by first | (simp; done) | omega | (simp; omega)) _))
  have z0 : w.heap.size < V.heap.size := by subst hV; simp <;> omega
  have v0_0 : V.cell? ⟨w.heap.size, 0, none⟩ = some (.int .i64 W) := by subst hV; simp
  have v0_1 : V.cell? ⟨w.heap.size, 1, none⟩ = some (.int .i64 H) := by subst hV; simp
  have v0_2 : V.cell? ⟨w.heap.size, 2, none⟩ = some (.int .i64 X) := by subst hV; simp
  have K : Hid (∀ w', Below V.heap.size V w' → Below V.heap.size V w' ∧ w'.cell? ⟨w.heap.size, 0, none⟩ = some (.int .i64 W) ∧ w'.cell? ⟨w.heap.size, 1, none⟩ = some (.int .i64 H) ∧ w'.cell? ⟨w.heap.size, 2, none⟩ = some (.int .i64 X)) := fun w' hB => ⟨hB, bel_cell hB z0 v0_0, bel_cell hB z0 v0_1, bel_cell hB z0 v0_2⟩
  have ZV : Hid (w.heap.size + 1 = V.heap.size) := by subst hV; unfold Hid; simp
  clear hV
  have hbw := v0
  go_region
  go_wp2_with fail
  go_region
  cases hx : inB (k % W) 0 (W - 1)
  · skip
    go_wp2_with fail
    refine (calls_is (spec_l01In _ _ _ _) hx).mono ?_
    rintro e _ ⟨rfl, rfl⟩
    go_wp2
    go_ret
    exact ⟨ret_int (by simp [stepTo, hx]), by (repeat (first | exact Below.refl _ _ | assumption | refine below_step ?_ (by assumption) | refine below_alloc ?_ _ | refine below_drewN ?_ _ | refine Below.drew ?_ | refine Below.setCell ?_ (by first | (simp; done) | omega | (simp; omega)) _))⟩
  · cases hy : inB (k / W + 1) 0 (H - 1)
    · skip
      go_wp2_with fail
      refine (calls_is (spec_l01In _ _ _ _) hx).mono ?_
      rintro e _ ⟨rfl, rfl⟩
      go_wp2_with fail
      refine (calls_is (spec_l01In _ _ _ _) hy).mono ?_
      rintro e _ ⟨rfl, rfl⟩
      go_wp2
      go_ret
      exact ⟨ret_int (by simp [stepTo, hy]), by (repeat (first | exact Below.refl _ _ | assumption | refine below_step ?_ (by assumption) | refine below_alloc ?_ _ | refine below_drewN ?_ _ | refine Below.drew ?_ | refine Below.setCell ?_ (by first | (simp; done) | omega | (simp; omega)) _))⟩
    · obtain ⟨r1, r2, r3, r4⟩ := row_bd w1' w2' h2' hx hy
      cases hb : bitI X ((k / W + 1) * W + (k % W))
      · skip
        have hz : (bits .and .i64 (X / 2 ^ ((k / W + 1) * W + (k % W)).toNat) 1 == 0) = true := by rw [beq_shr_zero (by omega) (by omega), hb]; rfl
        go_wp2_with fail
        refine (calls_is (spec_l01In _ _ _ _) hx).mono ?_
        rintro e _ ⟨rfl, rfl⟩
        go_wp2_with fail
        refine (calls_is (spec_l01In _ _ _ _) hy).mono ?_
        rintro e _ ⟨rfl, rfl⟩
        go_wp2
        go_ret
        exact ⟨ret_int (by simp [stepTo, hx, hy, hb]), by (repeat (first | exact Below.refl _ _ | assumption | refine below_step ?_ (by assumption) | refine below_alloc ?_ _ | refine below_drewN ?_ _ | refine Below.drew ?_ | refine Below.setCell ?_ (by first | (simp; done) | omega | (simp; omega)) _))⟩
      · skip
        have hz : (bits .and .i64 (X / 2 ^ ((k / W + 1) * W + (k % W)).toNat) 1 == 0) = false := by rw [beq_shr_zero (by omega) (by omega), hb]; rfl
        go_wp2_with fail
        refine (calls_is (spec_l01In _ _ _ _) hx).mono ?_
        rintro e _ ⟨rfl, rfl⟩
        go_wp2_with fail
        refine (calls_is (spec_l01In _ _ _ _) hy).mono ?_
        rintro e _ ⟨rfl, rfl⟩
        go_wp2
        go_ret
        exact ⟨ret_int (by simp [stepTo, hx, hy, hb]), by (repeat (first | exact Below.refl _ _ | assumption | refine below_step ?_ (by assumption) | refine below_alloc ?_ _ | refine below_drewN ?_ _ | refine Below.drew ?_ | refine Below.setCell ?_ (by first | (simp; done) | omega | (simp; omega)) _))⟩

set_option maxHeartbeats 4000000 in
theorem spec_l03Step_2 (W H X k : Int) (w : World) (h1 : boardOk W H X = true) (h2 : inB k 0 (W * H - 1) = true) :
    Calls Try.prog 101 #[.agg #[.int .i64 W, .int .i64 H, .int .i64 X], .int .i64 k, .int .i64 2] w fun e w' => e = .returned (.int .i64 (stepIn W H X k 2)) ∧ Below w.heap.size w w' := by
  have e : stepIn W H X k 2 = stepTo W H X (k % W + -1) (k / W) := by unfold stepIn; congr 1 <;> (first | (simp [dxOf]; done) | (simp [dyOf]; done) | (simp [dxOf]; omega) | (simp [dyOf]; omega))
  rw [e]; clear e
  obtain ⟨m1, m2, w1', w2', h1', h2', x1, x3⟩ : 1 ≤ W * H ∧ W * H ≤ 49 ∧ 1 ≤ W ∧ W ≤ 7 ∧ 1 ≤ H ∧ H ≤ 7 ∧ 1 ≤ X ∧ X < 562949953421312 := ⟨(boardOk_facts h1).m1, (boardOk_facts h1).m2, (boardOk_facts h1).w1, (boardOk_facts h1).w2, (boardOk_facts h1).h1, (boardOk_facts h1).h2, (boardOk_facts h1).x1, (boardOk_facts h1).x3⟩
  have hW0 : (W == 0) = false := by simp; omega
  obtain ⟨k1, k2⟩ := inB_iff.1 h2
  obtain ⟨a1, a2⟩ := mod_bd (j := k) w1'
  obtain ⟨a3, a4⟩ := div_bd (j := k) w1' k1
  go_enter Try.func101, Try.ntmps101
  go_wp2_with fail
  generalize hV : w.alloc (.cells #[.int .i64 W, .int .i64 H, .int .i64 X] 44) = V
  have v0 : Below w.heap.size w V := by subst hV; (repeat (first | exact Below.refl _ _ | assumption | refine below_step ?_ (by assumption) | refine below_alloc ?_ _ | refine below_drewN ?_ _ | refine Below.drew ?_ | refine Below.setCell ?_ (by first | (simp; done) | omega | (simp; omega)) _))
  have z0 : w.heap.size < V.heap.size := by subst hV; simp <;> omega
  have v0_0 : V.cell? ⟨w.heap.size, 0, none⟩ = some (.int .i64 W) := by subst hV; simp
  have v0_1 : V.cell? ⟨w.heap.size, 1, none⟩ = some (.int .i64 H) := by subst hV; simp
  have v0_2 : V.cell? ⟨w.heap.size, 2, none⟩ = some (.int .i64 X) := by subst hV; simp
  have K : Hid (∀ w', Below V.heap.size V w' → Below V.heap.size V w' ∧ w'.cell? ⟨w.heap.size, 0, none⟩ = some (.int .i64 W) ∧ w'.cell? ⟨w.heap.size, 1, none⟩ = some (.int .i64 H) ∧ w'.cell? ⟨w.heap.size, 2, none⟩ = some (.int .i64 X)) := fun w' hB => ⟨hB, bel_cell hB z0 v0_0, bel_cell hB z0 v0_1, bel_cell hB z0 v0_2⟩
  have ZV : Hid (w.heap.size + 1 = V.heap.size) := by subst hV; unfold Hid; simp
  clear hV
  have hbw := v0
  go_region
  go_wp2_with fail
  go_region
  cases hx : inB (k % W + -1) 0 (W - 1)
  · skip
    go_wp2_with fail
    refine (calls_is (spec_l01In _ _ _ _) hx).mono ?_
    rintro e _ ⟨rfl, rfl⟩
    go_wp2
    go_ret
    exact ⟨ret_int (by simp [stepTo, hx]), by (repeat (first | exact Below.refl _ _ | assumption | refine below_step ?_ (by assumption) | refine below_alloc ?_ _ | refine below_drewN ?_ _ | refine Below.drew ?_ | refine Below.setCell ?_ (by first | (simp; done) | omega | (simp; omega)) _))⟩
  · cases hy : inB (k / W) 0 (H - 1)
    · skip
      go_wp2_with fail
      refine (calls_is (spec_l01In _ _ _ _) hx).mono ?_
      rintro e _ ⟨rfl, rfl⟩
      go_wp2_with fail
      refine (calls_is (spec_l01In _ _ _ _) hy).mono ?_
      rintro e _ ⟨rfl, rfl⟩
      go_wp2
      go_ret
      exact ⟨ret_int (by simp [stepTo, hy]), by (repeat (first | exact Below.refl _ _ | assumption | refine below_step ?_ (by assumption) | refine below_alloc ?_ _ | refine below_drewN ?_ _ | refine Below.drew ?_ | refine Below.setCell ?_ (by first | (simp; done) | omega | (simp; omega)) _))⟩
    · obtain ⟨r1, r2, r3, r4⟩ := row_bd w1' w2' h2' hx hy
      cases hb : bitI X ((k / W) * W + (k % W + -1))
      · skip
        have hz : (bits .and .i64 (X / 2 ^ ((k / W) * W + (k % W + -1)).toNat) 1 == 0) = true := by rw [beq_shr_zero (by omega) (by omega), hb]; rfl
        go_wp2_with fail
        refine (calls_is (spec_l01In _ _ _ _) hx).mono ?_
        rintro e _ ⟨rfl, rfl⟩
        go_wp2_with fail
        refine (calls_is (spec_l01In _ _ _ _) hy).mono ?_
        rintro e _ ⟨rfl, rfl⟩
        go_wp2
        go_ret
        exact ⟨ret_int (by simp [stepTo, hx, hy, hb]), by (repeat (first | exact Below.refl _ _ | assumption | refine below_step ?_ (by assumption) | refine below_alloc ?_ _ | refine below_drewN ?_ _ | refine Below.drew ?_ | refine Below.setCell ?_ (by first | (simp; done) | omega | (simp; omega)) _))⟩
      · skip
        have hz : (bits .and .i64 (X / 2 ^ ((k / W) * W + (k % W + -1)).toNat) 1 == 0) = false := by rw [beq_shr_zero (by omega) (by omega), hb]; rfl
        go_wp2_with fail
        refine (calls_is (spec_l01In _ _ _ _) hx).mono ?_
        rintro e _ ⟨rfl, rfl⟩
        go_wp2_with fail
        refine (calls_is (spec_l01In _ _ _ _) hy).mono ?_
        rintro e _ ⟨rfl, rfl⟩
        go_wp2
        go_ret
        exact ⟨ret_int (by simp [stepTo, hx, hy, hb]), by (repeat (first | exact Below.refl _ _ | assumption | refine below_step ?_ (by assumption) | refine below_alloc ?_ _ | refine below_drewN ?_ _ | refine Below.drew ?_ | refine Below.setCell ?_ (by first | (simp; done) | omega | (simp; omega)) _))⟩

set_option maxHeartbeats 4000000 in
theorem spec_l03Step_3 (W H X k : Int) (w : World) (h1 : boardOk W H X = true) (h2 : inB k 0 (W * H - 1) = true) :
    Calls Try.prog 101 #[.agg #[.int .i64 W, .int .i64 H, .int .i64 X], .int .i64 k, .int .i64 3] w fun e w' => e = .returned (.int .i64 (stepIn W H X k 3)) ∧ Below w.heap.size w w' := by
  have e : stepIn W H X k 3 = stepTo W H X (k % W) (k / W + -1) := by unfold stepIn; congr 1 <;> (first | (simp [dxOf]; done) | (simp [dyOf]; done) | (simp [dxOf]; omega) | (simp [dyOf]; omega))
  rw [e]; clear e
  obtain ⟨m1, m2, w1', w2', h1', h2', x1, x3⟩ : 1 ≤ W * H ∧ W * H ≤ 49 ∧ 1 ≤ W ∧ W ≤ 7 ∧ 1 ≤ H ∧ H ≤ 7 ∧ 1 ≤ X ∧ X < 562949953421312 := ⟨(boardOk_facts h1).m1, (boardOk_facts h1).m2, (boardOk_facts h1).w1, (boardOk_facts h1).w2, (boardOk_facts h1).h1, (boardOk_facts h1).h2, (boardOk_facts h1).x1, (boardOk_facts h1).x3⟩
  have hW0 : (W == 0) = false := by simp; omega
  obtain ⟨k1, k2⟩ := inB_iff.1 h2
  obtain ⟨a1, a2⟩ := mod_bd (j := k) w1'
  obtain ⟨a3, a4⟩ := div_bd (j := k) w1' k1
  go_enter Try.func101, Try.ntmps101
  go_wp2_with fail
  generalize hV : w.alloc (.cells #[.int .i64 W, .int .i64 H, .int .i64 X] 44) = V
  have v0 : Below w.heap.size w V := by subst hV; (repeat (first | exact Below.refl _ _ | assumption | refine below_step ?_ (by assumption) | refine below_alloc ?_ _ | refine below_drewN ?_ _ | refine Below.drew ?_ | refine Below.setCell ?_ (by first | (simp; done) | omega | (simp; omega)) _))
  have z0 : w.heap.size < V.heap.size := by subst hV; simp <;> omega
  have v0_0 : V.cell? ⟨w.heap.size, 0, none⟩ = some (.int .i64 W) := by subst hV; simp
  have v0_1 : V.cell? ⟨w.heap.size, 1, none⟩ = some (.int .i64 H) := by subst hV; simp
  have v0_2 : V.cell? ⟨w.heap.size, 2, none⟩ = some (.int .i64 X) := by subst hV; simp
  have K : Hid (∀ w', Below V.heap.size V w' → Below V.heap.size V w' ∧ w'.cell? ⟨w.heap.size, 0, none⟩ = some (.int .i64 W) ∧ w'.cell? ⟨w.heap.size, 1, none⟩ = some (.int .i64 H) ∧ w'.cell? ⟨w.heap.size, 2, none⟩ = some (.int .i64 X)) := fun w' hB => ⟨hB, bel_cell hB z0 v0_0, bel_cell hB z0 v0_1, bel_cell hB z0 v0_2⟩
  have ZV : Hid (w.heap.size + 1 = V.heap.size) := by subst hV; unfold Hid; simp
  clear hV
  have hbw := v0
  go_region
  go_wp2_with fail
  go_region
  cases hx : inB (k % W) 0 (W - 1)
  · skip
    go_wp2_with fail
    refine (calls_is (spec_l01In _ _ _ _) hx).mono ?_
    rintro e _ ⟨rfl, rfl⟩
    go_wp2
    go_ret
    exact ⟨ret_int (by simp [stepTo, hx]), by (repeat (first | exact Below.refl _ _ | assumption | refine below_step ?_ (by assumption) | refine below_alloc ?_ _ | refine below_drewN ?_ _ | refine Below.drew ?_ | refine Below.setCell ?_ (by first | (simp; done) | omega | (simp; omega)) _))⟩
  · cases hy : inB (k / W + -1) 0 (H - 1)
    · skip
      go_wp2_with fail
      refine (calls_is (spec_l01In _ _ _ _) hx).mono ?_
      rintro e _ ⟨rfl, rfl⟩
      go_wp2_with fail
      refine (calls_is (spec_l01In _ _ _ _) hy).mono ?_
      rintro e _ ⟨rfl, rfl⟩
      go_wp2
      go_ret
      exact ⟨ret_int (by simp [stepTo, hy]), by (repeat (first | exact Below.refl _ _ | assumption | refine below_step ?_ (by assumption) | refine below_alloc ?_ _ | refine below_drewN ?_ _ | refine Below.drew ?_ | refine Below.setCell ?_ (by first | (simp; done) | omega | (simp; omega)) _))⟩
    · obtain ⟨r1, r2, r3, r4⟩ := row_bd w1' w2' h2' hx hy
      cases hb : bitI X ((k / W + -1) * W + (k % W))
      · skip
        have hz : (bits .and .i64 (X / 2 ^ ((k / W + -1) * W + (k % W)).toNat) 1 == 0) = true := by rw [beq_shr_zero (by omega) (by omega), hb]; rfl
        go_wp2_with fail
        refine (calls_is (spec_l01In _ _ _ _) hx).mono ?_
        rintro e _ ⟨rfl, rfl⟩
        go_wp2_with fail
        refine (calls_is (spec_l01In _ _ _ _) hy).mono ?_
        rintro e _ ⟨rfl, rfl⟩
        go_wp2
        go_ret
        exact ⟨ret_int (by simp [stepTo, hx, hy, hb]), by (repeat (first | exact Below.refl _ _ | assumption | refine below_step ?_ (by assumption) | refine below_alloc ?_ _ | refine below_drewN ?_ _ | refine Below.drew ?_ | refine Below.setCell ?_ (by first | (simp; done) | omega | (simp; omega)) _))⟩
      · skip
        have hz : (bits .and .i64 (X / 2 ^ ((k / W + -1) * W + (k % W)).toNat) 1 == 0) = false := by rw [beq_shr_zero (by omega) (by omega), hb]; rfl
        go_wp2_with fail
        refine (calls_is (spec_l01In _ _ _ _) hx).mono ?_
        rintro e _ ⟨rfl, rfl⟩
        go_wp2_with fail
        refine (calls_is (spec_l01In _ _ _ _) hy).mono ?_
        rintro e _ ⟨rfl, rfl⟩
        go_wp2
        go_ret
        exact ⟨ret_int (by simp [stepTo, hx, hy, hb]), by (repeat (first | exact Below.refl _ _ | assumption | refine below_step ?_ (by assumption) | refine below_alloc ?_ _ | refine below_drewN ?_ _ | refine Below.drew ?_ | refine Below.setCell ?_ (by first | (simp; done) | omega | (simp; omega)) _))⟩

theorem spec_l03Step (W H X k way : Int) (w : World) (h1 : boardOk W H X = true) (h2 : inB k 0 (W * H - 1) = true) (hw : way = 0 ∨ way = 1 ∨ way = 2 ∨ way = 3) :
    Calls Try.prog 101 #[.agg #[.int .i64 W, .int .i64 H, .int .i64 X], .int .i64 k, .int .i64 way] w fun e w' => e = .returned (.int .i64 (stepIn W H X k way)) ∧ Below w.heap.size w w' := by
  rcases hw with rfl | rfl | rfl | rfl
  · exact spec_l03Step_0 W H X k w h1 h2
  · exact spec_l03Step_1 W H X k w h1 h2
  · exact spec_l03Step_2 W H X k w h1 h2
  · exact spec_l03Step_3 W H X k w h1 h2
end Go.Proofs.Ytianfakgojmnpaa
