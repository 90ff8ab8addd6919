/- Small boards, complements, steps, golden weights: contracts. -/
import Derived.Test.YtianfakgojmnpaaGoldC
namespace Go.Proofs.Ytianfakgojmnpaa
open Go.RowKit

def isSmall (W H X : Int) : Bool := boardOk W H X && decide (W * H ≤ 16)
def isComplement (W H X p q : Int) : Bool := positionOk W H X p && positionOk W H X q && (q == otherOf W H X p)
def stepsBetween (W H X j k : Int) : Int :=
  if boardOk W H X = true ∧ inB j 0 (W * H - 1) = true ∧ inB k 0 (W * H - 1) = true then absI (j % W - k % W) + absI (j / W - k / W) else -1

set_option maxHeartbeats 400000 in
theorem laws_toBoard (W H X : Int) (w : World) :
    Calls Try.prog 21 #[.agg #[.int .i64 W, .int .i64 H, .int .i64 X]] w fun e w' => e = .returned (.agg #[.int .i64 W, .int .i64 H, .int .i64 X]) ∧ Below w.heap.size w w' := by
  go_enter Try.func21, Try.ntmps21
  go_wp2
  exact bodyPost_ret (v := .agg #[.int .i64 W, .int .i64 H, .int .i64 X]) (by simp [results, Try.results21, go_sem]) rfl ⟨rfl, by (repeat (first | exact Below.refl _ _ | assumption | refine below_step ?_ (by assumption) | refine below_alloc ?_ _ | refine below_drewN ?_ _ | refine Below.drew ?_ | refine Below.setCell ?_ (by first | (simp; done) | omega | (simp; omega)) _))⟩
set_option maxHeartbeats 400000 in
theorem impl_IsSmall (W H X : Int) (w : World) :
    Calls Try.prog 35 #[.agg #[.int .i64 W, .int .i64 H, .int .i64 X]] w fun e w' => e = .returned (.bool (isSmall W H X)) ∧ Below w.heap.size w w' := by
  cases h1 : boardOk W H X
  · have e : isSmall W H X = false := by simp [isSmall, h1]
    rw [e]; clear e
    go_enter Try.func35, Try.ntmps35
    go_wp2_with fail
    refine (calls_is (impl_BoardOk _ _ _ _) h1).mono ?_
    rintro e w1 ⟨rfl, hb1⟩
    obtain ⟨hc1, hf1, hs1⟩ := bcell3 hb1
    have hz1 := hb1.size
    (try simp at hz1)
    go_wp2
    go_ret
    exact ⟨rfl, by (repeat (first | exact Below.refl _ _ | assumption | refine below_step ?_ (by assumption) | refine below_alloc ?_ _ | refine below_drewN ?_ _ | refine Below.drew ?_ | refine Below.setCell ?_ (by first | (simp; done) | omega | (simp; omega)) _))⟩
  · have F := boardOk_facts h1
    have m1 := F.m1
    have m2 := F.m2
    have e : isSmall W H X = decide (W * H ≤ 16) := by simp [isSmall, h1]
    rw [e]; clear e F
    go_enter Try.func35, Try.ntmps35
    go_wp2_with fail
    refine (calls_is (impl_BoardOk _ _ _ _) h1).mono ?_
    rintro e w1 ⟨rfl, hb1⟩
    obtain ⟨hc1, hf1, hs1⟩ := bcell3 hb1
    have hz1 := hb1.size
    (try simp at hz1)
    go_wp2
    go_ret
    exact ⟨rfl, by (repeat (first | exact Below.refl _ _ | assumption | refine below_step ?_ (by assumption) | refine below_alloc ?_ _ | refine below_drewN ?_ _ | refine Below.drew ?_ | refine Below.setCell ?_ (by first | (simp; done) | omega | (simp; omega)) _))⟩
set_option maxHeartbeats 1000000 in
theorem impl_StepsBetween_no1 (W H X j k : Int) (w : World) (h1 : boardOk W H X = false) :
    Calls Try.prog 50 #[.agg #[.int .i64 W, .int .i64 H, .int .i64 X], .int .i64 j, .int .i64 k] w fun e w' => e = .returned (.int .i64 (-1)) ∧ Below w.heap.size w w' := by
  go_enter Try.func50, Try.ntmps50
  go_wp2_with fail
  refine (calls_is (impl_BoardOk _ _ _ _) h1).mono ?_
  rintro e w1 ⟨rfl, hb1⟩
  obtain ⟨hc1, hf1, hs1⟩ := bcell3 hb1
  have hz1 := hb1.size
  (try simp at hz1)
  go_wp2
  go_ret
  exact ⟨rfl, by (repeat (first | exact Below.refl _ _ | assumption | refine below_step ?_ (by assumption) | refine below_alloc ?_ _ | refine below_drewN ?_ _ | refine Below.drew ?_ | refine Below.setCell ?_ (by first | (simp; done) | omega | (simp; omega)) _))⟩

set_option maxHeartbeats 1000000 in
theorem impl_StepsBetween_no2 (W H X j k : Int) (w : World) (h1 : boardOk W H X = true) (h2 : inB j 0 (W * H - 1) = false) :
    Calls Try.prog 50 #[.agg #[.int .i64 W, .int .i64 H, .int .i64 X], .int .i64 j, .int .i64 k] w fun e w' => e = .returned (.int .i64 (-1)) ∧ Below w.heap.size w w' := by
  obtain ⟨m1, m2, w1', w2'⟩ : 1 ≤ W * H ∧ W * H ≤ 49 ∧ 1 ≤ W ∧ W ≤ 7 := ⟨(boardOk_facts h1).m1, (boardOk_facts h1).m2, (boardOk_facts h1).w1, (boardOk_facts h1).w2⟩
  go_enter Try.func50, Try.ntmps50
  go_wp2_with fail
  refine (calls_is (impl_BoardOk _ _ _ _) h1).mono ?_
  rintro e w1 ⟨rfl, hb1⟩
  obtain ⟨hc1, hf1, hs1⟩ := bcell3 hb1
  have hz1 := hb1.size
  (try simp at hz1)
  go_wp2_with fail
  refine (calls_is (impl_within _ _ _ _) h2).mono ?_
  rintro e _ ⟨rfl, rfl⟩
  go_wp2
  go_ret
  exact ⟨rfl, by (repeat (first | exact Below.refl _ _ | assumption | refine below_step ?_ (by assumption) | refine below_alloc ?_ _ | refine below_drewN ?_ _ | refine Below.drew ?_ | refine Below.setCell ?_ (by first | (simp; done) | omega | (simp; omega)) _))⟩

set_option maxHeartbeats 1000000 in
theorem impl_StepsBetween_no3 (W H X j k : Int) (w : World) (h1 : boardOk W H X = true) (h2 : inB j 0 (W * H - 1) = true) (h3 : inB k 0 (W * H - 1) = false) :
    Calls Try.prog 50 #[.agg #[.int .i64 W, .int .i64 H, .int .i64 X], .int .i64 j, .int .i64 k] w fun e w' => e = .returned (.int .i64 (-1)) ∧ Below w.heap.size w w' := by
  obtain ⟨m1, m2, w1', w2'⟩ : 1 ≤ W * H ∧ W * H ≤ 49 ∧ 1 ≤ W ∧ W ≤ 7 := ⟨(boardOk_facts h1).m1, (boardOk_facts h1).m2, (boardOk_facts h1).w1, (boardOk_facts h1).w2⟩
  go_enter Try.func50, Try.ntmps50
  go_wp2_with fail
  refine (calls_is (impl_BoardOk _ _ _ _) h1).mono ?_
  rintro e w1 ⟨rfl, hb1⟩
  obtain ⟨hc1, hf1, hs1⟩ := bcell3 hb1
  have hz1 := hb1.size
  (try simp at hz1)
  go_wp2_with fail
  refine (calls_is (impl_within _ _ _ _) h2).mono ?_
  rintro e _ ⟨rfl, rfl⟩
  go_wp2_with fail
  refine (calls_is (impl_within _ _ _ _) h3).mono ?_
  rintro e _ ⟨rfl, rfl⟩
  go_wp2
  go_ret
  exact ⟨rfl, by (repeat (first | exact Below.refl _ _ | assumption | refine below_step ?_ (by assumption) | refine below_alloc ?_ _ | refine below_drewN ?_ _ | refine Below.drew ?_ | refine Below.setCell ?_ (by first | (simp; done) | omega | (simp; omega)) _))⟩

set_option maxHeartbeats 1000000 in
theorem impl_StepsBetween_yes (W H X j k : Int) (w : World) (h1 : boardOk W H X = true) (h2 : inB j 0 (W * H - 1) = true) (h3 : inB k 0 (W * H - 1) = true) :
    Calls Try.prog 50 #[.agg #[.int .i64 W, .int .i64 H, .int .i64 X], .int .i64 j, .int .i64 k] w fun e w' => e = .returned (.int .i64 (absI (j % W - k % W) + absI (j / W - k / W))) ∧ Below w.heap.size w w' := by
  obtain ⟨m1, m2, w1', w2'⟩ : 1 ≤ W * H ∧ W * H ≤ 49 ∧ 1 ≤ W ∧ W ≤ 7 := ⟨(boardOk_facts h1).m1, (boardOk_facts h1).m2, (boardOk_facts h1).w1, (boardOk_facts h1).w2⟩
  obtain ⟨j1, j2⟩ := inB_iff.1 h2
  obtain ⟨k1, k2⟩ := inB_iff.1 h3
  obtain ⟨a1, a2⟩ := mod_bd (j := j) w1'
  obtain ⟨a3, a4⟩ := mod_bd (j := k) w1'
  obtain ⟨a5, a6⟩ := div_bd (j := j) w1' j1
  obtain ⟨a7, a8⟩ := div_bd (j := k) w1' k1
  obtain ⟨b1, b2⟩ := absI_bd (n := j % W - k % W) (B := 7) (by omega) (by omega)
  obtain ⟨b3, b4⟩ := absI_bd (n := j / W - k / W) (B := 49) (by omega) (by omega)
  go_enter Try.func50, Try.ntmps50
  go_wp2_with fail
  refine (calls_is (impl_BoardOk _ _ _ _) h1).mono ?_
  rintro e w1 ⟨rfl, hb1⟩
  obtain ⟨hc1, hf1, hs1⟩ := bcell3 hb1
  have hz1 := hb1.size
  (try simp at hz1)
  go_wp2_with fail
  refine (calls_is (impl_within _ _ _ _) h2).mono ?_
  rintro e _ ⟨rfl, rfl⟩
  go_wp2_with fail
  refine (calls_is (impl_within _ _ _ _) h3).mono ?_
  rintro e _ ⟨rfl, rfl⟩
  go_wp2_with fail
  go_quiet ((go_at_call 74; exact Calls.quiet_of_same ((impl_magnitude _ _ (by omega) (by omega)).mono fun e w' h => ⟨h.1, h.2.symm⟩)))
  go_wp2
  go_ret
  exact ⟨rfl, by (repeat (first | exact Below.refl _ _ | assumption | refine below_step ?_ (by assumption) | refine below_alloc ?_ _ | refine below_drewN ?_ _ | refine Below.drew ?_ | refine Below.setCell ?_ (by first | (simp; done) | omega | (simp; omega)) _))⟩

theorem impl_StepsBetween (W H X j k : Int) (w : World) :
    Calls Try.prog 50 #[.agg #[.int .i64 W, .int .i64 H, .int .i64 X], .int .i64 j, .int .i64 k] w fun e w' => e = .returned (.int .i64 (stepsBetween W H X j k)) ∧ Below w.heap.size w w' := by
  cases h1 : boardOk W H X
  · exact (impl_StepsBetween_no1 W H X j k w h1).mono fun e w' h => ⟨h.1.trans (ret_int (by simp [stepsBetween, h1])), h.2⟩
  · cases h2 : inB j 0 (W * H - 1)
    · exact (impl_StepsBetween_no2 W H X j k w h1 h2).mono fun e w' h => ⟨h.1.trans (ret_int (by simp [stepsBetween, h2])), h.2⟩
    · cases h3 : inB k 0 (W * H - 1)
      · exact (impl_StepsBetween_no3 W H X j k w h1 h2 h3).mono fun e w' h => ⟨h.1.trans (ret_int (by simp [stepsBetween, h3])), h.2⟩
      · exact (impl_StepsBetween_yes W H X j k w h1 h2 h3).mono fun e w' h => ⟨h.1.trans (ret_int (by simp [stepsBetween, h1, h2, h3])), h.2⟩
set_option maxHeartbeats 400000 in
theorem impl_GoldAt (W H X j k : Int) (w : World) :
    Calls Try.prog 51 #[.agg #[.int .i64 W, .int .i64 H, .int .i64 X], .int .i64 j, .int .i64 k] w fun e w' => e = .returned (.agg #[.int .i64 (powA (stepsBetween W H X j k)), .int .i64 (powB (stepsBetween W H X j k))]) ∧ Below w.heap.size w w' := by
  go_enter Try.func51, Try.ntmps51
  go_wp2_with fail
  refine (impl_StepsBetween _ _ _ _ _ _).mono ?_
  rintro e w1 ⟨rfl, hb1⟩
  obtain ⟨hc1, hf1, hs1⟩ := bcell3 hb1
  have hz1 := hb1.size
  (try simp at hz1)
  go_wp2_with fail
  refine (impl_PowerOf _ _).mono ?_
  rintro e w2 ⟨rfl, hb2⟩
  obtain ⟨hc2, hf2, hs2⟩ := bcell3 hb2
  have hz2 := hb2.size
  (try simp at hz2)
  have hb1_2 := below_step (below_step hb1 (by (repeat (first | exact Below.refl _ _ | assumption | refine below_step ?_ (by assumption) | refine below_alloc ?_ _ | refine below_drewN ?_ _ | refine Below.drew ?_ | refine Below.setCell ?_ (by first | (simp; done) | omega | (simp; omega)) _)))) hb2
  clear hc1 hf1 hs1
  obtain ⟨hc1_2, hf1_2, hs1_2⟩ := bcell3 hb1_2
  go_wp2
  exact bodyPost_ret (v := .agg #[.int .i64 (powA (stepsBetween W H X j k)), .int .i64 (powB (stepsBetween W H X j k))]) (by simp [results, Try.results51, go_sem, hc1_2]) rfl ⟨rfl, by (repeat (first | exact Below.refl _ _ | assumption | refine below_step ?_ (by assumption) | refine below_alloc ?_ _ | refine below_drewN ?_ _ | refine Below.drew ?_ | refine Below.setCell ?_ (by first | (simp; done) | omega | (simp; omega)) _))⟩
set_option maxHeartbeats 400000 in
theorem spec_IsSmall (W H X : Int) (w : World) :
    Calls Try.prog 61 #[.agg #[.int .i64 W, .int .i64 H, .int .i64 X]] w fun e w' => e = .returned (.bool (isSmall W H X)) ∧ Below w.heap.size w w' := by
  cases h1 : boardOk W H X
  · have e : isSmall W H X = false := by simp [isSmall, h1]
    rw [e]; clear e
    go_enter Try.func61, Try.ntmps61
    go_wp2_with fail
    refine (calls_is (spec_BoardOk _ _ _ _) h1).mono ?_
    rintro e w1 ⟨rfl, hb1⟩
    obtain ⟨hc1, hf1, hs1⟩ := bcell3 hb1
    have hz1 := hb1.size
    (try simp at hz1)
    go_wp2
    go_ret
    exact ⟨rfl, by (repeat (first | exact Below.refl _ _ | assumption | refine below_step ?_ (by assumption) | refine below_alloc ?_ _ | refine below_drewN ?_ _ | refine Below.drew ?_ | refine Below.setCell ?_ (by first | (simp; done) | omega | (simp; omega)) _))⟩
  · have F := boardOk_facts h1
    have m1 := F.m1
    have m2 := F.m2
    have e : isSmall W H X = decide (W * H ≤ 16) := by simp [isSmall, h1]
    rw [e]; clear e F
    go_enter Try.func61, Try.ntmps61
    go_wp2_with fail
    refine (calls_is (spec_BoardOk _ _ _ _) h1).mono ?_
    rintro e w1 ⟨rfl, hb1⟩
    obtain ⟨hc1, hf1, hs1⟩ := bcell3 hb1
    have hz1 := hb1.size
    (try simp at hz1)
    go_wp2
    go_ret
    exact ⟨rfl, by (repeat (first | exact Below.refl _ _ | assumption | refine below_step ?_ (by assumption) | refine below_alloc ?_ _ | refine below_drewN ?_ _ | refine Below.drew ?_ | refine Below.setCell ?_ (by first | (simp; done) | omega | (simp; omega)) _))⟩
end Go.Proofs.Ytianfakgojmnpaa
