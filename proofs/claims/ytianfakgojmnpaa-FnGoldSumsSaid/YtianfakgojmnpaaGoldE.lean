/- Golden numbers: contracts of signs and comparisons. -/
import Derived.Test.YtianfakgojmnpaaGoldC
namespace Go.Proofs.Ytianfakgojmnpaa
open Go.RowKit

theorem sgn_pp {n m : Int} (h1 : 0 ≤ n) (h2 : 0 ≤ m) (h : 0 < n ∨ 0 < m) : sgn5 n m = 1 := by unfold sgn5; rw [if_pos ⟨h1, h2⟩, if_pos h]
theorem sgn_00 {n m : Int} (h1 : 0 ≤ n) (h2 : 0 ≤ m) (h : ¬ (0 < n ∨ 0 < m)) : sgn5 n m = 0 := by unfold sgn5; rw [if_pos ⟨h1, h2⟩, if_neg h]
theorem sgn_nn {n m : Int} (h1 : ¬ (0 ≤ n ∧ 0 ≤ m)) (h2 : n ≤ 0 ∧ m ≤ 0) : sgn5 n m = -1 := by unfold sgn5; rw [if_neg h1, if_pos h2]
theorem sgn_pn {n m : Int} (h1 : 0 < n) (h2 : m < 0) : sgn5 n m = if 5 * m * m < n * n then 1 else -1 := by unfold sgn5; rw [if_neg (by omega), if_neg (by omega), if_pos h1]
theorem sgn_np {n m : Int} (h1 : n < 0) (h2 : 0 < m) : sgn5 n m = if n * n < 5 * m * m then 1 else -1 := by unfold sgn5; rw [if_neg (by omega), if_neg (by omega), if_neg (by omega)]

theorem big_sq {n : Int} (h1 : -10000000 ≤ n) (h2 : n ≤ 10000000) : 0 ≤ n * n ∧ n * n ≤ 100000000000000 := by
  have := sq_bd h1 h2; omega
theorem five_sq {n : Int} (h1 : -10000000 ≤ n) (h2 : n ≤ 10000000) : 0 ≤ 5 * n * n ∧ 5 * n * n ≤ 500000000000000 := by
  have := sq_bd h1 h2; have e : 5 * n * n = 5 * (n * n) := Int.mul_assoc _ _ _; omega

theorem ret_ints {a b : Int} (h : a = b) : Ending.returned (.int .i64 a) = Ending.returned (.int .i64 b) := by rw [h]

set_option maxHeartbeats 400000 in
theorem impl_signOfInt (n : Int) (w : World) :
    Calls Try.prog 123 #[.int .i64 n] w fun e w' => e = .returned (.int .i64 (sgnI n)) ∧ w' = w := by
  rcases (show n < 0 ∨ 0 < n ∨ n = 0 from by omega) with h | h | h
  · have e : sgnI n = -1 := by unfold sgnI; rw [if_pos h]
    rw [e]; clear e
    go_enter Try.func123, Try.ntmps123
    go_wp2
    go_ret
    exact ⟨rfl, rfl⟩
  · have e : sgnI n = 1 := by unfold sgnI; rw [if_neg (by omega), if_pos h]
    rw [e]; clear e
    go_enter Try.func123, Try.ntmps123
    go_wp2
    go_ret
    exact ⟨rfl, rfl⟩
  · subst h
    have e : sgnI 0 = 0 := by decide
    rw [e]; clear e
    go_enter Try.func123, Try.ntmps123
    go_wp2
    go_ret
    exact ⟨rfl, rfl⟩
theorem sgnI_bd (n : Int) : -1 ≤ sgnI n ∧ sgnI n ≤ 1 := by unfold sgnI; split <;> (try split) <;> omega
set_option maxHeartbeats 1000000 in
theorem impl_goldSign_same (a b : Int) (w : World) (a1 : -2000000 ≤ a) (a2 : a ≤ 2000000) (b1 : -2000000 ≤ b) (b2 : b ≤ 2000000) (h : 0 ≤ 2 * a - b ∧ 0 ≤ b ∨ 2 * a - b ≤ 0 ∧ b ≤ 0) :
    Calls Try.prog 77 #[.agg #[.int .i64 a, .int .i64 b]] w fun e w' => e = .returned (.int .i64 (sgn5 (2 * a - b) b)) ∧ Below w.heap.size w w' := by
  have s1 := sgnI_bd (2 * a - b)
  have s2 := sgnI_bd b
  have e : sgn5 (2 * a - b) b = sgnI (sgnI (2 * a - b) + sgnI b) := by rw [sgn5_other, if_pos h]
  rw [e]; clear e
  rcases h with ⟨h1, h2⟩ | ⟨h1, h2⟩
  · go_enter Try.func77, Try.ntmps77
    go_wp2_with fail
    go_quiet ((go_at_call 123; exact Calls.quiet_of_same (impl_signOfInt _ _)))
    go_wp2
    go_ret
    exact ⟨rfl, by (repeat (first | exact Below.refl _ _ | assumption | refine below_step ?_ (by assumption) | refine below_alloc ?_ _ | refine below_drewN ?_ _ | refine Below.drew ?_ | refine Below.setCell ?_ (by first | (simp; done) | omega | (simp; omega)) _))⟩
  · by_cases h3 : 0 ≤ 2 * a - b
    · by_cases h4 : 0 ≤ b
      · go_enter Try.func77, Try.ntmps77
        go_wp2_with fail
        go_quiet ((go_at_call 123; exact Calls.quiet_of_same (impl_signOfInt _ _)))
        go_wp2
        go_ret
        exact ⟨rfl, by (repeat (first | exact Below.refl _ _ | assumption | refine below_step ?_ (by assumption) | refine below_alloc ?_ _ | refine below_drewN ?_ _ | refine Below.drew ?_ | refine Below.setCell ?_ (by first | (simp; done) | omega | (simp; omega)) _))⟩
      · go_enter Try.func77, Try.ntmps77
        go_wp2_with fail
        go_quiet ((go_at_call 123; exact Calls.quiet_of_same (impl_signOfInt _ _)))
        go_wp2
        go_ret
        exact ⟨rfl, by (repeat (first | exact Below.refl _ _ | assumption | refine below_step ?_ (by assumption) | refine below_alloc ?_ _ | refine below_drewN ?_ _ | refine Below.drew ?_ | refine Below.setCell ?_ (by first | (simp; done) | omega | (simp; omega)) _))⟩
    · go_enter Try.func77, Try.ntmps77
      go_wp2_with fail
      go_quiet ((go_at_call 123; exact Calls.quiet_of_same (impl_signOfInt _ _)))
      go_wp2
      go_ret
      exact ⟨rfl, by (repeat (first | exact Below.refl _ _ | assumption | refine below_step ?_ (by assumption) | refine below_alloc ?_ _ | refine below_drewN ?_ _ | refine Below.drew ?_ | refine Below.setCell ?_ (by first | (simp; done) | omega | (simp; omega)) _))⟩

set_option maxHeartbeats 1000000 in
theorem impl_goldSign_apart (a b : Int) (w : World) (a1 : -2000000 ≤ a) (a2 : a ≤ 2000000) (b1 : -2000000 ≤ b) (b2 : b ≤ 2000000) (h : ¬ (0 ≤ 2 * a - b ∧ 0 ≤ b ∨ 2 * a - b ≤ 0 ∧ b ≤ 0)) :
    Calls Try.prog 77 #[.agg #[.int .i64 a, .int .i64 b]] w fun e w' => e = .returned (.int .i64 (sgn5 (2 * a - b) b)) ∧ Below w.heap.size w w' := by
  obtain ⟨q1, q2⟩ := big_sq (n := 2 * a - b) (by omega) (by omega)
  obtain ⟨q3, q4⟩ := five_sq (n := b) (by omega) (by omega)
  rcases (show (0 < 2 * a - b ∧ b < 0) ∨ (2 * a - b < 0 ∧ 0 < b) from by omega) with ⟨h1, h2⟩ | ⟨h1, h2⟩
  · have e : sgn5 (2 * a - b) b = sgnI ((2 * a - b) * (2 * a - b) - 5 * b * b) := by rw [sgn5_other, if_neg h, if_pos h1]
    rw [e]; clear e h
    go_enter Try.func77, Try.ntmps77
    go_wp2_with fail
    refine (impl_signOfInt _ _).mono ?_
    rintro e w1 ⟨rfl, rfl⟩
    go_wp2
    go_ret
    exact ⟨rfl, by (repeat (first | exact Below.refl _ _ | assumption | refine below_step ?_ (by assumption) | refine below_alloc ?_ _ | refine below_drewN ?_ _ | refine Below.drew ?_ | refine Below.setCell ?_ (by first | (simp; done) | omega | (simp; omega)) _))⟩
  · have e : sgn5 (2 * a - b) b = sgnI (5 * b * b - (2 * a - b) * (2 * a - b)) := by rw [sgn5_other, if_neg h, if_neg (by omega)]
    rw [e]; clear e h
    go_enter Try.func77, Try.ntmps77
    go_wp2_with fail
    refine (impl_signOfInt _ _).mono ?_
    rintro e w1 ⟨rfl, rfl⟩
    go_wp2
    go_ret
    exact ⟨rfl, by (repeat (first | exact Below.refl _ _ | assumption | refine below_step ?_ (by assumption) | refine below_alloc ?_ _ | refine below_drewN ?_ _ | refine Below.drew ?_ | refine Below.setCell ?_ (by first | (simp; done) | omega | (simp; omega)) _))⟩

theorem impl_goldSign (a b : Int) (w : World) (a1 : -2000000 ≤ a) (a2 : a ≤ 2000000) (b1 : -2000000 ≤ b) (b2 : b ≤ 2000000) :
    Calls Try.prog 77 #[.agg #[.int .i64 a, .int .i64 b]] w fun e w' => e = .returned (.int .i64 (sgn5 (2 * a - b) b)) ∧ Below w.heap.size w w' := by
  by_cases h : 0 ≤ 2 * a - b ∧ 0 ≤ b ∨ 2 * a - b ≤ 0 ∧ b ≤ 0
  · exact impl_goldSign_same a b w a1 a2 b1 b2 h
  · exact impl_goldSign_apart a b w a1 a2 b1 b2 h
set_option maxHeartbeats 400000 in
theorem impl_SignOf (a b : Int) (w : World) :
    Calls Try.prog 45 #[.agg #[.int .i64 a, .int .i64 b]] w fun e w' => e = .returned (.int .i64 (signOf a b)) ∧ Below w.heap.size w w' := by
  cases h1 : goldOk a b
  · have e : signOf a b = -2 := by unfold signOf; rw [h1]; rfl
    rw [e]; clear e
    go_enter Try.func45, Try.ntmps45
    go_wp2_with fail
    refine (calls_is (impl_GoldOk _ _ _) h1).mono ?_
    rintro e w1 ⟨rfl, hb1⟩
    obtain ⟨hc1, hf1, hs1⟩ := bcell3 hb1
    go_wp2
    go_ret
    exact ⟨rfl, by (repeat (first | exact Below.refl _ _ | assumption | refine below_step ?_ (by assumption) | refine below_alloc ?_ _ | refine below_drewN ?_ _ | refine Below.drew ?_ | refine Below.setCell ?_ (by first | (simp; done) | omega | (simp; omega)) _))⟩
  · have e : signOf a b = sgn5 (2 * a - b) b := by unfold signOf; rw [if_pos h1]
    rw [e]; clear e
    obtain ⟨q1, q2⟩ := goldOk_iff.1 h1
    go_enter Try.func45, Try.ntmps45
    go_wp2_with fail
    refine (calls_is (impl_GoldOk _ _ _) h1).mono ?_
    rintro e w1 ⟨rfl, hb1⟩
    obtain ⟨hc1, hf1, hs1⟩ := bcell3 hb1
    go_wp2_with fail
    refine (impl_goldSign _ _ _ (by omega) (by omega) (by omega) (by omega)).mono ?_
    rintro e w2 ⟨rfl, hb2⟩
    obtain ⟨hc2, hf2, hs2⟩ := bcell3 hb2
    have hb1_2 := below_step (below_step hb1 (by (repeat (first | exact Below.refl _ _ | assumption | refine below_step ?_ (by assumption) | refine below_alloc ?_ _ | refine below_drewN ?_ _ | refine Below.drew ?_ | refine Below.setCell ?_ (by first | (simp; done) | omega | (simp; omega)) _)))) hb2
    clear hc1 hf1 hs1
    obtain ⟨hc1_2, hf1_2, hs1_2⟩ := bcell3 hb1_2
    go_wp2
    go_ret
    exact ⟨rfl, by (repeat (first | exact Below.refl _ _ | assumption | refine below_step ?_ (by assumption) | refine below_alloc ?_ _ | refine below_drewN ?_ _ | refine Below.drew ?_ | refine Below.setCell ?_ (by first | (simp; done) | omega | (simp; omega)) _))⟩
set_option maxHeartbeats 400000 in
theorem impl_CompareGold_no1 (a b c d : Int) (w : World) (h1 : goldOk a b = false) :
    Calls Try.prog 15 #[.agg #[.int .i64 a, .int .i64 b], .agg #[.int .i64 c, .int .i64 d]] w fun e w' => e = .returned (.int .i64 (-2)) ∧ Below w.heap.size w w' := by
  go_enter Try.func15, Try.ntmps15
  go_wp2_with fail
  refine (calls_is (impl_GoldOk _ _ _) h1).mono ?_
  rintro e w1 ⟨rfl, hb1⟩
  obtain ⟨hc1, hf1, hs1⟩ := bcell3 hb1
  go_wp2
  go_ret
  exact ⟨rfl, by (repeat (first | exact Below.refl _ _ | assumption | refine below_step ?_ (by assumption) | refine below_alloc ?_ _ | refine below_drewN ?_ _ | refine Below.drew ?_ | refine Below.setCell ?_ (by first | (simp; done) | omega | (simp; omega)) _))⟩

set_option maxHeartbeats 400000 in
theorem impl_CompareGold_no2 (a b c d : Int) (w : World) (h1 : goldOk a b = true) (h2 : goldOk c d = false) :
    Calls Try.prog 15 #[.agg #[.int .i64 a, .int .i64 b], .agg #[.int .i64 c, .int .i64 d]] w fun e w' => e = .returned (.int .i64 (-2)) ∧ Below w.heap.size w w' := by
  go_enter Try.func15, Try.ntmps15
  go_wp2_with fail
  refine (calls_is (impl_GoldOk _ _ _) h1).mono ?_
  rintro e w1 ⟨rfl, hb1⟩
  obtain ⟨hc1, hf1, hs1⟩ := bcell3 hb1
  go_wp2_with fail
  refine (calls_is (impl_GoldOk _ _ _) h2).mono ?_
  rintro e w2 ⟨rfl, hb2⟩
  obtain ⟨hc2, hf2, hs2⟩ := bcell3 hb2
  have hb1_2 := below_step (below_step hb1 (by (repeat (first | exact Below.refl _ _ | assumption | refine below_step ?_ (by assumption) | refine below_alloc ?_ _ | refine below_drewN ?_ _ | refine Below.drew ?_ | refine Below.setCell ?_ (by first | (simp; done) | omega | (simp; omega)) _)))) hb2
  clear hc1 hf1 hs1
  obtain ⟨hc1_2, hf1_2, hs1_2⟩ := bcell3 hb1_2
  go_wp2
  go_ret
  exact ⟨rfl, by (repeat (first | exact Below.refl _ _ | assumption | refine below_step ?_ (by assumption) | refine below_alloc ?_ _ | refine below_drewN ?_ _ | refine Below.drew ?_ | refine Below.setCell ?_ (by first | (simp; done) | omega | (simp; omega)) _))⟩

set_option maxHeartbeats 400000 in
theorem impl_CompareGold_yes (a b c d : Int) (w : World) (h1 : goldOk a b = true) (h2 : goldOk c d = true) :
    Calls Try.prog 15 #[.agg #[.int .i64 a, .int .i64 b], .agg #[.int .i64 c, .int .i64 d]] w fun e w' => e = .returned (.int .i64 (sgn5 (2 * (a - c) - (b - d)) (b - d))) ∧ Below w.heap.size w w' := by
  obtain ⟨q1, q2⟩ := goldOk_iff.1 h1
  obtain ⟨q3, q4⟩ := goldOk_iff.1 h2
  go_enter Try.func15, Try.ntmps15
  go_wp2_with fail
  refine (calls_is (impl_GoldOk _ _ _) h1).mono ?_
  rintro e w1 ⟨rfl, hb1⟩
  obtain ⟨hc1, hf1, hs1⟩ := bcell3 hb1
  go_wp2_with fail
  refine (calls_is (impl_GoldOk _ _ _) h2).mono ?_
  rintro e w2 ⟨rfl, hb2⟩
  obtain ⟨hc2, hf2, hs2⟩ := bcell3 hb2
  have hb1_2 := below_step (below_step hb1 (by (repeat (first | exact Below.refl _ _ | assumption | refine below_step ?_ (by assumption) | refine below_alloc ?_ _ | refine below_drewN ?_ _ | refine Below.drew ?_ | refine Below.setCell ?_ (by first | (simp; done) | omega | (simp; omega)) _)))) hb2
  clear hc1 hf1 hs1
  obtain ⟨hc1_2, hf1_2, hs1_2⟩ := bcell3 hb1_2
  go_wp2_with fail
  refine (impl_goldSign _ _ _ (by omega) (by omega) (by omega) (by omega)).mono ?_
  rintro e w3 ⟨rfl, hb3⟩
  obtain ⟨hc3, hf3, hs3⟩ := bcell3 hb3
  have hb1_3 := below_step (below_step hb1_2 (by (repeat (first | exact Below.refl _ _ | assumption | refine below_step ?_ (by assumption) | refine below_alloc ?_ _ | refine below_drewN ?_ _ | refine Below.drew ?_ | refine Below.setCell ?_ (by first | (simp; done) | omega | (simp; omega)) _)))) hb3
  clear hc1_2 hf1_2 hs1_2
  obtain ⟨hc1_3, hf1_3, hs1_3⟩ := bcell3 hb1_3
  have hb2_3 := below_step (below_step hb2 (by (repeat (first | exact Below.refl _ _ | assumption | refine below_step ?_ (by assumption) | refine below_alloc ?_ _ | refine below_drewN ?_ _ | refine Below.drew ?_ | refine Below.setCell ?_ (by first | (simp; done) | omega | (simp; omega)) _)))) hb3
  clear hc2 hf2 hs2
  obtain ⟨hc2_3, hf2_3, hs2_3⟩ := bcell3 hb2_3
  go_wp2
  go_ret
  exact ⟨rfl, by (repeat (first | exact Below.refl _ _ | assumption | refine below_step ?_ (by assumption) | refine below_alloc ?_ _ | refine below_drewN ?_ _ | refine Below.drew ?_ | refine Below.setCell ?_ (by first | (simp; done) | omega | (simp; omega)) _))⟩

theorem impl_CompareGold (a b c d : Int) (w : World) :
    Calls Try.prog 15 #[.agg #[.int .i64 a, .int .i64 b], .agg #[.int .i64 c, .int .i64 d]] w fun e w' => e = .returned (.int .i64 (compareGold a b c d)) ∧ Below w.heap.size w w' := by
  cases h1 : goldOk a b
  · exact (impl_CompareGold_no1 a b c d w h1).mono fun e w' h => ⟨h.1.trans (ret_ints (by simp [compareGold, h1])), h.2⟩
  · cases h2 : goldOk c d
    · exact (impl_CompareGold_no2 a b c d w h1 h2).mono fun e w' h => ⟨h.1.trans (ret_ints (by simp [compareGold, h2])), h.2⟩
    · exact (impl_CompareGold_yes a b c d w h1 h2).mono fun e w' h => ⟨h.1.trans (ret_ints (by simp [compareGold, h1, h2])), h.2⟩
end Go.Proofs.Ytianfakgojmnpaa
