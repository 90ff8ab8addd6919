/- Golden numbers: contracts. -/
import Derived.Test.YtianfakgojmnpaaGold
namespace Go.Proofs.Ytianfakgojmnpaa
open Go.RowKit

set_option maxHeartbeats 400000 in
theorem impl_GoldOk (a b : Int) (w : World) :
    Calls Try.prog 76 #[.agg #[.int .i64 a, .int .i64 b]] w fun e w' => e = .returned (.bool (goldOk a b)) ∧ Below w.heap.size w w' := by
  by_cases h : inB a (-1000000) 1000000 = true
  all_goals
    go_enter Try.func76, Try.ntmps76
    go_wp2_with (go_at_call 72; refine (impl_within _ _ _ _).mono ?_; rintro e w' ⟨rfl, rfl⟩)
    go_ret
    exact ⟨by simp [goldOk, h], below_one _ _⟩
set_option maxHeartbeats 400000 in
theorem impl_PowerOf (n : Int) (w : World) :
    Calls Try.prog 73 #[.int .i64 n] w fun e w' => e = .returned (.agg #[.int .i64 (powA n), .int .i64 (powB n)]) ∧ Below w.heap.size w w' := by
  by_cases h : inB n 0 20 = true
  · obtain ⟨h1, h2⟩ := inB_iff.1 h
    go_enter Try.func73, Try.ntmps73
    go_wp2_with (go_at_call 72; refine (calls_is (impl_within _ _ _ _) h).mono ?_; rintro e w' ⟨rfl, rfl⟩)
    go_loopw [4] (fun i wr => ∃ k : Nat, k ≤ n.toNat ∧ i = .int .i64 k ∧ wr = (w.alloc (.cells #[.int .i64 0, .int .i64 0] 31)).alloc (.cells #[.int .i64 (goldPow k).1, .int .i64 (goldPow k).2] 31)) (fun i _ => n.toNat - (intOf i).toNat)
    case atStart => exact ⟨0, Nat.zero_le _, rfl, rfl⟩
    case round =>
      obtain ⟨k, hk, rfl, rfl⟩ := hrel
      obtain ⟨b1, b2, b3, b4⟩ := goldPow_small k (by omega)
      by_cases hlt : (k : Int) < n
      · go_wp2
        go_roundw
        case rel => exact ⟨k + 1, by omega, by go_num, rfl⟩
        case measure => simp [intOf]; omega
      · obtain rfl : n = k := by omega
        go_wp2
        exact bodyPost_ret (v := .agg #[.int .i64 (powA k), .int .i64 (powB k)]) (by simp [results, Try.results73, go_sem, powA, powB, h]) rfl ⟨rfl, by (repeat (first | exact Below.refl _ _ | assumption | refine below_step ?_ (by assumption) | refine below_alloc ?_ _ | refine below_drewN ?_ _ | refine Below.drew ?_ | refine Below.setCell ?_ (by first | (simp; done) | omega | (simp; omega)) _))⟩
  · go_enter Try.func73, Try.ntmps73
    go_wp2_with (go_at_call 72; refine (impl_within _ _ _ _).mono ?_; rintro e w' ⟨rfl, rfl⟩)
    exact bodyPost_ret (v := .agg #[.int .i64 (powA n), .int .i64 (powB n)]) (by simp [results, Try.results73, go_sem, powA, powB, h]) rfl ⟨rfl, by (repeat (first | exact Below.refl _ _ | assumption | refine below_step ?_ (by assumption) | refine below_alloc ?_ _ | refine below_drewN ?_ _ | refine Below.drew ?_ | refine Below.setCell ?_ (by first | (simp; done) | omega | (simp; omega)) _))⟩
set_option maxHeartbeats 400000 in
theorem spec_GoldOk (a b : Int) (w : World) :
    Calls Try.prog 79 #[.agg #[.int .i64 a, .int .i64 b]] w fun e w' => e = .returned (.bool (goldOk a b)) ∧ Below w.heap.size w w' := by
  by_cases h : inB a (-1000000) 1000000 = true
  all_goals
    go_enter Try.func79, Try.ntmps79
    go_wp2_with (go_at_call 98; refine (spec_l01In _ _ _ _).mono ?_; rintro e w' ⟨rfl, rfl⟩)
    go_ret
    exact ⟨by simp [goldOk, h], below_one _ _⟩
set_option maxHeartbeats 400000 in
theorem spec_PowerOf (n : Int) (w : World) :
    Calls Try.prog 52 #[.int .i64 n] w fun e w' => e = .returned (.agg #[.int .i64 (powA n), .int .i64 (powB n)]) ∧ Below w.heap.size w w' := by
  by_cases h : inB n 0 20 = true
  · obtain ⟨h1, h2⟩ := inB_iff.1 h
    go_enter Try.func52, Try.ntmps52
    go_wp2_with (go_at_call 98; refine (calls_is (spec_l01In _ _ _ _) h).mono ?_; rintro e w' ⟨rfl, rfl⟩)
    go_loopw [4] (fun i wr => ∃ k : Nat, k ≤ n.toNat ∧ i = .int .i64 k ∧ wr = (w.alloc (.cells #[.int .i64 0, .int .i64 0] 31)).alloc (.cells #[.int .i64 (goldPow k).1, .int .i64 (goldPow k).2] 31)) (fun i _ => n.toNat - (intOf i).toNat)
    case atStart => exact ⟨0, Nat.zero_le _, rfl, rfl⟩
    case round =>
      obtain ⟨k, hk, rfl, rfl⟩ := hrel
      obtain ⟨b1, b2, b3, b4⟩ := goldPow_small k (by omega)
      by_cases hlt : (k : Int) < n
      · go_wp2
        go_roundw
        case rel => exact ⟨k + 1, by omega, by go_num, rfl⟩
        case measure => simp [intOf]; omega
      · obtain rfl : n = k := by omega
        go_wp2
        exact bodyPost_ret (v := .agg #[.int .i64 (powA k), .int .i64 (powB k)]) (by simp [results, Try.results52, go_sem, powA, powB, h]) rfl ⟨rfl, by (repeat (first | exact Below.refl _ _ | assumption | refine below_step ?_ (by assumption) | refine below_alloc ?_ _ | refine below_drewN ?_ _ | refine Below.drew ?_ | refine Below.setCell ?_ (by first | (simp; done) | omega | (simp; omega)) _))⟩
  · go_enter Try.func52, Try.ntmps52
    go_wp2_with (go_at_call 98; refine (spec_l01In _ _ _ _).mono ?_; rintro e w' ⟨rfl, rfl⟩)
    exact bodyPost_ret (v := .agg #[.int .i64 (powA n), .int .i64 (powB n)]) (by simp [results, Try.results52, go_sem, powA, powB, h]) rfl ⟨rfl, by (repeat (first | exact Below.refl _ _ | assumption | refine below_step ?_ (by assumption) | refine below_alloc ?_ _ | refine below_drewN ?_ _ | refine Below.drew ?_ | refine Below.setCell ?_ (by first | (simp; done) | omega | (simp; omega)) _))⟩
end Go.Proofs.Ytianfakgojmnpaa
