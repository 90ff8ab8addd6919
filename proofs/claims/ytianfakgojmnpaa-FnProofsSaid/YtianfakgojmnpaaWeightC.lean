/- Weights: contracts. -/
import Derived.Test.YtianfakgojmnpaaWeight
import Derived.Test.YtianfakgojmnpaaGoldC
namespace Go.Proofs.Ytianfakgojmnpaa
open Go.RowKit

set_option maxHeartbeats 400000 in
theorem impl_fibonacci (n : Int) (w : World) (h : n ≤ 7) :
    Calls Try.prog 121 #[.int .i64 n] w fun e w' => e = .returned (.int .i64 (fib n)) ∧ w = w' := by
  go_enter Try.func121, Try.ntmps121
  go_wp2
  go_loop [3, 4, 5] (fun a c i => ∃ k : Nat, k ≤ n.toNat ∧ i = .int .i64 k ∧ a = .int .i64 (fibs k).1 ∧ c = .int .i64 (fibs k).2) (fun _ _ i => n.toNat - (intOf i).toNat)
  case atStart => exact ⟨0, Nat.zero_le _, rfl, rfl, rfl⟩
  case round =>
    obtain ⟨k, hk, rfl, rfl, rfl⟩ := hrel
    obtain ⟨b1, b2, b3, b4⟩ := fibs_small k (by omega)
    by_cases hlt : (k : Int) < n
    · go_wp2
      go_round
      case rel => exact ⟨k + 1, by omega, by go_num, rfl, rfl⟩
      case measure => simp [intOf]; omega
    · go_wp2
      go_ret
      exact ⟨ret_int (by have e : k = n.toNat := by omega
                         rw [e]; rfl), rfl⟩
set_option maxHeartbeats 400000 in
theorem impl_WeightsOk_no1 (W H X : Int) (A : Option Addr) (cap : Nat) (ws : List Int) (w : World) (_hA : FAt w A ws) (_hn : ws.length ≤ 4294967296) (h1 : boardOk W H X = false) :
    Calls Try.prog 137 #[.agg #[.int .i64 W, .int .i64 H, .int .i64 X], .slice A ws.length cap] w fun e w' => e = .returned (.bool (false)) ∧ Below w.heap.size w w' := by
  go_enter Try.func137, Try.ntmps137
  go_wp2_with fail
  refine (calls_is (impl_BoardOk _ _ _ _) h1).mono ?_
  rintro e w1 ⟨rfl, hb1⟩
  obtain ⟨hc1, hf1, hs1⟩ := bcell3 hb1
  have hz1 := hb1.size
  (try simp at hz1)
  go_wp2
  go_ret
  exact ⟨rfl, by (repeat (first | exact Below.refl _ _ | assumption | refine below_step ?_ (by assumption) | refine below_alloc ?_ _ | refine below_drewN ?_ _ | refine Below.drew ?_ | refine Below.setCell ?_ (by first | (simp; done) | omega | (simp; omega)) _))⟩

set_option maxHeartbeats 400000 in
theorem impl_WeightsOk_no2 (W H X : Int) (A : Option Addr) (cap : Nat) (ws : List Int) (w : World) (_hA : FAt w A ws) (_hn : ws.length ≤ 4294967296) (h1 : boardOk W H X = true) (h2 : ((ws.length : Int) == W * H) = false) :
    Calls Try.prog 137 #[.agg #[.int .i64 W, .int .i64 H, .int .i64 X], .slice A ws.length cap] w fun e w' => e = .returned (.bool (false)) ∧ Below w.heap.size w w' := by
  obtain ⟨m1, m2⟩ : 1 ≤ W * H ∧ W * H ≤ 49 := ⟨(boardOk_facts h1).m1, (boardOk_facts h1).m2⟩
  have h3 : ((ws.length : Int) != W * H) = true := by simpa using h2
  go_enter Try.func137, Try.ntmps137
  go_wp2_with fail
  refine (calls_is (impl_BoardOk _ _ _ _) h1).mono ?_
  rintro e w1 ⟨rfl, hb1⟩
  obtain ⟨hc1, hf1, hs1⟩ := bcell3 hb1
  have hz1 := hb1.size
  (try simp at hz1)
  go_wp2
  go_ret
  exact ⟨rfl, by (repeat (first | exact Below.refl _ _ | assumption | refine below_step ?_ (by assumption) | refine below_alloc ?_ _ | refine below_drewN ?_ _ | refine Below.drew ?_ | refine Below.setCell ?_ (by first | (simp; done) | omega | (simp; omega)) _))⟩

set_option maxHeartbeats 1000000 in
theorem impl_WeightsOk_loop (W H X : Int) (A : Option Addr) (cap : Nat) (ws : List Int) (w : World) (hA : FAt w A ws) (hn : ws.length ≤ 4294967296) (h1 : boardOk W H X = true) (h2 : ((ws.length : Int) == W * H) = true) :
    Calls Try.prog 137 #[.agg #[.int .i64 W, .int .i64 H, .int .i64 X], .slice A ws.length cap] w fun e w' => e = .returned (.bool (okW ws)) ∧ Below w.heap.size w w' := by
  obtain ⟨m1, m2⟩ : 1 ≤ W * H ∧ W * H ≤ 49 := ⟨(boardOk_facts h1).m1, (boardOk_facts h1).m2⟩
  have h3 : ((ws.length : Int) != W * H) = false := by simpa using h2
  go_enter Try.func137, Try.ntmps137
  go_wp2_with fail
  refine (calls_is (impl_BoardOk _ _ _ _) h1).mono ?_
  rintro e w1 ⟨rfl, hb1⟩
  obtain ⟨hc1, hf1, hs1⟩ := bcell3 hb1
  have hz1 := hb1.size
  (try simp at hz1)
  go_wp2
  clear hc1 hf1 hs1 hz1
  go_loop [22] (fun i => ∃ k : Nat, k ≤ ws.length ∧ i = .int .i64 k ∧ ∀ j, j < k → ∀ z, ws[j]? = some z → inB z (-1000) 1000 = true) (fun i => ws.length - (intOf i).toNat)
  case atStart => exact ⟨0, Nat.zero_le _, rfl, fun j hj => absurd hj (Nat.not_lt_zero _)⟩
  case round =>
    obtain ⟨k, hk, rfl, hall⟩ := hrel
    have HA := Lib.hid hall
    clear hall
    by_cases hlt : k < ws.length
    · obtain ⟨z, hz⟩ : ∃ z, ws[k]? = some z := ⟨_, List.getElem?_eq_getElem hlt⟩
      obtain ⟨b, off, rfl, hc⟩ := (hA.below (show Below w.heap.size w w1 from by (repeat (first | exact Below.refl _ _ | assumption | refine below_step ?_ (by assumption) | refine below_alloc ?_ _ | refine below_drewN ?_ _ | refine Below.drew ?_ | refine Below.setCell ?_ (by first | (simp; done) | omega | (simp; omega)) _)))) k z hz
      have HZ := Lib.hid hz
      clear hz
      cases hin : inB z (-1000) 1000
      · go_wp2_with (go_at_call 72; refine (calls_is (impl_within _ _ _ _) hin).mono ?_; rintro e _ ⟨rfl, rfl⟩)
        go_ret
        exact ⟨ret_bool (okW_not HZ.out hin).symm, by (repeat (first | exact Below.refl _ _ | assumption | refine below_step ?_ (by assumption) | refine below_alloc ?_ _ | refine below_drewN ?_ _ | refine Below.drew ?_ | refine Below.setCell ?_ (by first | (simp; done) | omega | (simp; omega)) _))⟩
      · go_wp2_with (go_at_call 72; refine (calls_is (impl_within _ _ _ _) hin).mono ?_; rintro e _ ⟨rfl, rfl⟩)
        go_round
        case rel =>
          refine ⟨k + 1, by omega, by go_num, fun j hj z' hz' => ?_⟩
          by_cases e : j = k
          · subst e; rw [HZ.out] at hz'; cases hz'; exact hin
          · exact HA.out j (by omega) z' hz'
        case measure => simp [intOf]; omega
    · obtain rfl : k = ws.length := by omega
      go_wp2
      go_ret
      exact ⟨ret_bool (okW_all HA.out).symm, by (repeat (first | exact Below.refl _ _ | assumption | refine below_step ?_ (by assumption) | refine below_alloc ?_ _ | refine below_drewN ?_ _ | refine Below.drew ?_ | refine Below.setCell ?_ (by first | (simp; done) | omega | (simp; omega)) _))⟩

theorem impl_WeightsOk (W H X : Int) (A : Option Addr) (cap : Nat) (ws : List Int) (w : World) (hA : FAt w A ws) (hn : ws.length ≤ 4294967296) :
    Calls Try.prog 137 #[.agg #[.int .i64 W, .int .i64 H, .int .i64 X], .slice A ws.length cap] w fun e w' => e = .returned (.bool (weightsOk W H X ws)) ∧ Below w.heap.size w w' := by
  cases h1 : boardOk W H X
  · exact (impl_WeightsOk_no1 W H X A cap ws w hA hn h1).mono fun e w' h => ⟨h.1.trans (ret_bool (by simp [weightsOk, h1])), h.2⟩
  · cases h2 : ((ws.length : Int) == W * H)
    · exact (impl_WeightsOk_no2 W H X A cap ws w hA hn h1 h2).mono fun e w' h => ⟨h.1.trans (ret_bool (by simp [weightsOk, h2])), h.2⟩
    · exact (impl_WeightsOk_loop W H X A cap ws w hA hn h1 h2).mono fun e w' h => ⟨h.1.trans (ret_bool (by simp [weightsOk, h1, h2])), h.2⟩
set_option maxHeartbeats 1000000 in
theorem spec_WeightsOk (W H X : Int) (A : Option Addr) (cap : Nat) (ws : List Int) (w : World) (hA : FAt w A ws) (hn : ws.length ≤ 4294967296) :
    Calls Try.prog 120 #[.agg #[.int .i64 W, .int .i64 H, .int .i64 X], .slice A ws.length cap] w fun e w' => e = .returned (.bool (weightsOk W H X ws)) ∧ Below w.heap.size w w' := by
  go_enter Try.func120, Try.ntmps120
  go_wp2
  generalize hV : w.alloc (.cells #[.int .i64 W, .int .i64 H, .int .i64 X] 44) = V
  have v0 : Below w.heap.size w V := by subst hV; (repeat (first | exact Below.refl _ _ | assumption | refine below_step ?_ (by assumption) | refine below_alloc ?_ _ | refine below_drewN ?_ _ | refine Below.drew ?_ | refine Below.setCell ?_ (by first | (simp; done) | omega | (simp; omega)) _))
  have z0 : w.heap.size < V.heap.size := by subst hV; simp <;> omega
  have v0_0 : V.cell? ⟨w.heap.size, 0, none⟩ = some (.int .i64 W) := by subst hV; simp
  have v0_1 : V.cell? ⟨w.heap.size, 1, none⟩ = some (.int .i64 H) := by subst hV; simp
  have v0_2 : V.cell? ⟨w.heap.size, 2, none⟩ = some (.int .i64 X) := by subst hV; simp
  have K : Hid (∀ w', Below V.heap.size V w' → Below V.heap.size V w' ∧ w'.cell? ⟨w.heap.size, 0, none⟩ = some (.int .i64 W) ∧ w'.cell? ⟨w.heap.size, 1, none⟩ = some (.int .i64 H) ∧ w'.cell? ⟨w.heap.size, 2, none⟩ = some (.int .i64 X)) := fun w' hB => ⟨hB, bel_cell hB z0 v0_0, bel_cell hB z0 v0_1, bel_cell hB z0 v0_2⟩
  have ZV : Hid (w.heap.size + 1 = V.heap.size) := by subst hV; unfold Hid; simp
  clear hV
  go_loop [5] (fun i => ∃ k : Nat, k ≤ ws.length ∧ i = .int .i64 k ∧ ∀ j, j < k → ∀ z, ws[j]? = some z → inB z (-1000) 1000 = true) (fun i => ws.length - (intOf i).toNat)
  case atStart => exact ⟨0, Nat.zero_le _, rfl, fun j hj => absurd hj (Nat.not_lt_zero _)⟩
  case round =>
    obtain ⟨k, hk, rfl, hall⟩ := hrel
    have HA := Lib.hid hall
    clear hall
    by_cases hlt : k < ws.length
    · obtain ⟨z, hz⟩ : ∃ z, ws[k]? = some z := ⟨_, List.getElem?_eq_getElem hlt⟩
      obtain ⟨b, off, rfl, hc⟩ := (hA.below v0) k z hz
      have HZ := Lib.hid hz
      clear hz
      cases hin : inB z (-1000) 1000
      · go_wp2_with (go_at_call 98; refine (calls_is (spec_l01In _ _ _ _) hin).mono ?_; rintro e _ ⟨rfl, rfl⟩)
        go_ret
        exact ⟨ret_bool (by simp [weightsOk, okW_not HZ.out hin]), by (repeat (first | exact Below.refl _ _ | assumption | refine below_step ?_ (by assumption) | refine below_alloc ?_ _ | refine below_drewN ?_ _ | refine Below.drew ?_ | refine Below.setCell ?_ (by first | (simp; done) | omega | (simp; omega)) _))⟩
      · go_wp2_with (go_at_call 98; refine (calls_is (spec_l01In _ _ _ _) hin).mono ?_; rintro e _ ⟨rfl, rfl⟩)
        go_round
        case rel =>
          refine ⟨k + 1, by omega, by go_num, fun j hj z' hz' => ?_⟩
          by_cases e : j = k
          · subst e; rw [HZ.out] at hz'; cases hz'; exact hin
          · exact HA.out j (by omega) z' hz'
        case measure => simp [intOf]; omega
    · obtain rfl : k = ws.length := by omega
      cases h1 : boardOk W H X
      · go_wp2_with fail
        refine (calls_is (spec_BoardOk _ _ _ _) h1).mono ?_
        rintro e w1 ⟨rfl, hb1⟩
        go_wp2
        go_ret
        exact ⟨ret_bool (by simp [weightsOk, h1]), by (repeat (first | exact Below.refl _ _ | assumption | refine below_step ?_ (by assumption) | refine below_alloc ?_ _ | refine below_drewN ?_ _ | refine Below.drew ?_ | refine Below.setCell ?_ (by first | (simp; done) | omega | (simp; omega)) _))⟩
      · obtain ⟨m1, m2⟩ : 1 ≤ W * H ∧ W * H ≤ 49 := ⟨(boardOk_facts h1).m1, (boardOk_facts h1).m2⟩
        go_wp2_with fail
        refine (calls_is (spec_BoardOk _ _ _ _) h1).mono ?_
        rintro e w1 ⟨rfl, hb1⟩
        have d0 := bel_cell hb1 z0 v0_0
        have d1 := bel_cell hb1 z0 v0_1
        go_wp2
        go_ret
        exact ⟨ret_bool (by simp [weightsOk, h1, okW_all HA.out]), by (repeat (first | exact Below.refl _ _ | assumption | refine below_step ?_ (by assumption) | refine below_alloc ?_ _ | refine below_drewN ?_ _ | refine Below.drew ?_ | refine Below.setCell ?_ (by first | (simp; done) | omega | (simp; omega)) _))⟩
end Go.Proofs.Ytianfakgojmnpaa
