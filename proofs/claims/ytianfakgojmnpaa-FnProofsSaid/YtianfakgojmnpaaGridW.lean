/- Weights by classes, columns and rows: contracts. -/
import Derived.Test.YtianfakgojmnpaaWeight
import Derived.Test.YtianfakgojmnpaaWeightC
namespace Go.Proofs.Ytianfakgojmnpaa
open Go.RowKit

theorem grid_step {V w : World} {v : Value} {k : Nat} {f : Nat → Int} {z : Int} (hz : f k = z) (h : w.ownsRow V.heap.size 3 1 v (k + 1) (ints (grid k f ++ [z]))) : w.ownsRow V.heap.size 3 1 v (k + 1) (ints (grid (k + 1) f)) := by
  rw [grid_succ, hz]; exact h

theorem made0g {V : World} {g : Nat} (h : g = V.heap.size) : (V.alloc (.cells #[] 3)).ownsRow V.heap.size 3 1 (.slice (some ⟨g, 0, none⟩) 0 0) 0 [] := by
  subst h; exact World.ownsRow_made _ _ _ (Nat.le_refl _) (by simp [maxLen]) rfl
theorem class_yes {W r : Int} {k : Nat} (h : ((k : Int) % W + (k : Int) / W) % 3 = r) : classAt W r k = 0 := by unfold classAt; rw [if_pos h]
theorem class_no {W r : Int} {k : Nat} (h : ¬ ((k : Int) % W + (k : Int) / W) % 3 = r) : classAt W r k = 1 := by unfold classAt; rw [if_neg h]

set_option maxHeartbeats 400000 in
theorem impl_ClassWeights_no1 (W H X r : Int) (w : World) (h1 : boardOk W H X = false) :
    Calls Try.prog 66 #[.agg #[.int .i64 W, .int .i64 H, .int .i64 X], .int .i64 r] w (RetOwn 3 1 w 0 []) := by
  go_enter Try.func66, Try.ntmps66
  go_wp2_with fail
  refine (calls_is (impl_BoardOk _ _ _ _) h1).mono ?_
  rintro e w1 ⟨rfl, hb1⟩
  obtain ⟨hc1, hf1, hs1⟩ := bcell3 hb1
  have hz1 := hb1.size
  (try simp at hz1)
  go_wp2
  go_ret
  exact ⟨none, 0, rfl, World.ownsRow_nil _ _ _ _, by (repeat (first | exact Below.refl _ _ | assumption | refine below_step ?_ (by assumption) | refine below_alloc ?_ _ | refine below_drewN ?_ _ | refine Below.drew ?_ | refine Below.setCell ?_ (by first | (simp; done) | omega | (simp; omega)) _))⟩

set_option maxHeartbeats 400000 in
theorem impl_ClassWeights_no2 (W H X r : Int) (w : World) (h1 : boardOk W H X = true) (h2 : inB r 0 2 = false) :
    Calls Try.prog 66 #[.agg #[.int .i64 W, .int .i64 H, .int .i64 X], .int .i64 r] w (RetOwn 3 1 w 0 []) := by
  go_enter Try.func66, Try.ntmps66
  go_wp2_with fail
  refine (calls_is (impl_BoardOk _ _ _ _) h1).mono ?_
  rintro e w1 ⟨rfl, hb1⟩
  obtain ⟨hc1, hf1, hs1⟩ := bcell3 hb1
  have hz1 := hb1.size
  (try simp at hz1)
  go_wp2_with fail
  refine (calls_is (impl_within _ _ _ _) h2).mono ?_
  rintro e _ ⟨rfl, rfl⟩
  go_wp2
  go_ret
  exact ⟨none, 0, rfl, World.ownsRow_nil _ _ _ _, by (repeat (first | exact Below.refl _ _ | assumption | refine below_step ?_ (by assumption) | refine below_alloc ?_ _ | refine below_drewN ?_ _ | refine Below.drew ?_ | refine Below.setCell ?_ (by first | (simp; done) | omega | (simp; omega)) _))⟩

set_option maxHeartbeats 2000000 in
theorem impl_ClassWeights_yes (W H X r : Int) (w : World) (h1 : boardOk W H X = true) (h2 : inB r 0 2 = true) :
    Calls Try.prog 66 #[.agg #[.int .i64 W, .int .i64 H, .int .i64 X], .int .i64 r] w (RetOwn 3 1 w (W * H).toNat (grid (W * H).toNat (classAt W r))) := by
  obtain ⟨m1, m2, w1', w2'⟩ : 1 ≤ W * H ∧ W * H ≤ 49 ∧ 1 ≤ W ∧ W ≤ 7 := ⟨(boardOk_facts h1).m1, (boardOk_facts h1).m2, (boardOk_facts h1).w1, (boardOk_facts h1).w2⟩
  obtain ⟨r1, r2⟩ := inB_iff.1 h2
  go_enter Try.func66, Try.ntmps66
  go_wp2_with fail
  refine (calls_is (impl_BoardOk _ _ _ _) h1).mono ?_
  rintro e w1 ⟨rfl, hb1⟩
  obtain ⟨hc1, hf1, hs1⟩ := bcell3 hb1
  have hz1 := hb1.size
  (try simp at hz1)
  have z0 : w.heap.size < w1.heap.size := by have := hb1.size; simp at this; omega
  have v0 : w1.cell? ⟨w.heap.size, 0, none⟩ = some (.int .i64 W) := by simp [hc1]
  have v1 : w1.cell? ⟨w.heap.size, 1, none⟩ = some (.int .i64 H) := by simp [hc1]
  have HV : Hid (w.heap.size ≤ w1.heap.size) := Nat.le_of_lt z0
  have hB0 : Below w.heap.size w w1 := by (repeat (first | exact Below.refl _ _ | assumption | refine below_step ?_ (by assumption) | refine below_alloc ?_ _ | refine below_drewN ?_ _ | refine Below.drew ?_ | refine Below.setCell ?_ (by first | (simp; done) | omega | (simp; omega)) _))
  clear hb1 hc1 hf1 hs1 hz1
  go_wp2_with fail
  refine (calls_is (impl_within _ _ _ _) h2).mono ?_
  rintro e _ ⟨rfl, rfl⟩
  go_wp2
  go_loopw [5, 6] (fun v i wr => ∃ k : Nat, k ≤ (W * H).toNat ∧ i = .int .i64 k ∧ wr.ownsRow w1.heap.size 3 1 v k (ints (grid k (classAt W r))) ∧ Below w1.heap.size w1 wr) (fun _ i _ => (W * H).toNat - (intOf i).toNat)
  case atStart => exact ⟨0, Nat.zero_le _, rfl, World.ownsRow_made _ _ _ (Nat.le_refl _) (by simp [maxLen]) rfl, by (repeat (first | exact Below.refl _ _ | assumption | refine below_step ?_ (by assumption) | refine below_alloc ?_ _ | refine below_drewN ?_ _ | refine Below.drew ?_ | refine Below.setCell ?_ (by first | (simp; done) | omega | (simp; omega)) _))⟩
  case round =>
    obtain ⟨k, hk, rfl, hown, hbel⟩ := hrel
    have d0 := bel_cell hbel z0 v0
    have d1 := bel_cell hbel z0 v1
    by_cases hlt : (k : Int) < W * H
    · skip
      obtain ⟨a1, a2⟩ := mod_bd (j := (k : Int)) w1'
      obtain ⟨a3, a4⟩ := div_bd (j := (k : Int)) w1' (by omega)
      by_cases ht : ((k : Int) % W + (k : Int) / W) % 3 = r
      · have ht1 : (((k : Int) % W + (k : Int) / W) % 3 == r) = true := by simpa using ht
        have HT := Lib.hid ht
        clear ht
        go_wp2_with fail
        go_quiet (fail)
        replace hown := own_drewN hown nq
        replace hbel := below_drewN hbel nq
        go_wp2_with (at_builtin; refine append_int Try.underlying56 _ _ rfl _ _ rfl _ _ _ (0) (by rfl) hown (by rfl) (by omega) hbel ?_; intro v' w' hown' hbel')
        go_roundw
        case rel => exact ⟨k + 1, by omega, by go_num, grid_step (class_yes HT.out) hown', hbel'⟩
        case measure => simp [intOf]; omega
      · have ht1 : (((k : Int) % W + (k : Int) / W) % 3 == r) = false := by simpa using ht
        have HT := Lib.hid ht
        clear ht
        go_wp2_with fail
        go_quiet (fail)
        replace hown := own_drewN hown nq
        replace hbel := below_drewN hbel nq
        go_wp2_with (at_builtin; refine append_int Try.underlying56 _ _ rfl _ _ rfl _ _ _ (1) (by rfl) hown (by rfl) (by omega) hbel ?_; intro v' w' hown' hbel')
        go_roundw
        case rel => exact ⟨k + 1, by omega, by go_num, grid_step (class_no HT.out) hown', hbel'⟩
        case measure => simp [intOf]; omega
    · obtain rfl : k = (W * H).toNat := by omega
      go_wp2
      go_ret
      obtain ⟨A, c, rfl⟩ := own_shape hown
      exact ⟨A, c, rfl, own_lower hown (by have := HV.out; omega), by (repeat (first | exact Below.refl _ _ | assumption | refine below_step ?_ (by assumption) | refine below_alloc ?_ _ | refine below_drewN ?_ _ | refine Below.drew ?_ | refine Below.setCell ?_ (by first | (simp; done) | omega | (simp; omega)) _))⟩

theorem impl_ClassWeights (W H X r : Int) (w : World) :
    Calls Try.prog 66 #[.agg #[.int .i64 W, .int .i64 H, .int .i64 X], .int .i64 r] w (RetOwn 3 1 w (classW W H X r).length (classW W H X r)) := by
  cases h1 : boardOk W H X
  · have e : classW W H X r = [] := by simp [classW, h1]
    rw [e]; exact impl_ClassWeights_no1 W H X r w h1
  · cases h2 : inB r 0 2
    · have e : classW W H X r = [] := by simp [classW, h2]
      rw [e]; exact impl_ClassWeights_no2 W H X r w h1 h2
    · have e : classW W H X r = grid (W * H).toNat (classAt W r) := by simp [classW, h1, h2]
      rw [e, grid_len]; exact impl_ClassWeights_yes W H X r w h1 h2
set_option maxHeartbeats 400000 in
theorem impl_ColumnWeights_no1 (W H X a : Int) (w : World) (h1 : boardOk W H X = false) :
    Calls Try.prog 67 #[.agg #[.int .i64 W, .int .i64 H, .int .i64 X], .int .i64 a] w (RetOwn 3 1 w 0 []) := by
  go_enter Try.func67, Try.ntmps67
  go_wp2_with fail
  refine (calls_is (impl_BoardOk _ _ _ _) h1).mono ?_
  rintro e w1 ⟨rfl, hb1⟩
  obtain ⟨hc1, hf1, hs1⟩ := bcell3 hb1
  have hz1 := hb1.size
  (try simp at hz1)
  go_wp2
  go_ret
  exact ⟨none, 0, rfl, World.ownsRow_nil _ _ _ _, by (repeat (first | exact Below.refl _ _ | assumption | refine below_step ?_ (by assumption) | refine below_alloc ?_ _ | refine below_drewN ?_ _ | refine Below.drew ?_ | refine Below.setCell ?_ (by first | (simp; done) | omega | (simp; omega)) _))⟩

set_option maxHeartbeats 400000 in
theorem impl_ColumnWeights_no2 (W H X a : Int) (w : World) (h1 : boardOk W H X = true) (h2 : inB a 0 6 = false) :
    Calls Try.prog 67 #[.agg #[.int .i64 W, .int .i64 H, .int .i64 X], .int .i64 a] w (RetOwn 3 1 w 0 []) := by
  go_enter Try.func67, Try.ntmps67
  go_wp2_with fail
  refine (calls_is (impl_BoardOk _ _ _ _) h1).mono ?_
  rintro e w1 ⟨rfl, hb1⟩
  obtain ⟨hc1, hf1, hs1⟩ := bcell3 hb1
  have hz1 := hb1.size
  (try simp at hz1)
  go_wp2_with fail
  refine (calls_is (impl_within _ _ _ _) h2).mono ?_
  rintro e _ ⟨rfl, rfl⟩
  go_wp2
  go_ret
  exact ⟨none, 0, rfl, World.ownsRow_nil _ _ _ _, by (repeat (first | exact Below.refl _ _ | assumption | refine below_step ?_ (by assumption) | refine below_alloc ?_ _ | refine below_drewN ?_ _ | refine Below.drew ?_ | refine Below.setCell ?_ (by first | (simp; done) | omega | (simp; omega)) _))⟩

set_option maxHeartbeats 2000000 in
theorem impl_ColumnWeights_yes (W H X a : Int) (w : World) (h1 : boardOk W H X = true) (h2 : inB a 0 6 = true) :
    Calls Try.prog 67 #[.agg #[.int .i64 W, .int .i64 H, .int .i64 X], .int .i64 a] w (RetOwn 3 1 w (W * H).toNat (grid (W * H).toNat (colAt W a))) := by
  obtain ⟨m1, m2, w1', w2'⟩ : 1 ≤ W * H ∧ W * H ≤ 49 ∧ 1 ≤ W ∧ W ≤ 7 := ⟨(boardOk_facts h1).m1, (boardOk_facts h1).m2, (boardOk_facts h1).w1, (boardOk_facts h1).w2⟩
  obtain ⟨r1, r2⟩ := inB_iff.1 h2
  go_enter Try.func67, Try.ntmps67
  go_wp2_with fail
  refine (calls_is (impl_BoardOk _ _ _ _) h1).mono ?_
  rintro e w1 ⟨rfl, hb1⟩
  obtain ⟨hc1, hf1, hs1⟩ := bcell3 hb1
  have hz1 := hb1.size
  (try simp at hz1)
  have z0 : w.heap.size < w1.heap.size := by have := hb1.size; simp at this; omega
  have v0 : w1.cell? ⟨w.heap.size, 0, none⟩ = some (.int .i64 W) := by simp [hc1]
  have v1 : w1.cell? ⟨w.heap.size, 1, none⟩ = some (.int .i64 H) := by simp [hc1]
  have HV : Hid (w.heap.size ≤ w1.heap.size) := Nat.le_of_lt z0
  have hB0 : Below w.heap.size w w1 := by (repeat (first | exact Below.refl _ _ | assumption | refine below_step ?_ (by assumption) | refine below_alloc ?_ _ | refine below_drewN ?_ _ | refine Below.drew ?_ | refine Below.setCell ?_ (by first | (simp; done) | omega | (simp; omega)) _))
  clear hb1 hc1 hf1 hs1 hz1
  go_wp2_with fail
  refine (calls_is (impl_within _ _ _ _) h2).mono ?_
  rintro e _ ⟨rfl, rfl⟩
  go_wp2
  go_loopw [5, 6] (fun v i wr => ∃ k : Nat, k ≤ (W * H).toNat ∧ i = .int .i64 k ∧ wr.ownsRow w1.heap.size 3 1 v k (ints (grid k (colAt W a))) ∧ Below w1.heap.size w1 wr) (fun _ i _ => (W * H).toNat - (intOf i).toNat)
  case atStart => exact ⟨0, Nat.zero_le _, rfl, World.ownsRow_made _ _ _ (Nat.le_refl _) (by simp [maxLen]) rfl, by (repeat (first | exact Below.refl _ _ | assumption | refine below_step ?_ (by assumption) | refine below_alloc ?_ _ | refine below_drewN ?_ _ | refine Below.drew ?_ | refine Below.setCell ?_ (by first | (simp; done) | omega | (simp; omega)) _))⟩
  case round =>
    obtain ⟨k, hk, rfl, hown, hbel⟩ := hrel
    have d0 := bel_cell hbel z0 v0
    have d1 := bel_cell hbel z0 v1
    by_cases hlt : (k : Int) < W * H
    · skip
      obtain ⟨a1, a2⟩ := mod_bd (j := (k : Int)) w1'
      obtain ⟨a3, a4⟩ := div_bd (j := (k : Int)) w1' (by omega)
      obtain ⟨b1, b2⟩ := absI_bd (n := (k : Int) % W - a) (B := 49) (by omega) (by omega)
      go_wp2_with (first | (go_at_call 74; refine (impl_magnitude _ _ (by omega) (by omega)).mono ?_; rintro e _ ⟨rfl, rfl⟩) | (go_at_call 121; refine (impl_fibonacci _ _ (by omega)).mono ?_; rintro e _ ⟨rfl, rfl⟩) | (at_builtin; refine append_int Try.underlying56 _ _ rfl _ _ rfl _ _ _ (fib (7 - absI ((k : Int) % W - a))) (by rfl) hown (by rfl) (by omega) hbel ?_; intro v' w' hown' hbel'))
      go_roundw
      case rel => exact ⟨k + 1, by omega, by go_num, grid_step rfl hown', hbel'⟩
      case measure => simp [intOf]; omega
    · obtain rfl : k = (W * H).toNat := by omega
      go_wp2
      go_ret
      obtain ⟨A, c, rfl⟩ := own_shape hown
      exact ⟨A, c, rfl, own_lower hown (by have := HV.out; omega), by (repeat (first | exact Below.refl _ _ | assumption | refine below_step ?_ (by assumption) | refine below_alloc ?_ _ | refine below_drewN ?_ _ | refine Below.drew ?_ | refine Below.setCell ?_ (by first | (simp; done) | omega | (simp; omega)) _))⟩

theorem impl_ColumnWeights (W H X a : Int) (w : World) :
    Calls Try.prog 67 #[.agg #[.int .i64 W, .int .i64 H, .int .i64 X], .int .i64 a] w (RetOwn 3 1 w (colW W H X a).length (colW W H X a)) := by
  cases h1 : boardOk W H X
  · have e : colW W H X a = [] := by simp [colW, h1]
    rw [e]; exact impl_ColumnWeights_no1 W H X a w h1
  · cases h2 : inB a 0 6
    · have e : colW W H X a = [] := by simp [colW, h2]
      rw [e]; exact impl_ColumnWeights_no2 W H X a w h1 h2
    · have e : colW W H X a = grid (W * H).toNat (colAt W a) := by simp [colW, h1, h2]
      rw [e, grid_len]; exact impl_ColumnWeights_yes W H X a w h1 h2
set_option maxHeartbeats 400000 in
theorem impl_RowWeights_no1 (W H X a : Int) (w : World) (h1 : boardOk W H X = false) :
    Calls Try.prog 68 #[.agg #[.int .i64 W, .int .i64 H, .int .i64 X], .int .i64 a] w (RetOwn 3 1 w 0 []) := by
  go_enter Try.func68, Try.ntmps68
  go_wp2_with fail
  refine (calls_is (impl_BoardOk _ _ _ _) h1).mono ?_
  rintro e w1 ⟨rfl, hb1⟩
  obtain ⟨hc1, hf1, hs1⟩ := bcell3 hb1
  have hz1 := hb1.size
  (try simp at hz1)
  go_wp2
  go_ret
  exact ⟨none, 0, rfl, World.ownsRow_nil _ _ _ _, by (repeat (first | exact Below.refl _ _ | assumption | refine below_step ?_ (by assumption) | refine below_alloc ?_ _ | refine below_drewN ?_ _ | refine Below.drew ?_ | refine Below.setCell ?_ (by first | (simp; done) | omega | (simp; omega)) _))⟩

set_option maxHeartbeats 400000 in
theorem impl_RowWeights_no2 (W H X a : Int) (w : World) (h1 : boardOk W H X = true) (h2 : inB a 0 6 = false) :
    Calls Try.prog 68 #[.agg #[.int .i64 W, .int .i64 H, .int .i64 X], .int .i64 a] w (RetOwn 3 1 w 0 []) := by
  go_enter Try.func68, Try.ntmps68
  go_wp2_with fail
  refine (calls_is (impl_BoardOk _ _ _ _) h1).mono ?_
  rintro e w1 ⟨rfl, hb1⟩
  obtain ⟨hc1, hf1, hs1⟩ := bcell3 hb1
  have hz1 := hb1.size
  (try simp at hz1)
  go_wp2_with fail
  refine (calls_is (impl_within _ _ _ _) h2).mono ?_
  rintro e _ ⟨rfl, rfl⟩
  go_wp2
  go_ret
  exact ⟨none, 0, rfl, World.ownsRow_nil _ _ _ _, by (repeat (first | exact Below.refl _ _ | assumption | refine below_step ?_ (by assumption) | refine below_alloc ?_ _ | refine below_drewN ?_ _ | refine Below.drew ?_ | refine Below.setCell ?_ (by first | (simp; done) | omega | (simp; omega)) _))⟩

set_option maxHeartbeats 2000000 in
theorem impl_RowWeights_yes (W H X a : Int) (w : World) (h1 : boardOk W H X = true) (h2 : inB a 0 6 = true) :
    Calls Try.prog 68 #[.agg #[.int .i64 W, .int .i64 H, .int .i64 X], .int .i64 a] w (RetOwn 3 1 w (W * H).toNat (grid (W * H).toNat (rowAt W a))) := by
  obtain ⟨m1, m2, w1', w2'⟩ : 1 ≤ W * H ∧ W * H ≤ 49 ∧ 1 ≤ W ∧ W ≤ 7 := ⟨(boardOk_facts h1).m1, (boardOk_facts h1).m2, (boardOk_facts h1).w1, (boardOk_facts h1).w2⟩
  obtain ⟨r1, r2⟩ := inB_iff.1 h2
  go_enter Try.func68, Try.ntmps68
  go_wp2_with fail
  refine (calls_is (impl_BoardOk _ _ _ _) h1).mono ?_
  rintro e w1 ⟨rfl, hb1⟩
  obtain ⟨hc1, hf1, hs1⟩ := bcell3 hb1
  have hz1 := hb1.size
  (try simp at hz1)
  have z0 : w.heap.size < w1.heap.size := by have := hb1.size; simp at this; omega
  have v0 : w1.cell? ⟨w.heap.size, 0, none⟩ = some (.int .i64 W) := by simp [hc1]
  have v1 : w1.cell? ⟨w.heap.size, 1, none⟩ = some (.int .i64 H) := by simp [hc1]
  have HV : Hid (w.heap.size ≤ w1.heap.size) := Nat.le_of_lt z0
  have hB0 : Below w.heap.size w w1 := by (repeat (first | exact Below.refl _ _ | assumption | refine below_step ?_ (by assumption) | refine below_alloc ?_ _ | refine below_drewN ?_ _ | refine Below.drew ?_ | refine Below.setCell ?_ (by first | (simp; done) | omega | (simp; omega)) _))
  clear hb1 hc1 hf1 hs1 hz1
  go_wp2_with fail
  refine (calls_is (impl_within _ _ _ _) h2).mono ?_
  rintro e _ ⟨rfl, rfl⟩
  go_wp2
  go_loopw [5, 6] (fun v i wr => ∃ k : Nat, k ≤ (W * H).toNat ∧ i = .int .i64 k ∧ wr.ownsRow w1.heap.size 3 1 v k (ints (grid k (rowAt W a))) ∧ Below w1.heap.size w1 wr) (fun _ i _ => (W * H).toNat - (intOf i).toNat)
  case atStart => exact ⟨0, Nat.zero_le _, rfl, World.ownsRow_made _ _ _ (Nat.le_refl _) (by simp [maxLen]) rfl, by (repeat (first | exact Below.refl _ _ | assumption | refine below_step ?_ (by assumption) | refine below_alloc ?_ _ | refine below_drewN ?_ _ | refine Below.drew ?_ | refine Below.setCell ?_ (by first | (simp; done) | omega | (simp; omega)) _))⟩
  case round =>
    obtain ⟨k, hk, rfl, hown, hbel⟩ := hrel
    have d0 := bel_cell hbel z0 v0
    have d1 := bel_cell hbel z0 v1
    by_cases hlt : (k : Int) < W * H
    · skip
      obtain ⟨a1, a2⟩ := mod_bd (j := (k : Int)) w1'
      obtain ⟨a3, a4⟩ := div_bd (j := (k : Int)) w1' (by omega)
      obtain ⟨b1, b2⟩ := absI_bd (n := (k : Int) / W - a) (B := 49) (by omega) (by omega)
      go_wp2_with (first | (go_at_call 74; refine (impl_magnitude _ _ (by omega) (by omega)).mono ?_; rintro e _ ⟨rfl, rfl⟩) | (go_at_call 121; refine (impl_fibonacci _ _ (by omega)).mono ?_; rintro e _ ⟨rfl, rfl⟩) | (at_builtin; refine append_int Try.underlying56 _ _ rfl _ _ rfl _ _ _ (fib (7 - absI ((k : Int) / W - a))) (by rfl) hown (by rfl) (by omega) hbel ?_; intro v' w' hown' hbel'))
      go_roundw
      case rel => exact ⟨k + 1, by omega, by go_num, grid_step rfl hown', hbel'⟩
      case measure => simp [intOf]; omega
    · obtain rfl : k = (W * H).toNat := by omega
      go_wp2
      go_ret
      obtain ⟨A, c, rfl⟩ := own_shape hown
      exact ⟨A, c, rfl, own_lower hown (by have := HV.out; omega), by (repeat (first | exact Below.refl _ _ | assumption | refine below_step ?_ (by assumption) | refine below_alloc ?_ _ | refine below_drewN ?_ _ | refine Below.drew ?_ | refine Below.setCell ?_ (by first | (simp; done) | omega | (simp; omega)) _))⟩

theorem impl_RowWeights (W H X a : Int) (w : World) :
    Calls Try.prog 68 #[.agg #[.int .i64 W, .int .i64 H, .int .i64 X], .int .i64 a] w (RetOwn 3 1 w (rowW W H X a).length (rowW W H X a)) := by
  cases h1 : boardOk W H X
  · have e : rowW W H X a = [] := by simp [rowW, h1]
    rw [e]; exact impl_RowWeights_no1 W H X a w h1
  · cases h2 : inB a 0 6
    · have e : rowW W H X a = [] := by simp [rowW, h2]
      rw [e]; exact impl_RowWeights_no2 W H X a w h1 h2
    · have e : rowW W H X a = grid (W * H).toNat (rowAt W a) := by simp [rowW, h1, h2]
      rw [e, grid_len]; exact impl_RowWeights_yes W H X a w h1 h2
end Go.Proofs.Ytianfakgojmnpaa
