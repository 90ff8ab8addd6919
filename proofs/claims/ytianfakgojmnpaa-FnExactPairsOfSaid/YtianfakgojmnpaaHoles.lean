/- Holes: contracts. -/
import Derived.Test.YtianfakgojmnpaaWeight
namespace Go.Proofs.Ytianfakgojmnpaa
open Go.RowKit

/-- the holes of a board -/
def holes (W H X : Int) : List Nat := if boardOk W H X = true then bitsTo X.toNat (W * H).toNat else []
theorem holes_small (W H X : Int) : (holes W H X).length ≤ 49 := by
  unfold holes; split
  · rename_i h; have := (boardOk_facts h).m2; have := bitsTo_le X.toNat (W * H).toNat; omega
  · simp

theorem bits_yes {w : World} {lo : Nat} {v : Value} {m k : Nat} (h : m.testBit k = true) (ho : w.ownsRow lo 3 1 v ((bitsTo m k).length + 1) (ints (toInts (bitsTo m k) ++ [(k : Int)]))) :
    w.ownsRow lo 3 1 v (bitsTo m (k + 1)).length (ints (toInts (bitsTo m (k + 1)))) := by
  rw [bitsTo_yes h, toInts_append, List.length_append]; exact ho
theorem bits_no {w : World} {lo : Nat} {v : Value} {m k : Nat} (h : m.testBit k = false) (ho : w.ownsRow lo 3 1 v (bitsTo m k).length (ints (toInts (bitsTo m k)))) :
    w.ownsRow lo 3 1 v (bitsTo m (k + 1)).length (ints (toInts (bitsTo m (k + 1)))) := by
  rw [bitsTo_no h]; exact ho
theorem bitI_nat (m : Int) (k : Nat) : bitI m (k : Int) = m.toNat.testBit k := by simp [bitI]

theorem made0 {V : World} {g : Nat} (e : TypeId) (h : g = V.heap.size) : (V.alloc (.cells #[] e)).ownsRow V.heap.size e 1 (.slice (some ⟨g, 0, none⟩) 0 0) 0 [] := by
  subst h; exact World.ownsRow_made _ _ _ (Nat.le_refl _) (by simp [maxLen]) rfl
theorem made0s {V : World} {g s : Nat} (e : TypeId) (h : g = V.heap.size) : (V.alloc (.cells #[] e)).ownsRow V.heap.size e s (.slice (some ⟨g, 0, none⟩) 0 0) 0 [] := by
  subst h; exact World.ownsRow_made _ _ _ (Nat.le_refl _) (by simp [maxLen]) (by simp)

set_option maxHeartbeats 400000 in
theorem impl_hasBit (p k : Int) (w : World) (p0 : 0 ≤ p) (p1 : p ≤ 9223372036854775807) (k0 : 0 ≤ k) (k1 : k ≤ 63) :
    Calls Try.prog 105 #[.int .i64 p, .int .i64 k] w fun e w' => e = .returned (.bool (bitI p k)) ∧ w = w' := by
  go_enter Try.func105, Try.ntmps105
  go_wp2
  go_ret
  exact ⟨ret_bool (beq_shr_one p0 (by omega)), rfl⟩
set_option maxHeartbeats 400000 in
theorem impl_HasHole_no1 (W H X k : Int) (w : World) (h1 : boardOk W H X = false) :
    Calls Try.prog 103 #[.agg #[.int .i64 W, .int .i64 H, .int .i64 X], .int .i64 k] w fun e w' => e = .returned (.bool (false)) ∧ Below w.heap.size w w' := by
  go_enter Try.func103, Try.ntmps103
  go_wp2_with fail
  refine (calls_is (impl_BoardOk _ _ _ _) h1).mono ?_
  rintro e w1 ⟨rfl, hb1⟩
  obtain ⟨hc1, hf1, hs1⟩ := bcell3 hb1
  have hz1 := hb1.size
  (try simp at hz1)
  go_wp2
  go_ret
  exact ⟨rfl, by (repeat (first | exact Below.refl _ _ | assumption | refine below_step ?_ (by assumption) | refine below_alloc ?_ _ | refine below_drewN ?_ _ | refine Below.drew ?_ | refine Below.setCell ?_ (by first | (simp; done) | omega | (simp; omega)) _))⟩

set_option maxHeartbeats 400000 in
theorem impl_HasHole_no2 (W H X k : Int) (w : World) (h1 : boardOk W H X = true) (h2 : inB k 0 (W * H - 1) = false) :
    Calls Try.prog 103 #[.agg #[.int .i64 W, .int .i64 H, .int .i64 X], .int .i64 k] w fun e w' => e = .returned (.bool (false)) ∧ Below w.heap.size w w' := by
  obtain ⟨m1, m2, x1, x3⟩ : 1 ≤ W * H ∧ W * H ≤ 49 ∧ 1 ≤ X ∧ X < 562949953421312 := ⟨(boardOk_facts h1).m1, (boardOk_facts h1).m2, (boardOk_facts h1).x1, (boardOk_facts h1).x3⟩
  go_enter Try.func103, Try.ntmps103
  go_wp2_with fail
  refine (calls_is (impl_BoardOk _ _ _ _) h1).mono ?_
  rintro e w1 ⟨rfl, hb1⟩
  obtain ⟨hc1, hf1, hs1⟩ := bcell3 hb1
  have hz1 := hb1.size
  (try simp at hz1)
  go_wp2_with fail
  refine (calls_is (impl_within _ _ _ _) h2).mono ?_
  rintro e _ ⟨rfl, rfl⟩
  go_wp2
  go_ret
  exact ⟨rfl, by (repeat (first | exact Below.refl _ _ | assumption | refine below_step ?_ (by assumption) | refine below_alloc ?_ _ | refine below_drewN ?_ _ | refine Below.drew ?_ | refine Below.setCell ?_ (by first | (simp; done) | omega | (simp; omega)) _))⟩

set_option maxHeartbeats 400000 in
theorem impl_HasHole_yes (W H X k : Int) (w : World) (h1 : boardOk W H X = true) (h2 : inB k 0 (W * H - 1) = true) :
    Calls Try.prog 103 #[.agg #[.int .i64 W, .int .i64 H, .int .i64 X], .int .i64 k] w fun e w' => e = .returned (.bool (bitI X k)) ∧ Below w.heap.size w w' := by
  obtain ⟨m1, m2, x1, x3⟩ : 1 ≤ W * H ∧ W * H ≤ 49 ∧ 1 ≤ X ∧ X < 562949953421312 := ⟨(boardOk_facts h1).m1, (boardOk_facts h1).m2, (boardOk_facts h1).x1, (boardOk_facts h1).x3⟩
  obtain ⟨k1, k2⟩ := inB_iff.1 h2
  go_enter Try.func103, Try.ntmps103
  go_wp2_with fail
  refine (calls_is (impl_BoardOk _ _ _ _) h1).mono ?_
  rintro e w1 ⟨rfl, hb1⟩
  obtain ⟨hc1, hf1, hs1⟩ := bcell3 hb1
  have hz1 := hb1.size
  (try simp at hz1)
  go_wp2_with fail
  refine (calls_is (impl_within _ _ _ _) h2).mono ?_
  rintro e _ ⟨rfl, rfl⟩
  go_wp2_with fail
  refine (impl_hasBit _ _ _ (by omega) (by omega) (by omega) (by omega)).mono ?_
  rintro e _ ⟨rfl, rfl⟩
  go_wp2
  go_ret
  exact ⟨rfl, by (repeat (first | exact Below.refl _ _ | assumption | refine below_step ?_ (by assumption) | refine below_alloc ?_ _ | refine below_drewN ?_ _ | refine Below.drew ?_ | refine Below.setCell ?_ (by first | (simp; done) | omega | (simp; omega)) _))⟩

theorem impl_HasHole (W H X k : Int) (w : World) :
    Calls Try.prog 103 #[.agg #[.int .i64 W, .int .i64 H, .int .i64 X], .int .i64 k] w fun e w' => e = .returned (.bool (hasHole W H X k)) ∧ Below w.heap.size w w' := by
  cases h1 : boardOk W H X
  · exact (impl_HasHole_no1 W H X k w h1).mono fun e w' h => ⟨h.1.trans (ret_bool (by simp [hasHole, h1])), h.2⟩
  · cases h2 : inB k 0 (W * H - 1)
    · exact (impl_HasHole_no2 W H X k w h1 h2).mono fun e w' h => ⟨h.1.trans (ret_bool (by simp [hasHole, h2])), h.2⟩
    · exact (impl_HasHole_yes W H X k w h1 h2).mono fun e w' h => ⟨h.1.trans (ret_bool (by simp [hasHole, h1, h2])), h.2⟩
set_option maxHeartbeats 400000 in
theorem spec_HasHole_no1 (W H X k : Int) (w : World) (h1 : boardOk W H X = false) :
    Calls Try.prog 40 #[.agg #[.int .i64 W, .int .i64 H, .int .i64 X], .int .i64 k] w fun e w' => e = .returned (.bool (false)) ∧ Below w.heap.size w w' := by
  go_enter Try.func40, Try.ntmps40
  go_wp2_with fail
  refine (calls_is (spec_BoardOk _ _ _ _) h1).mono ?_
  rintro e w1 ⟨rfl, hb1⟩
  obtain ⟨hc1, hf1, hs1⟩ := bcell3 hb1
  have hz1 := hb1.size
  (try simp at hz1)
  go_wp2
  go_ret
  exact ⟨rfl, by (repeat (first | exact Below.refl _ _ | assumption | refine below_step ?_ (by assumption) | refine below_alloc ?_ _ | refine below_drewN ?_ _ | refine Below.drew ?_ | refine Below.setCell ?_ (by first | (simp; done) | omega | (simp; omega)) _))⟩

set_option maxHeartbeats 400000 in
theorem spec_HasHole_no2 (W H X k : Int) (w : World) (h1 : boardOk W H X = true) (h2 : inB k 0 (W * H - 1) = false) :
    Calls Try.prog 40 #[.agg #[.int .i64 W, .int .i64 H, .int .i64 X], .int .i64 k] w fun e w' => e = .returned (.bool (false)) ∧ Below w.heap.size w w' := by
  obtain ⟨m1, m2, x1, x3⟩ : 1 ≤ W * H ∧ W * H ≤ 49 ∧ 1 ≤ X ∧ X < 562949953421312 := ⟨(boardOk_facts h1).m1, (boardOk_facts h1).m2, (boardOk_facts h1).x1, (boardOk_facts h1).x3⟩
  go_enter Try.func40, Try.ntmps40
  go_wp2_with fail
  refine (calls_is (spec_BoardOk _ _ _ _) h1).mono ?_
  rintro e w1 ⟨rfl, hb1⟩
  obtain ⟨hc1, hf1, hs1⟩ := bcell3 hb1
  have hz1 := hb1.size
  (try simp at hz1)
  go_wp2_with fail
  refine (calls_is (spec_l01In _ _ _ _) h2).mono ?_
  rintro e _ ⟨rfl, rfl⟩
  go_wp2
  go_ret
  exact ⟨rfl, by (repeat (first | exact Below.refl _ _ | assumption | refine below_step ?_ (by assumption) | refine below_alloc ?_ _ | refine below_drewN ?_ _ | refine Below.drew ?_ | refine Below.setCell ?_ (by first | (simp; done) | omega | (simp; omega)) _))⟩

set_option maxHeartbeats 400000 in
theorem spec_HasHole_yes (W H X k : Int) (w : World) (h1 : boardOk W H X = true) (h2 : inB k 0 (W * H - 1) = true) :
    Calls Try.prog 40 #[.agg #[.int .i64 W, .int .i64 H, .int .i64 X], .int .i64 k] w fun e w' => e = .returned (.bool (bitI X k)) ∧ Below w.heap.size w w' := by
  obtain ⟨m1, m2, x1, x3⟩ : 1 ≤ W * H ∧ W * H ≤ 49 ∧ 1 ≤ X ∧ X < 562949953421312 := ⟨(boardOk_facts h1).m1, (boardOk_facts h1).m2, (boardOk_facts h1).x1, (boardOk_facts h1).x3⟩
  obtain ⟨k1, k2⟩ := inB_iff.1 h2
  go_enter Try.func40, Try.ntmps40
  go_wp2_with fail
  refine (calls_is (spec_BoardOk _ _ _ _) h1).mono ?_
  rintro e w1 ⟨rfl, hb1⟩
  obtain ⟨hc1, hf1, hs1⟩ := bcell3 hb1
  have hz1 := hb1.size
  (try simp at hz1)
  go_wp2_with fail
  refine (calls_is (spec_l01In _ _ _ _) h2).mono ?_
  rintro e _ ⟨rfl, rfl⟩
  go_wp2
  go_ret
  exact ⟨ret_bool (beq_shr_one (by omega) (by omega)), by (repeat (first | exact Below.refl _ _ | assumption | refine below_step ?_ (by assumption) | refine below_alloc ?_ _ | refine below_drewN ?_ _ | refine Below.drew ?_ | refine Below.setCell ?_ (by first | (simp; done) | omega | (simp; omega)) _))⟩

theorem spec_HasHole (W H X k : Int) (w : World) :
    Calls Try.prog 40 #[.agg #[.int .i64 W, .int .i64 H, .int .i64 X], .int .i64 k] w fun e w' => e = .returned (.bool (hasHole W H X k)) ∧ Below w.heap.size w w' := by
  cases h1 : boardOk W H X
  · exact (spec_HasHole_no1 W H X k w h1).mono fun e w' h => ⟨h.1.trans (ret_bool (by simp [hasHole, h1])), h.2⟩
  · cases h2 : inB k 0 (W * H - 1)
    · exact (spec_HasHole_no2 W H X k w h1 h2).mono fun e w' h => ⟨h.1.trans (ret_bool (by simp [hasHole, h2])), h.2⟩
    · exact (spec_HasHole_yes W H X k w h1 h2).mono fun e w' h => ⟨h.1.trans (ret_bool (by simp [hasHole, h1, h2])), h.2⟩
set_option maxHeartbeats 1000000 in
theorem spec_l02List (n : Int) (w : World) (n0 : 0 ≤ n) (n1 : n ≤ 9223372036854775807) :
    Calls Try.prog 94 #[.int .i64 n] w (RetOwn 3 1 w (bitsTo n.toNat 49).length (toInts (bitsTo n.toNat 49))) := by
  go_enter Try.func94, Try.ntmps94
  go_wp2
  go_loopw [3, 4] (fun v i wr => ∃ k : Nat, k ≤ 49 ∧ i = .int .i64 k ∧ wr.ownsRow w.heap.size 3 1 v (bitsTo n.toNat k).length (ints (toInts (bitsTo n.toNat k))) ∧ Below w.heap.size w wr) (fun _ i _ => 49 - (intOf i).toNat)
  case atStart => exact ⟨0, Nat.zero_le _, rfl, made0 3 rfl, by (repeat (first | exact Below.refl _ _ | assumption | refine below_step ?_ (by assumption) | refine below_alloc ?_ _ | refine below_drewN ?_ _ | refine Below.drew ?_ | refine Below.setCell ?_ (by first | (simp; done) | omega | (simp; omega)) _))⟩
  case round =>
    obtain ⟨k, hk, rfl, hown, hbel⟩ := hrel
    have hl := bitsTo_le n.toNat k
    by_cases hlt : k < 49
    · cases hbit : bitI n (k : Int)
      · have ht : (bits .and .i64 (n / 2 ^ k) 1 == 1) = false := by have := beq_shr_one (k := (k : Int)) n0 (by omega); simpa [hbit] using this
        have HB := Lib.hid hbit
        clear hbit
        go_wp2
        go_roundw
        case rel => exact ⟨k + 1, by omega, by go_num, bits_no (by rw [← bitI_nat]; exact HB.out) hown, hbel⟩
        case measure => simp [intOf]; omega
      · have ht : (bits .and .i64 (n / 2 ^ k) 1 == 1) = true := by have := beq_shr_one (k := (k : Int)) n0 (by omega); simpa [hbit] using this
        have HB := Lib.hid hbit
        clear hbit
        go_wp2_with (at_builtin; refine append_int Try.underlying56 _ _ rfl _ _ rfl _ _ _ (k : Int) (by rfl) hown (by rfl) (by omega) hbel ?_; intro v' w' hown' hbel')
        go_roundw
        case rel => exact ⟨k + 1, by omega, by go_num, bits_yes (by rw [← bitI_nat]; exact HB.out) hown', hbel'⟩
        case measure => simp [intOf]; omega
    · obtain rfl : k = 49 := by omega
      go_wp2
      go_ret
      obtain ⟨A, c, rfl⟩ := own_shape hown
      exact ⟨A, c, rfl, hown, hbel⟩
theorem holes_spec {W H X : Int} (h : boardOk W H X = true) : bitsTo X.toNat 49 = holes W H X := by
  unfold holes; rw [if_pos h]
  exact bits_board h (by have := (boardOk_facts h).x1; omega) (Int.le_refl _)
set_option maxHeartbeats 400000 in
theorem spec_HolesOf (W H X : Int) (w : World) :
    Calls Try.prog 43 #[.agg #[.int .i64 W, .int .i64 H, .int .i64 X]] w (RetOwn 3 1 w (holes W H X).length (toInts (holes W H X))) := by
  cases h1 : boardOk W H X
  · have e : holes W H X = [] := by simp [holes, h1]
    rw [e]; clear e
    go_enter Try.func43, Try.ntmps43
    go_wp2_with fail
    refine (calls_is (spec_BoardOk _ _ _ _) h1).mono ?_
    rintro e w1 ⟨rfl, hb1⟩
    obtain ⟨hc1, hf1, hs1⟩ := bcell3 hb1
    have hz1 := hb1.size
    (try simp at hz1)
    go_wp2
    go_ret
    exact ⟨_, _, rfl, own_lower (made0 3 rfl) (by have := hb1.size; simp at this; omega), by (repeat (first | exact Below.refl _ _ | assumption | refine below_step ?_ (by assumption) | refine below_alloc ?_ _ | refine below_drewN ?_ _ | refine Below.drew ?_ | refine Below.setCell ?_ (by first | (simp; done) | omega | (simp; omega)) _))⟩
  · obtain ⟨x1, x3⟩ : 1 ≤ X ∧ X < 562949953421312 := ⟨(boardOk_facts h1).x1, (boardOk_facts h1).x3⟩
    rw [← holes_spec h1]
    go_enter Try.func43, Try.ntmps43
    go_wp2_with fail
    refine (calls_is (spec_BoardOk _ _ _ _) h1).mono ?_
    rintro e w1 ⟨rfl, hb1⟩
    obtain ⟨hc1, hf1, hs1⟩ := bcell3 hb1
    have hz1 := hb1.size
    (try simp at hz1)
    go_wp2_with fail
    refine (spec_l02List _ _ (by omega) (by omega)).mono ?_
    rintro e w2 ⟨A, c, rfl, ho, hb2⟩
    go_wp2
    go_ret
    exact ⟨A, c, rfl, own_lower ho (by have := hb1.size; simp at this; omega), by (repeat (first | exact Below.refl _ _ | assumption | refine below_step ?_ (by assumption) | refine below_alloc ?_ _ | refine below_drewN ?_ _ | refine Below.drew ?_ | refine Below.setCell ?_ (by first | (simp; done) | omega | (simp; omega)) _))⟩
set_option maxHeartbeats 2000000 in
theorem impl_HolesOf_yes (W H X : Int) (w : World) (h1 : boardOk W H X = true) :
    Calls Try.prog 83 #[.agg #[.int .i64 W, .int .i64 H, .int .i64 X]] w (RetOwn 3 1 w (bitsTo X.toNat (W * H).toNat).length (toInts (bitsTo X.toNat (W * H).toNat))) := by
  obtain ⟨m1, m2, x1, x3⟩ : 1 ≤ W * H ∧ W * H ≤ 49 ∧ 1 ≤ X ∧ X < 562949953421312 := ⟨(boardOk_facts h1).m1, (boardOk_facts h1).m2, (boardOk_facts h1).x1, (boardOk_facts h1).x3⟩
  go_enter Try.func83, Try.ntmps83
  go_wp2
  generalize hV : w.alloc (.cells #[.int .i64 W, .int .i64 H, .int .i64 X] 44) = V
  have v0 : Below w.heap.size w V := by subst hV; (repeat (first | exact Below.refl _ _ | assumption | refine below_step ?_ (by assumption) | refine below_alloc ?_ _ | refine below_drewN ?_ _ | refine Below.drew ?_ | refine Below.setCell ?_ (by first | (simp; done) | omega | (simp; omega)) _))
  have z0 : w.heap.size < V.heap.size := by subst hV; simp <;> omega
  have v0_0 : V.cell? ⟨w.heap.size, 0, none⟩ = some (.int .i64 W) := by subst hV; simp
  have v0_1 : V.cell? ⟨w.heap.size, 1, none⟩ = some (.int .i64 H) := by subst hV; simp
  have v0_2 : V.cell? ⟨w.heap.size, 2, none⟩ = some (.int .i64 X) := by subst hV; simp
  have K : Hid (∀ w', Below V.heap.size V w' → Below V.heap.size V w' ∧ w'.cell? ⟨w.heap.size, 0, none⟩ = some (.int .i64 W) ∧ w'.cell? ⟨w.heap.size, 1, none⟩ = some (.int .i64 H) ∧ w'.cell? ⟨w.heap.size, 2, none⟩ = some (.int .i64 X)) := fun w' hB => ⟨hB, bel_cell hB z0 v0_0, bel_cell hB z0 v0_1, bel_cell hB z0 v0_2⟩
  have ZV : Hid (w.heap.size + 1 = V.heap.size) := by subst hV; unfold Hid; simp
  clear hV
  have HV : Hid (w.heap.size ≤ V.heap.size) := v0.size
  go_loopw [3, 4] (fun v i wr => ∃ k : Nat, k ≤ (W * H).toNat ∧ i = .int .i64 k ∧ wr.ownsRow V.heap.size 3 1 v (bitsTo X.toNat k).length (ints (toInts (bitsTo X.toNat k))) ∧ Below V.heap.size V wr) (fun _ i _ => (W * H).toNat - (intOf i).toNat)
  case atStart => exact ⟨0, Nat.zero_le _, rfl, made0 3 ZV.out, by (repeat (first | exact Below.refl _ _ | assumption | refine below_step ?_ (by assumption) | refine below_alloc ?_ _ | refine below_drewN ?_ _ | refine Below.drew ?_ | refine Below.setCell ?_ (by first | (simp; done) | omega | (simp; omega)) _))⟩
  case round =>
    obtain ⟨k, hk, rfl, hown, hbel⟩ := hrel
    have hl := bitsTo_le X.toNat k
    have d0 := bel_cell hbel z0 v0_0
    have d1 := bel_cell hbel z0 v0_1
    have d2 := bel_cell hbel z0 v0_2
    by_cases hlt : (k : Int) < W * H
    · cases hbit : bitI X (k : Int)
      · skip
        go_wp2_with fail
        refine (calls_is (impl_BoardOk _ _ _ _) h1).mono ?_
        rintro e wb ⟨rfl, hbb⟩
        replace hown := own_below hown hbb
        replace hbel := below_step hbel hbb
        clear d0 d1 d2
        have d0 := bel_cell hbel z0 v0_0
        have d1 := bel_cell hbel z0 v0_1
        have d2 := bel_cell hbel z0 v0_2
        go_wp2_with fail
        refine (calls_is (impl_hasBit _ _ _ (by omega) (by omega) (by omega) (by omega)) hbit).mono ?_
        rintro e _ ⟨rfl, rfl⟩
        go_wp2
        go_roundw
        case rel => exact ⟨k + 1, by omega, by go_num, bits_no (by rw [← bitI_nat]; exact hbit) hown, hbel⟩
        case measure => simp [intOf]; omega
      · skip
        go_wp2_with fail
        refine (calls_is (impl_BoardOk _ _ _ _) h1).mono ?_
        rintro e wb ⟨rfl, hbb⟩
        replace hown := own_below hown hbb
        replace hbel := below_step hbel hbb
        clear d0 d1 d2
        have d0 := bel_cell hbel z0 v0_0
        have d1 := bel_cell hbel z0 v0_1
        have d2 := bel_cell hbel z0 v0_2
        go_wp2_with fail
        refine (calls_is (impl_hasBit _ _ _ (by omega) (by omega) (by omega) (by omega)) hbit).mono ?_
        rintro e _ ⟨rfl, rfl⟩
        go_wp2_with (at_builtin; refine append_int Try.underlying56 _ _ rfl _ _ rfl _ _ _ (k : Int) (by rfl) hown (by rfl) (by omega) hbel ?_; intro v' w' hown' hbel')
        go_roundw
        case rel => exact ⟨k + 1, by omega, by go_num, bits_yes (by rw [← bitI_nat]; exact hbit) hown', hbel'⟩
        case measure => simp [intOf]; omega
    · obtain rfl : k = (W * H).toNat := by omega
      go_wp2_with fail
      refine (calls_is (impl_BoardOk _ _ _ _) h1).mono ?_
      rintro e wb ⟨rfl, hbb⟩
      replace hown := own_below hown hbb
      replace hbel := below_step hbel hbb
      clear d0 d1 d2
      have d0 := bel_cell hbel z0 v0_0
      have d1 := bel_cell hbel z0 v0_1
      have d2 := bel_cell hbel z0 v0_2
      go_wp2
      go_ret
      obtain ⟨A, c, rfl⟩ := own_shape hown
      exact ⟨A, c, rfl, own_lower hown (by have := HV.out; omega), by (repeat (first | exact Below.refl _ _ | assumption | refine below_step ?_ (by assumption) | refine below_alloc ?_ _ | refine below_drewN ?_ _ | refine Below.drew ?_ | refine Below.setCell ?_ (by first | (simp; done) | omega | (simp; omega)) _))⟩

set_option maxHeartbeats 1000000 in
theorem impl_HolesOf_no (W H X : Int) (w : World) (h1 : boardOk W H X = false) :
    Calls Try.prog 83 #[.agg #[.int .i64 W, .int .i64 H, .int .i64 X]] w (RetOwn 3 1 w 0 []) := by
  go_enter Try.func83, Try.ntmps83
  go_wp2
  generalize hV : w.alloc (.cells #[.int .i64 W, .int .i64 H, .int .i64 X] 44) = V
  have v0 : Below w.heap.size w V := by subst hV; (repeat (first | exact Below.refl _ _ | assumption | refine below_step ?_ (by assumption) | refine below_alloc ?_ _ | refine below_drewN ?_ _ | refine Below.drew ?_ | refine Below.setCell ?_ (by first | (simp; done) | omega | (simp; omega)) _))
  have z0 : w.heap.size < V.heap.size := by subst hV; simp <;> omega
  have v0_0 : V.cell? ⟨w.heap.size, 0, none⟩ = some (.int .i64 W) := by subst hV; simp
  have v0_1 : V.cell? ⟨w.heap.size, 1, none⟩ = some (.int .i64 H) := by subst hV; simp
  have v0_2 : V.cell? ⟨w.heap.size, 2, none⟩ = some (.int .i64 X) := by subst hV; simp
  have K : Hid (∀ w', Below V.heap.size V w' → Below V.heap.size V w' ∧ w'.cell? ⟨w.heap.size, 0, none⟩ = some (.int .i64 W) ∧ w'.cell? ⟨w.heap.size, 1, none⟩ = some (.int .i64 H) ∧ w'.cell? ⟨w.heap.size, 2, none⟩ = some (.int .i64 X)) := fun w' hB => ⟨hB, bel_cell hB z0 v0_0, bel_cell hB z0 v0_1, bel_cell hB z0 v0_2⟩
  have ZV : Hid (w.heap.size + 1 = V.heap.size) := by subst hV; unfold Hid; simp
  clear hV
  have HV : Hid (w.heap.size ≤ V.heap.size) := v0.size
  go_loopw [3, 4] (fun v i wr => i = .int .i64 0 ∧ wr.ownsRow V.heap.size 3 1 v 0 [] ∧ Below V.heap.size V wr) (fun _ _ _ => 0)
  case atStart => exact ⟨rfl, made0 3 ZV.out, by (repeat (first | exact Below.refl _ _ | assumption | refine below_step ?_ (by assumption) | refine below_alloc ?_ _ | refine below_drewN ?_ _ | refine Below.drew ?_ | refine Below.setCell ?_ (by first | (simp; done) | omega | (simp; omega)) _))⟩
  case round =>
    obtain ⟨rfl, hown, hbel⟩ := hrel
    have d0 := bel_cell hbel z0 v0_0
    have d1 := bel_cell hbel z0 v0_1
    have d2 := bel_cell hbel z0 v0_2
    go_wp2_with fail
    refine (calls_is (impl_BoardOk _ _ _ _) h1).mono ?_
    rintro e wb ⟨rfl, hbb⟩
    replace hown := own_below hown hbb
    replace hbel := below_step hbel hbb
    clear d0 d1 d2
    have d0 := bel_cell hbel z0 v0_0
    have d1 := bel_cell hbel z0 v0_1
    have d2 := bel_cell hbel z0 v0_2
    go_wp2
    go_ret
    obtain ⟨A, c, rfl⟩ := own_shape hown
    exact ⟨A, c, rfl, own_lower hown (by have := HV.out; omega), by (repeat (first | exact Below.refl _ _ | assumption | refine below_step ?_ (by assumption) | refine below_alloc ?_ _ | refine below_drewN ?_ _ | refine Below.drew ?_ | refine Below.setCell ?_ (by first | (simp; done) | omega | (simp; omega)) _))⟩

theorem impl_HolesOf (W H X : Int) (w : World) :
    Calls Try.prog 83 #[.agg #[.int .i64 W, .int .i64 H, .int .i64 X]] w (RetOwn 3 1 w (holes W H X).length (toInts (holes W H X))) := by
  cases h1 : boardOk W H X
  · have e : holes W H X = [] := by simp [holes, h1]
    rw [e]; exact impl_HolesOf_no W H X w h1
  · have e : holes W H X = bitsTo X.toNat (W * H).toNat := by simp [holes, h1]
    rw [e]; exact impl_HolesOf_yes W H X w h1
end Go.Proofs.Ytianfakgojmnpaa
