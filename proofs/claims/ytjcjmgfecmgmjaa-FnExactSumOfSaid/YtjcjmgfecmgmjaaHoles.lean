/- Holes: contracts. -/
import Derived.Test.YtjcjmgfecmgmjaaWeight
namespace Go.Proofs.Ytjcjmgfecmgmjaa
open Go.RowKit

/-- the holes of a board -/
def holes (W H X : Int) : List Nat := if boardOk W H X = true then bitsTo X.toNat (W * H).toNat else []
theorem holes_small (W H X : Int) : (holes W H X).length ≤ 49 := by
  unfold holes; split
  · rename_i h; have := (boardOk_facts h).m2; have := bitsTo_le X.toNat (W * H).toNat; omega
  · simp

theorem bits_yes {w : World} {lo : Nat} {v : Value} {m k : Nat} (h : m.testBit k = true) (ho : w.ownsRow lo 3 1 v ((bitsTo m k).length + 1) (ints (toInts (bitsTo m k) ++ [(k : Int)]))) :
    w.ownsRow lo 3 1 v (bitsTo m (k + 1)).length (ints (toInts (bitsTo m (k + 1)))) := by
  rw [bitsTo_yes h, toInts_append, List.length_append]; exact ho
theorem bits_no {w : World} {lo : Nat} {v : Value} {m k : Nat} (h : m.testBit k = false) (ho : w.ownsRow lo 3 1 v (bitsTo m k).length (ints (toInts (bitsTo m k)))) :
    w.ownsRow lo 3 1 v (bitsTo m (k + 1)).length (ints (toInts (bitsTo m (k + 1)))) := by
  rw [bitsTo_no h]; exact ho
theorem bitI_nat (m : Int) (k : Nat) : bitI m (k : Int) = m.toNat.testBit k := by simp [bitI]

theorem made0 {V : World} {g : Nat} (e : TypeId) (h : g = V.heap.size) : (V.alloc (.cells #[] e)).ownsRow V.heap.size e 1 (.slice (some ⟨g, 0, none⟩) 0 0) 0 [] := by
  subst h; exact World.ownsRow_made _ _ _ (Nat.le_refl _) (by simp [maxLen]) rfl
theorem made0s {V : World} {g s : Nat} (e : TypeId) (h : g = V.heap.size) : (V.alloc (.cells #[] e)).ownsRow V.heap.size e s (.slice (some ⟨g, 0, none⟩) 0 0) 0 [] := by
  subst h; exact World.ownsRow_made _ _ _ (Nat.le_refl _) (by simp [maxLen]) (by simp)

set_option maxHeartbeats 400000 in
theorem impl_hasBit (p k : Int) (w : World) (p0 : 0 ≤ p) (p1 : p ≤ 9223372036854775807) (k0 : 0 ≤ k) (k1 : k ≤ 63) :
    Calls Try.prog 73 #[.int .i64 p, .int .i64 k] w fun e w' => e = .returned (.bool (bitI p k)) ∧ w = w' := by
  go_enter Try.func73, Try.ntmps73
  go_wp2
  go_ret
  exact ⟨ret_bool (beq_shr_one p0 (by omega)), rfl⟩
set_option maxHeartbeats 1000000 in
theorem spec_l02List (n : Int) (w : World) (n0 : 0 ≤ n) (n1 : n ≤ 9223372036854775807) :
    Calls Try.prog 71 #[.int .i64 n] w (RetOwn 3 1 w (bitsTo n.toNat 49).length (toInts (bitsTo n.toNat 49))) := by
  go_enter Try.func71, Try.ntmps71
  go_wp2
  go_loopw [3, 4] (fun v i wr => ∃ k : Nat, k ≤ 49 ∧ i = .int .i64 k ∧ wr.ownsRow w.heap.size 3 1 v (bitsTo n.toNat k).length (ints (toInts (bitsTo n.toNat k))) ∧ Below w.heap.size w wr) (fun _ i _ => 49 - (intOf i).toNat)
  case atStart => exact ⟨0, Nat.zero_le _, rfl, made0 3 rfl, by (repeat (first | exact Below.refl _ _ | assumption | refine below_step ?_ (by assumption) | refine below_alloc ?_ _ | refine below_drewN ?_ _ | refine Below.drew ?_ | refine Below.setCell ?_ (by first | (simp; done) | omega | (simp; omega)) _))⟩
  case round =>
    obtain ⟨k, hk, rfl, hown, hbel⟩ := hrel
    have hl := bitsTo_le n.toNat k
    by_cases hlt : k < 49
    · cases hbit : bitI n (k : Int)
      · have ht : (bits .and .i64 (n / 2 ^ k) 1 == 1) = false := by have := beq_shr_one (k := (k : Int)) n0 (by omega); simpa [hbit] using this
        have HB := Lib.hid hbit
        clear hbit
        go_wp2
        go_roundw
        case rel => exact ⟨k + 1, by omega, by go_num, bits_no (by rw [← bitI_nat]; exact HB.out) hown, hbel⟩
        case measure => simp [intOf]; omega
      · have ht : (bits .and .i64 (n / 2 ^ k) 1 == 1) = true := by have := beq_shr_one (k := (k : Int)) n0 (by omega); simpa [hbit] using this
        have HB := Lib.hid hbit
        clear hbit
        go_wp2_with (at_builtin; refine append_int Try.underlying41 _ _ rfl _ _ rfl _ _ _ (k : Int) (by rfl) hown (by rfl) (by omega) hbel ?_; intro v' w' hown' hbel')
        go_roundw
        case rel => exact ⟨k + 1, by omega, by go_num, bits_yes (by rw [← bitI_nat]; exact HB.out) hown', hbel'⟩
        case measure => simp [intOf]; omega
    · obtain rfl : k = 49 := by omega
      go_wp2
      go_ret
      obtain ⟨A, c, rfl⟩ := own_shape hown
      exact ⟨A, c, rfl, hown, hbel⟩
end Go.Proofs.Ytjcjmgfecmgmjaa
