/- Holes: contracts. -/
import Derived.Test.YtnobnahngjbmfaaWeight
namespace Go.Proofs.Ytnobnahngjbmfaa
open Go.RowKit

/-- the holes of a board -/
def holes (W H X : Int) : List Nat := if boardOk W H X = true then bitsTo X.toNat (W * H).toNat else []
theorem holes_small (W H X : Int) : (holes W H X).length ≤ 49 := by
  unfold holes; split
  · rename_i h; have := (boardOk_facts h).m2; have := bitsTo_le X.toNat (W * H).toNat; omega
  · simp

theorem bits_yes {w : World} {lo : Nat} {v : Value} {m k : Nat} (h : m.testBit k = true) (ho : w.ownsRow lo 3 1 v ((bitsTo m k).length + 1) (ints (toInts (bitsTo m k) ++ [(k : Int)]))) :
    w.ownsRow lo 3 1 v (bitsTo m (k + 1)).length (ints (toInts (bitsTo m (k + 1)))) := by
  rw [bitsTo_yes h, toInts_append, List.length_append]; exact ho
theorem bits_no {w : World} {lo : Nat} {v : Value} {m k : Nat} (h : m.testBit k = false) (ho : w.ownsRow lo 3 1 v (bitsTo m k).length (ints (toInts (bitsTo m k)))) :
    w.ownsRow lo 3 1 v (bitsTo m (k + 1)).length (ints (toInts (bitsTo m (k + 1)))) := by
  rw [bitsTo_no h]; exact ho
theorem bitI_nat (m : Int) (k : Nat) : bitI m (k : Int) = m.toNat.testBit k := by simp [bitI]

theorem made0 {V : World} {g : Nat} (e : TypeId) (h : g = V.heap.size) : (V.alloc (.cells #[] e)).ownsRow V.heap.size e 1 (.slice (some ⟨g, 0, none⟩) 0 0) 0 [] := by
  subst h; exact World.ownsRow_made _ _ _ (Nat.le_refl _) (by simp [maxLen]) rfl
theorem made0s {V : World} {g s : Nat} (e : TypeId) (h : g = V.heap.size) : (V.alloc (.cells #[] e)).ownsRow V.heap.size e s (.slice (some ⟨g, 0, none⟩) 0 0) 0 [] := by
  subst h; exact World.ownsRow_made _ _ _ (Nat.le_refl _) (by simp [maxLen]) (by simp)

end Go.Proofs.Ytnobnahngjbmfaa
