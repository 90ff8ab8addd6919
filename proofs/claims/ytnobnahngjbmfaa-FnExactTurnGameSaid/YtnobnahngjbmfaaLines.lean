/- Lines: steps. -/
import Derived.Test.YtnobnahngjbmfaaHoles
namespace Go.Proofs.Ytnobnahngjbmfaa
open Go.RowKit

def dxOf (way : Int) : Int := if way = 0 then 1 else if way = 2 then -1 else 0
def dyOf (way : Int) : Int := if way = 1 then 1 else if way = 3 then -1 else 0
def stepTo (W H X x y : Int) : Int := if inB x 0 (W - 1) = true ∧ inB y 0 (H - 1) = true ∧ bitI X (y * W + x) = true then y * W + x else -1
def stepIn (W H X k way : Int) : Int := stepTo W H X (k % W + dxOf way) (k / W + dyOf way)
def stepAt (W H X k way : Int) : Int := if hasHole W H X k = true then stepIn W H X k way else -1

theorem row_bd {W H x y : Int} (w1 : 1 ≤ W) (w2 : W ≤ 7) (h2 : H ≤ 7) (hx : inB x 0 (W - 1) = true) (hy : inB y 0 (H - 1) = true) : 0 ≤ y * W ∧ y * W ≤ 42 ∧ 0 ≤ y * W + x ∧ y * W + x ≤ W * H - 1 := by
  obtain ⟨x1, x2⟩ := inB_iff.1 hx
  obtain ⟨y1, y2⟩ := inB_iff.1 hy
  have e1 : 0 ≤ y * W := Int.mul_nonneg y1 (by omega)
  have e2 : y * W ≤ (H - 1) * W := Int.mul_le_mul_of_nonneg_right y2 (by omega)
  have e3 : (H - 1) * W = W * H - W := by rw [Int.sub_mul, Int.mul_comm H W]; omega
  have e4 : (H - 1) * W ≤ 6 * 7 := by
    have := Int.mul_le_mul (show H - 1 ≤ 6 by omega) w2 (by omega) (by omega)
    exact this
  omega

end Go.Proofs.Ytnobnahngjbmfaa
