/- Golden numbers: their order is that of integers; signs of products. Plain mathematics. -/
import Derived.Test.YtianfakgojmnpaaGold
namespace Go.Proofs.Ytianfakgojmnpaa
open Go.RowKit

theorem sq_nonneg (n : Int) : 0 ≤ n * n := by
  rcases Int.le_total 0 n with h | h
  · exact Int.mul_nonneg h h
  · have := Int.mul_nonneg (show 0 ≤ -n by omega) (show 0 ≤ -n by omega); rwa [Int.neg_mul_neg] at this
/-- a golden number that is not too large, as an integer of the same order -/
def gL (a b : Int) : Int := 14930352 * a + 9227465 * b

theorem sq_le_sq {x y : Int} (h : y ≤ x) (h0 : 0 ≤ y) : y * y ≤ x * x := Int.mul_le_mul h h h0 (by omega)
/-- the squares' bounds, n * q against m * p -/
theorem lin_key {n m N M : Int} (hN : n * n = N) (hM : m * m = M) (h : (m * 16692641) ≤ (n * 7465176)) (h0 : 0 ≤ m * 16692641) : M * 278644263554881 ≤ N * 55728852710976 := by
  have := sq_le_sq h h0
  have e1 : (n * 7465176) * (n * 7465176) = n * n * 55728852710976 := by grind
  have e2 : (m * 16692641) * (m * 16692641) = m * m * 278644263554881 := by grind
  rw [e1, e2, hN, hM] at this
  exact this
theorem lin_key2 {n m N M : Int} (hN : n * n = N) (hM : m * m = M) (h : (n * 7465176) ≤ (m * 16692641)) (h0 : 0 ≤ n * 7465176) : N * 55728852710976 ≤ M * 278644263554881 := by
  have := sq_le_sq h h0
  have e1 : (n * 7465176) * (n * 7465176) = n * n * 55728852710976 := by grind
  have e2 : (m * 16692641) * (m * 16692641) = m * m * 278644263554881 := by grind
  rw [e1, e2, hN, hM] at this
  exact this
theorem sgnI_pos {n : Int} (h : 0 < n) : sgnI n = 1 := by unfold sgnI; rw [if_neg (by omega), if_pos h]
theorem sgnI_neg {n : Int} (h : n < 0) : sgnI n = -1 := by unfold sgnI; rw [if_pos h]
theorem sgnI_zero : sgnI 0 = 0 := rfl
theorem sgn5_lin {n m : Int} (h1 : -7465175 ≤ m) (h2 : m ≤ 7465175) : sgn5 n m = sgnI (n * 7465176 + m * 16692641) := by
  by_cases c1 : 0 ≤ n ∧ 0 ≤ m
  · by_cases c : 0 < n ∨ 0 < m
    · rw [sgnI_pos (by omega)]; unfold sgn5; rw [if_pos c1, if_pos c]
    · obtain ⟨rfl, rfl⟩ : n = 0 ∧ m = 0 := by omega
      rfl
  by_cases c2 : n ≤ 0 ∧ m ≤ 0
  · rw [sgnI_neg (by omega)]; unfold sgn5; rw [if_neg c1, if_pos c2]
  have hne : n * n ≠ 5 * m * m := fun e => by have := no_rootI e; omega
  have hM := sq_bd h1 h2
  have hM0 : 1 ≤ m * m := by
    rcases Int.lt_trichotomy m 0 with h | h | h
    · have := Int.mul_pos (show 0 < -m by omega) (show 0 < -m by omega); rw [Int.neg_mul_neg] at this; exact this
    · omega
    · exact Int.mul_pos h h
  have e5 : 5 * m * m = 5 * (m * m) := Int.mul_assoc _ _ _
  have en : -n * -n = n * n := Int.neg_mul_neg n n
  have em : -m * -m = m * m := Int.neg_mul_neg m m
  have K1 := @lin_key n (-m) _ _ rfl em
  have K2 := @lin_key2 n (-m) _ _ rfl em
  have K3 := @lin_key (-n) m _ _ en rfl
  have K4 := @lin_key2 (-n) m _ _ en rfl
  unfold sgn5
  rw [if_neg c1, if_neg c2]
  rw [e5] at hne ⊢
  clear e5 en em
  generalize n * n = N at *
  generalize m * m = M at *
  by_cases c3 : 0 < n
  · rw [if_pos c3]
    by_cases c4 : 5 * M < N
    · rw [if_pos c4, sgnI_pos]
      have := fun h => K2 h (by omega)
      omega
    · rw [if_neg c4, sgnI_neg]
      have := fun h => K1 h (by omega)
      omega
  · rw [if_neg c3]
    by_cases c4 : N < 5 * M
    · rw [if_pos c4, sgnI_pos]
      have := fun h => K3 h (by omega)
      omega
    · rw [if_neg c4, sgnI_neg]
      have := fun h => K4 h (by omega)
      omega

theorem compareGold_lin {a b c d : Int} (h1 : goldOk a b = true) (h2 : goldOk c d = true) : compareGold a b c d = sgnI (gL a b - gL c d) := by
  have q1 := goldOk_iff.1 h1
  have q2 := goldOk_iff.1 h2
  unfold compareGold
  rw [if_pos ⟨h1, h2⟩, sgn5_lin (by omega) (by omega)]
  unfold gL; congr 1; omega
theorem signOf_lin {a b : Int} (h1 : goldOk a b = true) : signOf a b = sgnI (gL a b) := by
  have q1 := goldOk_iff.1 h1
  unfold signOf
  rw [if_pos h1, sgn5_lin (by omega) (by omega)]
  unfold gL; congr 1; omega

/-! ### products -/
/-- n + m times the root of five is above zero -/
def Pos5 (n m : Int) : Prop := (0 < n ∧ 5 * (m * m) < n * n) ∨ (0 < m ∧ n * n < 5 * (m * m))
theorem sgn5_pos {n m : Int} (h : Pos5 n m) : sgn5 n m = 1 := by
  have e5 : 5 * m * m = 5 * (m * m) := Int.mul_assoc _ _ _
  unfold sgn5
  rcases h with ⟨h1, h2⟩ | ⟨h1, h2⟩
  · by_cases c : 0 ≤ m
    · rw [if_pos ⟨by omega, c⟩, if_pos (Or.inl h1)]
    · rw [if_neg (by omega), if_neg (by omega), if_pos h1, if_pos (by omega)]
  · by_cases c : 0 ≤ n
    · rw [if_pos ⟨c, by omega⟩, if_pos (Or.inr h1)]
    · rw [if_neg (by omega), if_neg (by omega), if_neg (by omega), if_pos (by omega)]
theorem sgn5_neg (n m : Int) : sgn5 (-n) (-m) = - sgn5 n m := by
  have e5 : 5 * m * m = 5 * (m * m) := Int.mul_assoc _ _ _
  have e6 : 5 * -m * -m = 5 * (m * m) := by rw [Int.mul_assoc, Int.neg_mul_neg]
  have e7 : -n * -n = n * n := Int.neg_mul_neg n n
  unfold sgn5
  rw [e5, e6, e7]
  by_cases e : n * n = 5 * (m * m)
  · have := no_rootI (n := n) (m := m) (by omega)
    subst this
    have : m = 0 := by
      rcases Int.lt_trichotomy m 0 with h | h | h
      · have := Int.mul_pos (show 0 < -m by omega) (show 0 < -m by omega); simp only [Int.neg_mul_neg] at this; omega
      · exact h
      · have := Int.mul_pos h h; omega
    subst this; rfl
  · have hn : n = 0 → n * n = 0 := by rintro rfl; rfl
    have hm : m = 0 → m * m = 0 := by rintro rfl; rfl
    have := sq_nonneg n
    have := sq_nonneg m
    clear e5 e6 e7
    generalize n * n = N at *
    generalize m * m = M at *
    repeat' split
    all_goals omega
theorem sgn5_cases (n m : Int) : (Pos5 n m ∧ sgn5 n m = 1) ∨ (Pos5 (-n) (-m) ∧ sgn5 n m = -1) ∨ (n = 0 ∧ m = 0 ∧ sgn5 n m = 0) := by
  have hsn := sq_nonneg n
  have hsm := sq_nonneg m
  by_cases e : n * n = 5 * (m * m)
  · right; right
    have := no_rootI (n := n) (m := m) (by rw [Int.mul_assoc]; exact e)
    subst this
    have : m = 0 := by
      rcases Int.lt_trichotomy m 0 with h | h | h
      · have := Int.mul_pos (show 0 < -m by omega) (show 0 < -m by omega); simp only [Int.neg_mul_neg] at this; omega
      · exact h
      · have := Int.mul_pos h h; omega
    subst this; exact ⟨rfl, rfl, rfl⟩
  · have key : Pos5 n m ∨ Pos5 (-n) (-m) := by
      unfold Pos5
      simp only [Int.neg_mul_neg]
      by_cases h : 5 * (m * m) < n * n
      · have hn : n = 0 → n * n = 0 := by rintro rfl; rfl
        generalize n * n = N at *
        generalize m * m = M at *
        omega
      · have hm : m = 0 → m * m = 0 := by rintro rfl; rfl
        generalize n * n = N at *
        generalize m * m = M at *
        omega
    rcases key with h | h
    · exact .inl ⟨h, sgn5_pos h⟩
    · refine .inr (.inl ⟨h, ?_⟩)
      have := sgn5_pos h
      rw [sgn5_neg] at this; omega
/-- from squares to the numbers -/
theorem sq_lt {x y : Int} (hy : 0 < y) (h : x * x < y * y) : -y < x ∧ x < y := by
  constructor
  · rcases Int.lt_or_le (-y) x with h1 | h1
    · exact h1
    · have := Int.mul_le_mul (show y ≤ -x by omega) (show y ≤ -x by omega) (by omega) (by omega)
      simp only [Int.neg_mul_neg] at this; omega
  · rcases Int.lt_or_le x y with h1 | h1
    · exact h1
    · have := Int.mul_le_mul h1 h1 (by omega) (by omega); omega
theorem norm_mul (a b c d : Int) : (a * c + 5 * (b * d)) * (a * c + 5 * (b * d)) - 5 * ((a * d + b * c) * (a * d + b * c)) = (a * a - 5 * (b * b)) * (c * c - 5 * (d * d)) := by
  grind
theorem pos5_mul {a b c d : Int} (h1 : Pos5 a b) (h2 : Pos5 c d) : Pos5 (a * c + 5 * (b * d)) (a * d + b * c) := by
  have hN := norm_mul a b c d
  have sa := sq_nonneg a
  have sb := sq_nonneg b
  have sc := sq_nonneg c
  have sd := sq_nonneg d
  have m1 : a * c * (a * c) = a * a * (c * c) := by grind
  have m2 : b * d * (b * d) = b * b * (d * d) := by grind
  have m3 : a * d * (a * d) = a * a * (d * d) := by grind
  have m4 : b * c * (b * c) = b * b * (c * c) := by grind
  rcases h1 with ⟨a0, a1⟩ | ⟨b0, b1⟩ <;> rcases h2 with ⟨c0, c1⟩ | ⟨d0, d1⟩
  · left
    have hp := Int.mul_pos (show 0 < a * a - 5 * (b * b) by omega) (show 0 < c * c - 5 * (d * d) by omega)
    have h3 : 5 * (b * d) * (5 * (b * d)) < a * c * (a * c) := by
      have x1 : (5 * (b * b)) * (5 * (d * d)) ≤ (5 * (b * b)) * (c * c) := Int.mul_le_mul_of_nonneg_left (by omega) (by omega)
      have x2 : (5 * (b * b)) * (c * c) < (a * a) * (c * c) := Int.mul_lt_mul_of_pos_right a1 (by have := Int.mul_pos c0 c0; omega)
      have x3 : 5 * (b * d) * (5 * (b * d)) = (5 * (b * b)) * (5 * (d * d)) := by grind
      omega
    have h4 := sq_lt (Int.mul_pos a0 c0) h3
    exact ⟨by omega, by omega⟩
  · right
    have hp := Int.mul_pos (show 0 < a * a - 5 * (b * b) by omega) (show 0 < 5 * (d * d) - c * c by omega)
    have hp2 : (a * a - 5 * (b * b)) * (5 * (d * d) - c * c) = - ((a * a - 5 * (b * b)) * (c * c - 5 * (d * d))) := by grind
    have h3 : b * c * (b * c) < a * d * (a * d) := by
      rw [m3, m4]
      have x1 : (b * b) * (c * c) ≤ (b * b) * (5 * (d * d)) := Int.mul_le_mul_of_nonneg_left (by omega) (by omega)
      have x2 : (5 * (b * b)) * (d * d) < (a * a) * (d * d) := Int.mul_lt_mul_of_pos_right a1 (by have := Int.mul_pos d0 d0; omega)
      have x3 : (b * b) * (5 * (d * d)) = (5 * (b * b)) * (d * d) := by grind
      omega
    have h4 := sq_lt (Int.mul_pos a0 d0) h3
    exact ⟨by omega, by omega⟩
  · right
    have hp := Int.mul_pos (show 0 < 5 * (b * b) - a * a by omega) (show 0 < c * c - 5 * (d * d) by omega)
    have hp2 : (5 * (b * b) - a * a) * (c * c - 5 * (d * d)) = - ((a * a - 5 * (b * b)) * (c * c - 5 * (d * d))) := by grind
    have h3 : a * d * (a * d) < b * c * (b * c) := by
      rw [m3, m4]
      have x1 : (a * a) * (d * d) ≤ (5 * (b * b)) * (d * d) := Int.mul_le_mul_of_nonneg_right (by omega) (by omega)
      have x2 : (b * b) * (5 * (d * d)) < (b * b) * (c * c) := Int.mul_lt_mul_of_pos_left c1 (by have := Int.mul_pos b0 b0; omega)
      have x3 : (b * b) * (5 * (d * d)) = (5 * (b * b)) * (d * d) := by grind
      omega
    have h4 := sq_lt (Int.mul_pos b0 c0) h3
    exact ⟨by omega, by omega⟩
  · left
    have hp := Int.mul_pos (show 0 < 5 * (b * b) - a * a by omega) (show 0 < 5 * (d * d) - c * c by omega)
    have hp2 : (5 * (b * b) - a * a) * (5 * (d * d) - c * c) = (a * a - 5 * (b * b)) * (c * c - 5 * (d * d)) := by grind
    have h3 : a * c * (a * c) < 5 * (b * d) * (5 * (b * d)) := by
      have x1 : (a * a) * (c * c) ≤ (5 * (b * b)) * (c * c) := Int.mul_le_mul_of_nonneg_right (by omega) (by omega)
      have x2 : (5 * (b * b)) * (c * c) < (5 * (b * b)) * (5 * (d * d)) := Int.mul_lt_mul_of_pos_left d1 (by have := Int.mul_pos b0 b0; omega)
      have x3 : 5 * (b * d) * (5 * (b * d)) = (5 * (b * b)) * (5 * (d * d)) := by grind
      omega
    have h4 := sq_lt (show 0 < 5 * (b * d) by have := Int.mul_pos b0 d0; omega) h3
    exact ⟨by omega, by omega⟩
theorem pos5_half {n m : Int} (h : Pos5 (2 * n) (2 * m)) : Pos5 n m := by
  have e1 : 2 * n * (2 * n) = 4 * (n * n) := by grind
  have e2 : 2 * m * (2 * m) = 4 * (m * m) := by grind
  unfold Pos5 at h ⊢
  omega
theorem sgn5_mul (a b c d n m : Int) (hn : 2 * n = a * c + 5 * (b * d)) (hm : 2 * m = a * d + b * c) : sgn5 n m = sgn5 a b * sgn5 c d := by
  rcases sgn5_cases a b with ⟨h1, e1⟩ | ⟨h1, e1⟩ | ⟨rfl, rfl, e1⟩
  · rcases sgn5_cases c d with ⟨h2, e2⟩ | ⟨h2, e2⟩ | ⟨rfl, rfl, e2⟩
    · rw [e1, e2]
      have := pos5_mul h1 h2
      rw [← hn, ← hm] at this
      exact sgn5_pos (pos5_half this)
    · rw [e1, e2]
      have := pos5_mul h1 h2
      rw [show a * -c + 5 * (b * -d) = 2 * -n by grind, show a * -d + b * -c = 2 * -m by grind] at this
      have := sgn5_pos (pos5_half this)
      rw [sgn5_neg] at this; omega
    · simp at hn hm
      rw [show n = 0 by omega, show m = 0 by omega, e2]; simp [sgn5]
  · rcases sgn5_cases c d with ⟨h2, e2⟩ | ⟨h2, e2⟩ | ⟨rfl, rfl, e2⟩
    · rw [e1, e2]
      have := pos5_mul h1 h2
      rw [show -a * c + 5 * (-b * d) = 2 * -n by grind, show -a * d + -b * c = 2 * -m by grind] at this
      have := sgn5_pos (pos5_half this)
      rw [sgn5_neg] at this; omega
    · rw [e1, e2]
      have := pos5_mul h1 h2
      simp only [Int.neg_mul_neg] at this
      rw [← hn, ← hm] at this
      exact sgn5_pos (pos5_half this)
    · simp at hn hm
      rw [show n = 0 by omega, show m = 0 by omega, e2]; simp [sgn5]
  · simp at hn hm
    rw [show n = 0 by omega, show m = 0 by omega, e1]; simp [sgn5]
end Go.Proofs.Ytianfakgojmnpaa
