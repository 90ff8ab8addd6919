/- Golden numbers: what FnGolden's arithmetic comes to. Plain mathematics. -/
import Derived.Test.YtmdpacgoijnonaaGoldD
import Derived.Test.YtmdpacgoijnonaaGoldM
namespace Go.Proofs.Ytmdpacgoijnonaa
theorem sgn5_bd' (n m : Int) : -1 ≤ sgn5 n m ∧ sgn5 n m ≤ 1 := by
  rcases sgn5_cases n m with ⟨_, h⟩ | ⟨_, h⟩ | ⟨_, _, h⟩ <;> omega
theorem mul_sym (a b c d : Int) : mulA a b c d = mulA c d a b ∧ mulB a b c d = mulB c d a b ∧ mulOk a b c d = mulOk c d a b := by
  have e1 : a * c + b * d = c * a + d * b := by rw [Int.mul_comm a c, Int.mul_comm b d]
  have e2 : a * d + b * c - b * d = c * b + d * a - d * b := by rw [Int.mul_comm a d, Int.mul_comm b c, Int.mul_comm b d]; omega
  simp only [mulA, mulB, mulOk, e1, e2, and_comm, Bool.and_comm]
  exact ⟨trivial, trivial, trivial⟩
theorem sgn5_zero' {n m : Int} : sgn5 n m = 0 ↔ n = 0 ∧ m = 0 := by
  constructor
  · intro h
    rcases sgn5_cases n m with ⟨_, h2⟩ | ⟨_, h2⟩ | ⟨h1, h2, _⟩
    · omega
    · omega
    · exact ⟨h1, h2⟩
  · rintro ⟨rfl, rfl⟩; rfl
theorem mul_sign {a b c d : Int} (h : mulOk a b c d = true) : signOf (mulA a b c d) (mulB a b c d) = signOf a b * signOf c d := by
  have hh := h
  simp only [mulOk, Bool.and_eq_true] at hh
  obtain ⟨⟨h1, h2⟩, h3⟩ := hh
  simp only [mulA, mulB, if_pos h, signOf, if_pos h1, if_pos h2, if_pos h3]
  exact sgn5_mul (2 * a - b) b (2 * c - d) d _ _ (by grind) (by grind)
theorem sgn_mul_bd {s t : Int} (h1 : -1 ≤ s ∧ s ≤ 1) (h2 : -1 ≤ t ∧ t ≤ 1) : -4 ≤ s * t ∧ s * t ≤ 4 := by
  have : s = -1 ∨ s = 0 ∨ s = 1 := by omega
  rcases this with rfl | rfl | rfl <;> omega
theorem signOf_bd {a b : Int} (h : goldOk a b = true) : -1 ≤ signOf a b ∧ signOf a b ≤ 1 := by
  unfold signOf; rw [if_pos h]; exact sgn5_bd' _ _
theorem comp_neg {a b c d : Int} (h1 : goldOk a b = true) (h2 : goldOk c d = true) : compareGold c d a b = - compareGold a b c d := by
  unfold compareGold
  rw [if_pos ⟨h2, h1⟩, if_pos ⟨h1, h2⟩, ← sgn5_neg]
  congr 1 <;> omega
theorem comp_zero {a b c d : Int} (h1 : goldOk a b = true) (h2 : goldOk c d = true) : (decide (a = c) && decide (b = d)) = (compareGold a b c d == 0) := by
  unfold compareGold
  rw [if_pos ⟨h1, h2⟩, Bool.eq_iff_iff]
  simp only [Bool.and_eq_true, decide_eq_true_eq, beq_iff_eq, sgn5_zero']
  omega
theorem distr {a b c d x y : Int} (h1 : mulOk (a + c) (b + d) x y = true) (h2 : mulOk a b x y = true) (h3 : mulOk c d x y = true) (h4 : addK (mulA a b x y) (mulB a b x y) (mulA c d x y) (mulB c d x y) = true) :
    addA (mulA a b x y) (mulB a b x y) (mulA c d x y) (mulB c d x y) = mulA (a + c) (b + d) x y ∧ addB (mulA a b x y) (mulB a b x y) (mulA c d x y) (mulB c d x y) = mulB (a + c) (b + d) x y := by
  simp only [addK, Bool.and_eq_true] at h4
  obtain ⟨⟨k1, k2⟩, k3⟩ := h4
  have hk := And.intro k1 (And.intro k2 k3)
  unfold addA addB
  rw [if_pos hk, if_pos hk]
  simp only [mulA, mulB, if_pos h1, if_pos h2, if_pos h3]
  constructor <;> grind
theorem golden_math {a b c d x y : Int} (gk1 : goldOk a b = true) (gk2 : goldOk c d = true) (gk3 : goldOk (a + c) (b + d) = true) :
    mulA c d a b = mulA a b c d ∧ mulB c d a b = mulB a b c d ∧ mulOk c d a b = mulOk a b c d ∧ addA a b c d = a + c ∧ addB a b c d = b + d ∧ addK a b c d = true ∧
    (mulOk a b c d = true → signOf (mulA a b c d) (mulB a b c d) = signOf a b * signOf c d) ∧ (-4 ≤ signOf a b * signOf c d ∧ signOf a b * signOf c d ≤ 4) ∧
    (mulOk (a + c) (b + d) x y = true → mulOk a b x y = true → mulOk c d x y = true → addK (mulA a b x y) (mulB a b x y) (mulA c d x y) (mulB c d x y) = true →
      addA (mulA a b x y) (mulB a b x y) (mulA c d x y) (mulB c d x y) = mulA (a + c) (b + d) x y ∧ addB (mulA a b x y) (mulB a b x y) (mulA c d x y) (mulB c d x y) = mulB (a + c) (b + d) x y) ∧
    compareGold c d a b = - compareGold a b c d ∧ (-1 ≤ compareGold a b c d ∧ compareGold a b c d ≤ 1) ∧ (decide (a = c) && decide (b = d)) = (compareGold a b c d == 0) := by
  obtain ⟨m1, m2, m3⟩ := mul_sym a b c d
  refine ⟨m1.symm, m2.symm, m3.symm, by simp [addA, gk1, gk2, gk3], by simp [addB, gk1, gk2, gk3], by simp [addK, gk1, gk2, gk3], mul_sign, sgn_mul_bd (signOf_bd gk1) (signOf_bd gk2), distr, comp_neg gk1 gk2, ?_, comp_zero gk1 gk2⟩
  unfold compareGold; rw [if_pos ⟨gk1, gk2⟩]; exact sgn5_bd' _ _
end Go.Proofs.Ytmdpacgoijnonaa
