/- Golden numbers: mathematics and contracts. -/
import Derived.Test.YtianfakgojmnpaaBase
namespace Go.Proofs.Ytianfakgojmnpaa
open Go.RowKit

def goldOk (a b : Int) : Bool := inB a (-1000000) 1000000 && inB b (-1000000) 1000000

theorem goldOk_iff {a b : Int} : goldOk a b = true ↔ (-1000000 ≤ a ∧ a ≤ 1000000) ∧ (-1000000 ≤ b ∧ b ≤ 1000000) := by
  simp [goldOk, inB_iff]

/-- the powers of the golden number, as they are reckoned -/
def goldPow : Nat → Int × Int
  | 0 => (1, 0)
  | n + 1 => ((goldPow n).2, (goldPow n).1 - (goldPow n).2)

def powA (n : Int) : Int := if inB n 0 20 = true then (goldPow n.toNat).1 else 0
def powB (n : Int) : Int := if inB n 0 20 = true then (goldPow n.toNat).2 else 0

theorem goldPow_small : ∀ n, n ≤ 21 → -10946 ≤ (goldPow n).1 ∧ (goldPow n).1 ≤ 10946 ∧ -10946 ≤ (goldPow n).2 ∧ (goldPow n).2 ≤ 10946 := by
  intro n h
  have : n ∈ List.range 22 := by simp; omega
  revert this n
  decide

theorem pow_small (n : Int) : -10946 ≤ powA n ∧ powA n ≤ 10946 ∧ -10946 ≤ powB n ∧ powB n ≤ 10946 := by
  unfold powA powB
  split
  · rename_i h
    have := (inB_iff.1 h)
    exact goldPow_small _ (by omega)
  · decide

/-- the sign of n + m times the root of five -/
def sgn5 (n m : Int) : Int :=
  if 0 ≤ n ∧ 0 ≤ m then (if 0 < n ∨ 0 < m then 1 else 0)
  else if n ≤ 0 ∧ m ≤ 0 then -1
  else if 0 < n then (if 5 * m * m < n * n then 1 else -1)
  else (if n * n < 5 * m * m then 1 else -1)

def sgnI (n : Int) : Int := if n < 0 then -1 else if 0 < n then 1 else 0

/-- five is no square -/
theorem no_root (n : Nat) : ∀ m : Nat, n * n = 5 * (m * m) → n = 0 := by
  induction n using Nat.strongRecOn with
  | _ n ih =>
    intro m h
    by_cases hn : n = 0
    · exact hn
    · have h5 : n % 5 = 0 := by
        have e : (n * n) % 5 = 0 := by rw [h]; omega
        rw [Nat.mul_mod] at e
        have : n % 5 = 0 ∨ n % 5 = 1 ∨ n % 5 = 2 ∨ n % 5 = 3 ∨ n % 5 = 4 := by omega
        rcases this with h | h | h | h | h <;> rw [h] at e <;> simp_all
      obtain ⟨k, rfl⟩ : ∃ k, n = 5 * k := ⟨n / 5, by omega⟩
      have h1 : m * m = 5 * (k * k) := by
        have : 5 * k * (5 * k) = 25 * (k * k) := by
          rw [Nat.mul_mul_mul_comm]
        omega
      by_cases hlt : m < 5 * k
      · have := ih m hlt k h1
        subst this
        have : k * k = 0 := by omega
        rcases Nat.eq_zero_or_pos k with hk | hk
        · omega
        · have := Nat.mul_pos hk hk; omega
      · exfalso
        have h2 : 5 * k * (5 * k) ≤ m * m := Nat.mul_le_mul (by omega) (by omega)
        have h3 : 0 < 5 * k * (5 * k) := Nat.mul_pos (by omega) (by omega)
        omega

theorem no_rootI {n m : Int} (h : n * n = 5 * m * m) : n = 0 := by
  have e : n.natAbs * n.natAbs = 5 * (m.natAbs * m.natAbs) := by
    have h1 : ((n.natAbs * n.natAbs : Nat) : Int) = n * n := Int.natAbs_mul_self
    have h2 : ((m.natAbs * m.natAbs : Nat) : Int) = m * m := Int.natAbs_mul_self
    have : 5 * m * m = 5 * (m * m) := Int.mul_assoc _ _ _
    omega
  have := no_root _ _ e
  omega

/-- the other way to reckon it -/
theorem sgn5_other (n m : Int) :
    sgn5 n m = if (0 ≤ n ∧ 0 ≤ m) ∨ (n ≤ 0 ∧ m ≤ 0) then sgnI (sgnI n + sgnI m) else if 0 < n then sgnI (n * n - 5 * m * m) else sgnI (5 * m * m - n * n) := by
  unfold sgn5
  by_cases h1 : 0 ≤ n ∧ 0 ≤ m
  · rw [if_pos h1, if_pos (Or.inl h1)]
    unfold sgnI
    repeat' split
    all_goals omega
  · by_cases h2 : n ≤ 0 ∧ m ≤ 0
    · rw [if_neg h1, if_pos h2, if_pos (Or.inr h2)]
      unfold sgnI
      repeat' split
      all_goals omega
    · rw [if_neg h1, if_neg h2, if_neg (show ¬((0 ≤ n ∧ 0 ≤ m) ∨ (n ≤ 0 ∧ m ≤ 0)) from fun h => h.elim h1 h2)]
      by_cases h3 : 0 < n
      · rw [if_pos h3, if_pos h3]
        have hne : n * n ≠ 5 * m * m := fun e => by have := no_rootI e; omega
        unfold sgnI
        repeat' split
        all_goals omega
      · rw [if_neg h3, if_neg h3]
        have hne : n * n ≠ 5 * m * m := fun e => by have := no_rootI e; omega
        unfold sgnI
        repeat' split
        all_goals omega

theorem sq_bd {n B : Int} (h1 : -B ≤ n) (h2 : n ≤ B) : 0 ≤ n * n ∧ n * n ≤ B * B := by
  have hB : 0 ≤ B := by omega
  have e1 : n * n = ((n.natAbs * n.natAbs : Nat) : Int) := Int.natAbs_mul_self.symm
  have h3 : n.natAbs ≤ B.toNat := by omega
  have h4 : n.natAbs * n.natAbs ≤ B.toNat * B.toNat := Nat.mul_le_mul h3 h3
  have e2 : B * B = ((B.toNat * B.toNat : Nat) : Int) := by
    rw [Int.natCast_mul, Int.toNat_of_nonneg hB]
  omega

theorem prod_bd {x y B : Int} (h1 : -B ≤ x) (h2 : x ≤ B) (h3 : -B ≤ y) (h4 : y ≤ B) : -(B * B) ≤ x * y ∧ x * y ≤ B * B := by
  have hB : 0 ≤ B := by omega
  have e : (x * y).natAbs ≤ B.toNat * B.toNat := by
    rw [Int.natAbs_mul]; exact Nat.mul_le_mul (by omega) (by omega)
  have e2 : B * B = ((B.toNat * B.toNat : Nat) : Int) := by
    rw [Int.natCast_mul, Int.toNat_of_nonneg hB]
  omega

def signOf (a b : Int) : Int := if goldOk a b = true then sgn5 (2 * a - b) b else -2
def compareGold (a b c d : Int) : Int := if goldOk a b = true ∧ goldOk c d = true then sgn5 (2 * (a - c) - (b - d)) (b - d) else -2

end Go.Proofs.Ytianfakgojmnpaa
