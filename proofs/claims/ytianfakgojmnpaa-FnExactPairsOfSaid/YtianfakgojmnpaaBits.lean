/- The model's operations on bits of int, over natural numbers. -/
import Derived.Test.YtianfakgojmnpaaMath
import Derived.WalkKit
import Derived.WalkLawsBesides
namespace Go.Proofs.Ytianfakgojmnpaa
open Go Go.RowKit

theorem ofInt64 (a : Nat) (h : a < 9223372036854775808) : (BitVec.ofInt 64 (a : Int)).toNat = a := by
  rw [BitVec.ofInt_natCast, BitVec.toNat_ofNat]; omega

theorem wrapNat (n : Nat) (h : n < 9223372036854775808) : IntKind.i64.wrap (n : Int) = n := by
  rw [IntKind.wrap_i64]; omega

theorem lt63 {a : Nat} (h : a < 9223372036854775808) : a < 2 ^ 63 := h

theorem bits_and {a b : Int} (a0 : 0 ≤ a) (a1 : a < 9223372036854775808) (b0 : 0 ≤ b) (b1 : b < 9223372036854775808) :
    bits .and .i64 a b = ((a.toNat &&& b.toNat : Nat) : Int) := by
  obtain ⟨m, rfl⟩ := Int.eq_ofNat_of_zero_le a0
  obtain ⟨n, rfl⟩ := Int.eq_ofNat_of_zero_le b0
  have hm : m < 9223372036854775808 := by omega
  have hn : n < 9223372036854775808 := by omega
  show IntKind.i64.wrap (((BitVec.ofInt 64 (m : Int)) &&& (BitVec.ofInt 64 (n : Int))).toNat : Int) = _
  rw [BitVec.toNat_and, ofInt64 m hm, ofInt64 n hn, Int.toNat_natCast, Int.toNat_natCast]
  exact wrapNat _ (Nat.lt_of_le_of_lt Nat.and_le_left hm)

theorem bits_or {a b : Int} (a0 : 0 ≤ a) (a1 : a < 9223372036854775808) (b0 : 0 ≤ b) (b1 : b < 9223372036854775808) :
    bits .or .i64 a b = ((a.toNat ||| b.toNat : Nat) : Int) := by
  obtain ⟨m, rfl⟩ := Int.eq_ofNat_of_zero_le a0
  obtain ⟨n, rfl⟩ := Int.eq_ofNat_of_zero_le b0
  have hm : m < 9223372036854775808 := by omega
  have hn : n < 9223372036854775808 := by omega
  show IntKind.i64.wrap (((BitVec.ofInt 64 (m : Int)) ||| (BitVec.ofInt 64 (n : Int))).toNat : Int) = _
  rw [BitVec.toNat_or, ofInt64 m hm, ofInt64 n hn, Int.toNat_natCast, Int.toNat_natCast]
  exact wrapNat _ (Nat.or_lt_two_pow (lt63 hm) (lt63 hn))

theorem bits_xor {a b : Int} (a0 : 0 ≤ a) (a1 : a < 9223372036854775808) (b0 : 0 ≤ b) (b1 : b < 9223372036854775808) :
    bits .xor .i64 a b = ((a.toNat ^^^ b.toNat : Nat) : Int) := by
  obtain ⟨m, rfl⟩ := Int.eq_ofNat_of_zero_le a0
  obtain ⟨n, rfl⟩ := Int.eq_ofNat_of_zero_le b0
  have hm : m < 9223372036854775808 := by omega
  have hn : n < 9223372036854775808 := by omega
  show IntKind.i64.wrap (((BitVec.ofInt 64 (m : Int)) ^^^ (BitVec.ofInt 64 (n : Int))).toNat : Int) = _
  rw [BitVec.toNat_xor, ofInt64 m hm, ofInt64 n hn, Int.toNat_natCast, Int.toNat_natCast]
  exact wrapNat _ (Nat.xor_lt_two_pow (lt63 hm) (lt63 hn))

/-- what Go's 'a &^ b' comes to -/
theorem bits_andNot {a b : Int} (a0 : 0 ≤ a) (a1 : a < 9223372036854775808) (b0 : 0 ≤ b) (b1 : b < 9223372036854775808) :
    bits .andNot .i64 a b = ((a.toNat ^^^ (a.toNat &&& b.toNat) : Nat) : Int) := by
  obtain ⟨m, rfl⟩ := Int.eq_ofNat_of_zero_le a0
  obtain ⟨n, rfl⟩ := Int.eq_ofNat_of_zero_le b0
  have hm : m < 9223372036854775808 := by omega
  have hn : n < 9223372036854775808 := by omega
  show IntKind.i64.wrap (((BitVec.ofInt 64 (m : Int)) &&& ~~~ (BitVec.ofInt 64 (n : Int))).toNat : Int) = _
  have e : ((BitVec.ofInt 64 (m : Int)) &&& ~~~ (BitVec.ofInt 64 (n : Int))).toNat = m ^^^ (m &&& n) := by
    apply Nat.eq_of_testBit_eq; intro i
    rw [BitVec.testBit_toNat, BitVec.getLsbD_and, BitVec.getLsbD_not, ← BitVec.testBit_toNat, ← BitVec.testBit_toNat, ofInt64 m hm, ofInt64 n hn]
    simp only [Nat.testBit_xor, Nat.testBit_and]
    by_cases hi : i < 64
    · cases m.testBit i <;> cases n.testBit i <;> simp [hi]
    · have : m.testBit i = false := Nat.testBit_lt_two_pow (Nat.lt_of_lt_of_le (lt63 hm) (Nat.pow_le_pow_right (by decide) (by omega)))
      simp [this]
  rw [e, Int.toNat_natCast, Int.toNat_natCast]
  exact wrapNat _ (Nat.xor_lt_two_pow (lt63 hm) (Nat.lt_of_le_of_lt Nat.and_le_left (lt63 hm)))

theorem toNat_ediv_pow {p k : Int} (p0 : 0 ≤ p) : (p / 2 ^ k.toNat).toNat = p.toNat / 2 ^ k.toNat := by
  obtain ⟨m, rfl⟩ := Int.eq_ofNat_of_zero_le p0
  have : ((m : Int) / 2 ^ k.toNat) = ((m / 2 ^ k.toNat : Nat) : Int) := by simp
  rw [this, Int.toNat_natCast, Int.toNat_natCast]

/-- 'p >> k & 1' -/
theorem bits_shr_one {p k : Int} (p0 : 0 ≤ p) (p1 : p < 9223372036854775808) :
    bits .and .i64 (p / 2 ^ k.toNat) 1 = if bitI p k = true then 1 else 0 := by
  have h0 : 0 ≤ p / 2 ^ k.toNat := Int.ediv_nonneg p0 (Int.le_of_lt (Int.pow_pos (by decide)))
  have h1 : p / 2 ^ k.toNat ≤ p := Int.ediv_le_self _ p0
  rw [bits_and h0 (by omega) (by decide) (by decide), toNat_ediv_pow p0]
  have : (1 : Int).toNat = 1 := rfl
  rw [this, Nat.and_one_is_mod]
  have e : bitI p k = decide (p.toNat / 2 ^ k.toNat % 2 = 1) := by
    unfold bitI; rw [Nat.testBit_eq_decide_div_mod_eq]
  rw [e]
  have : p.toNat / 2 ^ k.toNat % 2 = 0 ∨ p.toNat / 2 ^ k.toNat % 2 = 1 := by omega
  rcases this with h | h <;> simp [h]

theorem beq_shr_one {p k : Int} (p0 : 0 ≤ p) (p1 : p < 9223372036854775808) :
    (bits .and .i64 (p / 2 ^ k.toNat) 1 == 1) = bitI p k := by
  rw [bits_shr_one p0 p1]; cases bitI p k <;> simp

theorem beq_shr_zero {p k : Int} (p0 : 0 ≤ p) (p1 : p < 9223372036854775808) :
    (bits .and .i64 (p / 2 ^ k.toNat) 1 == 0) = !bitI p k := by
  rw [bits_shr_one p0 p1]; cases bitI p k <;> simp

theorem pow_toNat (k : Nat) : ((2 : Int) ^ k).toNat = 2 ^ k := by
  have : ((2 : Int) ^ k) = ((2 ^ k : Nat) : Int) := by simp
  rw [this, Int.toNat_natCast]

end Go.Proofs.Ytianfakgojmnpaa
