/- Plain mathematics of boards, positions and lines: no program in sight. -/
import Derived.WalkKit
namespace Go.Proofs.Ytianfakgojmnpaa

/-! ### ranges and boards -/

def inB (n a b : Int) : Bool := decide (a ≤ n) && decide (n ≤ b)

theorem inB_iff {n a b : Int} : inB n a b = true ↔ a ≤ n ∧ n ≤ b := by simp [inB]
theorem inB_no {n a b : Int} : inB n a b = false ↔ ¬ (a ≤ n ∧ n ≤ b) := by
  rw [← inB_iff]; simp

def absI (n : Int) : Int := if n < 0 then -n else n
theorem absI_neg {n : Int} (h : n < 0) : absI n = -n := by unfold absI; rw [if_pos h]
theorem absI_pos {n : Int} (h : 0 ≤ n) : absI n = n := by unfold absI; rw [if_neg (by omega)]

theorem mod_bd {j W : Int} (h : 1 ≤ W) : 0 ≤ j % W ∧ j % W < W := ⟨Int.emod_nonneg _ (by omega), Int.emod_lt_of_pos _ (by omega)⟩
theorem div_bd {j W : Int} (h : 1 ≤ W) (h0 : 0 ≤ j) : 0 ≤ j / W ∧ j / W ≤ j := ⟨Int.ediv_nonneg h0 (by omega), Int.ediv_le_self _ h0⟩
theorem absI_bd {n B : Int} (h1 : -B ≤ n) (h2 : n ≤ B) : 0 ≤ absI n ∧ absI n ≤ B := by unfold absI; split <;> omega
theorem max_absI (n : Int) : max n (-n) = absI n := by unfold absI; split <;> omega


def boardOk (W H X : Int) : Bool := inB W 1 7 && inB H 1 7 && inB X 1 (2 ^ (W * H).toNat - 1)

theorem mul_bd {W H : Int} (w1 : 1 ≤ W) (w2 : W ≤ 7) (h1 : 1 ≤ H) (h2 : H ≤ 7) : 1 ≤ W * H ∧ W * H ≤ 49 := by
  constructor
  · have := Int.mul_le_mul w1 h1 (by omega) (by omega); omega
  · have := Int.mul_le_mul w2 h2 (by omega) (by omega); omega

theorem pow_bd {n : Nat} (h : n ≤ 49) : (1 : Int) ≤ 2 ^ n ∧ (2 : Int) ^ n ≤ 562949953421312 := by
  constructor
  · have := Int.pow_pos (n := 2) (m := n) (by decide); omega
  · have h1 : (2 : Nat) ^ n ≤ 2 ^ 49 := Nat.pow_le_pow_right (by decide) h
    have h2 : ((2 ^ n : Nat) : Int) ≤ ((2 ^ 49 : Nat) : Int) := by exact_mod_cast h1
    simpa using h2

structure BoardFacts (W H X : Int) : Prop where
  w1 : 1 ≤ W
  w2 : W ≤ 7
  h1 : 1 ≤ H
  h2 : H ≤ 7
  m1 : 1 ≤ W * H
  m2 : W * H ≤ 49
  x1 : 1 ≤ X
  x2 : X ≤ 2 ^ (W * H).toNat - 1
  x3 : X < 562949953421312

theorem boardOk_facts {W H X : Int} (h : boardOk W H X = true) : BoardFacts W H X := by
  simp only [boardOk, Bool.and_eq_true, inB_iff] at h
  obtain ⟨⟨⟨w1, w2⟩, h1, h2⟩, x1, x2⟩ := h
  obtain ⟨m1, m2⟩ := mul_bd w1 w2 h1 h2
  have := (pow_bd (n := (W * H).toNat) (by omega)).2
  exact ⟨w1, w2, h1, h2, m1, m2, x1, x2, by omega⟩

theorem boardOk_mk {W H X : Int} (w1 : 1 ≤ W) (w2 : W ≤ 7) (h1 : 1 ≤ H) (h2 : H ≤ 7) (x1 : 1 ≤ X) (x2 : X ≤ 2 ^ (W * H).toNat - 1) : boardOk W H X = true := by
  simp only [boardOk, Bool.and_eq_true, inB_iff]
  exact ⟨⟨⟨w1, w2⟩, h1, h2⟩, x1, x2⟩

/-! ### bits -/

def bitI (p k : Int) : Bool := p.toNat.testBit k.toNat

def hasHole (W H X k : Int) : Bool := boardOk W H X && inB k 0 (W * H - 1) && bitI X k

def positionOk (W H X p : Int) : Bool := boardOk W H X && decide (0 ≤ p) && (p.toNat &&& X.toNat == p.toNat)

structure PosFacts (W H X p : Int) : Prop where
  b : boardOk W H X = true
  p0 : 0 ≤ p
  sub : p.toNat &&& X.toNat = p.toNat
  le : p ≤ X

theorem positionOk_facts {W H X p : Int} (h : positionOk W H X p = true) : PosFacts W H X p := by
  simp only [positionOk, Bool.and_eq_true, decide_eq_true_eq, beq_iff_eq] at h
  obtain ⟨⟨hb, h0⟩, hs⟩ := h
  have hf := boardOk_facts hb
  have : p.toNat ≤ X.toNat := by rw [← hs]; exact Nat.and_le_right
  have := hf.x1
  exact ⟨hb, h0, hs, by omega⟩

theorem positionOk_mk {W H X p : Int} (hb : boardOk W H X = true) (h0 : 0 ≤ p) (hs : p.toNat &&& X.toNat = p.toNat) : positionOk W H X p = true := by
  simp [positionOk, hb, h0, hs]

theorem xor_zero {p x : Nat} (h : p ^^^ (p &&& x) = 0) : p &&& x = p := by
  apply Nat.eq_of_testBit_eq; intro i
  have := congrArg (·.testBit i) h
  simp only [Nat.testBit_and, Nat.testBit_xor, Nat.zero_testBit] at this ⊢
  revert this; cases x.testBit i <;> cases p.testBit i <;> simp

theorem add_or (a : Nat) : ∀ b, a &&& b = 0 → a + b = a ||| b := by
  induction a using Nat.strongRecOn with
  | _ a ih =>
    intro b h
    by_cases ha : a = 0
    · subst ha; simp
    · have h1 : (a / 2) &&& (b / 2) = 0 := by rw [← Nat.and_div_two, h]
      have h2 := ih (a / 2) (by omega) (b / 2) h1
      have h3 : (a ||| b) / 2 = a / 2 ||| b / 2 := Nat.or_div_two
      have h4 := congrArg (·.testBit 0) h
      have h5 : (a ||| b) % 2 = a % 2 + b % 2 := by
        have h6 : (a ||| b).testBit 0 = (a.testBit 0 || b.testBit 0) := Nat.testBit_or _ _ _
        simp only [Nat.testBit_and, Nat.zero_testBit] at h4
        simp only [Nat.testBit_zero] at h4 h6
        have e1 : a % 2 = 0 ∨ a % 2 = 1 := by omega
        have e2 : b % 2 = 0 ∨ b % 2 = 1 := by omega
        have e3 : (a ||| b) % 2 = 0 ∨ (a ||| b) % 2 = 1 := by omega
        rcases e1 with e1 | e1 <;> rcases e2 with e2 | e2 <;> rcases e3 with e3 | e3 <;> simp [e1, e2, e3] at h4 h6 ⊢
      omega

/-- the difference of a set and a part of it -/
theorem sub_eq_xor {x p : Nat} (h : p &&& x = p) : x - p = x ^^^ p := by
  have h1 : (x ^^^ p) &&& p = 0 := by
    apply Nat.eq_of_testBit_eq; intro i
    have := congrArg (·.testBit i) h
    simp only [Nat.testBit_and, Nat.testBit_xor, Nat.zero_testBit] at this ⊢
    revert this; cases x.testBit i <;> cases p.testBit i <;> simp
  have h2 : (x ^^^ p) ||| p = x := by
    apply Nat.eq_of_testBit_eq; intro i
    have := congrArg (·.testBit i) h
    simp only [Nat.testBit_and, Nat.testBit_xor, Nat.testBit_or] at this ⊢
    revert this; cases x.testBit i <;> cases p.testBit i <;> simp
  have h3 := add_or _ _ h1
  omega

def otherOf (W H X p : Int) : Int := if positionOk W H X p = true then ((X.toNat ^^^ p.toNat : Nat) : Int) else -1

end Go.Proofs.Ytianfakgojmnpaa
