/- Sums over the pegs of a position, and where the holes of a line lie: plain mathematics. -/
import Derived.Test.YtianfakgojmnpaaWayQ
import Derived.Test.YtianfakgojmnpaaWeightM
namespace Go.Proofs.Ytianfakgojmnpaa
open Go.RowKit

/-- the sum of f over the pegs below n -/
def lsum (f : Nat → Int) (x n : Nat) : Int := ((bitsTo x n).map f).sum
theorem lsum_zero (f : Nat → Int) (x : Nat) : lsum f x 0 = 0 := by simp [lsum, bitsTo]
theorem lsum_yes {f : Nat → Int} {x n : Nat} (h : x.testBit n = true) : lsum f x (n + 1) = lsum f x n + f n := by
  unfold lsum; rw [bitsTo_yes h]; simp
theorem lsum_no {f : Nat → Int} {x n : Nat} (h : x.testBit n = false) : lsum f x (n + 1) = lsum f x n := by
  unfold lsum; rw [bitsTo_no h]
theorem lsum_succ (f : Nat → Int) (x n : Nat) : lsum f x (n + 1) = lsum f x n + if x.testBit n = true then f n else 0 := by
  cases h : x.testBit n
  · rw [lsum_no h]; simp
  · rw [lsum_yes h]; simp
theorem lsum_flip (f : Nat → Int) (x k : Nat) : ∀ n, lsum f (x ^^^ 2 ^ k) n = lsum f x n + if k < n then (if x.testBit k = true then - f k else f k) else 0 := by
  intro n
  induction n with
  | zero => simp [lsum_zero]
  | succ n ih =>
    rw [lsum_succ, lsum_succ, ih, Nat.testBit_xor, Nat.testBit_two_pow]
    by_cases e : k = n
    · subst e
      cases h : x.testBit k <;> simp <;> omega
    · have e1 : (k < n + 1) = (k < n) := by apply propext; omega
      simp only [e1, e, decide_false, Bool.xor_false]
      omega
theorem goTo_flip {x : Nat} {f o t : Int} (hs : Small3 f o t) : goTo x (f, o, t) = ((x ^^^ 2 ^ f.toNat) ^^^ 2 ^ o.toNat) ^^^ 2 ^ t.toNat := by
  obtain ⟨a1, a2, a3⟩ := hs.ap
  simp only at a1 a2 a3
  unfold goTo lineBits
  apply Nat.eq_of_testBit_eq; intro i
  simp only [Nat.testBit_xor, Nat.testBit_or, Nat.testBit_two_pow]
  by_cases i1 : f.toNat = i
  · subst i1
    have n1 : ¬ o.toNat = f.toNat := fun h => a1 h.symm
    have n2 : ¬ t.toNat = f.toNat := fun h => a2 h.symm
    simp [n1, n2]
  · by_cases i2 : o.toNat = i
    · subst i2
      have n2 : ¬ t.toNat = o.toNat := fun h => a3 h.symm
      simp [i1, n2]
    · simp [i1, i2]
/-- what a jump does to a sum over the pegs -/
theorem lsum_jump (g : Nat → Int) {x : Nat} {f o t : Int} (hs : Small3 f o t) (hc : canGo false x (f, o, t) = true) :
    lsum g (goTo x (f, o, t)) 49 = lsum g x 49 - g f.toNat - g o.toNat + g t.toNat := by
  rw [canGo_bits hs] at hc
  simp only [Bool.and_eq_true, Bool.not_eq_true'] at hc
  obtain ⟨⟨c1, c2⟩, c3⟩ := hc
  obtain ⟨a1, a2, a3⟩ := hs.ap
  simp only at a1 a2 a3
  have h1 := hs.f1
  have h2 := hs.o1
  have h3 := hs.t1
  have b1 : (x ^^^ 2 ^ f.toNat).testBit o.toNat = true := by rw [Nat.testBit_xor, c2, Nat.testBit_two_pow]; simp [a1]
  have b2 : ((x ^^^ 2 ^ f.toNat) ^^^ 2 ^ o.toNat).testBit t.toNat = false := by
    rw [Nat.testBit_xor, Nat.testBit_xor, c3, Nat.testBit_two_pow, Nat.testBit_two_pow]; simp [a2, a3]
  have n1 : f.toNat < 49 := by omega
  have n2 : o.toNat < 49 := by omega
  have n3 : t.toNat < 49 := by omega
  rw [goTo_flip hs, lsum_flip, lsum_flip, lsum_flip, b2, b1, c1]
  simp only [n1, n2, n3, if_true, Bool.false_eq_true, if_false]
  omega
theorem lsum_jumpL (g : Nat → Int) {W H X : Int} {x : Nat} {l : Int × Int × Int} (hl : l ∈ linesOf W H X) (hc : canGo false x l = true) :
    lsum g (goTo x l) 49 = lsum g x 49 - g l.1.toNat - g l.2.1.toNat + g l.2.2.toNat := by
  obtain ⟨f, o, t⟩ := l
  exact lsum_jump g (lines_facts hl).small hc
/-- what holds of a sum along every jump holds of what is reached -/
theorem reach_inv {W H X p : Int} {P : Nat → Prop} (h0 : P p.toNat) (h1 : ∀ x l, P x → l ∈ linesOf W H X → canGo false x l = true → P (goTo x l)) {q : Int} (h : canReach W H X p q = true) : P q.toNat := by
  unfold canReach at h
  obtain ⟨a1, a2, a3⟩ := seen_ok h
  rw [seen_has ⟨a3, a2⟩] at h
  simp only [Bool.and_eq_true, decide_eq_true_eq] at h
  exact spreadTo_all h0 h1 _ _ h.2

/-- a line's holes lie side by side in a row or in a column -/
structure LineC (W H : Int) (l : Int × Int × Int) (x y dx dy : Int) : Prop where
  d : (dx = 1 ∧ dy = 0) ∨ (dx = 0 ∧ dy = 1) ∨ (dx = -1 ∧ dy = 0) ∨ (dx = 0 ∧ dy = -1)
  fx : l.1 % W = x
  fy : l.1 / W = y
  ox : l.2.1 % W = x + dx
  oy : l.2.1 / W = y + dy
  tx : l.2.2 % W = x + 2 * dx
  ty : l.2.2 / W = y + 2 * dy
  x0 : 0 ≤ x ∧ x < W
  y0 : 0 ≤ y ∧ y < H
  x1 : 0 ≤ x + dx ∧ x + dx < W
  y1 : 0 ≤ y + dy ∧ y + dy < H
  x2 : 0 ≤ x + 2 * dx ∧ x + 2 * dx < W
  y2 : 0 ≤ y + 2 * dy ∧ y + 2 * dy < H
theorem rc_of {W x y : Int} (h0 : 0 ≤ x) (h1 : x < W) : (y * W + x) % W = x ∧ (y * W + x) / W = y := by
  constructor
  · rw [Int.add_comm, Int.add_mul_emod_self_right]; exact Int.emod_eq_of_lt h0 h1
  · rw [Int.add_comm, Int.add_mul_ediv_right _ _ (by omega), Int.ediv_eq_zero_of_lt h0 h1]; omega
theorem stepAt_rc {W H X k : Int} {way : Int} (h : 0 ≤ stepAt W H X k way) :
    stepAt W H X k way % W = k % W + dxOf way ∧ stepAt W H X k way / W = k / W + dyOf way ∧ 0 ≤ k % W + dxOf way ∧ k % W + dxOf way < W ∧ 0 ≤ k / W + dyOf way ∧ k / W + dyOf way < H := by
  unfold stepAt at h ⊢
  split at h
  · rename_i h1
    rw [if_pos h1]
    unfold stepIn stepTo at h ⊢
    split at h
    · rename_i h2
      rw [if_pos h2]
      obtain ⟨a1, a2⟩ := inB_iff.1 h2.1
      obtain ⟨b1, b2⟩ := inB_iff.1 h2.2.1
      obtain ⟨e1, e2⟩ := rc_of (W := W) (x := k % W + dxOf way) (y := k / W + dyOf way) a1 (by omega)
      exact ⟨e1, e2, a1, by omega, b1, by omega⟩
    · omega
  · omega
theorem line_coords {W H X : Int} {l : Int × Int × Int} (h : l ∈ linesOf W H X) : ∃ x y dx dy, LineC W H l x y dx dy := by
  simp only [linesOf, linesTo, List.mem_flatMap] at h
  obtain ⟨j, hj, h⟩ := h
  simp only [linesFrom, List.mem_flatMap, List.mem_range] at h
  obtain ⟨m, hm, h⟩ := h
  obtain ⟨_, hjb, hb⟩ := holes_hole hj
  have F := boardOk_facts hb
  have hw1 := F.w1
  obtain ⟨j0, j1⟩ := inB_iff.1 hjb
  unfold lineAt at h
  split at h
  · rename_i h0
    rw [List.mem_singleton] at h
    have ho : 0 ≤ stepAt W H X (j : Int) m := by
      rcases Int.lt_or_le (stepAt W H X (j : Int) m) 0 with h1 | h1
      · have g := stepAt_ge W H X (j : Int) m
        have g2 : stepAt W H X (j : Int) m = -1 := by omega
        rw [g2, stepAt_none] at h0; omega
      · exact h1
    obtain ⟨a1, a2, a3, a4, a5, a6⟩ := stepAt_rc ho
    obtain ⟨b1, b2, b3, b4, b5, b6⟩ := stepAt_rc h0
    rw [a1] at b1 b3 b4
    rw [a2] at b2 b5 b6
    have c1 := mod_bd (j := (j : Int)) hw1
    have c2 := div_bd (j := (j : Int)) hw1 (by omega)
    have c3 : (j : Int) / W < H := by
      apply Int.ediv_lt_of_lt_mul (by omega)
      rw [Int.mul_comm]; omega
    subst h
    refine ⟨(j : Int) % W, (j : Int) / W, dxOf m, dyOf m, ?_, rfl, rfl, a1, a2, by rw [b1]; omega, by rw [b2]; omega, c1, ⟨c2.1, c3⟩, ⟨a3, a4⟩, ⟨a5, a6⟩, by omega, by omega⟩
    have : m = 0 ∨ m = 1 ∨ m = 2 ∨ m = 3 := by omega
    rcases this with rfl | rfl | rfl | rfl <;> simp [dxOf, dyOf]
  · cases h
end Go.Proofs.Ytianfakgojmnpaa
