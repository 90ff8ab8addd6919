/- Proofs by weights: plain mathematics for FnProofs. -/
import Derived.Test.YtianfakgojmnpaaKeyQ
import Derived.Test.YtianfakgojmnpaaFindP
namespace Go.Proofs.Ytianfakgojmnpaa
open Go.RowKit

theorem wsum_lsum (ws : List Int) (x : Nat) : ∀ n, wsum ws (bitsTo x n) = lsum (fun k => ws.getD k 0) x n := by
  intro n
  induction n with
  | zero => simp [bitsTo, wsum, lsum]
  | succ n ih =>
    cases h : x.testBit n
    · rw [bitsTo_no h, lsum_no h, ih]
    · rw [bitsTo_yes h, wsum_snoc, lsum_yes h, ih]
/-- falling weights on a line -/
theorem falling_line {W H X : Int} {ws : List Int} (h : isFalling W H X ws = true) {l : Int × Int × Int} (hl : l ∈ linesOf W H X) :
    ws.getD l.2.2.toNat 0 ≤ ws.getD l.1.toNat 0 + ws.getD l.2.1.toNat 0 := by
  unfold isFalling at h
  rw [Bool.and_eq_true] at h
  have h2 := h.2
  unfold brokenLine at h2
  rw [if_pos h.1, Option.isNone_iff_eq_none] at h2
  have h3 := List.find?_eq_none.1 h2 l hl
  unfold broken at h3
  simp only [decide_eq_true_eq] at h3
  omega
theorem falling_of {W H X : Int} {ws : List Int} (hok : weightsOk W H X ws = true) (h : ∀ l, l ∈ linesOf W H X → ws.getD l.2.2.toNat 0 ≤ ws.getD l.1.toNat 0 + ws.getD l.2.1.toNat 0) : isFalling W H X ws = true := by
  unfold isFalling brokenLine
  rw [hok, if_pos rfl, Bool.true_and, Option.isNone_iff_eq_none, List.find?_eq_none]
  intro l hl
  have := h l hl
  unfold broken
  simp only [decide_eq_true_eq]
  omega
/-- where there is a proof, the goal is not reached -/
theorem proof_bars {W H X p q : Int} {ws : List Int} (h : isProof W H X ws p q = true) : canReach W H X p q = false := by
  unfold isProof at h
  simp only [Bool.and_eq_true, decide_eq_true_eq] at h
  obtain ⟨⟨⟨h1, h2⟩, h3⟩, h4⟩ := h
  have hw : weightsOk W H X ws = true := by unfold isFalling at h1; rw [Bool.and_eq_true] at h1; exact h1.1
  cases hc : canReach W H X p q
  · rfl
  · exfalso
    unfold sumOf at h4
    rw [if_pos ⟨hw, h2⟩, if_pos ⟨hw, h3⟩, wsum_lsum, wsum_lsum] at h4
    have := reach_inv (P := fun x => lsum (fun k => ws.getD k 0) x 49 ≤ lsum (fun k => ws.getD k 0) p.toNat 49) (Int.le_refl _) (fun x l hx hl hc => by
      rw [lsum_jumpL _ hl hc]
      have := falling_line h1 hl
      omega) hc
    omega
theorem grid_getD {n : Nat} {f : Nat → Int} {k : Nat} (h : k < n) : (grid n f).getD k 0 = f k := by
  rw [List.getD_eq_getElem?_getD, grid_get h]; rfl
theorem grid_falls {W H X : Int} {f : Nat → Int} (hb : boardOk W H X = true) (hr : ∀ k, k < (W * H).toNat → -1000 ≤ f k ∧ f k ≤ 1000)
    (hl : ∀ l, l ∈ linesOf W H X → f l.2.2.toNat ≤ f l.1.toNat + f l.2.1.toNat) : isFalling W H X (grid (W * H).toNat f) = true := by
  have F := boardOk_facts hb
  have := F.m1
  refine falling_of ?_ ?_
  · unfold weightsOk
    rw [hb, grid_len, Bool.true_and, Bool.and_eq_true]
    refine ⟨by rw [beq_iff_eq]; omega, okW_all ?_⟩
    intro j hj z hz
    rw [grid_len] at hj
    rw [grid_get hj] at hz
    injection hz with hz
    subst hz
    exact inB_iff.2 (hr j hj)
  · intro l h
    have LF := lines_facts h
    obtain ⟨f0, f1, _⟩ := hole_bit LF.f
    obtain ⟨o0, o1, _⟩ := hole_bit LF.o
    obtain ⟨t0, t1, _⟩ := hole_bit LF.t
    rw [grid_getD (by omega), grid_getD (by omega), grid_getD (by omega)]
    exact hl l h
theorem class_falls {W H X r : Int} (hb : boardOk W H X = true) (hr : inB r 0 2 = true) : isFalling W H X (classW W H X r) = true := by
  unfold classW
  rw [if_pos ⟨hb, hr⟩]
  refine grid_falls hb (fun k _ => by unfold classAt; split <;> omega) ?_
  intro l hl
  obtain ⟨x, y, dx, dy, C⟩ := line_coords hl
  have LF := lines_facts hl
  have f0 := (hole_bit LF.f).1
  have o0 := (hole_bit LF.o).1
  have t0 := (hole_bit LF.t).1
  obtain ⟨r0, r1⟩ := inB_iff.1 hr
  unfold classAt
  rw [show ((l.1.toNat : Nat) : Int) = l.1 by omega, show ((l.2.1.toNat : Nat) : Int) = l.2.1 by omega, show ((l.2.2.toNat : Nat) : Int) = l.2.2 by omega, C.fx, C.fy, C.ox, C.oy, C.tx, C.ty]
  rcases C.d with ⟨rfl, rfl⟩ | ⟨rfl, rfl⟩ | ⟨rfl, rfl⟩ | ⟨rfl, rfl⟩ <;> (repeat' split) <;> omega
theorem fib_tab : ((List.range 8).all fun n => decide (0 ≤ fib n) && decide (fib n ≤ 1000) && decide (fib (n + 2) = fib (n + 1) + fib n)) = true := by decide +kernel
theorem fib_get {n : Int} (h0 : 0 ≤ n) (h1 : n ≤ 7) : 0 ≤ fib n ∧ fib n ≤ 1000 ∧ fib (n + 2) = fib (n + 1) + fib n := by
  have := (List.all_eq_true.1 fib_tab) n.toNat (by simp; omega)
  simp only [Bool.and_eq_true, decide_eq_true_eq] at this
  rw [show ((n.toNat : Nat) : Int) = n by omega] at this
  exact ⟨this.1.1, this.1.2, this.2⟩
/-- three cells side by side, d off the column a -/
theorem fib_line {a x dx : Int} (ha : 0 ≤ a ∧ a ≤ 6) (hd : dx = 1 ∨ dx = -1 ∨ dx = 0) (h0 : 0 ≤ x ∧ x ≤ 6) (h1 : 0 ≤ x + dx ∧ x + dx ≤ 6) (h2 : 0 ≤ x + 2 * dx ∧ x + 2 * dx ≤ 6) :
    fib (7 - absI (x + 2 * dx - a)) ≤ fib (7 - absI (x - a)) + fib (7 - absI (x + dx - a)) := by
  have key : ∃ u v w : Int, absI (x - a) = u ∧ absI (x + dx - a) = v ∧ absI (x + 2 * dx - a) = w ∧ 0 ≤ u ∧ u ≤ 6 ∧ 0 ≤ v ∧ v ≤ 6 ∧ 0 ≤ w ∧ w ≤ 6 ∧ ((v = u + 1 ∧ w = u + 2) ∨ (v = u - 1 ∧ w = u - 2) ∨ w = u) := by
    refine ⟨_, _, _, rfl, rfl, rfl, ?_⟩
    rcases hd with rfl | rfl | rfl <;> unfold absI <;> (repeat' split) <;> omega
  obtain ⟨u, v, w, eu, ev, ew, u0, u1, v0, v1, w0, w1, hc⟩ := key
  rw [eu, ev, ew]
  obtain ⟨p0, _, p2⟩ := fib_get (n := 7 - u) (by omega) (by omega)
  obtain ⟨q0, _, q2⟩ := fib_get (n := 7 - v) (by omega) (by omega)
  obtain ⟨r0, _, r2⟩ := fib_get (n := 7 - w) (by omega) (by omega)
  rcases hc with ⟨rfl, rfl⟩ | ⟨rfl, rfl⟩ | rfl
  · rw [show 7 - (u + 2) + 2 = 7 - u by omega, show 7 - (u + 2) + 1 = 7 - (u + 1) by omega] at r2
    omega
  · rw [show 7 - u + 2 = 7 - (u - 2) by omega, show 7 - u + 1 = 7 - (u - 1) by omega] at p2
    omega
  · omega
theorem col_bd {W H X a : Int} (hb : boardOk W H X = true) (ha : 0 ≤ a ∧ a ≤ 6) {k : Nat} (hk : k < (W * H).toNat) : -1000 ≤ colAt W a k ∧ colAt W a k ≤ 1000 := by
  have F := boardOk_facts hb
  have w1 := F.w1
  have w2 := F.w2
  have m := mod_bd (j := (k : Int)) w1
  have h := absI_bd (n := (k : Int) % W - a) (B := 6) (by omega) (by omega)
  have := fib_get (n := 7 - absI ((k : Int) % W - a)) (by omega) (by omega)
  unfold colAt; omega
theorem row_bd2 {W H X a : Int} (hb : boardOk W H X = true) (ha : 0 ≤ a ∧ a ≤ 6) {k : Nat} (hk : k < (W * H).toNat) : -1000 ≤ rowAt W a k ∧ rowAt W a k ≤ 1000 := by
  have F := boardOk_facts hb
  have w1 := F.w1
  have h2 := F.h2
  have m1 := div_bd (j := (k : Int)) w1 (by omega)
  have m3 : (k : Int) / W < H := by
    apply Int.ediv_lt_of_lt_mul (by omega)
    rw [Int.mul_comm]; omega
  have h := absI_bd (n := (k : Int) / W - a) (B := 6) (by omega) (by omega)
  have := fib_get (n := 7 - absI ((k : Int) / W - a)) (by omega) (by omega)
  unfold rowAt; omega
theorem col_falls {W H X a : Int} (hb : boardOk W H X = true) (ha : inB a 0 6 = true) : isFalling W H X (colW W H X a) = true := by
  unfold colW
  rw [if_pos ⟨hb, ha⟩]
  have ha := inB_iff.1 ha
  have F := boardOk_facts hb
  have w2 := F.w2
  refine grid_falls hb (fun k hk => col_bd hb ha hk) ?_
  intro l hl
  obtain ⟨x, y, dx, dy, C⟩ := line_coords hl
  have LF := lines_facts hl
  have f0 := (hole_bit LF.f).1
  have o0 := (hole_bit LF.o).1
  have t0 := (hole_bit LF.t).1
  unfold colAt
  rw [show ((l.1.toNat : Nat) : Int) = l.1 by omega, show ((l.2.1.toNat : Nat) : Int) = l.2.1 by omega, show ((l.2.2.toNat : Nat) : Int) = l.2.2 by omega, C.fx, C.ox, C.tx]
  have hd := C.d
  have x0 := C.x0
  have x1 := C.x1
  have x2 := C.x2
  exact fib_line ha (by omega) (by omega) (by omega) (by omega)
theorem row_falls {W H X a : Int} (hb : boardOk W H X = true) (ha : inB a 0 6 = true) : isFalling W H X (rowW W H X a) = true := by
  unfold rowW
  rw [if_pos ⟨hb, ha⟩]
  have ha := inB_iff.1 ha
  have F := boardOk_facts hb
  have h2 := F.h2
  refine grid_falls hb (fun k hk => row_bd2 hb ha hk) ?_
  intro l hl
  obtain ⟨x, y, dx, dy, C⟩ := line_coords hl
  have LF := lines_facts hl
  have f0 := (hole_bit LF.f).1
  have o0 := (hole_bit LF.o).1
  have t0 := (hole_bit LF.t).1
  unfold rowAt
  rw [show ((l.1.toNat : Nat) : Int) = l.1 by omega, show ((l.2.1.toNat : Nat) : Int) = l.2.1 by omega, show ((l.2.2.toNat : Nat) : Int) = l.2.2 by omega, C.fy, C.oy, C.ty]
  have hd := C.d
  have y0 := C.y0
  have y1 := C.y1
  have y2 := C.y2
  exact fib_line ha (by omega) (by omega) (by omega) (by omega)

/-- what FnProofs asks of a sound goal -/
structure ProofF (W H X p q : Int) (ok can kb : Bool) (ws : List Int) : Prop where
  fw : findW W H X p q = ws
  fo : (findAt W H X p q).isSome = ok
  c1 : canReach W H X p q = can
  pr : ok = true → isProof W H X ws p q = true
  no : ok = true → can = false
  sk : sameKey W H X p q = kb
  ks : can = true → kb = true
theorem proofF_of (W H X p q : Int) : ∃ ok can kb ws, ProofF W H X p q ok can kb ws := by
  have hp : (findAt W H X p q).isSome = true → isProof W H X (findW W H X p q) p q = true := by
    intro h
    unfold findW
    cases hf : findAt W H X p q with
    | none => rw [hf] at h; cases h
    | some i =>
      have := List.find?_some hf
      exact this
  exact ⟨_, _, _, _, rfl, rfl, rfl, hp, fun h => proof_bars (hp h), rfl, fun h => reach_key h⟩
theorem find_neg (W H X p : Int) : (findAt W H X p (-1)).isSome = false := by
  unfold findAt
  rw [Option.isSome_eq_false_iff, Option.isNone_iff_eq_none, List.find?_eq_none]
  intro i _
  unfold isProof positionOk
  simp
end Go.Proofs.Ytianfakgojmnpaa
