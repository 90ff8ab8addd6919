/- Weights: what FnWeights reckons with. Plain mathematics. -/
import Derived.Test.YtianfakgojmnpaaLoss
import Derived.Test.YtianfakgojmnpaaSpread
namespace Go.Proofs.Ytianfakgojmnpaa
open Go.RowKit

theorem line_mid {W H X : Int} {l : Int × Int × Int} (h : l ∈ linesOf W H X) : l.1 + l.2.2 = 2 * l.2.1 := by
  simp only [linesOf, linesTo, List.mem_flatMap] at h
  obtain ⟨j, hj, h⟩ := h
  simp only [linesFrom, List.mem_flatMap, List.mem_range] at h
  obtain ⟨m, hm, h⟩ := h
  unfold lineAt at h
  split at h
  · rename_i h0
    rw [List.mem_singleton] at h
    obtain ⟨e2, _⟩ := stepAt_val h0
    have ho : 0 ≤ stepAt W H X (j : Int) m := by
      rcases Int.lt_or_le (stepAt W H X (j : Int) m) 0 with h1 | h1
      · have g := stepAt_ge W H X (j : Int) m
        have g2 : stepAt W H X (j : Int) m = -1 := by omega
        rw [g2, stepAt_none] at h0; omega
      · exact h1
    obtain ⟨e1, _⟩ := stepAt_val ho
    subst h
    simp only
    rw [e2, e1]; omega
  · cases h
theorem line_is {W H X f o t : Int} (h : (f, o, t) ∈ linesOf W H X) : isLine W H X f o t = true := by
  unfold isLine
  rw [decide_eq_true_eq]
  cases e : lineBetween W H X f t with
  | none =>
    have := List.find?_eq_none.1 e _ h
    simp [joins] at this
  | some l =>
    obtain ⟨hl, h1, h2⟩ := lineBetween_some e
    obtain ⟨a, b, c⟩ := l
    simp only at h1 h2
    subst h1 h2
    have m1 := line_mid hl
    have m2 := line_mid h
    simp only at m1 m2
    have : b = o := by omega
    subst this; rfl

theorem wsum_two (ws : List Int) {f o : Nat} (hne : f ≠ o) : ∀ n, wsum ws (bitsTo (2 ^ f ||| 2 ^ o) n) = (if f < n then ws.getD f 0 else 0) + (if o < n then ws.getD o 0 else 0) := by
  intro n
  induction n with
  | zero => simp [bitsTo, wsum]
  | succ n ih =>
    have hb : (2 ^ f ||| 2 ^ o).testBit n = (decide (f = n) || decide (o = n)) := by rw [Nat.testBit_or, Nat.testBit_two_pow, Nat.testBit_two_pow]
    by_cases h1 : f = n
    · subst h1
      rw [bitsTo_yes (by rw [hb]; simp), wsum_snoc, ih]
      (repeat' split) <;> omega
    · by_cases h2 : o = n
      · subst h2
        rw [bitsTo_yes (by rw [hb]; simp), wsum_snoc, ih]
        (repeat' split) <;> omega
      · rw [bitsTo_no (by rw [hb]; simp [h1, h2]), ih]
        have e1 : (f < n) = (f < n + 1) := by apply propext; omega
        have e2 : (o < n) = (o < n + 1) := by apply propext; omega
        simp only [e1, e2]
theorem wsum_one (ws : List Int) (f : Nat) : ∀ n, wsum ws (bitsTo (2 ^ f) n) = if f < n then ws.getD f 0 else 0 := by
  intro n
  induction n with
  | zero => simp [bitsTo, wsum]
  | succ n ih =>
    by_cases h1 : f = n
    · subst h1
      rw [bitsTo_yes (by rw [Nat.testBit_two_pow]; simp), wsum_snoc, ih, if_neg (by omega), if_pos (by omega)]; omega
    · rw [bitsTo_no (by rw [Nat.testBit_two_pow]; simp [h1]), ih]
      have e1 : (f < n) = (f < n + 1) := by apply propext; omega
      simp only [e1]
theorem pow_or {f o : Nat} (h : f ≠ o) : 2 ^ f + 2 ^ o = 2 ^ f ||| 2 ^ o := by
  rcases Nat.lt_or_gt_of_ne h with h | h
  · have := Nat.two_pow_add_eq_or_of_lt (Nat.pow_lt_pow_right (a := 2) (by decide) h) 1
    rw [Nat.mul_one] at this
    rw [Nat.add_comm, this, Nat.or_comm]
  · have := Nat.two_pow_add_eq_or_of_lt (Nat.pow_lt_pow_right (a := 2) (by decide) h) 1
    rw [Nat.mul_one] at this
    exact this

/-- twice the weights -/
theorem addW_get (ws : List Int) (k : Nat) : (addW ws ws).getD k 0 = 2 * ws.getD k 0 := by
  unfold addW
  by_cases h : k < ws.length
  · rw [List.getD_eq_getElem?_getD, grid_get h]; simp only [Option.getD_some]; omega
  · have e1 : (grid ws.length fun k => ws.getD k 0 + ws.getD k 0)[k]? = none := List.getElem?_eq_none (by rw [grid_len]; omega)
    have e2 : ws[k]? = none := List.getElem?_eq_none (by omega)
    rw [List.getD_eq_getElem?_getD, List.getD_eq_getElem?_getD, e1, e2]; rfl
theorem wsum_twice (ws : List Int) : ∀ ks, wsum (addW ws ws) ks = 2 * wsum ws ks := by
  intro ks
  induction ks with
  | nil => rfl
  | cons k ks ih =>
    have e : ∀ vs : List Int, wsum vs (k :: ks) = vs.getD k 0 + wsum vs ks := fun vs => by simp [wsum]
    rw [e, e, ih, addW_get]; omega
theorem broken_twice (ws : List Int) : broken (addW ws ws) = broken ws := by
  funext l
  unfold broken
  rw [addW_get, addW_get, addW_get, Bool.eq_iff_iff]
  simp only [decide_eq_true_eq]
  omega

/-- what FnWeights asks -/
structure WeightsF (W H X : Int) (ws : List Int) (falling bad okv : Bool) (f0 o0 t0 S S2 xl : Int) : Prop where
  ok : weightsOk W H X ws = true
  fa : isFalling W H X ws = falling
  ba : (brokenLine W H X ws).isSome = bad
  fb : falling = !bad
  ln : lineOr (brokenLine W H X ws) = (f0, o0, t0)
  xv : lossOf W H X ws f0 o0 t0 = xl
  xb : bad = true → xl < 0
  av : addWOk W H X ws ws = okv
  s1 : sumOf W H X ws X = S
  s2 : okv = true → sumOf W H X (addWs W H X ws ws) X = S2
  s3 : S2 = 2 * S
  sb : -49000 ≤ S ∧ S ≤ 49000
  f2 : okv = true → isFalling W H X (addWs W H X ws ws) = falling
  z0 : sumOf W H X ws 0 = 0
theorem pos_whole {W H X : Int} (h : boardOk W H X = true) : positionOk W H X X = true :=
  positionOk_mk h (by have := (boardOk_facts h).x1; omega) (Nat.and_self _)
theorem pos_zero {W H X : Int} (h : boardOk W H X = true) : positionOk W H X 0 = true :=
  positionOk_mk h (Int.le_refl _) (by simp)
theorem bits_zero (n : Nat) : bitsTo 0 n = [] := by simp [bitsTo]
theorem weightsF_of {W H X : Int} {ws : List Int} (hb : boardOk W H X = true) (hl : ws.length = (W * H).toNat) (hz : ∀ z, z ∈ ws → -1000 ≤ z ∧ z ≤ 1000) :
    ∃ falling bad okv f0 o0 t0 S S2 xl, WeightsF W H X ws falling bad okv f0 o0 t0 S S2 xl := by
  have F := boardOk_facts hb
  have hok : weightsOk W H X ws = true := by
    unfold weightsOk okW
    rw [hb, Bool.true_and, Bool.and_eq_true]
    refine ⟨by have := F.m1; simp; omega, ?_⟩
    rw [List.all_eq_true]
    intro z h
    exact inB_iff.2 (hz z h)
  have hokw : okW ws = true := by
    have := hok; simp only [weightsOk, Bool.and_eq_true] at this; exact this.2
  have hs : sumOf W H X ws X = wsum ws (bitsTo X.toNat 49) := by unfold sumOf; rw [if_pos ⟨hok, pos_whole hb⟩]
  refine ⟨_, _, _, _, _, _, _, 2 * sumOf W H X ws X, _, hok, rfl, rfl, ?_, rfl, rfl, ?_, rfl, rfl, ?_, rfl, ?_, ?_, ?_⟩
  · unfold isFalling; rw [hok, Bool.true_and]; cases brokenLine W H X ws <;> rfl
  · intro hbad
    obtain ⟨⟨a, b, c⟩, hbr⟩ := Option.isSome_iff_exists.1 hbad
    rw [hbr]
    have hbr2 := hbr
    unfold brokenLine at hbr2
    rw [if_pos hok] at hbr2
    have h1 := List.mem_of_find?_eq_some hbr2
    have h2 := List.find?_some hbr2
    show lossOf W H X ws a b c < 0
    unfold lossOf
    rw [if_pos ⟨hok, line_is h1⟩]
    simp only [broken, decide_eq_true_eq] at h2
    omega
  · intro hv
    have hv2 := hv
    simp only [addWOk, Bool.and_eq_true] at hv2
    unfold addWs
    rw [if_pos hv, hs]
    unfold sumOf
    rw [if_pos ⟨hv2.2, pos_whole hb⟩, wsum_twice]
  · rw [hs]
    have := wsum_bd hokw (bitsTo X.toNat 49)
    have := bitsTo_le X.toNat 49
    omega
  · intro hv
    have hv2 := hv
    simp only [addWOk, Bool.and_eq_true] at hv2
    unfold addWs
    rw [if_pos hv]
    unfold isFalling brokenLine
    rw [if_pos hv2.2, if_pos hok, hv2.2, hok, broken_twice]
  · unfold sumOf; rw [if_pos ⟨hok, pos_zero hb⟩]
    show wsum ws (bitsTo 0 49) = 0
    rw [bits_zero]; rfl

/-- what it asks of each line -/
structure LineF (W H X : Int) (ws : List Int) (falling : Bool) (f o t : Nat) (x y z : Int) : Prop where
  hx : ws.getD f 0 = x
  hy : ws.getD o 0 = y
  hz : ws.getD t 0 = z
  lo : lossOf W H X ws f o t = x + y - z
  fl : falling = true → 0 ≤ x + y - z
  sm : sumOf W H X ws (2 ^ f + 2 ^ o) = x + y
  st : sumOf W H X ws (2 ^ t) = z
theorem lineF_of {W H X : Int} {ws : List Int} {f o t : Nat} {falling : Bool} (hok : weightsOk W H X ws = true) (hf : isFalling W H X ws = falling) (h : ((f : Int), (o : Int), (t : Int)) ∈ linesOf W H X) :
    ∃ x y z, LineF W H X ws falling f o t x y z := by
  have LF := lines_facts h
  have hb : boardOk W H X = true := by have := hok; simp only [weightsOk, Bool.and_eq_true] at this; exact this.1.1
  have F := boardOk_facts hb
  obtain ⟨a1, a2, a3⟩ := hole_bit LF.f
  obtain ⟨b1, b2, b3⟩ := hole_bit LF.o
  obtain ⟨c1, c2, c3⟩ := hole_bit LF.t
  have ap := LF.apart
  simp only [apart3, Int.toNat_natCast] at a1 a2 a3 b1 b2 b3 c1 c2 c3 ap
  have m2 := F.m2
  refine ⟨_, _, _, rfl, rfl, rfl, ?_, ?_, ?_, ?_⟩
  · unfold lossOf; rw [if_pos ⟨hok, line_is h⟩]; simp only [Int.toNat_natCast]
  · intro hfa
    rw [hfa] at hf
    unfold isFalling brokenLine at hf
    rw [hok, if_pos rfl, Bool.true_and, Option.isNone_iff_eq_none] at hf
    have := List.find?_eq_none.1 hf _ h
    simp only [broken, Int.toNat_natCast, decide_eq_true_eq] at this
    omega
  · have e : ((2 : Int) ^ f + 2 ^ o).toNat = 2 ^ f ||| 2 ^ o := by
      rw [← pow_or ap.1]
      have h1 : ((2 ^ f : Nat) : Int) = (2 : Int) ^ f := by simp
      have h2 : ((2 ^ o : Nat) : Int) = (2 : Int) ^ o := by simp
      rw [← h1, ← h2, ← Int.natCast_add, Int.toNat_natCast]
    have hp : positionOk W H X ((2 : Int) ^ f + 2 ^ o) = true := by
      refine positionOk_mk hb ?_ (by rw [e]; exact or_sub (pow_sub a3) (pow_sub b3))
      have h1 : (0 : Int) < 2 ^ f := Int.pow_pos (by decide)
      have h2 : (0 : Int) < 2 ^ o := Int.pow_pos (by decide)
      omega
    unfold sumOf
    rw [if_pos ⟨hok, hp⟩, e, wsum_two ws ap.1, if_pos (by omega), if_pos (by omega)]
  · have e : ((2 : Int) ^ t).toNat = 2 ^ t := pow_toNat t
    have hp : positionOk W H X ((2 : Int) ^ t) = true := by
      refine positionOk_mk hb ?_ (by rw [e]; exact pow_sub c3)
      have h1 : (0 : Int) < 2 ^ t := Int.pow_pos (by decide)
      omega
    unfold sumOf
    rw [if_pos ⟨hok, hp⟩, e, wsum_one, if_pos (by omega)]
end Go.Proofs.Ytianfakgojmnpaa
