/- Golden sums never grow: plain mathematics for FnGoldSums. -/
import Derived.Test.YtianfakgojmnpaaLineC
import Derived.Test.YtianfakgojmnpaaGoldM
import Derived.Test.YtianfakgojmnpaaHope
import Derived.Test.YtianfakgojmnpaaGLoss
namespace Go.Proofs.Ytianfakgojmnpaa
open Go.RowKit

/-- the power n of the golden number, in the linear order -/
def gT (n : Int) : Int := gL (powA n) (powB n)
theorem gT_tab : ((List.range 21).all fun n => decide (0 ≤ gT n) && decide (n ≤ 18 → gT n = gT (n + 1) + gT (n + 2))) = true := by decide +kernel
theorem gT_nonneg (n : Int) : 0 ≤ gT n := by
  by_cases h : inB n 0 20 = true
  · obtain ⟨h1, h2⟩ := inB_iff.1 h
    have := (List.all_eq_true.1 gT_tab) n.toNat (by simp; omega)
    simp only [Bool.and_eq_true, decide_eq_true_eq] at this
    rw [show ((n.toNat : Nat) : Int) = n by omega] at this
    exact this.1
  · unfold gT powA powB
    rw [if_neg h, if_neg h]; decide
theorem gT_next {n : Int} (h0 : 0 ≤ n) (h1 : n ≤ 18) : gT n = gT (n + 1) + gT (n + 2) := by
  have := (List.all_eq_true.1 gT_tab) n.toNat (by simp; omega)
  simp only [Bool.and_eq_true, decide_eq_true_eq] at this
  rw [show ((n.toNat : Nat) : Int) = n by omega] at this
  exact this.2 (by omega)
theorem gT_zero : gT 0 = gL 1 0 := by decide
/-- the weight of a hole, in the linear order -/
def gW (W H X t : Int) (k : Nat) : Int := gL (gAt W H X t k).1 (gAt W H X t k).2
theorem gW_eq (W H X t : Int) (k : Nat) : gW W H X t k = gT (stepsBetween W H X t k) := rfl
theorem gW_nonneg (W H X t : Int) (k : Nat) : 0 ≤ gW W H X t k := gT_nonneg _
theorem line_steps {W H X t : Int} {l : Int × Int × Int} (ht : hasHole W H X t = true) (hl : l ∈ linesOf W H X) :
    gT (stepsBetween W H X t l.2.2) ≤ gT (stepsBetween W H X t l.1) + gT (stepsBetween W H X t l.2.1) := by
  obtain ⟨x, y, dx, dy, C⟩ := line_coords hl
  have LF := lines_facts hl
  have hb : boardOk W H X = true := by
    have := ht
    simp only [hasHole, Bool.and_eq_true] at this
    exact this.1.1
  have F := boardOk_facts hb
  have w1 := F.w1
  have w2 := F.w2
  have h2 := F.h2
  obtain ⟨t0, t1, _⟩ := hole_bit ht
  obtain ⟨f0, f1, _⟩ := hole_bit LF.f
  obtain ⟨o0, o1, _⟩ := hole_bit LF.o
  obtain ⟨u0, u1, _⟩ := hole_bit LF.t
  have it := inB_iff.2 ⟨t0, t1⟩
  have e1 : stepsBetween W H X t l.1 = absI (t % W - x) + absI (t / W - y) := by
    unfold stepsBetween; rw [if_pos ⟨hb, it, inB_iff.2 ⟨f0, f1⟩⟩, C.fx, C.fy]
  have e2 : stepsBetween W H X t l.2.1 = absI (t % W - (x + dx)) + absI (t / W - (y + dy)) := by
    unfold stepsBetween; rw [if_pos ⟨hb, it, inB_iff.2 ⟨o0, o1⟩⟩, C.ox, C.oy]
  have e3 : stepsBetween W H X t l.2.2 = absI (t % W - (x + 2 * dx)) + absI (t / W - (y + 2 * dy)) := by
    unfold stepsBetween; rw [if_pos ⟨hb, it, inB_iff.2 ⟨u0, u1⟩⟩, C.tx, C.ty]
  have m1 := mod_bd (j := t) w1
  have m2 := div_bd (j := t) w1 t0
  have m3 : t / W < H := by
    apply Int.ediv_lt_of_lt_mul (by omega)
    rw [Int.mul_comm]; omega
  rw [e1, e2, e3]
  clear e1 e2 e3 it
  obtain ⟨tx, htx⟩ : ∃ z, t % W = z := ⟨_, rfl⟩
  obtain ⟨ty, hty⟩ : ∃ z, t / W = z := ⟨_, rfl⟩
  rw [htx] at m1 ⊢
  rw [hty] at m2 m3 ⊢
  have x0 := C.x0
  have y0 := C.y0
  have key : ∃ a b c : Int, absI (tx - x) + absI (ty - y) = a ∧ absI (tx - (x + dx)) + absI (ty - (y + dy)) = b ∧ absI (tx - (x + 2 * dx)) + absI (ty - (y + 2 * dy)) = c ∧ 0 ≤ a ∧ a ≤ 12 ∧ 0 ≤ b ∧ 0 ≤ c ∧
      ((b = a + 1 ∧ c = a + 2) ∨ (b = a - 1 ∧ c = a - 2) ∨ (b = a - 1 ∧ c = a)) := by
    refine ⟨_, _, _, rfl, rfl, rfl, ?_⟩
    rcases C.d with ⟨rfl, rfl⟩ | ⟨rfl, rfl⟩ | ⟨rfl, rfl⟩ | ⟨rfl, rfl⟩ <;> unfold absI <;> (repeat' split) <;> omega
  obtain ⟨a, b, c, ea, eb, ec, a0, a1, b0, c0, hc⟩ := key
  rw [ea, eb, ec]
  have pa := gT_nonneg a
  have pb := gT_nonneg b
  have pc := gT_nonneg c
  rcases hc with ⟨rfl, rfl⟩ | ⟨rfl, rfl⟩ | ⟨rfl, rfl⟩
  · have := gT_next a0 (by omega)
    have := gT_next b0 (by omega)
    rw [show a + 1 + 1 = a + 2 by omega] at this
    have := gT_nonneg (a + 1 + 2)
    omega
  · have := gT_next c0 (by omega)
    rw [show a - 2 + 1 = a - 1 by omega, show a - 2 + 2 = a by omega] at this
    omega
  · omega
theorem loss_sign {W H X t : Int} {f o u : Int} (ht : hasHole W H X t = true) (hl : (f, o, u) ∈ linesOf W H X) :
    0 ≤ signOf (goldLoss W H X t f o u).1 (goldLoss W H X t f o u).2 ∧ signOf (goldLoss W H X t f o u).1 (goldLoss W H X t f o u).2 ≤ 1 := by
  have e : goldLoss W H X t f o u = ((gAt W H X t f).1 + (gAt W H X t o).1 - (gAt W H X t u).1, (gAt W H X t f).2 + (gAt W H X t o).2 - (gAt W H X t u).2) := by
    unfold goldLoss; rw [if_pos ⟨line_is hl, ht⟩]
  rw [e]
  have g1 := gAt_small W H X t f
  have g2 := gAt_small W H X t o
  have g3 := gAt_small W H X t u
  have hk : goldOk ((gAt W H X t f).1 + (gAt W H X t o).1 - (gAt W H X t u).1) ((gAt W H X t f).2 + (gAt W H X t o).2 - (gAt W H X t u).2) = true := goldOk_iff.2 ⟨by omega, by omega⟩
  rw [signOf_lin hk]
  have h1 := line_steps ht hl
  have h2 : gL ((gAt W H X t f).1 + (gAt W H X t o).1 - (gAt W H X t u).1) ((gAt W H X t f).2 + (gAt W H X t o).2 - (gAt W H X t u).2) = gT (stepsBetween W H X t f) + gT (stepsBetween W H X t o) - gT (stepsBetween W H X t u) := by
    unfold gL gT gL gAt; omega
  rw [h2]
  simp only at h1
  unfold sgnI
  (repeat' split) <;> omega

/-! ### sums -/
theorem gfold_lin (W H X t : Int) : ∀ (n : Nat) (ks : List Nat), ks.length = n → n ≤ 49 →
    (-10946 * (n : Int) ≤ (gfold W H X t ks).1 ∧ (gfold W H X t ks).1 ≤ 10946 * n ∧ -10946 * (n : Int) ≤ (gfold W H X t ks).2 ∧ (gfold W H X t ks).2 ≤ 10946 * n) ∧ gL (gfold W H X t ks).1 (gfold W H X t ks).2 = (ks.map (gW W H X t)).sum := by
  intro n
  induction n with
  | zero => intro ks h _; have e := List.length_eq_zero_iff.1 h; subst e; exact ⟨by simp [gfold], by simp [gfold, gL]⟩
  | succ n ih =>
    intro ks h hn
    obtain ⟨ks', k, rfl⟩ : ∃ L' q, ks = L' ++ [q] := ⟨ks.dropLast, ks.getLast (by intro e; rw [e] at h; simp at h), (List.dropLast_concat_getLast (by intro e; rw [e] at h; simp at h)).symm⟩
    obtain ⟨⟨i1, i2, i3, i4⟩, i5⟩ := ih ks' (by simpa using h) (by omega)
    obtain ⟨g1, g2, g3, g4⟩ := gAt_small W H X t k
    rw [gfold_snoc]
    have k1 : goldOk (gfold W H X t ks').1 (gfold W H X t ks').2 = true := goldOk_iff.2 ⟨by omega, by omega⟩
    have k2 : goldOk (gAt W H X t k).1 (gAt W H X t k).2 = true := goldOk_iff.2 ⟨by omega, by omega⟩
    have k3 : goldOk ((gfold W H X t ks').1 + (gAt W H X t k).1) ((gfold W H X t ks').2 + (gAt W H X t k).2) = true := goldOk_iff.2 ⟨by omega, by omega⟩
    have e : gstep W H X t (gfold W H X t ks') k = ((gfold W H X t ks').1 + (gAt W H X t k).1, (gfold W H X t ks').2 + (gAt W H X t k).2) := by
      unfold gstep addA addB; rw [if_pos ⟨k1, k2, k3⟩, if_pos ⟨k1, k2, k3⟩]
    rw [e]
    refine ⟨⟨by simp only; omega, by simp only; omega, by simp only; omega, by simp only; omega⟩, ?_⟩
    rw [List.map_append, List.sum_append, ← i5]
    simp only [List.map_cons, List.map_nil, List.sum_cons, List.sum_nil]
    unfold gW gL; omega
theorem goldSum_ok {W H X t p : Int} (hp : positionOk W H X p = true) (ht : hasHole W H X t = true) :
    goldOk (goldSum W H X t p).1 (goldSum W H X t p).2 = true ∧ gL (goldSum W H X t p).1 (goldSum W H X t p).2 = lsum (gW W H X t) p.toNat 49 := by
  have e : goldSum W H X t p = gfold W H X t (bitsTo p.toNat 49) := by unfold goldSum; rw [if_pos ⟨hp, ht⟩]
  have hl := bitsTo_le p.toNat 49
  obtain ⟨⟨h1, h2, h3, h4⟩, h5⟩ := gfold_lin W H X t _ (bitsTo p.toNat 49) rfl hl
  rw [e]
  exact ⟨goldOk_iff.2 ⟨by omega, by omega⟩, h5⟩
theorem lsum_nonneg {f : Nat → Int} (h : ∀ k, 0 ≤ f k) (x : Nat) : ∀ n, 0 ≤ lsum f x n := by
  intro n
  induction n with
  | zero => simp [lsum_zero]
  | succ n ih => rw [lsum_succ]; have := h n; split <;> omega
theorem lsum_ge {f : Nat → Int} (h : ∀ k, 0 ≤ f k) {x k : Nat} (hk : x.testBit k = true) : ∀ n, k < n → f k ≤ lsum f x n := by
  intro n
  induction n with
  | zero => intro h; omega
  | succ n ih =>
    intro hn
    rw [lsum_succ]
    by_cases e : k = n
    · subst e; rw [if_pos hk]; have := lsum_nonneg h x k; omega
    · have := ih (by omega); have := h n; split <;> omega
/-- the golden sum never grows -/
theorem sum_falls {W H X t p q : Int} (ht : hasHole W H X t = true) (h : canReach W H X p q = true) : lsum (gW W H X t) q.toNat 49 ≤ lsum (gW W H X t) p.toNat 49 := by
  refine reach_inv (P := fun x => lsum (gW W H X t) x 49 ≤ lsum (gW W H X t) p.toNat 49) (Int.le_refl _) (fun x l hx hl hc => ?_) h
  rw [lsum_jumpL _ hl hc]
  have h1 := line_steps ht hl
  have LF := lines_facts hl
  have f0 := (hole_bit LF.f).1
  have o0 := (hole_bit LF.o).1
  have t0 := (hole_bit LF.t).1
  simp only [gW_eq]
  rw [show ((l.1.toNat : Nat) : Int) = l.1 by omega, show ((l.2.1.toNat : Nat) : Int) = l.2.1 by omega, show ((l.2.2.toNat : Nat) : Int) = l.2.2 by omega]
  omega
def hasPeg (W H X p k : Int) : Bool := positionOk W H X p && hasHole W H X k && bitI p k
theorem steps_self {W H X t : Int} (ht : hasHole W H X t = true) : stepsBetween W H X t t = 0 := by
  have hb : boardOk W H X = true := by
    have := ht
    simp only [hasHole, Bool.and_eq_true] at this
    exact this.1.1
  obtain ⟨t0, t1, _⟩ := hole_bit ht
  have it := inB_iff.2 ⟨t0, t1⟩
  unfold stepsBetween; rw [if_pos ⟨hb, it, it⟩, Int.sub_self, Int.sub_self]; rfl
theorem steps_sym (W H X j k : Int) : stepsBetween W H X j k = stepsBetween W H X k j := by
  unfold stepsBetween
  by_cases h : boardOk W H X = true ∧ inB j 0 (W * H - 1) = true ∧ inB k 0 (W * H - 1) = true
  · have h2 : boardOk W H X = true ∧ inB k 0 (W * H - 1) = true ∧ inB j 0 (W * H - 1) = true := ⟨h.1, h.2.2, h.2.1⟩
    rw [if_pos h, if_pos h2]; unfold absI; (repeat' split) <;> omega
  · have h2 : ¬ (boardOk W H X = true ∧ inB k 0 (W * H - 1) = true ∧ inB j 0 (W * H - 1) = true) := fun h2 => h ⟨h2.1, h2.2.2, h2.2.1⟩
    rw [if_neg h, if_neg h2]
theorem bits_one (k : Nat) (hk : k < 49) : bitsTo (2 ^ k) 49 = [k] := by
  apply List.ext_getElem?
  intro j
  have hl : (bitsTo (2 ^ k) 49).length = 1 := by
    have : ∀ n, bitsTo (2 ^ k) n = if k < n then [k] else [] := by
      intro n
      induction n with
      | zero => simp [bitsTo]
      | succ n ih =>
        by_cases e : k = n
        · subst e; rw [bitsTo_yes (by rw [Nat.testBit_two_pow]; simp), ih, if_neg (by omega), if_pos (by omega)]; rfl
        · rw [bitsTo_no (by rw [Nat.testBit_two_pow]; simp [e]), ih]
          have : (k < n) = (k < n + 1) := by apply propext; omega
          simp only [this]
    rw [this, if_pos hk]; rfl
  obtain ⟨m, hm⟩ := List.length_eq_one_iff.1 hl
  have : k ∈ bitsTo (2 ^ k) 49 := bitsTo_mem.2 ⟨hk, by rw [Nat.testBit_two_pow]; simp⟩
  rw [hm, List.mem_singleton] at this
  rw [hm, this]
theorem hole_pos {W H X : Int} {k : Nat} (h : hasHole W H X (k : Int) = true) : positionOk W H X (2 ^ k) = true := by
  have hb : boardOk W H X = true := by
    have := h
    simp only [hasHole, Bool.and_eq_true] at this
    exact this.1.1
  obtain ⟨_, _, h3⟩ := hole_bit h
  rw [Int.toNat_natCast] at h3
  refine positionOk_mk hb (Int.pow_nonneg (by decide)) ?_
  rw [show ((2 : Int) ^ k) = ((2 ^ k : Nat) : Int) by simp, Int.toNat_natCast]
  exact pow_sub h3
theorem sum_one {W H X : Int} {k : Nat} (h : hasHole W H X (k : Int) = true) : goldSum W H X (k : Int) (2 ^ k) = (1, 0) := by
  have hb : boardOk W H X = true := by
    have := h
    simp only [hasHole, Bool.and_eq_true] at this
    exact this.1.1
  have F := boardOk_facts hb
  have := F.m2
  obtain ⟨h1, h2, _⟩ := hole_bit h
  unfold goldSum
  rw [if_pos ⟨hole_pos h, h⟩, show ((2 : Int) ^ k) = ((2 ^ k : Nat) : Int) by simp, Int.toNat_natCast, bits_one k (by omega)]
  unfold gfold gstep gAt
  simp only [List.foldl_cons, List.foldl_nil]
  rw [steps_self h]
  decide

/-- what FnGoldSums asks -/
structure GoldS (W H X p q t : Int) (can : Bool) (c : Int) (hp ch : Bool) : Prop where
  c1 : canReach W H X p q = can
  cm : compareGold (goldSum W H X t q).1 (goldSum W H X t q).2 (goldSum W H X t p).1 (goldSum W H X t p).2 = c
  c0 : can = true → c ≤ 0
  pg : hasPeg W H X q t = hp
  ho : canHope W H X p t = ch
  hh : can = true → hp = true → ch = true
theorem goldS_of {W H X p q t : Int} (hp : positionOk W H X p = true) (hq : positionOk W H X q = true) (ht : hasHole W H X t = true) : ∃ can c h ch, GoldS W H X p q t can c h ch := by
  refine ⟨_, _, _, _, rfl, rfl, ?_, rfl, rfl, ?_⟩
  · intro h
    have s := sum_falls ht h
    obtain ⟨p1, p2⟩ := goldSum_ok hp ht
    obtain ⟨q1, q2⟩ := goldSum_ok hq ht
    rw [compareGold_lin q1 p1, p2, q2]
    unfold sgnI
    (repeat' split) <;> omega
  · intro h hpeg
    have s := sum_falls ht h
    obtain ⟨p1, p2⟩ := goldSum_ok hp ht
    simp only [hasPeg, Bool.and_eq_true] at hpeg
    have hb : boardOk W H X = true := by
      have := ht
      simp only [hasHole, Bool.and_eq_true] at this
      exact this.1.1
    have F := boardOk_facts hb
    have := F.m2
    obtain ⟨h1, h2, _⟩ := hole_bit ht
    have hg := lsum_ge (gW_nonneg W H X t) (x := q.toNat) (k := t.toNat) hpeg.2 49 (by omega)
    rw [gW_eq, show ((t.toNat : Nat) : Int) = t by omega, steps_self ht, gT_zero] at hg
    unfold canHope
    rw [hp, ht, compareGold_lin p1 (by decide), p2]
    simp only [Bool.true_and, decide_eq_true_eq]
    unfold sgnI
    (repeat' split) <;> omega
end Go.Proofs.Ytianfakgojmnpaa
