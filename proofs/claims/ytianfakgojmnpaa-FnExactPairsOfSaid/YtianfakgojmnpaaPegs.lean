/- Pegs counted. -/
import Derived.Test.YtianfakgojmnpaaJump
import Derived.Test.YtianfakgojmnpaaReachC
namespace Go.Proofs.Ytianfakgojmnpaa
open Go.RowKit

def M0 : Nat := 6148914691236517205
def M1 : Nat := 3689348814741910323
def M2 : Nat := 1085102592571150095
def pc1 (x : Nat) : Nat := (x / 2 &&& M0) + (x &&& M0)
def pc2 (x : Nat) : Nat := (x / 4 &&& M1) + (x &&& M1)
def pc3 (x : Nat) : Nat := (x / 16 + x) &&& M2
def pc4 (k x : Nat) : Nat := x + x / k
def popAll (n : Nat) : Nat := pc4 4294967296 (pc4 65536 (pc4 256 (pc3 (pc2 (pc1 n))))) &&& 127
def popN : Nat → Nat → Nat
  | 0, _ => 0
  | f + 1, n => n % 2 + popN f (n / 2)
theorem popN_zero : ∀ f, popN f 0 = 0 := by
  intro f
  induction f with
  | zero => rfl
  | succ f ih => simp [popN, ih]
theorem popN_add : ∀ (f g n : Nat), popN (f + g) n = popN f n + popN g (n / 2 ^ f) := by
  intro f
  induction f with
  | zero => intro g n; simp [popN]
  | succ f ih =>
    intro g n
    rw [show f + 1 + g = (f + g) + 1 from by omega]
    simp only [popN]
    rw [ih, Nat.div_div_eq_div_mul, ← Nat.pow_succ', Nat.add_assoc]
theorem bitsTo_pop (n k : Nat) : (bitsTo n k).length = popN k n := by
  unfold bitsTo
  induction k generalizing n with
  | zero => rfl
  | succ k ih =>
    rw [List.range_succ_eq_map, List.filter_cons]
    have e : ((List.map Nat.succ (List.range k)).filter fun j => n.testBit j).length = popN k (n / 2) := by
      rw [List.filter_map, List.length_map, ← ih]
      congr 1
      apply List.filter_congr
      intro j _
      simp [Nat.testBit_succ]
    simp only [popN]
    rw [Nat.testBit_zero]
    have h2 : n % 2 = 0 ∨ n % 2 = 1 := by omega
    rcases h2 with h2 | h2
    · simp [h2, e]
    · simp [h2, e]; omega
theorem pop_table : ((List.range 256).all fun a => (List.range 256).all fun b => decide (popAll (256 * a + b) = popN 8 b + popN 8 a)) = true := by decide +kernel
theorem popAll_eq {n : Nat} (h : n < 65536) : popAll n = (bitsTo n 49).length := by
  have t := pop_table
  simp only [List.all_eq_true, List.mem_range, decide_eq_true_eq] at t
  have h1 := t (n / 256) (by omega) (n % 256) (by omega)
  rw [show 256 * (n / 256) + n % 256 = n from by omega] at h1
  rw [h1, bitsTo_pop, show (49 : Nat) = 8 + (8 + 33) from rfl, popN_add, popN_add, Nat.div_div_eq_div_mul]
  have e1 : popN 8 (n % 256) = popN 8 n := by
    have : ∀ f m, popN f (m % 2 ^ f) = popN f m := by
      intro f
      induction f with
      | zero => intro m; rfl
      | succ f ih =>
        intro m
        simp only [popN]
        have a1 : m % 2 ^ (f + 1) % 2 = m % 2 := Nat.mod_mod_of_dvd _ (Nat.dvd_of_mod_eq_zero (by rw [Nat.pow_succ]; omega))
        have a2 : m % 2 ^ (f + 1) / 2 = m / 2 % 2 ^ f := by rw [Nat.pow_succ', Nat.mod_mul_right_div_self]
        rw [a1, a2, ih]
    exact this 8 n
  have e2 : n / (2 ^ 8 * 2 ^ 8) = 0 := by
    rw [show 2 ^ 8 * 2 ^ 8 = 65536 from rfl]; omega
  rw [e1, e2, popN_zero]
  rfl
theorem u64_wrap {k : Nat} (h : k < 18446744073709551616) : IntKind.u64.wrap (k : Int) = k := by
  simp only [IntKind.wrap_u64]; omega
theorem ofInt64u (a : Nat) (h : a < 18446744073709551616) : (BitVec.ofInt 64 (a : Int)).toNat = a := by
  rw [BitVec.ofInt_natCast, BitVec.toNat_ofNat]; omega
theorem u64_and {a b : Nat} (ha : a < 18446744073709551616) (hb : b < 18446744073709551616) : bits .and .u64 (a : Int) (b : Int) = ((a &&& b : Nat) : Int) := by
  show IntKind.u64.wrap (((BitVec.ofInt 64 (a : Int)) &&& (BitVec.ofInt 64 (b : Int))).toNat : Int) = _
  rw [BitVec.toNat_and, ofInt64u a ha, ofInt64u b hb]
  exact u64_wrap (Nat.lt_of_le_of_lt Nat.and_le_left ha)
def qa (k : Int) (m : Int) (x : Int) : Int := IntKind.u64.wrap (bits .and .u64 (x / k) m + bits .and .u64 x m)
def qb (x : Int) : Int := bits .and .u64 (IntKind.u64.wrap (x / 16 + x)) 1085102592571150095
def qc (k : Int) (x : Int) : Int := IntKind.u64.wrap (x + x / k)
theorem qa_nat {k m x : Nat} (hx : x < 1000000000) (hm : m < 18446744073709551616) : qa k m x = (((x / k &&& m) + (x &&& m) : Nat) : Int) := by
  unfold qa
  have h1 : ((x : Int) / (k : Int)) = ((x / k : Nat) : Int) := by simp
  have h2 : x / k ≤ x := Nat.div_le_self _ _
  rw [h1, u64_and (by omega) hm, u64_and (by omega) hm]
  have h3 : x / k &&& m ≤ x / k := Nat.and_le_left
  have h4 : x &&& m ≤ x := Nat.and_le_left
  have := u64_wrap (k := (x / k &&& m) + (x &&& m)) (by omega)
  rw [← this]; simp
theorem qb_nat {x : Nat} (hx : x < 1000000000) : qb x = ((pc3 x : Nat) : Int) := by
  unfold qb
  have h1 : ((x : Int) / 16 + x) = ((x / 16 + x : Nat) : Int) := by simp
  rw [h1, u64_wrap (by omega)]
  exact u64_and (b := M2) (by omega) (by decide)
theorem qc_nat {k x : Nat} (hx : x < 1000000000) : qc k x = ((pc4 k x : Nat) : Int) := by
  unfold qc
  have h1 : ((x : Int) + (x : Int) / (k : Int)) = ((x + x / k : Nat) : Int) := by simp
  have h2 : x / k ≤ x := Nat.div_le_self _ _
  rw [h1, u64_wrap (by omega)]; rfl
theorem pc1_bd {x B : Nat} (h : x ≤ B) : pc1 x ≤ 2 * B := by
  unfold pc1
  have h2 : x / 2 ≤ x := Nat.div_le_self _ _
  have h3 : x / 2 &&& M0 ≤ x / 2 := Nat.and_le_left
  have h4 : x &&& M0 ≤ x := Nat.and_le_left
  omega
theorem pc2_bd {x B : Nat} (h : x ≤ B) : pc2 x ≤ 2 * B := by
  unfold pc2
  have h2 : x / 4 ≤ x := Nat.div_le_self _ _
  have h3 : x / 4 &&& M1 ≤ x / 4 := Nat.and_le_left
  have h4 : x &&& M1 ≤ x := Nat.and_le_left
  omega
theorem pc3_bd {x B : Nat} (h : x ≤ B) : pc3 x ≤ 2 * B := by
  unfold pc3
  have h2 : x / 16 ≤ x := Nat.div_le_self _ _
  have h3 : (x / 16 + x) &&& M2 ≤ x / 16 + x := Nat.and_le_left
  omega
theorem pc4_bd {k x B : Nat} (h : x ≤ B) : pc4 k x ≤ 2 * B := by
  unfold pc4
  have h2 : x / k ≤ x := Nat.div_le_self _ _
  omega
theorem chain {n : Nat} (h : n < 65536) :
    qc 4294967296 (qc 65536 (qc 256 (qb (qa 4 3689348814741910323 (qa 2 6148914691236517205 (n : Int)))))) = ((pc4 4294967296 (pc4 65536 (pc4 256 (pc3 (pc2 (pc1 n))))) : Nat) : Int) ∧ pc4 4294967296 (pc4 65536 (pc4 256 (pc3 (pc2 (pc1 n))))) < 100000000 := by
  have b1 := pc1_bd (x := n) (B := 65536) (by omega)
  have b2 := pc2_bd b1
  have b3 := pc3_bd b2
  have b4 := pc4_bd (k := 256) b3
  have b5 := pc4_bd (k := 65536) b4
  have b6 := pc4_bd (k := 4294967296) b5
  refine ⟨?_, by omega⟩
  have e1 : qa 2 6148914691236517205 (n : Int) = ((pc1 n : Nat) : Int) := qa_nat (k := 2) (m := M0) (by omega) (by decide)
  have e2 : qa 4 3689348814741910323 ((pc1 n : Nat) : Int) = ((pc2 (pc1 n) : Nat) : Int) := qa_nat (k := 4) (m := M1) (by omega) (by decide)
  have e4 : qc 256 ((pc3 (pc2 (pc1 n)) : Nat) : Int) = _ := qc_nat (k := 256) (by omega)
  have e5 : qc 65536 ((pc4 256 (pc3 (pc2 (pc1 n))) : Nat) : Int) = _ := qc_nat (k := 65536) (by omega)
  have e6 : qc 4294967296 ((pc4 65536 (pc4 256 (pc3 (pc2 (pc1 n)))) : Nat) : Int) = _ := qc_nat (k := 4294967296) (by omega)
  rw [e1, e2, qb_nat (by omega), e4, e5, e6]

set_option maxHeartbeats 1000000 in
theorem ones64 (n : Nat) (w : World) (h : n < 65536) :
    Calls Try.prog 140 #[.int .u64 n] w fun e w' => e = .returned (.int .i64 ((bitsTo n 49).length : Nat)) ∧ w = w' := by
  obtain ⟨hc, hb⟩ := chain h
  have hp := popAll_eq h
  have HC := Lib.hid hc
  have HP := Lib.hid hp
  clear hp hc
  go_enter Try.func140, Try.ntmps140
  go_wp2
  go_ret
  refine ⟨ret_int ?_, rfl⟩
  show bits .and .i64 (wrap64 (qc 4294967296 (qc 65536 (qc 256 (qb (qa 4 3689348814741910323 (qa 2 6148914691236517205 (n : Int)))))))) 127 = _
  rw [HC.out, IntWalk.wrap64_in _ ⟨by omega, by omega⟩, ← HP.out]
  exact nat_and (b := 127) (by omega) (by decide)
set_option maxHeartbeats 1000000 in
theorem ones (n : Nat) (w : World) (h : n < 65536) :
    Calls Try.prog 124 #[.int .u64 n] w fun e w' => e = .returned (.int .i64 ((bitsTo n 49).length : Nat)) ∧ w = w' := by
  go_enter Try.func124, Try.ntmps124
  go_wp2_with (go_at_call 140; refine (ones64 n _ h).mono ?_; rintro e w' ⟨rfl, rfl⟩)
  go_ret
  exact ⟨rfl, rfl⟩
set_option maxHeartbeats 1000000 in
theorem impl_pegsIn (n : Nat) (w : World) (h : n < 65536) :
    Calls Try.prog 92 #[.int .i64 n] w fun e w' => e = .returned (.int .i64 ((bitsTo n 49).length : Nat)) ∧ w = w' := by
  go_enter Try.func92, Try.ntmps92
  go_wp2_with (go_at_call 124; refine (ones n _ h).mono ?_; rintro e w' ⟨rfl, rfl⟩)
  go_ret
  exact ⟨rfl, rfl⟩
set_option maxHeartbeats 1000000 in
theorem spec_CountPegs (W H X p : Int) (w : World) (hp : p ≤ 9223372036854775807) (h2 : positionOk W H X p = true) :
    Calls Try.prog 36 #[.agg #[.int .i64 W, .int .i64 H, .int .i64 X], .int .i64 p] w fun e w' => e = .returned (.int .i64 ((bitsTo p.toNat 49).length : Nat)) ∧ Below w.heap.size w w' := by
  have p0 := (positionOk_facts h2).p0
  go_enter Try.func36, Try.ntmps36
  go_wp2_with fail
  refine (calls_is (spec_PositionOk _ _ _ _ _ hp) h2).mono ?_
  rintro e w1 ⟨rfl, hb1⟩
  obtain ⟨hc1, hf1, hs1⟩ := bcell3 hb1
  have hz1 := hb1.size
  (try simp at hz1)
  go_wp2_with fail
  refine (spec_l02List _ _ p0 hp).mono ?_
  rintro e w2 ⟨A2, c2, rfl, hL, hb2⟩
  go_wp2
  go_ret
  exact ⟨rfl, by (repeat (first | exact Below.refl _ _ | assumption | refine below_step ?_ (by assumption) | refine below_alloc ?_ _ | refine below_drewN ?_ _ | refine Below.drew ?_ | refine Below.setCell ?_ (by first | (simp; done) | omega | (simp; omega)) _))⟩
theorem seen_small {W H X p q : Int} {back : Bool} (h : seenHas (seenB W H X back p) q = true) : positionOk W H X q = true ∧ 0 ≤ q ∧ q ≤ 65535 ∧ positionOk W H X p = true ∧ 0 ≤ p ∧ p ≤ 65535 := by
  obtain ⟨h1, h2, h3⟩ := seen_ok h
  obtain ⟨h4, _, h6⟩ := small_cells h3
  have h7 := board_lt h4
  have h8 := positionOk_facts h1
  have h9 := positionOk_facts h2
  have e1 := h8.le
  have e2 := h9.le
  exact ⟨h1, h8.p0, by omega, h2, h9.p0, by omega⟩
def pops (p : Int) : Int := ((bitsTo p.toNat 49).length : Nat)
theorem pops_bd (p : Int) : 0 ≤ pops p ∧ pops p ≤ 49 := by unfold pops; have := bitsTo_le p.toNat 49; omega
def jumpsB (W H X p q : Int) : Int := if canReach W H X p q = true then pops p - pops q else -1
theorem int_nat {p : Int} (h : 0 ≤ p) : ((p.toNat : Nat) : Int) = p := by omega
set_option maxHeartbeats 2000000 in
theorem impl_JumpsBetween (W H X p q : Int) (w : World) (hp : p ≤ 9223372036854775807) (hq : q ≤ 9223372036854775807) :
    Calls Try.prog 55 #[.agg #[.int .i64 W, .int .i64 H, .int .i64 X], .int .i64 p, .int .i64 q] w fun e w' => e = .returned (.int .i64 (jumpsB W H X p q)) ∧ Below w.heap.size w w' := by
  cases h1 : canReach W H X p q
  · go_enter Try.func55, Try.ntmps55
    go_wp2_with fail
    refine (calls_is (impl_CanReach _ _ _ _ _ _ hp hq) h1).mono ?_
    rintro e w1 ⟨rfl, hb1⟩
    obtain ⟨hc1, hf1, hs1⟩ := bcell3 hb1
    have hz1 := hb1.size
    (try simp at hz1)
    go_wp2
    go_ret
    exact ⟨ret_int (by simp [jumpsB, h1]), by (repeat (first | exact Below.refl _ _ | assumption | refine below_step ?_ (by assumption) | refine below_alloc ?_ _ | refine below_drewN ?_ _ | refine Below.drew ?_ | refine Below.setCell ?_ (by first | (simp; done) | omega | (simp; omega)) _))⟩
  have e : jumpsB W H X p q = pops p - pops q := by simp [jumpsB, h1]
  rw [e]
  clear e
  obtain ⟨y1, y2, y3, y4, y5, y6⟩ := seen_small h1
  have b1 := pops_bd p
  have b2 := pops_bd q
  obtain ⟨m, rfl⟩ := Int.eq_ofNat_of_zero_le y5
  obtain ⟨n, rfl⟩ := Int.eq_ofNat_of_zero_le y2
  have c1 := impl_pegsIn m
  have c2 := impl_pegsIn n
  go_enter Try.func55, Try.ntmps55
  go_wp2_with fail
  refine (calls_is (impl_CanReach _ _ _ _ _ _ hp hq) h1).mono ?_
  rintro e w1 ⟨rfl, hb1⟩
  obtain ⟨hc1, hf1, hs1⟩ := bcell3 hb1
  have hz1 := hb1.size
  (try simp at hz1)
  go_wp2_with fail
  refine (impl_pegsIn _ _ (by omega)).mono ?_
  rintro e _ ⟨rfl, rfl⟩
  go_wp2_with fail
  refine (impl_pegsIn _ _ (by omega)).mono ?_
  rintro e _ ⟨rfl, rfl⟩
  simp only [pops, Int.toNat_natCast] at b1 b2
  go_wp2
  go_ret
  exact ⟨rfl, by (repeat (first | exact Below.refl _ _ | assumption | refine below_step ?_ (by assumption) | refine below_alloc ?_ _ | refine below_drewN ?_ _ | refine Below.drew ?_ | refine Below.setCell ?_ (by first | (simp; done) | omega | (simp; omega)) _))⟩
end Go.Proofs.Ytianfakgojmnpaa
