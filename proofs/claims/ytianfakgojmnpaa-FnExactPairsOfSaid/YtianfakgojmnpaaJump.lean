/- Jumps on bits: contracts. -/
import Derived.Test.YtianfakgojmnpaaSpread
namespace Go.Proofs.Ytianfakgojmnpaa
open Go.RowKit

structure Small3 (f o t : Int) : Prop where
  f0 : 0 ≤ f
  f1 : f ≤ 48
  o0 : 0 ≤ o
  o1 : o ≤ 48
  t0 : 0 ≤ t
  t1 : t ≤ 48
  ap : apart3 (f, o, t)
theorem LineFacts.small {W H X f o t : Int} (h : LineFacts W H X (f, o, t)) : Small3 f o t := by
  have F : boardOk W H X = true := by have := h.f; simp only [hasHole, Bool.and_eq_true] at this; exact this.1.1
  have m := (boardOk_facts F).m2
  obtain ⟨a1, a2, _⟩ := hole_bit h.f
  obtain ⟨b1, b2, _⟩ := hole_bit h.o
  obtain ⟨c1, c2, _⟩ := hole_bit h.t
  simp only at a1 a2 b1 b2 c1 c2
  exact ⟨a1, by omega, b1, by omega, c1, by omega, h.apart⟩
theorem pow2_lt {k : Int} (h : k ≤ 48) : (2 : Nat) ^ k.toNat < 562949953421312 := by
  have : (2 : Nat) ^ k.toNat ≤ 2 ^ 48 := Nat.pow_le_pow_right (by decide) (by omega)
  omega
theorem pow2_int (k : Nat) : ((2 : Int) ^ k) = ((2 ^ k : Nat) : Int) := by simp
theorem wrap_pow {k : Int} (h : k ≤ 48) : wrap64 (2 ^ k.toNat) = 2 ^ k.toNat := by
  obtain ⟨h1, h2⟩ := pow_bd (n := k.toNat) (by omega)
  exact IntWalk.wrap64_in _ ⟨by omega, by omega⟩
theorem wrap_pow' {k : Int} (h : k ≤ 48) : IntKind.i64.wrap (2 ^ k.toNat) = 2 ^ k.toNat := by
  obtain ⟨h1, h2⟩ := pow_bd (n := k.toNat) (by omega)
  exact IntWalk.i64_in _ ⟨by omega, by omega⟩
theorem or_lt49 {a b : Nat} (h1 : a < 562949953421312) (h2 : b < 562949953421312) : a ||| b < 562949953421312 := Nat.or_lt_two_pow (n := 49) h1 h2
theorem xor_lt49 {a b : Nat} (h1 : a < 562949953421312) (h2 : b < 562949953421312) : a ^^^ b < 562949953421312 := Nat.xor_lt_two_pow (n := 49) h1 h2
theorem and_lt49 {a b : Nat} (h1 : a < 562949953421312) : a &&& b < 562949953421312 := Nat.lt_of_le_of_lt Nat.and_le_left h1
theorem nat_or {a b : Nat} (h1 : a < 562949953421312) (h2 : b < 562949953421312) : bits .or .i64 (a : Int) (b : Int) = ((a ||| b : Nat) : Int) := by
  rw [bits_or (by omega) (by omega) (by omega) (by omega)]; simp
theorem nat_xor {a b : Nat} (h1 : a < 562949953421312) (h2 : b < 562949953421312) : bits .xor .i64 (a : Int) (b : Int) = ((a ^^^ b : Nat) : Int) := by
  rw [bits_xor (by omega) (by omega) (by omega) (by omega)]; simp
theorem nat_and {a b : Nat} (h1 : a < 562949953421312) (h2 : b < 562949953421312) : bits .and .i64 (a : Int) (b : Int) = ((a &&& b : Nat) : Int) := by
  rw [bits_and (by omega) (by omega) (by omega) (by omega)]; simp
theorem nat_andNot {a b : Nat} (h1 : a < 562949953421312) (h2 : b < 562949953421312) : bits .andNot .i64 (a : Int) (b : Int) = ((a ^^^ (a &&& b) : Nat) : Int) := by
  rw [bits_andNot (by omega) (by omega) (by omega) (by omega)]; simp
theorem canGo_bits {p : Nat} {f o t : Int} (h : Small3 f o t) : canGo false p (f, o, t) = (p.testBit f.toNat && p.testBit o.toNat && !p.testBit t.toNat) := by
  obtain ⟨h1, h2, h3⟩ := h.ap
  simp only at h1 h2 h3
  rw [Bool.eq_iff_iff]
  simp only [canGo, lineBits, lineWant, decide_eq_true_eq, Bool.false_eq_true, if_false, Bool.and_eq_true, Bool.not_eq_true']
  constructor
  · intro e
    have g : ∀ i, (p.testBit i && (2 ^ f.toNat ||| 2 ^ o.toNat ||| 2 ^ t.toNat).testBit i) = (2 ^ f.toNat ||| 2 ^ o.toNat).testBit i := fun i => by rw [← Nat.testBit_and, e]
    have g1 := g f.toNat
    have g2 := g o.toNat
    have g3 := g t.toNat
    simp only [Nat.testBit_or, Nat.testBit_two_pow] at g1 g2 g3
    simp [h1, h2, h3] at g1 g2 g3
    exact ⟨⟨g1, g2⟩, g3⟩
  · rintro ⟨⟨e1, e2⟩, e3⟩
    apply Nat.eq_of_testBit_eq; intro i
    simp only [Nat.testBit_and, Nat.testBit_or, Nat.testBit_two_pow]
    by_cases i1 : f.toNat = i
    · subst i1; simp [e1]
    · by_cases i2 : o.toNat = i
      · subst i2; simp [e2]
      · by_cases i3 : t.toNat = i
        · subst i3; simp [e3, i1, i2]
        · simp [i1, i2, i3]
theorem canUn_bits {p : Nat} {f o t : Int} (h : Small3 f o t) : canGo true p (f, o, t) = (!p.testBit f.toNat && !p.testBit o.toNat && p.testBit t.toNat) := by
  obtain ⟨h1, h2, h3⟩ := h.ap
  simp only at h1 h2 h3
  rw [Bool.eq_iff_iff]
  simp only [canGo, lineBits, lineWant, decide_eq_true_eq, if_true, Bool.and_eq_true, Bool.not_eq_true']
  constructor
  · intro e
    have g : ∀ i, (p.testBit i && (2 ^ f.toNat ||| 2 ^ o.toNat ||| 2 ^ t.toNat).testBit i) = (2 ^ t.toNat).testBit i := fun i => by rw [← Nat.testBit_and, e]
    have g1 := g f.toNat
    have g2 := g o.toNat
    have g3 := g t.toNat
    simp only [Nat.testBit_or, Nat.testBit_two_pow] at g1 g2 g3
    simp [h1, h2, h3] at g1 g2 g3
    have e1 : (t.toNat = f.toNat) = False := by simp; omega
    have e2 : (t.toNat = o.toNat) = False := by simp; omega
    simp [e1, e2] at g1 g2
    exact ⟨⟨g1, g2⟩, g3⟩
  · rintro ⟨⟨e1, e2⟩, e3⟩
    apply Nat.eq_of_testBit_eq; intro i
    simp only [Nat.testBit_and, Nat.testBit_or, Nat.testBit_two_pow]
    by_cases i1 : f.toNat = i
    · subst i1; simp [e1]; omega
    · by_cases i2 : o.toNat = i
      · subst i2; simp [e2]; omega
      · by_cases i3 : t.toNat = i
        · subst i3; simp [e3]
        · simp [i1, i2, i3]
theorem go_val {p : Nat} {f o t : Int} (h : Small3 f o t) (hp : p < 562949953421312) (hc : canGo false p (f, o, t) = true) :
    bits .or .i64 (bits .andNot .i64 (bits .andNot .i64 (p : Int) (2 ^ f.toNat)) (2 ^ o.toNat)) (2 ^ t.toNat) = ((goTo p (f, o, t) : Nat) : Int) := by
  have a1 := pow2_lt h.f1
  have a2 := pow2_lt h.o1
  have a3 := pow2_lt h.t1
  rw [canGo_bits h] at hc
  simp only [Bool.and_eq_true, Bool.not_eq_true'] at hc
  obtain ⟨⟨e1, e2⟩, e3⟩ := hc
  rw [pow2_int, pow2_int, pow2_int, nat_andNot hp a1, nat_andNot (xor_lt49 hp (and_lt49 hp)) a2, nat_or (xor_lt49 (xor_lt49 hp (and_lt49 hp)) (and_lt49 (xor_lt49 hp (and_lt49 hp)))) a3]
  congr 1
  unfold goTo lineBits
  apply Nat.eq_of_testBit_eq; intro i
  simp only [Nat.testBit_and, Nat.testBit_or, Nat.testBit_xor, Nat.testBit_two_pow]
  by_cases i1 : f.toNat = i
  · subst i1
    by_cases i3 : t.toNat = f.toNat
    · rw [i3] at e3; rw [e3] at e1; cases e1
    · simp [e1, i3]
  · by_cases i2 : o.toNat = i
    · subst i2
      by_cases i3 : t.toNat = o.toNat
      · rw [i3] at e3; rw [e3] at e2; cases e2
      · simp [e2, i3]
    · by_cases i3 : t.toNat = i
      · subst i3; simp [e3]
      · simp [i1, i2, i3]
theorem un_val {p : Nat} {f o t : Int} (h : Small3 f o t) (hp : p < 562949953421312) (hc : canGo true p (f, o, t) = true) :
    bits .or .i64 (bits .or .i64 (bits .andNot .i64 (p : Int) (2 ^ t.toNat)) (2 ^ f.toNat)) (2 ^ o.toNat) = ((goTo p (f, o, t) : Nat) : Int) := by
  have a1 := pow2_lt h.f1
  have a2 := pow2_lt h.o1
  have a3 := pow2_lt h.t1
  rw [canUn_bits h] at hc
  simp only [Bool.and_eq_true, Bool.not_eq_true'] at hc
  obtain ⟨⟨e1, e2⟩, e3⟩ := hc
  rw [pow2_int, pow2_int, pow2_int, nat_andNot hp a3, nat_or (xor_lt49 hp (and_lt49 hp)) a1, nat_or (or_lt49 (xor_lt49 hp (and_lt49 hp)) a1) a2]
  congr 1
  unfold goTo lineBits
  apply Nat.eq_of_testBit_eq; intro i
  simp only [Nat.testBit_and, Nat.testBit_or, Nat.testBit_xor, Nat.testBit_two_pow]
  by_cases i1 : f.toNat = i
  · subst i1
    by_cases i3 : t.toNat = f.toNat
    · rw [i3] at e3; rw [e3] at e1; cases e1
    · simp [e1]
  · by_cases i2 : o.toNat = i
    · subst i2
      by_cases i3 : t.toNat = o.toNat
      · rw [i3] at e3; rw [e3] at e2; cases e2
      · simp [e2]
    · by_cases i3 : t.toNat = i
      · subst i3; simp [e3, i1, i2]
      · simp [i1, i2, i3]
theorem goTo_lt {p : Nat} {f o t : Int} (h : Small3 f o t) (hp : p < 562949953421312) : goTo p (f, o, t) < 562949953421312 :=
  xor_lt49 hp (or_lt49 (or_lt49 (pow2_lt h.f1) (pow2_lt h.o1)) (pow2_lt h.t1))
theorem bits_line {f o t : Int} (h : Small3 f o t) : bits .or .i64 (bits .or .i64 (2 ^ f.toNat) (2 ^ o.toNat)) (2 ^ t.toNat) = ((lineBits (f, o, t) : Nat) : Int) := by
  have a1 := pow2_lt h.f1
  have a2 := pow2_lt h.o1
  have a3 := pow2_lt h.t1
  rw [pow2_int, pow2_int, pow2_int, nat_or a1 a2, nat_or (or_lt49 a1 a2) a3]; rfl
theorem bits_want {f o t : Int} (h : Small3 f o t) : bits .or .i64 (2 ^ f.toNat) (2 ^ o.toNat) = ((lineWant false (f, o, t) : Nat) : Int) := by
  have a1 := pow2_lt h.f1
  have a2 := pow2_lt h.o1
  rw [pow2_int, pow2_int, nat_or a1 a2]; rfl
theorem lineBits_lt {f o t : Int} (h : Small3 f o t) : lineBits (f, o, t) < 562949953421312 := or_lt49 (or_lt49 (pow2_lt h.f1) (pow2_lt h.o1)) (pow2_lt h.t1)
theorem bitI_of (p : Nat) (k : Int) : bitI (p : Int) k = p.testBit k.toNat := by simp [bitI]

set_option maxHeartbeats 2000000 in
theorem impl_jumpFrom (p : Nat) (f o t : Int) (w : World) (hs : Small3 f o t) (hp : p < 562949953421312) :
    Calls Try.prog 107 #[.int .i64 p, .agg #[.int .i64 f, .int .i64 o, .int .i64 t]] w fun e w' => e = .returned (.tuple #[.int .i64 ((if canGo false p (f, o, t) = true then goTo p (f, o, t) else p : Nat) : Int), .bool (canGo false p (f, o, t))]) ∧ Below w.heap.size w w' := by
  have HS := Lib.hid hs
  obtain ⟨f0, f1, o0, o1, t0, t1, _⟩ := hs
  have hq := canGo_bits (p := p) HS.out
  cases hf : bitI (p : Int) f
  case false =>
    have hv : canGo false p (f, o, t) = false := by rw [hq]; simp [← bitI_of, hf]
    rw [hv]
    clear hq hv
    go_enter Try.func107, Try.ntmps107
    go_wp2_with fail
    refine (calls_is (impl_hasBit _ _ _ (by omega) (by omega) (by omega) (by omega)) hf).mono ?_
    rintro e _ ⟨rfl, rfl⟩
    go_wp2
    exact bodyPost_ret (v := .tuple #[.int .i64 (p : Int), .bool false]) (by simp [results, Try.results107, go_sem]) rfl ⟨rfl, by (repeat (first | exact Below.refl _ _ | assumption | refine below_step ?_ (by assumption) | refine below_alloc ?_ _ | refine below_drewN ?_ _ | refine Below.drew ?_ | refine Below.setCell ?_ (by first | (simp; done) | omega | (simp; omega)) _))⟩
  case true =>
    cases ho : bitI (p : Int) o
    case false =>
      have hv : canGo false p (f, o, t) = false := by rw [hq]; simp [← bitI_of, hf, ho]
      rw [hv]
      clear hq hv
      go_enter Try.func107, Try.ntmps107
      go_wp2_with fail
      refine (calls_is (impl_hasBit _ _ _ (by omega) (by omega) (by omega) (by omega)) hf).mono ?_
      rintro e _ ⟨rfl, rfl⟩
      go_wp2_with fail
      refine (calls_is (impl_hasBit _ _ _ (by omega) (by omega) (by omega) (by omega)) ho).mono ?_
      rintro e _ ⟨rfl, rfl⟩
      go_wp2
      exact bodyPost_ret (v := .tuple #[.int .i64 (p : Int), .bool false]) (by simp [results, Try.results107, go_sem]) rfl ⟨rfl, by (repeat (first | exact Below.refl _ _ | assumption | refine below_step ?_ (by assumption) | refine below_alloc ?_ _ | refine below_drewN ?_ _ | refine Below.drew ?_ | refine Below.setCell ?_ (by first | (simp; done) | omega | (simp; omega)) _))⟩
    case true =>
      cases ht : bitI (p : Int) t
      case true =>
        have hv : canGo false p (f, o, t) = false := by rw [hq]; simp [← bitI_of, hf, ho, ht]
        rw [hv]
        clear hq hv
        go_enter Try.func107, Try.ntmps107
        go_wp2_with fail
        refine (calls_is (impl_hasBit _ _ _ (by omega) (by omega) (by omega) (by omega)) hf).mono ?_
        rintro e _ ⟨rfl, rfl⟩
        go_wp2_with fail
        refine (calls_is (impl_hasBit _ _ _ (by omega) (by omega) (by omega) (by omega)) ho).mono ?_
        rintro e _ ⟨rfl, rfl⟩
        go_wp2_with fail
        refine (calls_is (impl_hasBit _ _ _ (by omega) (by omega) (by omega) (by omega)) ht).mono ?_
        rintro e _ ⟨rfl, rfl⟩
        go_wp2
        exact bodyPost_ret (v := .tuple #[.int .i64 (p : Int), .bool false]) (by simp [results, Try.results107, go_sem]) rfl ⟨rfl, by (repeat (first | exact Below.refl _ _ | assumption | refine below_step ?_ (by assumption) | refine below_alloc ?_ _ | refine below_drewN ?_ _ | refine Below.drew ?_ | refine Below.setCell ?_ (by first | (simp; done) | omega | (simp; omega)) _))⟩
      case false =>
        have hv : canGo false p (f, o, t) = true := by rw [hq]; simp [← bitI_of, hf, ho, ht]
        rw [hv]
        have HV := Lib.hid (go_val HS.out hp hv)
        clear hq hv
        go_enter Try.func107, Try.ntmps107
        go_wp2_with fail
        refine (calls_is (impl_hasBit _ _ _ (by omega) (by omega) (by omega) (by omega)) hf).mono ?_
        rintro e _ ⟨rfl, rfl⟩
        go_wp2_with fail
        refine (calls_is (impl_hasBit _ _ _ (by omega) (by omega) (by omega) (by omega)) ho).mono ?_
        rintro e _ ⟨rfl, rfl⟩
        go_wp2_with fail
        refine (calls_is (impl_hasBit _ _ _ (by omega) (by omega) (by omega) (by omega)) ht).mono ?_
        rintro e _ ⟨rfl, rfl⟩
        go_wp2_with fail
        go_quiet (fail)
        go_wp2
        exact bodyPost_ret (v := .tuple #[.int .i64 ((goTo p (f, o, t) : Nat) : Int), .bool true]) (by simp [results, Try.results107, go_sem, wrap_pow f1, wrap_pow o1, wrap_pow t1, HV.out]) rfl ⟨rfl, by (repeat (first | exact Below.refl _ _ | assumption | refine below_step ?_ (by assumption) | refine below_alloc ?_ _ | refine below_drewN ?_ _ | refine Below.drew ?_ | refine Below.setCell ?_ (by first | (simp; done) | omega | (simp; omega)) _))⟩
set_option maxHeartbeats 2000000 in
theorem impl_undoFrom (p : Nat) (f o t : Int) (w : World) (hs : Small3 f o t) (hp : p < 562949953421312) :
    Calls Try.prog 129 #[.int .i64 p, .agg #[.int .i64 f, .int .i64 o, .int .i64 t]] w fun e w' => e = .returned (.tuple #[.int .i64 ((if canGo true p (f, o, t) = true then goTo p (f, o, t) else p : Nat) : Int), .bool (canGo true p (f, o, t))]) ∧ Below w.heap.size w w' := by
  have HS := Lib.hid hs
  obtain ⟨f0, f1, o0, o1, t0, t1, _⟩ := hs
  have hq := canUn_bits (p := p) HS.out
  cases hf : bitI (p : Int) f
  case true =>
    have hv : canGo true p (f, o, t) = false := by rw [hq]; simp [← bitI_of, hf]
    rw [hv]
    clear hq hv
    go_enter Try.func129, Try.ntmps129
    go_wp2_with fail
    refine (calls_is (impl_hasBit _ _ _ (by omega) (by omega) (by omega) (by omega)) hf).mono ?_
    rintro e _ ⟨rfl, rfl⟩
    go_wp2
    exact bodyPost_ret (v := .tuple #[.int .i64 (p : Int), .bool false]) (by simp [results, Try.results129, go_sem]) rfl ⟨rfl, by (repeat (first | exact Below.refl _ _ | assumption | refine below_step ?_ (by assumption) | refine below_alloc ?_ _ | refine below_drewN ?_ _ | refine Below.drew ?_ | refine Below.setCell ?_ (by first | (simp; done) | omega | (simp; omega)) _))⟩
  case false =>
    cases ho : bitI (p : Int) o
    case true =>
      have hv : canGo true p (f, o, t) = false := by rw [hq]; simp [← bitI_of, hf, ho]
      rw [hv]
      clear hq hv
      go_enter Try.func129, Try.ntmps129
      go_wp2_with fail
      refine (calls_is (impl_hasBit _ _ _ (by omega) (by omega) (by omega) (by omega)) hf).mono ?_
      rintro e _ ⟨rfl, rfl⟩
      go_wp2_with fail
      refine (calls_is (impl_hasBit _ _ _ (by omega) (by omega) (by omega) (by omega)) ho).mono ?_
      rintro e _ ⟨rfl, rfl⟩
      go_wp2
      exact bodyPost_ret (v := .tuple #[.int .i64 (p : Int), .bool false]) (by simp [results, Try.results129, go_sem]) rfl ⟨rfl, by (repeat (first | exact Below.refl _ _ | assumption | refine below_step ?_ (by assumption) | refine below_alloc ?_ _ | refine below_drewN ?_ _ | refine Below.drew ?_ | refine Below.setCell ?_ (by first | (simp; done) | omega | (simp; omega)) _))⟩
    case false =>
      cases ht : bitI (p : Int) t
      case false =>
        have hv : canGo true p (f, o, t) = false := by rw [hq]; simp [← bitI_of, hf, ho, ht]
        rw [hv]
        clear hq hv
        go_enter Try.func129, Try.ntmps129
        go_wp2_with fail
        refine (calls_is (impl_hasBit _ _ _ (by omega) (by omega) (by omega) (by omega)) hf).mono ?_
        rintro e _ ⟨rfl, rfl⟩
        go_wp2_with fail
        refine (calls_is (impl_hasBit _ _ _ (by omega) (by omega) (by omega) (by omega)) ho).mono ?_
        rintro e _ ⟨rfl, rfl⟩
        go_wp2_with fail
        refine (calls_is (impl_hasBit _ _ _ (by omega) (by omega) (by omega) (by omega)) ht).mono ?_
        rintro e _ ⟨rfl, rfl⟩
        go_wp2
        exact bodyPost_ret (v := .tuple #[.int .i64 (p : Int), .bool false]) (by simp [results, Try.results129, go_sem]) rfl ⟨rfl, by (repeat (first | exact Below.refl _ _ | assumption | refine below_step ?_ (by assumption) | refine below_alloc ?_ _ | refine below_drewN ?_ _ | refine Below.drew ?_ | refine Below.setCell ?_ (by first | (simp; done) | omega | (simp; omega)) _))⟩
      case true =>
        have hv : canGo true p (f, o, t) = true := by rw [hq]; simp [← bitI_of, hf, ho, ht]
        rw [hv]
        have HV := Lib.hid (un_val HS.out hp hv)
        clear hq hv
        go_enter Try.func129, Try.ntmps129
        go_wp2_with fail
        refine (calls_is (impl_hasBit _ _ _ (by omega) (by omega) (by omega) (by omega)) hf).mono ?_
        rintro e _ ⟨rfl, rfl⟩
        go_wp2_with fail
        refine (calls_is (impl_hasBit _ _ _ (by omega) (by omega) (by omega) (by omega)) ho).mono ?_
        rintro e _ ⟨rfl, rfl⟩
        go_wp2_with fail
        refine (calls_is (impl_hasBit _ _ _ (by omega) (by omega) (by omega) (by omega)) ht).mono ?_
        rintro e _ ⟨rfl, rfl⟩
        go_wp2_with fail
        go_quiet (fail)
        go_wp2
        exact bodyPost_ret (v := .tuple #[.int .i64 ((goTo p (f, o, t) : Nat) : Int), .bool true]) (by simp [results, Try.results129, go_sem, wrap_pow f1, wrap_pow o1, wrap_pow t1, HV.out]) rfl ⟨rfl, by (repeat (first | exact Below.refl _ _ | assumption | refine below_step ?_ (by assumption) | refine below_alloc ?_ _ | refine below_drewN ?_ _ | refine Below.drew ?_ | refine Below.setCell ?_ (by first | (simp; done) | omega | (simp; omega)) _))⟩
set_option maxHeartbeats 1000000 in
theorem spec_l05Bits (f o t : Int) (w : World) (hs : Small3 f o t) :
    Calls Try.prog 95 #[.agg #[.int .i64 f, .int .i64 o, .int .i64 t]] w fun e w' => e = .returned (.int .i64 (lineBits (f, o, t) : Nat)) ∧ Below w.heap.size w w' := by
  have HV := Lib.hid (bits_line hs)
  obtain ⟨f0, f1, o0, o1, t0, t1, _⟩ := hs
  go_enter Try.func95, Try.ntmps95
  go_wp2_with fail
  go_quiet (fail)
  go_wp2
  go_ret
  exact ⟨ret_int (by rw [wrap_pow f1, wrap_pow o1, wrap_pow t1]; exact HV.out), by (repeat (first | exact Below.refl _ _ | assumption | refine below_step ?_ (by assumption) | refine below_alloc ?_ _ | refine below_drewN ?_ _ | refine Below.drew ?_ | refine Below.setCell ?_ (by first | (simp; done) | omega | (simp; omega)) _))⟩
end Go.Proofs.Ytianfakgojmnpaa
