/- Drawn positions of a sound board. -/
import Derived.Test.YtianfakgojmnpaaDrawB
import Derived.Test.YtianfakgojmnpaaSpread
namespace Go.Proofs.Ytianfakgojmnpaa
open Go.RowKit

theorem own_notgP {w : World} {lo e s n g : Nat} {v : Value} {c : List Value} (h : w.ownsRow lo e s v n c) (hg : g < lo) : v.ownBlock = none ∨ v.ownBlock ≠ some g := by
  cases hv : v.ownBlock with
  | none => exact .inl rfl
  | some k => exact .inr fun e => by injection e with e; have := (h.lt k hv).1; omega
theorem pos_or {W H X : Int} {m h : Nat} (hm : m &&& X.toNat = m) (hh : h ∈ holes W H X) : (m ||| 2 ^ h) &&& X.toNat = m ||| 2 ^ h := by
  have := (holes_hole hh).1
  obtain ⟨_, _, b3⟩ := hole_bit this
  exact or_sub hm (pow_sub b3)
theorem sub_pow {n j : Nat} (h : n.testBit j = true) : n - 2 ^ j = n ^^^ 2 ^ j := sub_eq_xor (pow_sub h)
theorem pos_minus {W H X p : Int} {j : Nat} (hp : positionOk W H X p = true) (hb : p.toNat.testBit j = true) : positionOk W H X (p - 2 ^ j) = true := by
  have F := positionOk_facts hp
  have hge := Nat.ge_two_pow_of_testBit hb
  have e : ((2 ^ j : Nat) : Int) = (2 : Int) ^ j := by simp
  have h0 := F.p0
  have e2 : (p - 2 ^ j).toNat = p.toNat ^^^ 2 ^ j := by rw [← sub_pow hb]; omega
  refine positionOk_mk F.b (by omega) ?_
  rw [e2]
  apply Nat.eq_of_testBit_eq; intro i
  have hs : (p.toNat &&& X.toNat).testBit i = p.toNat.testBit i := by rw [F.sub]
  rw [Nat.testBit_and] at hs
  rw [Nat.testBit_and, Nat.testBit_xor, Nat.testBit_two_pow]
  by_cases e3 : j = i
  · subst e3; simp [hb]
  · simp [e3]; simpa using hs
set_option maxHeartbeats 4000000 in
theorem spec_l04Some (g B : Nat) (W H X : Int) (w : World) (hc : CurAt B w g) (hok : boardOk W H X = true) :
    Calls Try.prog 116 #[.pointer (some ⟨g, 0, none⟩), .agg #[.int .i64 W, .int .i64 H, .int .i64 X]] w fun e w' => ∃ p : Int, e = .returned (.int .i64 p) ∧ positionOk W H X p = true ∧ CurAt B w' g ∧ w.grownBy w' (some g) := by
  have hg := hc.1
  have F := boardOk_facts hok
  have x1 := F.x1
  have x3 := F.x3
  go_enter Try.func116, Try.ntmps116
  go_wp2_with fail
  replace hc := hc.below (below_one w (.cells #[.int .i64 W, .int .i64 H, .int .i64 X] 44))
  have hgr : w.grownBy (w.alloc (.cells #[.int .i64 W, .int .i64 H, .int .i64 X] 44)) (some g) := gr_alloc (gr_refl _ _) _
  have hgl : g < (w.alloc (.cells #[.int .i64 W, .int .i64 H, .int .i64 X] 44)).heap.size := by simp; omega
  refine (spec_HolesOf _ _ _ _).mono ?_
  rintro e w1 ⟨A, cap, rfl, ho, hb1⟩
  replace hc := hc.below hb1
  replace hgr := gr_below hgr hb1
  generalize (w.alloc (.cells #[.int .i64 W, .int .i64 H, .int .i64 X] 44)).heap.size = LO at ho hgl
  clear hb1
  have hnl := holes_small W H X
  go_wp2
  go_loopw [5, 7] (fun s5 s7 wr => ∃ (m k : Nat), s5 = .int .i64 m ∧ s7 = .int .i64 k ∧ k ≤ (holes W H X).length ∧ m &&& X.toNat = m ∧ CurAt B wr g ∧ w.grownBy wr (some g) ∧ wr.ownsRow LO 3 1 (.slice A (holes W H X).length cap) (holes W H X).length (ints (toInts (holes W H X)))) (fun _ s7 _ => (holes W H X).length - (intOf s7).toNat)
  case atStart => exact ⟨0, 0, rfl, rfl, Nat.zero_le _, by simp, hc, hgr, ho⟩
  case round =>
    clear hc hgr ho
    obtain ⟨m, k, rfl, rfl, hk, hm, hc, hgr, ho⟩ := hrel
    have HM := Lib.hid hm
    have hmX : m ≤ X.toNat := by rw [← hm]; exact Nat.and_le_right
    clear hm
    by_cases hkl : k < (holes W H X).length
    · obtain ⟨h, hh⟩ : ∃ h, (holes W H X)[k]? = some h := ⟨_, List.getElem?_eq_getElem hkl⟩
      have hmem := List.mem_of_getElem? hh
      obtain ⟨q1, q2, q3⟩ := hole_bit (holes_hole hmem).1
      have m2 := F.m2
      go_wp2_with fail
      refine (spec_l01Below g B _ _ hc (by omega) (by omega)).mono ?_
      rintro e w2 ⟨x, rfl, x0, x1', hc2, hg2⟩
      have ho2 := ho.kept hg2 (own_notgP ho hgl)
      have hgr2 := gr_trans hgr hg2
      clear hc hgr hg2
      obtain ⟨b, off, rfl, c1⟩ := (FAt_of_own ho2) k (h : Int) (by simp [toInts, hh])
      clear ho
      obtain ⟨p1, p2⟩ := pow_bd (n := h) (by omega)
      have hw : IntKind.i64.wrap (2 ^ h) = 2 ^ h := by rw [IntKind.wrap_i64]; omega
      have hor : bits .or .i64 (m : Int) (2 ^ h) = ((m ||| 2 ^ h : Nat) : Int) := by
        rw [bits_or (by omega) (by omega) (by omega) (by omega), pow_toNat, Int.toNat_natCast]
      have HP := Lib.hid (pos_or HM.out hmem)
      clear hh hmem q3
      by_cases hx : 0 < x
      · go_wp2
        go_roundw
        case rel => exact ⟨m ||| 2 ^ h, k + 1, rfl, by go_num, by omega, HP.out, hc2, hgr2, ho2⟩
        case measure => simp [intOf]; omega
      · go_wp2
        go_roundw
        case rel => exact ⟨m, k + 1, rfl, by go_num, by omega, HM.out, hc2, hgr2, ho2⟩
        case measure => simp [intOf]; omega
    · go_wp2
      go_ret
      exact ⟨m, rfl, positionOk_mk hok (by omega) (by rw [Int.toNat_natCast]; exact HM.out), hc, hgr⟩
end Go.Proofs.Ytianfakgojmnpaa
