/- Sums of weights: contracts. -/
import Derived.Test.YtianfakgojmnpaaWeightC
import Derived.Test.YtianfakgojmnpaaHoles
namespace Go.Proofs.Ytianfakgojmnpaa
open Go.RowKit

theorem wsum_yes {ws : List Int} {m k : Nat} {z : Int} (h : m.testBit k = true) (hz : ws[k]? = some z) : wsum ws (bitsTo m (k + 1)) = wsum ws (bitsTo m k) + z := by
  rw [bitsTo_yes h, wsum_snoc]; simp [List.getD, hz]
theorem wsum_no {ws : List Int} {m k : Nat} (h : m.testBit k = false) : wsum ws (bitsTo m (k + 1)) = wsum ws (bitsTo m k) := by rw [bitsTo_no h]

theorem weights_len {W H X : Int} {ws : List Int} (h : weightsOk W H X ws = true) : boardOk W H X = true ∧ ws.length = (W * H).toNat ∧ okW ws = true := by
  simp only [weightsOk, Bool.and_eq_true, beq_iff_eq] at h
  obtain ⟨⟨h1, h2⟩, h3⟩ := h
  exact ⟨h1, by omega, h3⟩

theorem bits_in {W H X p : Int} (hp : positionOk W H X p = true) {j : Nat} (h : p.toNat.testBit j = true) : (j : Int) < W * H := by
  have F := positionOk_facts hp
  have B := boardOk_facts F.b
  have h1 : X.toNat.testBit j = true := by
    have := congrArg (·.testBit j) F.sub
    simp only [Nat.testBit_and, h, Bool.true_and] at this
    exact this
  have h2 := Nat.ge_two_pow_of_testBit h1
  have h3 := B.x2
  have e : ((2 ^ (W * H).toNat : Nat) : Int) = 2 ^ (W * H).toNat := by simp
  by_cases hlt : j < (W * H).toNat
  · omega
  · have := pow_le_of (m := (W * H).toNat) (k := j) (by omega)
    have := B.x1
    omega

set_option maxHeartbeats 400000 in
theorem impl_SumOf_no1 (W H X : Int) (A : Option Addr) (cap : Nat) (ws : List Int) (p : Int) (w : World) (hA : FAt w A ws) (hn : ws.length ≤ 4294967296) (_hp : p ≤ 9223372036854775807) (h1 : weightsOk W H X ws = false) :
    Calls Try.prog 118 #[.agg #[.int .i64 W, .int .i64 H, .int .i64 X], .slice A ws.length cap, .int .i64 p] w fun e w' => e = .returned (.int .i64 (0)) ∧ Below w.heap.size w w' := by
  go_enter Try.func118, Try.ntmps118
  go_wp2_with fail
  refine (calls_is (impl_WeightsOk _ _ _ _ _ _ _ (hA.below (by (repeat (first | exact Below.refl _ _ | assumption | refine below_step ?_ (by assumption) | refine below_alloc ?_ _ | refine below_drewN ?_ _ | refine Below.drew ?_ | refine Below.setCell ?_ (by first | (simp; done) | omega | (simp; omega)) _)))) hn) h1).mono ?_
  rintro e w1 ⟨rfl, hb1⟩
  obtain ⟨hc1, hf1, hs1⟩ := bcell3 hb1
  have hz1 := hb1.size
  (try simp at hz1)
  go_wp2
  go_ret
  exact ⟨rfl, by (repeat (first | exact Below.refl _ _ | assumption | refine below_step ?_ (by assumption) | refine below_alloc ?_ _ | refine below_drewN ?_ _ | refine Below.drew ?_ | refine Below.setCell ?_ (by first | (simp; done) | omega | (simp; omega)) _))⟩

set_option maxHeartbeats 400000 in
theorem impl_SumOf_no2 (W H X : Int) (A : Option Addr) (cap : Nat) (ws : List Int) (p : Int) (w : World) (hA : FAt w A ws) (hn : ws.length ≤ 4294967296) (hp : p ≤ 9223372036854775807) (h1 : weightsOk W H X ws = true) (h2 : positionOk W H X p = false) :
    Calls Try.prog 118 #[.agg #[.int .i64 W, .int .i64 H, .int .i64 X], .slice A ws.length cap, .int .i64 p] w fun e w' => e = .returned (.int .i64 (0)) ∧ Below w.heap.size w w' := by
  go_enter Try.func118, Try.ntmps118
  go_wp2_with fail
  refine (calls_is (impl_WeightsOk _ _ _ _ _ _ _ (hA.below (by (repeat (first | exact Below.refl _ _ | assumption | refine below_step ?_ (by assumption) | refine below_alloc ?_ _ | refine below_drewN ?_ _ | refine Below.drew ?_ | refine Below.setCell ?_ (by first | (simp; done) | omega | (simp; omega)) _)))) hn) h1).mono ?_
  rintro e w1 ⟨rfl, hb1⟩
  obtain ⟨hc1, hf1, hs1⟩ := bcell3 hb1
  have hz1 := hb1.size
  (try simp at hz1)
  go_wp2_with fail
  refine (calls_is (impl_PositionOk _ _ _ _ _ (by omega)) h2).mono ?_
  rintro e w2 ⟨rfl, hb2⟩
  obtain ⟨hc2, hf2, hs2⟩ := bcell3 hb2
  have hz2 := hb2.size
  (try simp at hz2)
  have hb1_2 := below_step (below_step hb1 (by (repeat (first | exact Below.refl _ _ | assumption | refine below_step ?_ (by assumption) | refine below_alloc ?_ _ | refine below_drewN ?_ _ | refine Below.drew ?_ | refine Below.setCell ?_ (by first | (simp; done) | omega | (simp; omega)) _)))) hb2
  clear hc1 hf1 hs1
  obtain ⟨hc1_2, hf1_2, hs1_2⟩ := bcell3 hb1_2
  go_wp2
  go_ret
  exact ⟨rfl, by (repeat (first | exact Below.refl _ _ | assumption | refine below_step ?_ (by assumption) | refine below_alloc ?_ _ | refine below_drewN ?_ _ | refine Below.drew ?_ | refine Below.setCell ?_ (by first | (simp; done) | omega | (simp; omega)) _))⟩

set_option maxHeartbeats 2000000 in
theorem impl_SumOf_yes (W H X : Int) (A : Option Addr) (cap : Nat) (ws : List Int) (p : Int) (w : World) (hA : FAt w A ws) (hn : ws.length ≤ 4294967296) (hp : p ≤ 9223372036854775807) (h1 : weightsOk W H X ws = true) (h2 : positionOk W H X p = true) :
    Calls Try.prog 118 #[.agg #[.int .i64 W, .int .i64 H, .int .i64 X], .slice A ws.length cap, .int .i64 p] w fun e w' => e = .returned (.int .i64 (wsum ws (bitsTo p.toNat 49))) ∧ Below w.heap.size w w' := by
  obtain ⟨hb, hl, hok⟩ := weights_len h1
  have hfin := bits_board hb (positionOk_facts h2).p0 (positionOk_facts h2).le
  obtain ⟨m1, m2, p0⟩ : 1 ≤ W * H ∧ W * H ≤ 49 ∧ 0 ≤ p := ⟨(boardOk_facts hb).m1, (boardOk_facts hb).m2, (positionOk_facts h2).p0⟩
  have hl49 : ws.length ≤ 49 := by omega
  have HL := Lib.hid hl
  have HF := Lib.hid hfin
  clear hl hfin hb
  go_enter Try.func118, Try.ntmps118
  go_wp2_with fail
  refine (calls_is (impl_WeightsOk _ _ _ _ _ _ _ (hA.below (by (repeat (first | exact Below.refl _ _ | assumption | refine below_step ?_ (by assumption) | refine below_alloc ?_ _ | refine below_drewN ?_ _ | refine Below.drew ?_ | refine Below.setCell ?_ (by first | (simp; done) | omega | (simp; omega)) _)))) hn) h1).mono ?_
  rintro e w1 ⟨rfl, hb1⟩
  obtain ⟨hc1, hf1, hs1⟩ := bcell3 hb1
  have hz1 := hb1.size
  (try simp at hz1)
  go_wp2_with fail
  refine (calls_is (impl_PositionOk _ _ _ _ _ (by omega)) h2).mono ?_
  rintro e w2 ⟨rfl, hb2⟩
  obtain ⟨hc2, hf2, hs2⟩ := bcell3 hb2
  have hz2 := hb2.size
  (try simp at hz2)
  have hb1_2 := below_step (below_step hb1 (by (repeat (first | exact Below.refl _ _ | assumption | refine below_step ?_ (by assumption) | refine below_alloc ?_ _ | refine below_drewN ?_ _ | refine Below.drew ?_ | refine Below.setCell ?_ (by first | (simp; done) | omega | (simp; omega)) _)))) hb2
  clear hc1 hf1 hs1
  obtain ⟨hc1_2, hf1_2, hs1_2⟩ := bcell3 hb1_2
  go_wp2
  have hA2 := hA.below (show Below w.heap.size w w2 from by (repeat (first | exact Below.refl _ _ | assumption | refine below_step ?_ (by assumption) | refine below_alloc ?_ _ | refine below_drewN ?_ _ | refine Below.drew ?_ | refine Below.setCell ?_ (by first | (simp; done) | omega | (simp; omega)) _)))
  go_loop [7, 22] (fun s i => ∃ k : Nat, k ≤ ws.length ∧ i = .int .i64 k ∧ s = .int .i64 (wsum ws (bitsTo p.toNat k))) (fun _ i => ws.length - (intOf i).toNat)
  case atStart => exact ⟨0, Nat.zero_le _, rfl, rfl⟩
  case round =>
    obtain ⟨k, hk, rfl, rfl⟩ := hrel
    have hbd := wsum_bd hok (bitsTo p.toNat k)
    have hbl := bitsTo_le p.toNat k
    by_cases hlt : k < ws.length
    · obtain ⟨z, hz⟩ : ∃ z, ws[k]? = some z := ⟨_, List.getElem?_eq_getElem hlt⟩
      obtain ⟨b, off, rfl, hc⟩ := hA2 k z hz
      have hzb := okW_get hok hz
      have HZ := Lib.hid hz
      clear hz
      cases hbit : bitI p (k : Int)
      · go_wp2_with (go_at_call 105; refine (calls_is (impl_hasBit _ _ _ (by omega) (by omega) (by omega) (by omega)) hbit).mono ?_; rintro e _ ⟨rfl, rfl⟩)
        go_round
        case rel => exact ⟨k + 1, by omega, by go_num, by rw [wsum_no (by rw [← bitI_nat]; exact hbit)]⟩
        case measure => simp [intOf]; omega
      · go_wp2_with (go_at_call 105; refine (calls_is (impl_hasBit _ _ _ (by omega) (by omega) (by omega) (by omega)) hbit).mono ?_; rintro e _ ⟨rfl, rfl⟩)
        go_round
        case rel => exact ⟨k + 1, by omega, by go_num, by rw [wsum_yes (by rw [← bitI_nat]; exact hbit) HZ.out]⟩
        case measure => simp [intOf]; omega
    · obtain rfl : k = ws.length := by omega
      go_wp2
      go_ret
      exact ⟨ret_int (by rw [HF.out, ← HL.out]), by (repeat (first | exact Below.refl _ _ | assumption | refine below_step ?_ (by assumption) | refine below_alloc ?_ _ | refine below_drewN ?_ _ | refine Below.drew ?_ | refine Below.setCell ?_ (by first | (simp; done) | omega | (simp; omega)) _))⟩

theorem impl_SumOf (W H X : Int) (A : Option Addr) (cap : Nat) (ws : List Int) (p : Int) (w : World) (hA : FAt w A ws) (hn : ws.length ≤ 4294967296) (hp : p ≤ 9223372036854775807) :
    Calls Try.prog 118 #[.agg #[.int .i64 W, .int .i64 H, .int .i64 X], .slice A ws.length cap, .int .i64 p] w fun e w' => e = .returned (.int .i64 (sumOf W H X ws p)) ∧ Below w.heap.size w w' := by
  cases h1 : weightsOk W H X ws
  · exact (impl_SumOf_no1 W H X A cap ws p w hA hn hp h1).mono fun e w' h => ⟨h.1.trans (ret_int (by simp [sumOf, h1])), h.2⟩
  · cases h2 : positionOk W H X p
    · exact (impl_SumOf_no2 W H X A cap ws p w hA hn hp h1 h2).mono fun e w' h => ⟨h.1.trans (ret_int (by simp [sumOf, h2])), h.2⟩
    · exact (impl_SumOf_yes W H X A cap ws p w hA hn hp h1 h2).mono fun e w' h => ⟨h.1.trans (ret_int (by simp [sumOf, h1, h2])), h.2⟩
end Go.Proofs.Ytianfakgojmnpaa
