/- PairsOf returns what the reference returns. -/
import Derived.Test.YtianfakgojmnpaaPairs
import Derived.Test.YtianfakgojmnpaaBoard
import Derived.Test.YtianfakgojmnpaaLiftD
namespace Go.Proofs.Ytianfakgojmnpaa
open Go.RowKit

set_option maxHeartbeats 4000000 in
theorem law_FnExactPairsOf (W H X : Int) (w : World) (_hW : R64 W) (_hH : R64 H) (_hX : R64 X) :
    Calls Try.prog 5 #[.agg #[.int .i64 W, .int .i64 H, .int .i64 X]] w fun e w' => e = .returned (.bool true) ∧ Below w.heap.size w w' := by
  have hpl := pairsOf_len W H X
  obtain ⟨ps, hps⟩ : ∃ ps, pairsOf W H X = ps := ⟨_, rfl⟩
  obtain ⟨N, hN⟩ : ∃ N, ps.length = N := ⟨_, rfl⟩
  have hS := spec_PairsOf W H X
  have hI := impl_PairsOf W H X
  rw [hps] at hpl hS hI
  rw [hN] at hpl
  have HN := Lib.hid hN
  clear hps
  go_enter Try.func5, Try.ntmps5
  go_wp2_with fail
  generalize hV : w.alloc (.cells #[.int .i64 W, .int .i64 H, .int .i64 X] 40) = V
  have v0 : Below w.heap.size w V := by subst hV; (repeat (first | exact Below.refl _ _ | assumption | refine below_step ?_ (by assumption) | refine below_alloc ?_ _ | refine below_drewN ?_ _ | refine Below.drew ?_ | refine Below.setCell ?_ (by first | (simp; done) | omega | (simp; omega)) _))
  have Bd : Cells3x V w.heap.size W H X := by subst hV; exact new3x
  clear hV
  refine (laws_toBoard _ _ _ _).mono ?_
  rintro e w1 ⟨rfl, hb1⟩
  replace Bd := Bd.below hb1
  replace v0 := below_step v0 hb1
  clear hb1
  go_wp2_with fail
  refine (hS _).mono ?_
  rintro e w2 ⟨A0, c0, g0, rfl, O0, hb2⟩
  rw [hN] at O0 ⊢
  have R0 := O0.rss
  replace Bd := Bd.below hb2
  replace v0 := below_step v0 hb2
  have hB0 : w2.heap.size ≤ w2.heap.size := Nat.le_refl _
  obtain ⟨B0, hB0e⟩ : ∃ B0, w2.heap.size = B0 := ⟨_, rfl⟩
  rw [hB0e] at R0
  clear hb2 O0
  obtain ⟨hbs, b0, b1, b2⟩ := id Bd
  go_wp2_with fail
  refine (laws_toBoard _ _ _ _).mono ?_
  rintro e w3 ⟨rfl, hb3⟩
  have s3 : B0 ≤ w3.heap.size := by have := hb3.size; omega
  have hbw3 : w.heap.size < w3.heap.size := by have := hb3.size; omega
  replace R0 := R0.below (hb3.mono (by omega))
  replace Bd := Bd.below hb3
  replace v0 := below_step v0 hb3
  clear hb3 b0 b1 b2 hbs hB0
  go_wp2_with fail
  refine (hI _).mono ?_
  rintro e w4 ⟨A1, c1, g1, rfl, O1, hb4⟩
  rw [hN] at O1 ⊢
  have s4 : w3.heap.size ≤ w4.heap.size := hb4.size
  replace R0 := R0.below (hb4.mono s3)
  replace Bd := Bd.below hb4
  replace v0 := below_step v0 hb4
  clear hb4
  have hE1 := laws_eqIntSS A1 A0 c1 c0 w4.heap.size B0 ps w4 O1.rss R0 (Nat.le_refl _) (by omega) (by omega)
  rw [hN] at hE1
  go_wp2_with fail
  refine hE1.mono ?_
  rintro e w5 ⟨rfl, hb5⟩
  have s5 : w4.heap.size ≤ w5.heap.size := hb5.size
  replace R0 := R0.below (hb5.mono (by omega))
  replace O1 := O1.below hb5
  replace Bd := Bd.below hb5
  replace v0 := below_step v0 hb5
  clear hb5 hE1
  have hM := laws_markIntSS A1 w3.heap.size c1 N g1 ps w5 O1 hN (by omega) (by omega)
  go_wp2_with fail
  refine hM.mono ?_
  rintro e w6 ⟨rfl, O2, hb6⟩
  have s6 : w5.heap.size ≤ w6.heap.size := hb6.size
  have hbs3 : w.heap.size < w3.heap.size := hbw3
  replace R0 := R0.below (hb6.mono s3)
  replace Bd : Cells3x w6 w.heap.size W H X := ⟨by omega, (hb6.cell (p := ⟨w.heap.size, 0, none⟩) hbs3).trans Bd.2.1, (hb6.cell (p := ⟨w.heap.size, 1, none⟩) hbs3).trans Bd.2.2.1, (hb6.cell (p := ⟨w.heap.size, 2, none⟩) hbs3).trans Bd.2.2.2⟩
  replace v0 : Below w.heap.size w w6 := v0.trans (hb6.mono (by omega))
  clear hb6 hM O1
  have hH1 := laws_heldIntSS A1 c1 w6.heap.size N w6 O2.rss (by omega)
  have hq1 : ¬ (1 + 2 * (N : Int) < 0) := by omega
  go_wp2_with fail
  refine hH1.mono ?_
  rintro e _ ⟨rfl, rfl⟩
  obtain ⟨hbs, b0, b1, b2⟩ := id Bd
  go_wp2_with fail
  refine (laws_toBoard _ _ _ _).mono ?_
  rintro e w7 ⟨rfl, hb7⟩
  have s7 : w6.heap.size ≤ w7.heap.size := hb7.size
  replace R0 := R0.below (hb7.mono (by omega))
  replace O2 := O2.below hb7
  replace v0 := below_step v0 hb7
  clear hb7 b0 b1 b2 hbs Bd hH1
  go_wp2_with fail
  refine (hI _).mono ?_
  rintro e w8 ⟨A2, c2, g2, rfl, O3, hb8⟩
  rw [hN] at O3 ⊢
  have s8 : w7.heap.size ≤ w8.heap.size := hb8.size
  replace R0 := R0.below (hb8.mono (by omega))
  replace O2 := O2.below hb8
  replace v0 := below_step v0 hb8
  clear hb8
  have hE2 := laws_eqIntSS A2 A0 c2 c0 w8.heap.size B0 ps w8 O3.rss R0 (Nat.le_refl _) (by omega) (by omega)
  rw [hN] at hE2
  go_wp2_with fail
  refine hE2.mono ?_
  rintro e w9 ⟨rfl, hb9⟩
  replace O2 := O2.below hb9
  replace v0 := below_step v0 hb9
  clear hb9 hE2
  have hH2 := laws_heldIntSS A1 c1 w9.heap.size N w9 O2.rss (by omega)
  go_wp2_with fail
  refine hH2.mono ?_
  rintro e _ ⟨rfl, rfl⟩
  go_wp2
  go_ret
  exact ⟨rfl, v0⟩
end Go.Proofs.Ytianfakgojmnpaa
