/- Golden numbers obey the rules of arithmetic: the walk. -/
import Derived.Test.YtmdpacgoijnonaaGoldQ
import Derived.Test.YtmdpacgoijnonaaLiftC
import Derived.Deep.DeepCutAuto
namespace Go.Proofs.Ytmdpacgoijnonaa
open Go.RowKit
attribute [local go_sem ↓] Go.wp_at_zero Go.wp_at_succ

set_option maxRecDepth 100000 in
set_option maxHeartbeats 8000000 in
theorem law_FnGolden (A : Option Addr) (cap len : Nat) (w : World) (hAm : Bytes w A len ∧ len ≤ maxLen) :
    Calls Try.prog 3 #[.slice A len cap] w fun e w' => e = .returned (.bool true) ∧ Below w.heap.size w w' := by
  obtain ⟨hA, hmax⟩ := hAm
  have hmx : len ≤ 9223372036854775807 := by simp only [maxLen] at hmax; omega
  clear hmax
  by_cases hbig : 1048576 < len
  · have hbd : decide (1048576 < len) = true := by simp [hbig]
    go_enter Try.func3, Try.ntmps3
    go_wp2_with fail
    refine (calls_is (laws_big _ _ _ _ hmx) hbd).mono ?_
    rintro e _ ⟨rfl, rfl⟩
    go_wp2
    go_ret
    exact ⟨rfl, Below.refl _ _⟩
  have hbd : decide (1048576 < len) = false := by simp [hbig]
  have hlen : len ≤ 4294967296 := by omega
  go_enter Try.func3, Try.ntmps3
  have hV := Below.refl w.heap.size w
  go_wp2_with fail
  refine (calls_is (laws_big _ _ _ _ hmx) hbd).mono ?_
  rintro e _ ⟨rfl, rfl⟩
  go_wp2_with fail
  refine (spec_DrawGolds A len cap _ hA hlen).mono ?_
  rintro e w1 ⟨a, b, c, d, x, y, rfl, hg, hh, hx, hb1⟩
  replace hV := below_step hV hb1
  clear hb1
  obtain ⟨P, Q, one, s1, s2, t, eq, Y1, Y2, five, U1, U2, six, V1, V2, seven, Z1, Z2, ok, G⟩ := golden_of hg hh hx
  obtain ⟨mb1, mb2⟩ := G.mb
  have hw : IntKind.i64.wrap (s1 * s2) = s1 * s2 := wrap_small mb1 mb2
  have hgg := hg
  have hhh := hh
  obtain ⟨ga1, ga2, gb1, gb2⟩ := hgg
  obtain ⟨hc1, hc2, hd1, hd2⟩ := hhh
  go_wp2_with fail
  generalize hG : ((w1.alloc (.cells #[.int .i64 (a), .int .i64 (b)] 25)).alloc (.cells #[.int .i64 (c), .int .i64 (d)] 25)).alloc (.cells #[.int .i64 (x), .int .i64 (y)] 25) = VV1
  have hbV : Below w1.heap.size w1 VV1 := by subst hG; exact below_alloc (below_alloc (below_alloc (Below.refl _ _) _) _) _
  have Fg_0 : VV1.cell? ⟨w1.heap.size, 0, none⟩ = some (.int .i64 (a)) := bel_cell (V := (w1.alloc (.cells #[.int .i64 (a), .int .i64 (b)] 25))) (by subst hG; exact below_alloc (below_alloc (Below.refl _ _) _) _) (by simp <;> omega) (top_cell2 (by simp) rfl)
  have Fg_1 : VV1.cell? ⟨w1.heap.size, 1, none⟩ = some (.int .i64 (b)) := bel_cell (V := (w1.alloc (.cells #[.int .i64 (a), .int .i64 (b)] 25))) (by subst hG; exact below_alloc (below_alloc (Below.refl _ _) _) _) (by simp <;> omega) (top_cell2 (by simp) rfl)
  have Fh_0 : VV1.cell? ⟨w1.heap.size + 1, 0, none⟩ = some (.int .i64 (c)) := bel_cell (V := ((w1.alloc (.cells #[.int .i64 (a), .int .i64 (b)] 25)).alloc (.cells #[.int .i64 (c), .int .i64 (d)] 25))) (by subst hG; exact below_alloc (Below.refl _ _) _) (by simp <;> omega) (top_cell2 (by simp) rfl)
  have Fh_1 : VV1.cell? ⟨w1.heap.size + 1, 1, none⟩ = some (.int .i64 (d)) := bel_cell (V := ((w1.alloc (.cells #[.int .i64 (a), .int .i64 (b)] 25)).alloc (.cells #[.int .i64 (c), .int .i64 (d)] 25))) (by subst hG; exact below_alloc (Below.refl _ _) _) (by simp <;> omega) (top_cell2 (by simp) rfl)
  have Fx_0 : VV1.cell? ⟨w1.heap.size + 1 + 1, 0, none⟩ = some (.int .i64 (x)) := bel_cell (V := (((w1.alloc (.cells #[.int .i64 (a), .int .i64 (b)] 25)).alloc (.cells #[.int .i64 (c), .int .i64 (d)] 25)).alloc (.cells #[.int .i64 (x), .int .i64 (y)] 25))) (by subst hG; exact Below.refl _ _) (by simp <;> omega) (top_cell2 (by simp) rfl)
  have Fx_1 : VV1.cell? ⟨w1.heap.size + 1 + 1, 1, none⟩ = some (.int .i64 (y)) := bel_cell (V := (((w1.alloc (.cells #[.int .i64 (a), .int .i64 (b)] 25)).alloc (.cells #[.int .i64 (c), .int .i64 (d)] 25)).alloc (.cells #[.int .i64 (x), .int .i64 (y)] 25))) (by subst hG; exact Below.refl _ _) (by simp <;> omega) (top_cell2 (by simp) rfl)
  clear hG
  have Zg := cellb_lt3 Fg_0
  have Zh := cellb_lt3 Fh_0
  have Zx := cellb_lt3 Fx_0
  replace hV := below_step hV hbV
  clear hbV
  refine (calls_is3 (impl_TimesGold _ _ _ _ _) G.pA G.pB G.pK).mono ?_
  rintro e w2 ⟨rfl, hb2⟩
  replace Fg_0 := bel_cell hb2 Zg Fg_0
  replace Fg_1 := bel_cell hb2 Zg Fg_1
  replace Zg := cellb_lt3 Fg_0
  replace Fh_0 := bel_cell hb2 Zh Fh_0
  replace Fh_1 := bel_cell hb2 Zh Fh_1
  replace Zh := cellb_lt3 Fh_0
  replace Fx_0 := bel_cell hb2 Zx Fx_0
  replace Fx_1 := bel_cell hb2 Zx Fx_1
  replace Zx := cellb_lt3 Fx_0
  replace hV := below_step hV hb2
  go_wp2_with fail
  generalize hG : w2.alloc (.cells #[.int .i64 (P), .int .i64 (Q)] 25) = VV2
  have hbV : Below w2.heap.size w2 VV2 := by subst hG; exact below_alloc (Below.refl _ _) _
  have FA_0 : VV2.cell? ⟨w2.heap.size, 0, none⟩ = some (.int .i64 (P)) := bel_cell (V := (w2.alloc (.cells #[.int .i64 (P), .int .i64 (Q)] 25))) (by subst hG; exact Below.refl _ _) (by simp <;> omega) (top_cell2 (by simp) rfl)
  have FA_1 : VV2.cell? ⟨w2.heap.size, 1, none⟩ = some (.int .i64 (Q)) := bel_cell (V := (w2.alloc (.cells #[.int .i64 (P), .int .i64 (Q)] 25))) (by subst hG; exact Below.refl _ _) (by simp <;> omega) (top_cell2 (by simp) rfl)
  clear hG
  replace Fg_0 := bel_cell hbV Zg Fg_0
  replace Fg_1 := bel_cell hbV Zg Fg_1
  replace Zg := cellb_lt3 Fg_0
  replace Fh_0 := bel_cell hbV Zh Fh_0
  replace Fh_1 := bel_cell hbV Zh Fh_1
  replace Zh := cellb_lt3 Fh_0
  replace Fx_0 := bel_cell hbV Zx Fx_0
  replace Fx_1 := bel_cell hbV Zx Fx_1
  replace Zx := cellb_lt3 Fx_0
  have ZA := cellb_lt3 FA_0
  replace hV := below_step hV hbV
  clear hbV
  refine (calls_is3 (impl_TimesGold _ _ _ _ _) G.qA G.qB G.qK).mono ?_
  rintro e w3 ⟨rfl, hb3⟩
  replace Fg_0 := bel_cell hb3 Zg Fg_0
  replace Fg_1 := bel_cell hb3 Zg Fg_1
  replace Zg := cellb_lt3 Fg_0
  replace Fh_0 := bel_cell hb3 Zh Fh_0
  replace Fh_1 := bel_cell hb3 Zh Fh_1
  replace Zh := cellb_lt3 Fh_0
  replace Fx_0 := bel_cell hb3 Zx Fx_0
  replace Fx_1 := bel_cell hb3 Zx Fx_1
  replace Zx := cellb_lt3 Fx_0
  replace FA_0 := bel_cell hb3 ZA FA_0
  replace FA_1 := bel_cell hb3 ZA FA_1
  replace ZA := cellb_lt3 FA_0
  replace hV := below_step hV hb3
  go_wp2_with fail
  generalize hG : w3.alloc (.cells #[.int .i64 (P), .int .i64 (Q)] 25) = VV3
  have hbV : Below w3.heap.size w3 VV3 := by subst hG; exact below_alloc (Below.refl _ _) _
  have FC_0 : VV3.cell? ⟨w3.heap.size, 0, none⟩ = some (.int .i64 (P)) := bel_cell (V := (w3.alloc (.cells #[.int .i64 (P), .int .i64 (Q)] 25))) (by subst hG; exact Below.refl _ _) (by simp <;> omega) (top_cell2 (by simp) rfl)
  have FC_1 : VV3.cell? ⟨w3.heap.size, 1, none⟩ = some (.int .i64 (Q)) := bel_cell (V := (w3.alloc (.cells #[.int .i64 (P), .int .i64 (Q)] 25))) (by subst hG; exact Below.refl _ _) (by simp <;> omega) (top_cell2 (by simp) rfl)
  clear hG
  replace Fg_0 := bel_cell hbV Zg Fg_0
  replace Fg_1 := bel_cell hbV Zg Fg_1
  replace Zg := cellb_lt3 Fg_0
  replace Fh_0 := bel_cell hbV Zh Fh_0
  replace Fh_1 := bel_cell hbV Zh Fh_1
  replace Zh := cellb_lt3 Fh_0
  replace Fx_0 := bel_cell hbV Zx Fx_0
  replace Fx_1 := bel_cell hbV Zx Fx_1
  replace Zx := cellb_lt3 Fx_0
  replace FA_0 := bel_cell hbV ZA FA_0
  replace FA_1 := bel_cell hbV ZA FA_1
  replace ZA := cellb_lt3 FA_0
  have ZC := cellb_lt3 FC_0
  replace hV := below_step hV hbV
  clear hbV
  refine (calls_is3 (impl_AddGold _ _ _ _ _) G.sA G.sB G.sK).mono ?_
  rintro e w4 ⟨rfl, hb4⟩
  replace Fg_0 := bel_cell hb4 Zg Fg_0
  replace Fg_1 := bel_cell hb4 Zg Fg_1
  replace Zg := cellb_lt3 Fg_0
  replace Fh_0 := bel_cell hb4 Zh Fh_0
  replace Fh_1 := bel_cell hb4 Zh Fh_1
  replace Zh := cellb_lt3 Fh_0
  replace Fx_0 := bel_cell hb4 Zx Fx_0
  replace Fx_1 := bel_cell hb4 Zx Fx_1
  replace Zx := cellb_lt3 Fx_0
  replace FA_0 := bel_cell hb4 ZA FA_0
  replace FA_1 := bel_cell hb4 ZA FA_1
  replace ZA := cellb_lt3 FA_0
  replace FC_0 := bel_cell hb4 ZC FC_0
  replace FC_1 := bel_cell hb4 ZC FC_1
  replace ZC := cellb_lt3 FC_0
  replace hV := below_step hV hb4
  go_wp2_with fail
  generalize hG : w4.alloc (.cells #[.int .i64 (a + c), .int .i64 (b + d)] 25) = VV4
  have hbV : Below w4.heap.size w4 VV4 := by subst hG; exact below_alloc (Below.refl _ _) _
  have FS_0 : VV4.cell? ⟨w4.heap.size, 0, none⟩ = some (.int .i64 (a + c)) := bel_cell (V := (w4.alloc (.cells #[.int .i64 (a + c), .int .i64 (b + d)] 25))) (by subst hG; exact Below.refl _ _) (by simp <;> omega) (top_cell2 (by simp) rfl)
  have FS_1 : VV4.cell? ⟨w4.heap.size, 1, none⟩ = some (.int .i64 (b + d)) := bel_cell (V := (w4.alloc (.cells #[.int .i64 (a + c), .int .i64 (b + d)] 25))) (by subst hG; exact Below.refl _ _) (by simp <;> omega) (top_cell2 (by simp) rfl)
  clear hG
  replace Fg_0 := bel_cell hbV Zg Fg_0
  replace Fg_1 := bel_cell hbV Zg Fg_1
  replace Zg := cellb_lt3 Fg_0
  replace Fh_0 := bel_cell hbV Zh Fh_0
  replace Fh_1 := bel_cell hbV Zh Fh_1
  replace Zh := cellb_lt3 Fh_0
  replace Fx_0 := bel_cell hbV Zx Fx_0
  replace Fx_1 := bel_cell hbV Zx Fx_1
  replace Zx := cellb_lt3 Fx_0
  replace FA_0 := bel_cell hbV ZA FA_0
  replace FA_1 := bel_cell hbV ZA FA_1
  replace ZA := cellb_lt3 FA_0
  replace FC_0 := bel_cell hbV ZC FC_0
  replace FC_1 := bel_cell hbV ZC FC_1
  replace ZC := cellb_lt3 FC_0
  have ZS := cellb_lt3 FS_0
  replace hV := below_step hV hbV
  clear hbV
  refine (laws_at0 A len cap _ (hA.below hV) hlen).mono ?_
  rintro e _ ⟨z, rfl, z0, z1, rfl⟩
  have n0 : 0 ≤ z % 19 := by omega
  have n1 : z % 19 ≤ 18 := by omega
  obtain ⟨k1, k2, e1, e2, f1, f2, GN⟩ := goldenN n0 n1
  go_wp2_with fail
  refine (calls_isG (impl_PowerOf _ _) GN.w1 GN.w2).mono ?_
  rintro e w5 ⟨rfl, hb5⟩
  replace Fg_0 := bel_cell hb5 Zg Fg_0
  replace Fg_1 := bel_cell hb5 Zg Fg_1
  replace Zg := cellb_lt3 Fg_0
  replace Fh_0 := bel_cell hb5 Zh Fh_0
  replace Fh_1 := bel_cell hb5 Zh Fh_1
  replace Zh := cellb_lt3 Fh_0
  replace Fx_0 := bel_cell hb5 Zx Fx_0
  replace Fx_1 := bel_cell hb5 Zx Fx_1
  replace Zx := cellb_lt3 Fx_0
  replace FA_0 := bel_cell hb5 ZA FA_0
  replace FA_1 := bel_cell hb5 ZA FA_1
  replace ZA := cellb_lt3 FA_0
  replace FC_0 := bel_cell hb5 ZC FC_0
  replace FC_1 := bel_cell hb5 ZC FC_1
  replace ZC := cellb_lt3 FC_0
  replace FS_0 := bel_cell hb5 ZS FS_0
  replace FS_1 := bel_cell hb5 ZS FS_1
  replace ZS := cellb_lt3 FS_0
  replace hV := below_step hV hb5
  go_wp2_with fail
  refine (calls_isG (impl_PowerOf _ _) GN.w3 GN.w4).mono ?_
  rintro e w6 ⟨rfl, hb6⟩
  replace Fg_0 := bel_cell hb6 Zg Fg_0
  replace Fg_1 := bel_cell hb6 Zg Fg_1
  replace Zg := cellb_lt3 Fg_0
  replace Fh_0 := bel_cell hb6 Zh Fh_0
  replace Fh_1 := bel_cell hb6 Zh Fh_1
  replace Zh := cellb_lt3 Fh_0
  replace Fx_0 := bel_cell hb6 Zx Fx_0
  replace Fx_1 := bel_cell hb6 Zx Fx_1
  replace Zx := cellb_lt3 Fx_0
  replace FA_0 := bel_cell hb6 ZA FA_0
  replace FA_1 := bel_cell hb6 ZA FA_1
  replace ZA := cellb_lt3 FA_0
  replace FC_0 := bel_cell hb6 ZC FC_0
  replace FC_1 := bel_cell hb6 ZC FC_1
  replace ZC := cellb_lt3 FC_0
  replace FS_0 := bel_cell hb6 ZS FS_0
  replace FS_1 := bel_cell hb6 ZS FS_1
  replace ZS := cellb_lt3 FS_0
  replace hV := below_step hV hb6
  go_wp2_with fail
  refine (calls_is3 (impl_AddGold _ _ _ _ _) GN.aA GN.aB GN.aK).mono ?_
  rintro e w7 ⟨rfl, hb7⟩
  replace Fg_0 := bel_cell hb7 Zg Fg_0
  replace Fg_1 := bel_cell hb7 Zg Fg_1
  replace Zg := cellb_lt3 Fg_0
  replace Fh_0 := bel_cell hb7 Zh Fh_0
  replace Fh_1 := bel_cell hb7 Zh Fh_1
  replace Zh := cellb_lt3 Fh_0
  replace Fx_0 := bel_cell hb7 Zx Fx_0
  replace Fx_1 := bel_cell hb7 Zx Fx_1
  replace Zx := cellb_lt3 Fx_0
  replace FA_0 := bel_cell hb7 ZA FA_0
  replace FA_1 := bel_cell hb7 ZA FA_1
  replace ZA := cellb_lt3 FA_0
  replace FC_0 := bel_cell hb7 ZC FC_0
  replace FC_1 := bel_cell hb7 ZC FC_1
  replace ZC := cellb_lt3 FC_0
  replace FS_0 := bel_cell hb7 ZS FS_0
  replace FS_1 := bel_cell hb7 ZS FS_1
  replace ZS := cellb_lt3 FS_0
  replace hV := below_step hV hb7
  go_wp2_with fail
  generalize hG : w7.alloc (.cells #[.int .i64 (k1), .int .i64 (k2)] 25) = VV5
  have hbV : Below w7.heap.size w7 VV5 := by subst hG; exact below_alloc (Below.refl _ _) _
  have FK_0 : VV5.cell? ⟨w7.heap.size, 0, none⟩ = some (.int .i64 (k1)) := bel_cell (V := (w7.alloc (.cells #[.int .i64 (k1), .int .i64 (k2)] 25))) (by subst hG; exact Below.refl _ _) (by simp <;> omega) (top_cell2 (by simp) rfl)
  have FK_1 : VV5.cell? ⟨w7.heap.size, 1, none⟩ = some (.int .i64 (k2)) := bel_cell (V := (w7.alloc (.cells #[.int .i64 (k1), .int .i64 (k2)] 25))) (by subst hG; exact Below.refl _ _) (by simp <;> omega) (top_cell2 (by simp) rfl)
  clear hG
  replace Fg_0 := bel_cell hbV Zg Fg_0
  replace Fg_1 := bel_cell hbV Zg Fg_1
  replace Zg := cellb_lt3 Fg_0
  replace Fh_0 := bel_cell hbV Zh Fh_0
  replace Fh_1 := bel_cell hbV Zh Fh_1
  replace Zh := cellb_lt3 Fh_0
  replace Fx_0 := bel_cell hbV Zx Fx_0
  replace Fx_1 := bel_cell hbV Zx Fx_1
  replace Zx := cellb_lt3 Fx_0
  replace FA_0 := bel_cell hbV ZA FA_0
  replace FA_1 := bel_cell hbV ZA FA_1
  replace ZA := cellb_lt3 FA_0
  replace FC_0 := bel_cell hbV ZC FC_0
  replace FC_1 := bel_cell hbV ZC FC_1
  replace ZC := cellb_lt3 FC_0
  replace FS_0 := bel_cell hbV ZS FS_0
  replace FS_1 := bel_cell hbV ZS FS_1
  replace ZS := cellb_lt3 FS_0
  have ZK := cellb_lt3 FK_0
  replace hV := below_step hV hbV
  clear hbV
  have KR : Hid (∀ w', Below VV5.heap.size VV5 w' → Below VV5.heap.size VV5 w' ∧ w'.cell? ⟨w2.heap.size, 0, none⟩ = some (.int .i64 (P)) ∧ w'.cell? ⟨w2.heap.size, 1, none⟩ = some (.int .i64 (Q)) ∧ w'.cell? ⟨w3.heap.size, 0, none⟩ = some (.int .i64 (P)) ∧ w'.cell? ⟨w3.heap.size, 1, none⟩ = some (.int .i64 (Q)) ∧ w'.cell? ⟨w7.heap.size, 0, none⟩ = some (.int .i64 (k1)) ∧ w'.cell? ⟨w7.heap.size, 1, none⟩ = some (.int .i64 (k2))) := fun w' hB => ⟨hB, bel_cell hB ZA FA_0, bel_cell hB ZA FA_1, bel_cell hB ZC FC_0, bel_cell hB ZC FC_1, bel_cell hB ZK FK_0, bel_cell hB ZK FK_1⟩
  have hR := Below.refl VV5.heap.size VV5
  refine wp_region_held_drew (S := (fun w' => Below VV5.heap.size VV5 w' ∧ w'.cell? ⟨w2.heap.size, 0, none⟩ = some (.int .i64 (P)) ∧ w'.cell? ⟨w2.heap.size, 1, none⟩ = some (.int .i64 (Q)) ∧ w'.cell? ⟨w3.heap.size, 0, none⟩ = some (.int .i64 (P)) ∧ w'.cell? ⟨w3.heap.size, 1, none⟩ = some (.int .i64 (Q)) ∧ w'.cell? ⟨w7.heap.size, 0, none⟩ = some (.int .i64 (k1)) ∧ w'.cell? ⟨w7.heap.size, 1, none⟩ = some (.int .i64 (k2)))) (by kernel_rfl) ?_ (fun hHd0 => ?_)
  · (refine KR.out _ ?_; (repeat (first | exact Below.refl _ _ | assumption | refine below_step ?_ (by assumption) | refine below_alloc ?_ _ | refine below_drewN ?_ _ | refine Below.drew ?_ | refine Below.setCell ?_ (by first | (simp; done) | omega | (simp; omega)) _)))
  refine heldT (i := 0) rfl (by kernel_rfl) (by kernel_rfl) (by kernel_rfl) (fun _ _ _ h => h) (by rfl) (v := ?_) ?_ (by assumption) ?_
  rotate_left
  · (intro w hSw; (try dsimp only at hSw); go_simp; try (with_reducible rfl))
  (try simp only [Act.put, List.setIfInBounds_toArray, List.set_cons_zero, List.set_cons_succ])
  refine heldT (i := 1) rfl (by kernel_rfl) (by kernel_rfl) (by kernel_rfl) (fun _ _ _ h => h) (by rfl) (v := ?_) ?_ (by assumption) ?_
  rotate_left
  · (intro w hSw; (try dsimp only at hSw); go_simp; try (with_reducible rfl))
  (try simp only [Act.put, List.setIfInBounds_toArray, List.set_cons_zero, List.set_cons_succ])
  refine heldT (i := 2) rfl (by kernel_rfl) (by kernel_rfl) (by kernel_rfl) (fun _ _ _ h => h) (by rfl) (v := ?_) ?_ (by assumption) ?_
  rotate_left
  · (intro w hSw; (try dsimp only at hSw); go_simp; try (with_reducible rfl))
  (try simp only [Act.put, List.setIfInBounds_toArray, List.set_cons_zero, List.set_cons_succ])
  refine heldT (i := 3) rfl (by kernel_rfl) (by kernel_rfl) (by kernel_rfl) (fun _ _ _ h => h) (by rfl) (v := ?_) ?_ (by assumption) ?_
  rotate_left
  · (intro w hSw; (try dsimp only at hSw); go_simp; try (with_reducible rfl))
  (try simp only [Act.put, List.setIfInBounds_toArray, List.set_cons_zero, List.set_cons_succ])
  refine heldT (i := 4) rfl (by kernel_rfl) (by kernel_rfl) (by kernel_rfl) (fun _ _ _ h => h) (by rfl) (v := ?_) ?_ (by assumption) ?_
  rotate_left
  · (intro w hSw; (try dsimp only at hSw); go_simp; try (with_reducible rfl))
  (try simp only [Act.put, List.setIfInBounds_toArray, List.set_cons_zero, List.set_cons_succ])
  refine heldT (i := 5) rfl (by kernel_rfl) (by kernel_rfl) (by kernel_rfl) (fun _ _ _ h => h) (by rfl) (v := ?_) ?_ (by assumption) ?_
  rotate_left
  · (intro w hSw; (try dsimp only at hSw); go_simp; try (with_reducible rfl))
  (try simp only [Act.put, List.setIfInBounds_toArray, List.set_cons_zero, List.set_cons_succ])
  refine heldT (i := 6) rfl (by kernel_rfl) (by kernel_rfl) (by kernel_rfl) (fun _ _ _ h => h) (by rfl) (v := ?_) ?_ (by assumption) ?_
  rotate_left
  · (intro w hSw; (try dsimp only at hSw); go_simp; try (with_reducible rfl))
  (try simp only [Act.put, List.setIfInBounds_toArray, List.set_cons_zero, List.set_cons_succ])
  refine heldT (i := 7) rfl (by kernel_rfl) (by kernel_rfl) (by kernel_rfl) (fun _ _ _ h => h) (by rfl) (v := ?_) ?_ (by assumption) ?_
  rotate_left
  · (intro w hSw; (try dsimp only at hSw); go_simp; try (with_reducible rfl))
  (try simp only [Act.put, List.setIfInBounds_toArray, List.set_cons_zero, List.set_cons_succ])
  refine heldT (i := 8) rfl (by kernel_rfl) (by kernel_rfl) (by kernel_rfl) (fun _ _ _ h => h) (by rfl) (v := ?_) ?_ (by assumption) ?_
  rotate_left
  · (intro w hSw; (try dsimp only at hSw); go_simp; try (with_reducible rfl))
  (try simp only [Act.put, List.setIfInBounds_toArray, List.set_cons_zero, List.set_cons_succ])
  refine heldT (i := 9) rfl (by kernel_rfl) (by kernel_rfl) (by kernel_rfl) (fun _ _ _ h => h) (by rfl) (v := ?_) ?_ (by assumption) ?_
  rotate_left
  · (intro w hSw; (try dsimp only at hSw); go_simp; try (with_reducible rfl))
  (try simp only [Act.put, List.setIfInBounds_toArray, List.set_cons_zero, List.set_cons_succ])
  refine heldT (i := 10) rfl (by kernel_rfl) (by kernel_rfl) (by kernel_rfl) (fun _ _ _ h => h) (by rfl) (v := ?_) ?_ (by assumption) ?_
  rotate_left
  · (intro w hSw; (try dsimp only at hSw); go_simp; try (with_reducible rfl))
  (try simp only [Act.put, List.setIfInBounds_toArray, List.set_cons_zero, List.set_cons_succ])
  refine heldT (i := 11) rfl (by kernel_rfl) (by kernel_rfl) (by kernel_rfl) (fun _ _ _ h => h) (by rfl) (v := ?_) ?_ (by assumption) ?_
  rotate_left
  · (intro w hSw; (try dsimp only at hSw); go_simp; try (with_reducible rfl))
  (try simp only [Act.put, List.setIfInBounds_toArray, List.set_cons_zero, List.set_cons_succ])
  refine heldT (i := 12) rfl (by kernel_rfl) (by kernel_rfl) (by kernel_rfl) (fun _ _ _ h => h) (by rfl) (v := ?_) ?_ (by assumption) ?_
  rotate_left
  · (intro w hSw; (try dsimp only at hSw); go_simp; try (with_reducible rfl))
  (try simp only [Act.put, List.setIfInBounds_toArray, List.set_cons_zero, List.set_cons_succ])
  refine heldT (i := 13) rfl (by kernel_rfl) (by kernel_rfl) (by kernel_rfl) (fun _ _ _ h => h) (by rfl) (v := ?_) ?_ (by assumption) ?_
  rotate_left
  · (intro w hSw; (try dsimp only at hSw); go_simp; try (with_reducible rfl))
  (try simp only [Act.put, List.setIfInBounds_toArray, List.set_cons_zero, List.set_cons_succ])
  refine heldT (i := 14) rfl (by kernel_rfl) (by kernel_rfl) (by kernel_rfl) (fun _ _ _ h => h) (by rfl) (v := ?_) ?_ (by assumption) ?_
  rotate_left
  · (intro w hSw; (try dsimp only at hSw); go_simp; try (with_reducible rfl))
  (try simp only [Act.put, List.setIfInBounds_toArray, List.set_cons_zero, List.set_cons_succ])
  refine heldC (i := 15) rfl (by kernel_rfl) (fun K' hK => ?_)
  go_simp
  refine (calls_isG (impl_PowerOf _ _) GN.w5 GN.w6).mono ?_; rintro e w8 ⟨rfl, hb8⟩
  (try (go_wp2_with fail))
  refine hK.out _ _ ?_ (fun hHd1 => ?_)
  · ((try dsimp only); (refine KR.out _ ?_; (repeat (first | exact Below.refl _ _ | assumption | refine below_step ?_ (by assumption) | refine below_alloc ?_ _ | refine below_drewN ?_ _ | refine Below.drew ?_ | refine Below.setCell ?_ (by first | (simp; done) | omega | (simp; omega)) _))))
  clear hK K' hHd0
  (try simp only [Act.put, List.setIfInBounds_toArray, List.set_cons_zero, List.set_cons_succ])
  refine heldT (i := 16) rfl (by kernel_rfl) (by kernel_rfl) (by kernel_rfl) (fun _ _ _ h => h) (by rfl) (v := ?_) ?_ (by assumption) ?_
  rotate_left
  · (intro w hSw; (try dsimp only at hSw); go_simp; try (with_reducible rfl))
  (try simp only [Act.put, List.setIfInBounds_toArray, List.set_cons_zero, List.set_cons_succ])
  refine heldT (i := 17) rfl (by kernel_rfl) (by kernel_rfl) (by kernel_rfl) (fun _ _ _ h => h) (by rfl) (v := ?_) ?_ (by assumption) ?_
  rotate_left
  · (intro w hSw; (try dsimp only at hSw); go_simp; try (with_reducible rfl))
  (try simp only [Act.put, List.setIfInBounds_toArray, List.set_cons_zero, List.set_cons_succ])
  refine heldT (i := 18) rfl (by kernel_rfl) (by kernel_rfl) (by kernel_rfl) (fun _ _ _ h => h) (by rfl) (v := ?_) ?_ (by assumption) ?_
  rotate_left
  · (intro w hSw; (try dsimp only at hSw); go_simp; try (with_reducible rfl))
  (try simp only [Act.put, List.setIfInBounds_toArray, List.set_cons_zero, List.set_cons_succ])
  refine heldT (i := 19) rfl (by kernel_rfl) (by kernel_rfl) (by kernel_rfl) (fun _ _ _ h => h) (by rfl) (v := ?_) ?_ (by assumption) ?_
  rotate_left
  · (intro w hSw; (try dsimp only at hSw); go_simp; try (with_reducible rfl))
  (try simp only [Act.put, List.setIfInBounds_toArray, List.set_cons_zero, List.set_cons_succ])
  refine heldC (i := 20) rfl (by kernel_rfl) (fun K' hK => ?_)
  go_simp
  refine (calls_isG (impl_PowerOf _ _) GN.w5 GN.w6).mono ?_; rintro e w9 ⟨rfl, hb9⟩
  (try (go_wp2_with fail))
  refine hK.out _ _ ?_ (fun hHd2 => ?_)
  · ((try dsimp only); (refine KR.out _ ?_; (repeat (first | exact Below.refl _ _ | assumption | refine below_step ?_ (by assumption) | refine below_alloc ?_ _ | refine below_drewN ?_ _ | refine Below.drew ?_ | refine Below.setCell ?_ (by first | (simp; done) | omega | (simp; omega)) _))))
  clear hK K' hHd1
  (try simp only [Act.put, List.setIfInBounds_toArray, List.set_cons_zero, List.set_cons_succ])
  refine heldC (i := 21) rfl (by kernel_rfl) (fun K' hK => ?_)
  go_simp
  refine (calls_isI (impl_SignOf _ _ _) GN.sg).mono ?_; rintro e w10 ⟨rfl, hb10⟩
  (try (go_wp2_with fail))
  refine hK.out _ _ ?_ (fun hHd3 => ?_)
  · ((try dsimp only); (refine KR.out _ ?_; (repeat (first | exact Below.refl _ _ | assumption | refine below_step ?_ (by assumption) | refine below_alloc ?_ _ | refine below_drewN ?_ _ | refine Below.drew ?_ | refine Below.setCell ?_ (by first | (simp; done) | omega | (simp; omega)) _))))
  clear hK K' hHd2
  (try simp only [Act.put, List.setIfInBounds_toArray, List.set_cons_zero, List.set_cons_succ])
  refine heldT (i := 22) rfl (by kernel_rfl) (by kernel_rfl) (by kernel_rfl) (fun _ _ _ h => h) (by rfl) (v := ?_) ?_ (by assumption) ?_
  rotate_left
  · (intro w hSw; (try dsimp only at hSw); go_simp; try (with_reducible rfl))
  (try simp only [Act.put, List.setIfInBounds_toArray, List.set_cons_zero, List.set_cons_succ])
  refine heldT (i := 23) rfl (by kernel_rfl) (by kernel_rfl) (by kernel_rfl) (fun _ _ _ h => h) (by rfl) (v := ?_) ?_ (by assumption) ?_
  rotate_left
  · (intro w hSw; (try dsimp only at hSw); go_simp; try (with_reducible rfl))
  (try simp only [Act.put, List.setIfInBounds_toArray, List.set_cons_zero, List.set_cons_succ])
  refine heldT (i := 24) rfl (by kernel_rfl) (by kernel_rfl) (by kernel_rfl) (fun _ _ _ h => h) (by rfl) (v := ?_) ?_ (by assumption) ?_
  rotate_left
  · (intro w hSw; (try dsimp only at hSw); go_simp; try (with_reducible rfl))
  (try simp only [Act.put, List.setIfInBounds_toArray, List.set_cons_zero, List.set_cons_succ])
  refine heldT (i := 25) rfl (by kernel_rfl) (by kernel_rfl) (by kernel_rfl) (fun _ _ _ h => h) (by rfl) (v := ?_) ?_ (by assumption) ?_
  rotate_left
  · (intro w hSw; (try dsimp only at hSw); go_simp; try (with_reducible rfl))
  (try simp only [Act.put, List.setIfInBounds_toArray, List.set_cons_zero, List.set_cons_succ])
  refine heldT (i := 26) rfl (by kernel_rfl) (by kernel_rfl) (by kernel_rfl) (fun _ _ _ h => h) (by rfl) (v := ?_) ?_ (by assumption) ?_
  rotate_left
  · (intro w hSw; (try dsimp only at hSw); go_simp; try (with_reducible rfl))
  (try simp only [Act.put, List.setIfInBounds_toArray, List.set_cons_zero, List.set_cons_succ])
  refine heldT (i := 27) rfl (by kernel_rfl) (by kernel_rfl) (by kernel_rfl) (fun _ _ _ h => h) (by rfl) (v := ?_) ?_ (by assumption) ?_
  rotate_left
  · (intro w hSw; (try dsimp only at hSw); go_simp; try (with_reducible rfl))
  (try simp only [Act.put, List.setIfInBounds_toArray, List.set_cons_zero, List.set_cons_succ])
  refine wpAnyH_done (by kernel_rfl) ?_ _
  clear KR
  have hRR : Below VV5.heap.size VV5 w10 := by (repeat (first | exact Below.refl _ _ | assumption | refine below_step ?_ (by assumption) | refine below_alloc ?_ _ | refine below_drewN ?_ _ | refine Below.drew ?_ | refine Below.setCell ?_ (by first | (simp; done) | omega | (simp; omega)) _))
  replace Fg_0 := bel_cell hRR Zg Fg_0
  replace Fg_1 := bel_cell hRR Zg Fg_1
  replace Zg := cellb_lt3 Fg_0
  replace Fh_0 := bel_cell hRR Zh Fh_0
  replace Fh_1 := bel_cell hRR Zh Fh_1
  replace Zh := cellb_lt3 Fh_0
  replace Fx_0 := bel_cell hRR Zx Fx_0
  replace Fx_1 := bel_cell hRR Zx Fx_1
  replace Zx := cellb_lt3 Fx_0
  replace FA_0 := bel_cell hRR ZA FA_0
  replace FA_1 := bel_cell hRR ZA FA_1
  replace ZA := cellb_lt3 FA_0
  replace FC_0 := bel_cell hRR ZC FC_0
  replace FC_1 := bel_cell hRR ZC FC_1
  replace ZC := cellb_lt3 FC_0
  replace FS_0 := bel_cell hRR ZS FS_0
  replace FS_1 := bel_cell hRR ZS FS_1
  replace ZS := cellb_lt3 FS_0
  replace FK_0 := bel_cell hRR ZK FK_0
  replace FK_1 := bel_cell hRR ZK FK_1
  replace ZK := cellb_lt3 FK_0
  replace hV := below_step hV hRR
  clear hRR
  clear hR
  clear FC_0 FC_1 ZC
  clear FK_0 FK_1 ZK
  go_upto_region 11 with fail
  go_cut [100] (fun s100 wx => s100 = .bool false ∧ Below w10.heap.size w10 wx)
  case first =>
    cases one
    · skip
      have KR : Hid (∀ w', Below w10.heap.size w10 w' → Below w10.heap.size w10 w') := fun w' hB => hB
      have hR := Below.refl w10.heap.size w10
      refine wp_region_held_drew (S := (fun w' => Below w10.heap.size w10 w')) (by kernel_rfl) ?_ (fun hHd0 => ?_)
      · (refine KR.out _ ?_; (repeat (first | exact Below.refl _ _ | assumption | refine below_step ?_ (by assumption) | refine below_alloc ?_ _ | refine below_drewN ?_ _ | refine Below.drew ?_ | refine Below.setCell ?_ (by first | (simp; done) | omega | (simp; omega)) _)))
      refine heldT (i := 0) rfl (by kernel_rfl) (by kernel_rfl) (by kernel_rfl) (fun _ _ _ h => h) (by rfl) (v := ?_) ?_ (by assumption) ?_
      rotate_left
      · (intro w hSw; (try dsimp only at hSw); go_simp; try (with_reducible rfl))
      (try simp only [Act.put, List.setIfInBounds_toArray, List.set_cons_zero, List.set_cons_succ])
      refine heldT (i := 1) rfl (by kernel_rfl) (by kernel_rfl) (by kernel_rfl) (fun _ _ _ h => h) (by rfl) (v := ?_) ?_ (by assumption) ?_
      rotate_left
      · (intro w hSw; (try dsimp only at hSw); go_simp; try (with_reducible rfl))
      (try simp only [Act.put, List.setIfInBounds_toArray, List.set_cons_zero, List.set_cons_succ])
      refine heldU (i := 2) rfl (by kernel_rfl) (by kernel_rfl) (by kernel_rfl) (fun _ _ _ h => h) (by rfl) (by assumption) ?_
      (try simp only [Act.put, List.setIfInBounds_toArray, List.set_cons_zero, List.set_cons_succ])
      refine heldU (i := 3) rfl (by kernel_rfl) (by kernel_rfl) (by kernel_rfl) (fun _ _ _ h => h) (by rfl) (by assumption) ?_
      (try simp only [Act.put, List.setIfInBounds_toArray, List.set_cons_zero, List.set_cons_succ])
      refine heldU (i := 4) rfl (by kernel_rfl) (by kernel_rfl) (by kernel_rfl) (fun _ _ _ h => h) (by rfl) (by assumption) ?_
      (try simp only [Act.put, List.setIfInBounds_toArray, List.set_cons_zero, List.set_cons_succ])
      refine heldU (i := 5) rfl (by kernel_rfl) (by kernel_rfl) (by kernel_rfl) (fun _ _ _ h => h) (by rfl) (by assumption) ?_
      (try simp only [Act.put, List.setIfInBounds_toArray, List.set_cons_zero, List.set_cons_succ])
      refine heldU (i := 6) rfl (by kernel_rfl) (by kernel_rfl) (by kernel_rfl) (fun _ _ _ h => h) (by rfl) (by assumption) ?_
      (try simp only [Act.put, List.setIfInBounds_toArray, List.set_cons_zero, List.set_cons_succ])
      refine heldU (i := 7) rfl (by kernel_rfl) (by kernel_rfl) (by kernel_rfl) (fun _ _ _ h => h) (by rfl) (by assumption) ?_
      (try simp only [Act.put, List.setIfInBounds_toArray, List.set_cons_zero, List.set_cons_succ])
      refine heldU (i := 8) rfl (by kernel_rfl) (by kernel_rfl) (by kernel_rfl) (fun _ _ _ h => h) (by rfl) (by assumption) ?_
      (try simp only [Act.put, List.setIfInBounds_toArray, List.set_cons_zero, List.set_cons_succ])
      refine heldU (i := 9) rfl (by kernel_rfl) (by kernel_rfl) (by kernel_rfl) (fun _ _ _ h => h) (by rfl) (by assumption) ?_
      (try simp only [Act.put, List.setIfInBounds_toArray, List.set_cons_zero, List.set_cons_succ])
      refine heldT (i := 10) rfl (by kernel_rfl) (by kernel_rfl) (by kernel_rfl) (fun _ _ _ h => h) (by rfl) (v := ?_) ?_ (by assumption) ?_
      rotate_left
      · (intro w hSw; (try dsimp only at hSw); go_simp; try (with_reducible rfl))
      (try simp only [Act.put, List.setIfInBounds_toArray, List.set_cons_zero, List.set_cons_succ])
      refine wpAnyH_done (by kernel_rfl) ?_ _
      clear KR
      clear hR
      go_wp2_with fail
      go_meet
      exact ⟨rfl, (Below.refl _ _).drew⟩
    · skip
      have KR : Hid (∀ w', Below w10.heap.size w10 w' → Below w10.heap.size w10 w' ∧ w'.cell? ⟨w2.heap.size, 0, none⟩ = some (.int .i64 (P)) ∧ w'.cell? ⟨w2.heap.size, 1, none⟩ = some (.int .i64 (Q)) ∧ w'.cell? ⟨w1.heap.size, 0, none⟩ = some (.int .i64 (a)) ∧ w'.cell? ⟨w1.heap.size, 1, none⟩ = some (.int .i64 (b)) ∧ w'.cell? ⟨w1.heap.size + 1, 0, none⟩ = some (.int .i64 (c)) ∧ w'.cell? ⟨w1.heap.size + 1, 1, none⟩ = some (.int .i64 (d))) := fun w' hB => ⟨hB, bel_cell hB ZA FA_0, bel_cell hB ZA FA_1, bel_cell hB Zg Fg_0, bel_cell hB Zg Fg_1, bel_cell hB Zh Fh_0, bel_cell hB Zh Fh_1⟩
      have hR := Below.refl w10.heap.size w10
      refine wp_region_held_drew (S := (fun w' => Below w10.heap.size w10 w' ∧ w'.cell? ⟨w2.heap.size, 0, none⟩ = some (.int .i64 (P)) ∧ w'.cell? ⟨w2.heap.size, 1, none⟩ = some (.int .i64 (Q)) ∧ w'.cell? ⟨w1.heap.size, 0, none⟩ = some (.int .i64 (a)) ∧ w'.cell? ⟨w1.heap.size, 1, none⟩ = some (.int .i64 (b)) ∧ w'.cell? ⟨w1.heap.size + 1, 0, none⟩ = some (.int .i64 (c)) ∧ w'.cell? ⟨w1.heap.size + 1, 1, none⟩ = some (.int .i64 (d)))) (by kernel_rfl) ?_ (fun hHd0 => ?_)
      · (refine KR.out _ ?_; (repeat (first | exact Below.refl _ _ | assumption | refine below_step ?_ (by assumption) | refine below_alloc ?_ _ | refine below_drewN ?_ _ | refine Below.drew ?_ | refine Below.setCell ?_ (by first | (simp; done) | omega | (simp; omega)) _)))
      refine heldT (i := 0) rfl (by kernel_rfl) (by kernel_rfl) (by kernel_rfl) (fun _ _ _ h => h) (by rfl) (v := ?_) ?_ (by assumption) ?_
      rotate_left
      · (intro w hSw; (try dsimp only at hSw); go_simp; try (with_reducible rfl))
      (try simp only [Act.put, List.setIfInBounds_toArray, List.set_cons_zero, List.set_cons_succ])
      refine heldT (i := 1) rfl (by kernel_rfl) (by kernel_rfl) (by kernel_rfl) (fun _ _ _ h => h) (by rfl) (v := ?_) ?_ (by assumption) ?_
      rotate_left
      · (intro w hSw; (try dsimp only at hSw); go_simp; try (with_reducible rfl))
      (try simp only [Act.put, List.setIfInBounds_toArray, List.set_cons_zero, List.set_cons_succ])
      refine heldT (i := 2) rfl (by kernel_rfl) (by kernel_rfl) (by kernel_rfl) (fun _ _ _ h => h) (by rfl) (v := ?_) ?_ (by assumption) ?_
      rotate_left
      · (intro w hSw; (try dsimp only at hSw); go_simp; try (with_reducible rfl))
      (try simp only [Act.put, List.setIfInBounds_toArray, List.set_cons_zero, List.set_cons_succ])
      refine heldT (i := 4) rfl (by kernel_rfl) (by kernel_rfl) (by kernel_rfl) (fun _ _ _ h => h) (by rfl) (v := ?_) ?_ (by assumption) ?_
      rotate_left
      · (intro w hSw; (try dsimp only at hSw); go_simp; try (with_reducible rfl))
      (try simp only [Act.put, List.setIfInBounds_toArray, List.set_cons_zero, List.set_cons_succ])
      refine heldT (i := 6) rfl (by kernel_rfl) (by kernel_rfl) (by kernel_rfl) (fun _ _ _ h => h) (by rfl) (v := ?_) ?_ (by assumption) ?_
      rotate_left
      · (intro w hSw; (try dsimp only at hSw); go_simp; try (with_reducible rfl))
      (try simp only [Act.put, List.setIfInBounds_toArray, List.set_cons_zero, List.set_cons_succ])
      refine heldC (i := 3) rfl (by kernel_rfl) (fun K' hK => ?_)
      go_simp
      refine (calls_isI (impl_SignOf _ _ _) (G.m1 rfl)).mono ?_; rintro e w11 ⟨rfl, hb11⟩
      (try (go_wp2_with fail))
      refine hK.out _ _ ?_ (fun hHd1 => ?_)
      · ((try dsimp only); (refine KR.out _ ?_; (repeat (first | exact Below.refl _ _ | assumption | refine below_step ?_ (by assumption) | refine below_alloc ?_ _ | refine below_drewN ?_ _ | refine Below.drew ?_ | refine Below.setCell ?_ (by first | (simp; done) | omega | (simp; omega)) _))))
      clear hK K' hHd0
      (try simp only [Act.put, List.setIfInBounds_toArray, List.set_cons_zero, List.set_cons_succ])
      refine heldC (i := 5) rfl (by kernel_rfl) (fun K' hK => ?_)
      go_simp
      refine (calls_isI (impl_SignOf _ _ _) G.m2).mono ?_; rintro e w12 ⟨rfl, hb12⟩
      (try (go_wp2_with fail))
      refine hK.out _ _ ?_ (fun hHd2 => ?_)
      · ((try dsimp only); (refine KR.out _ ?_; (repeat (first | exact Below.refl _ _ | assumption | refine below_step ?_ (by assumption) | refine below_alloc ?_ _ | refine below_drewN ?_ _ | refine Below.drew ?_ | refine Below.setCell ?_ (by first | (simp; done) | omega | (simp; omega)) _))))
      clear hK K' hHd1
      (try simp only [Act.put, List.setIfInBounds_toArray, List.set_cons_zero, List.set_cons_succ])
      refine heldC (i := 7) rfl (by kernel_rfl) (fun K' hK => ?_)
      go_simp
      refine (calls_isI (impl_SignOf _ _ _) G.m3).mono ?_; rintro e w13 ⟨rfl, hb13⟩
      (try (go_wp2_with fail))
      refine hK.out _ _ ?_ (fun hHd3 => ?_)
      · ((try dsimp only); (refine KR.out _ ?_; (repeat (first | exact Below.refl _ _ | assumption | refine below_step ?_ (by assumption) | refine below_alloc ?_ _ | refine below_drewN ?_ _ | refine Below.drew ?_ | refine Below.setCell ?_ (by first | (simp; done) | omega | (simp; omega)) _))))
      clear hK K' hHd2
      (try simp only [Act.put, List.setIfInBounds_toArray, List.set_cons_zero, List.set_cons_succ])
      refine heldT (i := 8) rfl (by kernel_rfl) (by kernel_rfl) (by kernel_rfl) (fun _ _ _ h => h) (by rfl) (v := ?_) ?_ (by assumption) ?_
      rotate_left
      · (intro w hSw; (try dsimp only at hSw); go_simp; try (with_reducible rfl))
      (try simp only [Act.put, List.setIfInBounds_toArray, List.set_cons_zero, List.set_cons_succ])
      refine heldT (i := 9) rfl (by kernel_rfl) (by kernel_rfl) (by kernel_rfl) (fun _ _ _ h => h) (by rfl) (v := ?_) ?_ (by assumption) ?_
      rotate_left
      · (intro w hSw; (try dsimp only at hSw); go_simp; try (with_reducible rfl))
      (try simp only [Act.put, List.setIfInBounds_toArray, List.set_cons_zero, List.set_cons_succ])
      refine heldT (i := 10) rfl (by kernel_rfl) (by kernel_rfl) (by kernel_rfl) (fun _ _ _ h => h) (by rfl) (v := ?_) ?_ (by assumption) ?_
      rotate_left
      · (intro w hSw; (try dsimp only at hSw); go_simp; try (with_reducible rfl))
      (try simp only [Act.put, List.setIfInBounds_toArray, List.set_cons_zero, List.set_cons_succ])
      refine wpAnyH_done (by kernel_rfl) ?_ _
      clear KR
      have hRR : Below w10.heap.size w10 w13 := by (repeat (first | exact Below.refl _ _ | assumption | refine below_step ?_ (by assumption) | refine below_alloc ?_ _ | refine below_drewN ?_ _ | refine Below.drew ?_ | refine Below.setCell ?_ (by first | (simp; done) | omega | (simp; omega)) _))
      go_wp2_with fail
      go_meet
      exact ⟨rfl, hRR⟩
  case rest =>
    obtain ⟨rfl, hcut⟩ := hcut
    generalize hwc : wc = C1 at *
    clear hwc
    replace Fg_0 := bel_cell hcut Zg Fg_0
    replace Fg_1 := bel_cell hcut Zg Fg_1
    replace Zg := cellb_lt3 Fg_0
    replace Fh_0 := bel_cell hcut Zh Fh_0
    replace Fh_1 := bel_cell hcut Zh Fh_1
    replace Zh := cellb_lt3 Fh_0
    replace Fx_0 := bel_cell hcut Zx Fx_0
    replace Fx_1 := bel_cell hcut Zx Fx_1
    replace Zx := cellb_lt3 Fx_0
    replace FA_0 := bel_cell hcut ZA FA_0
    replace FA_1 := bel_cell hcut ZA FA_1
    replace ZA := cellb_lt3 FA_0
    replace FS_0 := bel_cell hcut ZS FS_0
    replace FS_1 := bel_cell hcut ZS FS_1
    replace ZS := cellb_lt3 FS_0
    replace hV := below_step hV hcut
    clear FA_0 FA_1 ZA
    go_wp2_with fail
    refine (calls_is3 (impl_TimesGold _ _ _ _ _) G.yA G.yB G.yK).mono ?_
    rintro e w14 ⟨rfl, hb14⟩
    replace Fg_0 := bel_cell hb14 Zg Fg_0
    replace Fg_1 := bel_cell hb14 Zg Fg_1
    replace Zg := cellb_lt3 Fg_0
    replace Fh_0 := bel_cell hb14 Zh Fh_0
    replace Fh_1 := bel_cell hb14 Zh Fh_1
    replace Zh := cellb_lt3 Fh_0
    replace Fx_0 := bel_cell hb14 Zx Fx_0
    replace Fx_1 := bel_cell hb14 Zx Fx_1
    replace Zx := cellb_lt3 Fx_0
    replace FS_0 := bel_cell hb14 ZS FS_0
    replace FS_1 := bel_cell hb14 ZS FS_1
    replace ZS := cellb_lt3 FS_0
    replace hV := below_step hV hb14
    go_wp2_with fail
    generalize hG : w14.alloc (.cells #[.int .i64 (Y1), .int .i64 (Y2)] 25) = VV6
    have hbV : Below w14.heap.size w14 VV6 := by subst hG; exact below_alloc (Below.refl _ _) _
    have FY_0 : VV6.cell? ⟨w14.heap.size, 0, none⟩ = some (.int .i64 (Y1)) := bel_cell (V := (w14.alloc (.cells #[.int .i64 (Y1), .int .i64 (Y2)] 25))) (by subst hG; exact Below.refl _ _) (by simp <;> omega) (top_cell2 (by simp) rfl)
    have FY_1 : VV6.cell? ⟨w14.heap.size, 1, none⟩ = some (.int .i64 (Y2)) := bel_cell (V := (w14.alloc (.cells #[.int .i64 (Y1), .int .i64 (Y2)] 25))) (by subst hG; exact Below.refl _ _) (by simp <;> omega) (top_cell2 (by simp) rfl)
    clear hG
    replace Fg_0 := bel_cell hbV Zg Fg_0
    replace Fg_1 := bel_cell hbV Zg Fg_1
    replace Zg := cellb_lt3 Fg_0
    replace Fh_0 := bel_cell hbV Zh Fh_0
    replace Fh_1 := bel_cell hbV Zh Fh_1
    replace Zh := cellb_lt3 Fh_0
    replace Fx_0 := bel_cell hbV Zx Fx_0
    replace Fx_1 := bel_cell hbV Zx Fx_1
    replace Zx := cellb_lt3 Fx_0
    replace FS_0 := bel_cell hbV ZS FS_0
    replace FS_1 := bel_cell hbV ZS FS_1
    replace ZS := cellb_lt3 FS_0
    have ZY := cellb_lt3 FY_0
    replace hV := below_step hV hbV
    clear hbV
    clear FS_0 FS_1 ZS
    refine (calls_is3 (impl_TimesGold _ _ _ _ _) G.uA G.uB G.uK).mono ?_
    rintro e w15 ⟨rfl, hb15⟩
    replace Fg_0 := bel_cell hb15 Zg Fg_0
    replace Fg_1 := bel_cell hb15 Zg Fg_1
    replace Zg := cellb_lt3 Fg_0
    replace Fh_0 := bel_cell hb15 Zh Fh_0
    replace Fh_1 := bel_cell hb15 Zh Fh_1
    replace Zh := cellb_lt3 Fh_0
    replace Fx_0 := bel_cell hb15 Zx Fx_0
    replace Fx_1 := bel_cell hb15 Zx Fx_1
    replace Zx := cellb_lt3 Fx_0
    replace FY_0 := bel_cell hb15 ZY FY_0
    replace FY_1 := bel_cell hb15 ZY FY_1
    replace ZY := cellb_lt3 FY_0
    replace hV := below_step hV hb15
    go_wp2_with fail
    generalize hG : w15.alloc (.cells #[.int .i64 (U1), .int .i64 (U2)] 25) = VV7
    have hbV : Below w15.heap.size w15 VV7 := by subst hG; exact below_alloc (Below.refl _ _) _
    have FU_0 : VV7.cell? ⟨w15.heap.size, 0, none⟩ = some (.int .i64 (U1)) := bel_cell (V := (w15.alloc (.cells #[.int .i64 (U1), .int .i64 (U2)] 25))) (by subst hG; exact Below.refl _ _) (by simp <;> omega) (top_cell2 (by simp) rfl)
    have FU_1 : VV7.cell? ⟨w15.heap.size, 1, none⟩ = some (.int .i64 (U2)) := bel_cell (V := (w15.alloc (.cells #[.int .i64 (U1), .int .i64 (U2)] 25))) (by subst hG; exact Below.refl _ _) (by simp <;> omega) (top_cell2 (by simp) rfl)
    clear hG
    replace Fg_0 := bel_cell hbV Zg Fg_0
    replace Fg_1 := bel_cell hbV Zg Fg_1
    replace Zg := cellb_lt3 Fg_0
    replace Fh_0 := bel_cell hbV Zh Fh_0
    replace Fh_1 := bel_cell hbV Zh Fh_1
    replace Zh := cellb_lt3 Fh_0
    replace Fx_0 := bel_cell hbV Zx Fx_0
    replace Fx_1 := bel_cell hbV Zx Fx_1
    replace Zx := cellb_lt3 Fx_0
    replace FY_0 := bel_cell hbV ZY FY_0
    replace FY_1 := bel_cell hbV ZY FY_1
    replace ZY := cellb_lt3 FY_0
    have ZU := cellb_lt3 FU_0
    replace hV := below_step hV hbV
    clear hbV
    refine (calls_is3 (impl_TimesGold _ _ _ _ _) G.vA G.vB G.vK).mono ?_
    rintro e w16 ⟨rfl, hb16⟩
    replace Fg_0 := bel_cell hb16 Zg Fg_0
    replace Fg_1 := bel_cell hb16 Zg Fg_1
    replace Zg := cellb_lt3 Fg_0
    replace Fh_0 := bel_cell hb16 Zh Fh_0
    replace Fh_1 := bel_cell hb16 Zh Fh_1
    replace Zh := cellb_lt3 Fh_0
    replace Fx_0 := bel_cell hb16 Zx Fx_0
    replace Fx_1 := bel_cell hb16 Zx Fx_1
    replace Zx := cellb_lt3 Fx_0
    replace FY_0 := bel_cell hb16 ZY FY_0
    replace FY_1 := bel_cell hb16 ZY FY_1
    replace ZY := cellb_lt3 FY_0
    replace FU_0 := bel_cell hb16 ZU FU_0
    replace FU_1 := bel_cell hb16 ZU FU_1
    replace ZU := cellb_lt3 FU_0
    replace hV := below_step hV hb16
    go_upto_region 16 with fail
    generalize hG : w16.alloc (.cells #[.int .i64 (V1), .int .i64 (V2)] 25) = VV8
    have hbV : Below w16.heap.size w16 VV8 := by subst hG; exact below_alloc (Below.refl _ _) _
    have FV_0 : VV8.cell? ⟨w16.heap.size, 0, none⟩ = some (.int .i64 (V1)) := bel_cell (V := (w16.alloc (.cells #[.int .i64 (V1), .int .i64 (V2)] 25))) (by subst hG; exact Below.refl _ _) (by simp <;> omega) (top_cell2 (by simp) rfl)
    have FV_1 : VV8.cell? ⟨w16.heap.size, 1, none⟩ = some (.int .i64 (V2)) := bel_cell (V := (w16.alloc (.cells #[.int .i64 (V1), .int .i64 (V2)] 25))) (by subst hG; exact Below.refl _ _) (by simp <;> omega) (top_cell2 (by simp) rfl)
    clear hG
    replace Fg_0 := bel_cell hbV Zg Fg_0
    replace Fg_1 := bel_cell hbV Zg Fg_1
    replace Zg := cellb_lt3 Fg_0
    replace Fh_0 := bel_cell hbV Zh Fh_0
    replace Fh_1 := bel_cell hbV Zh Fh_1
    replace Zh := cellb_lt3 Fh_0
    replace Fx_0 := bel_cell hbV Zx Fx_0
    replace Fx_1 := bel_cell hbV Zx Fx_1
    replace Zx := cellb_lt3 Fx_0
    replace FY_0 := bel_cell hbV ZY FY_0
    replace FY_1 := bel_cell hbV ZY FY_1
    replace ZY := cellb_lt3 FY_0
    replace FU_0 := bel_cell hbV ZU FU_0
    replace FU_1 := bel_cell hbV ZU FU_1
    replace ZU := cellb_lt3 FU_0
    have ZV := cellb_lt3 FV_0
    replace hV := below_step hV hbV
    clear hbV
    clear Fx_0 Fx_1 Zx
    go_cut [125] (fun s125 wx => s125 = .bool (five && six && seven) ∧ VV8 = wx)
    case first =>
      cases five <;> cases six <;> cases seven <;> (go_wp2_with fail; go_meet; exact ⟨rfl, rfl⟩)
    case rest =>
      obtain ⟨rfl, hw2⟩ := hcut
      subst hw2
      go_upto_if 125 with fail
      go_cut [] (fun wx => Below VV8.heap.size VV8 wx)
      case first =>
        cases hb : (five && six && seven)
        · go_wp2_with fail
          go_meet
          exact Below.refl _ _
        · simp only [Bool.and_eq_true] at hb
          obtain ⟨⟨rfl, rfl⟩, rfl⟩ := hb
          cases ok
          · skip
            have hV0 := Below.refl VV8.heap.size VV8
            go_wp2_with fail
            refine (calls_is3 (impl_AddGold _ _ _ _ _) G.zA G.zB G.zK).mono ?_
            rintro e w17 ⟨rfl, hb17⟩
            replace Fg_0 := bel_cell hb17 Zg Fg_0
            replace Fg_1 := bel_cell hb17 Zg Fg_1
            replace Zg := cellb_lt3 Fg_0
            replace Fh_0 := bel_cell hb17 Zh Fh_0
            replace Fh_1 := bel_cell hb17 Zh Fh_1
            replace Zh := cellb_lt3 Fh_0
            replace FY_0 := bel_cell hb17 ZY FY_0
            replace FY_1 := bel_cell hb17 ZY FY_1
            replace ZY := cellb_lt3 FY_0
            replace FU_0 := bel_cell hb17 ZU FU_0
            replace FU_1 := bel_cell hb17 ZU FU_1
            replace ZU := cellb_lt3 FU_0
            replace FV_0 := bel_cell hb17 ZV FV_0
            replace FV_1 := bel_cell hb17 ZV FV_1
            replace ZV := cellb_lt3 FV_0
            replace hV := below_step hV hb17
            replace hV0 := below_step hV0 hb17
            go_wp2_with fail
            generalize hG : w17.alloc (.cells #[.int .i64 (Z1), .int .i64 (Z2)] 25) = VV9
            have hbV : Below w17.heap.size w17 VV9 := by subst hG; exact below_alloc (Below.refl _ _) _
            have FZ_0 : VV9.cell? ⟨w17.heap.size, 0, none⟩ = some (.int .i64 (Z1)) := bel_cell (V := (w17.alloc (.cells #[.int .i64 (Z1), .int .i64 (Z2)] 25))) (by subst hG; exact Below.refl _ _) (by simp <;> omega) (top_cell2 (by simp) rfl)
            have FZ_1 : VV9.cell? ⟨w17.heap.size, 1, none⟩ = some (.int .i64 (Z2)) := bel_cell (V := (w17.alloc (.cells #[.int .i64 (Z1), .int .i64 (Z2)] 25))) (by subst hG; exact Below.refl _ _) (by simp <;> omega) (top_cell2 (by simp) rfl)
            clear hG
            replace Fg_0 := bel_cell hbV Zg Fg_0
            replace Fg_1 := bel_cell hbV Zg Fg_1
            replace Zg := cellb_lt3 Fg_0
            replace Fh_0 := bel_cell hbV Zh Fh_0
            replace Fh_1 := bel_cell hbV Zh Fh_1
            replace Zh := cellb_lt3 Fh_0
            replace FY_0 := bel_cell hbV ZY FY_0
            replace FY_1 := bel_cell hbV ZY FY_1
            replace ZY := cellb_lt3 FY_0
            replace FU_0 := bel_cell hbV ZU FU_0
            replace FU_1 := bel_cell hbV ZU FU_1
            replace ZU := cellb_lt3 FU_0
            replace FV_0 := bel_cell hbV ZV FV_0
            replace FV_1 := bel_cell hbV ZV FV_1
            replace ZV := cellb_lt3 FV_0
            have ZZ := cellb_lt3 FZ_0
            replace hV0 := below_step hV0 hbV
            replace hV := below_step hV hbV
            clear hbV
            go_wp2_with fail
            go_meet
            exact hV0
          · skip
            have hV0 := Below.refl VV8.heap.size VV8
            obtain ⟨rfl, rfl⟩ := G.ze rfl rfl rfl rfl
            go_wp2_with fail
            refine (calls_is3 (impl_AddGold _ _ _ _ _) G.zA G.zB G.zK).mono ?_
            rintro e w17 ⟨rfl, hb17⟩
            replace Fg_0 := bel_cell hb17 Zg Fg_0
            replace Fg_1 := bel_cell hb17 Zg Fg_1
            replace Zg := cellb_lt3 Fg_0
            replace Fh_0 := bel_cell hb17 Zh Fh_0
            replace Fh_1 := bel_cell hb17 Zh Fh_1
            replace Zh := cellb_lt3 Fh_0
            replace FY_0 := bel_cell hb17 ZY FY_0
            replace FY_1 := bel_cell hb17 ZY FY_1
            replace ZY := cellb_lt3 FY_0
            replace FU_0 := bel_cell hb17 ZU FU_0
            replace FU_1 := bel_cell hb17 ZU FU_1
            replace ZU := cellb_lt3 FU_0
            replace FV_0 := bel_cell hb17 ZV FV_0
            replace FV_1 := bel_cell hb17 ZV FV_1
            replace ZV := cellb_lt3 FV_0
            replace hV := below_step hV hb17
            replace hV0 := below_step hV0 hb17
            go_wp2_with fail
            generalize hG : w17.alloc (.cells #[.int .i64 (Z1), .int .i64 (Z2)] 25) = VV9
            have hbV : Below w17.heap.size w17 VV9 := by subst hG; exact below_alloc (Below.refl _ _) _
            have FZ_0 : VV9.cell? ⟨w17.heap.size, 0, none⟩ = some (.int .i64 (Z1)) := bel_cell (V := (w17.alloc (.cells #[.int .i64 (Z1), .int .i64 (Z2)] 25))) (by subst hG; exact Below.refl _ _) (by simp <;> omega) (top_cell2 (by simp) rfl)
            have FZ_1 : VV9.cell? ⟨w17.heap.size, 1, none⟩ = some (.int .i64 (Z2)) := bel_cell (V := (w17.alloc (.cells #[.int .i64 (Z1), .int .i64 (Z2)] 25))) (by subst hG; exact Below.refl _ _) (by simp <;> omega) (top_cell2 (by simp) rfl)
            clear hG
            replace Fg_0 := bel_cell hbV Zg Fg_0
            replace Fg_1 := bel_cell hbV Zg Fg_1
            replace Zg := cellb_lt3 Fg_0
            replace Fh_0 := bel_cell hbV Zh Fh_0
            replace Fh_1 := bel_cell hbV Zh Fh_1
            replace Zh := cellb_lt3 Fh_0
            replace FY_0 := bel_cell hbV ZY FY_0
            replace FY_1 := bel_cell hbV ZY FY_1
            replace ZY := cellb_lt3 FY_0
            replace FU_0 := bel_cell hbV ZU FU_0
            replace FU_1 := bel_cell hbV ZU FU_1
            replace ZU := cellb_lt3 FU_0
            replace FV_0 := bel_cell hbV ZV FV_0
            replace FV_1 := bel_cell hbV ZV FV_1
            replace ZV := cellb_lt3 FV_0
            have ZZ := cellb_lt3 FZ_0
            replace hV0 := below_step hV0 hbV
            replace hV := below_step hV hbV
            clear hbV
            go_wp2_with fail
            go_meet
            exact hV0
      case rest =>
        generalize hwc : wc = C2 at *
        clear hwc
        clear FY_0 FY_1 ZY
        clear FU_0 FU_1 ZU
        clear FV_0 FV_1 ZV
        replace Fg_0 := bel_cell hcut Zg Fg_0
        replace Fg_1 := bel_cell hcut Zg Fg_1
        replace Zg := cellb_lt3 Fg_0
        replace Fh_0 := bel_cell hcut Zh Fh_0
        replace Fh_1 := bel_cell hcut Zh Fh_1
        replace Zh := cellb_lt3 Fh_0
        replace hV := below_step hV hcut
        have hz1 : IntKind.i64.wrap (z % 19 + 1) = z % 19 + 1 := by rw [IntKind.wrap_i64]; omega
        have eqt := G.eqt
        have eqg := G.eqg
        have ht := wrap_small (m := t) (by have := G.tb; omega) (by have := G.tb; omega)
        go_wp2_with fail
        have KR : Hid (∀ w', Below C2.heap.size C2 w' → Below C2.heap.size C2 w' ∧ w'.cell? ⟨w1.heap.size, 0, none⟩ = some (.int .i64 (a)) ∧ w'.cell? ⟨w1.heap.size, 1, none⟩ = some (.int .i64 (b)) ∧ w'.cell? ⟨w1.heap.size + 1, 0, none⟩ = some (.int .i64 (c)) ∧ w'.cell? ⟨w1.heap.size + 1, 1, none⟩ = some (.int .i64 (d))) := fun w' hB => ⟨hB, bel_cell hB Zg Fg_0, bel_cell hB Zg Fg_1, bel_cell hB Zh Fh_0, bel_cell hB Zh Fh_1⟩
        have hR := Below.refl C2.heap.size C2
        refine wp_region_held_drew (S := (fun w' => Below C2.heap.size C2 w' ∧ w'.cell? ⟨w1.heap.size, 0, none⟩ = some (.int .i64 (a)) ∧ w'.cell? ⟨w1.heap.size, 1, none⟩ = some (.int .i64 (b)) ∧ w'.cell? ⟨w1.heap.size + 1, 0, none⟩ = some (.int .i64 (c)) ∧ w'.cell? ⟨w1.heap.size + 1, 1, none⟩ = some (.int .i64 (d)))) (by kernel_rfl) ?_ (fun hHd0 => ?_)
        · (refine KR.out _ ?_; (repeat (first | exact Below.refl _ _ | assumption | refine below_step ?_ (by assumption) | refine below_alloc ?_ _ | refine below_drewN ?_ _ | refine Below.drew ?_ | refine Below.setCell ?_ (by first | (simp; done) | omega | (simp; omega)) _)))
        refine heldT (i := 0) rfl (by kernel_rfl) (by kernel_rfl) (by kernel_rfl) (fun _ _ _ h => h) (by rfl) (v := ?_) ?_ (by assumption) ?_
        rotate_left
        · (intro w hSw; (try dsimp only at hSw); go_simp; try (with_reducible rfl))
        (try simp only [Act.put, List.setIfInBounds_toArray, List.set_cons_zero, List.set_cons_succ])
        refine heldT (i := 1) rfl (by kernel_rfl) (by kernel_rfl) (by kernel_rfl) (fun _ _ _ h => h) (by rfl) (v := ?_) ?_ (by assumption) ?_
        rotate_left
        · (intro w hSw; (try dsimp only at hSw); go_simp; try (with_reducible rfl))
        (try simp only [Act.put, List.setIfInBounds_toArray, List.set_cons_zero, List.set_cons_succ])
        refine heldT (i := 3) rfl (by kernel_rfl) (by kernel_rfl) (by kernel_rfl) (fun _ _ _ h => h) (by rfl) (v := ?_) ?_ (by assumption) ?_
        rotate_left
        · (intro w hSw; (try dsimp only at hSw); go_simp; try (with_reducible rfl))
        (try simp only [Act.put, List.setIfInBounds_toArray, List.set_cons_zero, List.set_cons_succ])
        refine heldT (i := 4) rfl (by kernel_rfl) (by kernel_rfl) (by kernel_rfl) (fun _ _ _ h => h) (by rfl) (v := ?_) ?_ (by assumption) ?_
        rotate_left
        · (intro w hSw; (try dsimp only at hSw); go_simp; try (with_reducible rfl))
        (try simp only [Act.put, List.setIfInBounds_toArray, List.set_cons_zero, List.set_cons_succ])
        refine heldC (i := 2) rfl (by kernel_rfl) (fun K' hK => ?_)
        go_simp
        refine (calls_isI (impl_CompareGold _ _ _ _ _) G.c1).mono ?_; rintro e w18 ⟨rfl, hb18⟩
        (try (go_wp2_with fail))
        refine hK.out _ _ ?_ (fun hHd1 => ?_)
        · ((try dsimp only); (refine KR.out _ ?_; (repeat (first | exact Below.refl _ _ | assumption | refine below_step ?_ (by assumption) | refine below_alloc ?_ _ | refine below_drewN ?_ _ | refine Below.drew ?_ | refine Below.setCell ?_ (by first | (simp; done) | omega | (simp; omega)) _))))
        clear hK K' hHd0
        (try simp only [Act.put, List.setIfInBounds_toArray, List.set_cons_zero, List.set_cons_succ])
        refine heldC (i := 5) rfl (by kernel_rfl) (fun K' hK => ?_)
        go_simp
        refine (calls_isI (impl_CompareGold _ _ _ _ _) G.c2).mono ?_; rintro e w19 ⟨rfl, hb19⟩
        (try (go_wp2_with fail))
        refine hK.out _ _ ?_ (fun hHd2 => ?_)
        · ((try dsimp only); (refine KR.out _ ?_; (repeat (first | exact Below.refl _ _ | assumption | refine below_step ?_ (by assumption) | refine below_alloc ?_ _ | refine below_drewN ?_ _ | refine Below.drew ?_ | refine Below.setCell ?_ (by first | (simp; done) | omega | (simp; omega)) _))))
        clear hK K' hHd1
        (try simp only [Act.put, List.setIfInBounds_toArray, List.set_cons_zero, List.set_cons_succ])
        refine heldT (i := 6) rfl (by kernel_rfl) (by kernel_rfl) (by kernel_rfl) (fun _ _ _ h => h) (by rfl) (v := ?_) ?_ (by assumption) ?_
        rotate_left
        · (intro w hSw; (try dsimp only at hSw); go_simp; try (with_reducible rfl))
        (try simp only [Act.put, List.setIfInBounds_toArray, List.set_cons_zero, List.set_cons_succ])
        refine heldT (i := 7) rfl (by kernel_rfl) (by kernel_rfl) (by kernel_rfl) (fun _ _ _ h => h) (by rfl) (v := ?_) ?_ (by assumption) ?_
        rotate_left
        · (intro w hSw; (try dsimp only at hSw); go_simp; try (with_reducible rfl))
        (try simp only [Act.put, List.setIfInBounds_toArray, List.set_cons_zero, List.set_cons_succ])
        refine heldT (i := 8) rfl (by kernel_rfl) (by kernel_rfl) (by kernel_rfl) (fun _ _ _ h => h) (by rfl) (v := ?_) ?_ (by assumption) ?_
        rotate_left
        · (intro w hSw; (try dsimp only at hSw); go_simp; try (with_reducible rfl))
        (try simp only [Act.put, List.setIfInBounds_toArray, List.set_cons_zero, List.set_cons_succ])
        refine heldT (i := 9) rfl (by kernel_rfl) (by kernel_rfl) (by kernel_rfl) (fun _ _ _ h => h) (by rfl) (v := ?_) ?_ (by assumption) ?_
        rotate_left
        · (intro w hSw; (try dsimp only at hSw); go_simp; try (with_reducible rfl))
        (try simp only [Act.put, List.setIfInBounds_toArray, List.set_cons_zero, List.set_cons_succ])
        refine heldT (i := 10) rfl (by kernel_rfl) (by kernel_rfl) (by kernel_rfl) (fun _ _ _ h => h) (by rfl) (v := ?_) ?_ (by assumption) ?_
        rotate_left
        · (intro w hSw; (try dsimp only at hSw); go_simp; try (with_reducible rfl))
        (try simp only [Act.put, List.setIfInBounds_toArray, List.set_cons_zero, List.set_cons_succ])
        refine heldT (i := 13) rfl (by kernel_rfl) (by kernel_rfl) (by kernel_rfl) (fun _ _ _ h => h) (by rfl) (v := ?_) ?_ (by assumption) ?_
        rotate_left
        · (intro w hSw; (try dsimp only at hSw); go_simp; try (with_reducible rfl))
        (try simp only [Act.put, List.setIfInBounds_toArray, List.set_cons_zero, List.set_cons_succ])
        refine heldT (i := 14) rfl (by kernel_rfl) (by kernel_rfl) (by kernel_rfl) (fun _ _ _ h => h) (by rfl) (v := ?_) ?_ (by assumption) ?_
        rotate_left
        · (intro w hSw; (try dsimp only at hSw); go_simp; try (with_reducible rfl))
        (try simp only [Act.put, List.setIfInBounds_toArray, List.set_cons_zero, List.set_cons_succ])
        refine heldT (i := 15) rfl (by kernel_rfl) (by kernel_rfl) (by kernel_rfl) (fun _ _ _ h => h) (by rfl) (v := .bool eq) ?_ (by assumption) ?_
        · (intro w hSw; (try dsimp only at hSw); go_simp; (rw [← eqg]; by_cases h1 : a = c <;> by_cases h2 : b = d <;> simp [h1, h2]))
        (try simp only [Act.put, List.setIfInBounds_toArray, List.set_cons_zero, List.set_cons_succ])
        refine heldC (i := 11) rfl (by kernel_rfl) (fun K' hK => ?_)
        go_simp
        refine (calls_isI (impl_CompareGold _ _ _ _ _) G.c1).mono ?_; rintro e w20 ⟨rfl, hb20⟩
        (try (go_wp2_with fail))
        refine hK.out _ _ ?_ (fun hHd3 => ?_)
        · ((try dsimp only); (refine KR.out _ ?_; (repeat (first | exact Below.refl _ _ | assumption | refine below_step ?_ (by assumption) | refine below_alloc ?_ _ | refine below_drewN ?_ _ | refine Below.drew ?_ | refine Below.setCell ?_ (by first | (simp; done) | omega | (simp; omega)) _))))
        clear hK K' hHd2
        (try simp only [Act.put, List.setIfInBounds_toArray, List.set_cons_zero, List.set_cons_succ])
        refine heldT (i := 12) rfl (by kernel_rfl) (by kernel_rfl) (by kernel_rfl) (fun _ _ _ h => h) (by rfl) (v := ?_) ?_ (by assumption) ?_
        rotate_left
        · (intro w hSw; (try dsimp only at hSw); go_simp; try (with_reducible rfl))
        (try simp only [Act.put, List.setIfInBounds_toArray, List.set_cons_zero, List.set_cons_succ])
        refine heldT (i := 16) rfl (by kernel_rfl) (by kernel_rfl) (by kernel_rfl) (fun _ _ _ h => h) (by rfl) (v := ?_) ?_ (by assumption) ?_
        rotate_left
        · (intro w hSw; (try dsimp only at hSw); go_simp; try (with_reducible rfl))
        (try simp only [Act.put, List.setIfInBounds_toArray, List.set_cons_zero, List.set_cons_succ])
        refine heldT (i := 17) rfl (by kernel_rfl) (by kernel_rfl) (by kernel_rfl) (fun _ _ _ h => h) (by rfl) (v := ?_) ?_ (by assumption) ?_
        rotate_left
        · (intro w hSw; (try dsimp only at hSw); go_simp; try (with_reducible rfl))
        (try simp only [Act.put, List.setIfInBounds_toArray, List.set_cons_zero, List.set_cons_succ])
        refine heldT (i := 18) rfl (by kernel_rfl) (by kernel_rfl) (by kernel_rfl) (fun _ _ _ h => h) (by rfl) (v := ?_) ?_ (by assumption) ?_
        rotate_left
        · (intro w hSw; (try dsimp only at hSw); go_simp; try (with_reducible rfl))
        (try simp only [Act.put, List.setIfInBounds_toArray, List.set_cons_zero, List.set_cons_succ])
        refine heldT (i := 19) rfl (by kernel_rfl) (by kernel_rfl) (by kernel_rfl) (fun _ _ _ h => h) (by rfl) (v := ?_) ?_ (by assumption) ?_
        rotate_left
        · (intro w hSw; (try dsimp only at hSw); go_simp; try (with_reducible rfl))
        (try simp only [Act.put, List.setIfInBounds_toArray, List.set_cons_zero, List.set_cons_succ])
        refine heldC (i := 20) rfl (by kernel_rfl) (fun K' hK => ?_)
        go_simp
        refine (calls_is (impl_GoldOk _ _ _) G.g1).mono ?_; rintro e w21 ⟨rfl, hb21⟩
        (try (go_wp2_with fail))
        refine hK.out _ _ ?_ (fun hHd4 => ?_)
        · ((try dsimp only); (refine KR.out _ ?_; (repeat (first | exact Below.refl _ _ | assumption | refine below_step ?_ (by assumption) | refine below_alloc ?_ _ | refine below_drewN ?_ _ | refine Below.drew ?_ | refine Below.setCell ?_ (by first | (simp; done) | omega | (simp; omega)) _))))
        clear hK K' hHd3
        (try simp only [Act.put, List.setIfInBounds_toArray, List.set_cons_zero, List.set_cons_succ])
        refine heldT (i := 21) rfl (by kernel_rfl) (by kernel_rfl) (by kernel_rfl) (fun _ _ _ h => h) (by rfl) (v := ?_) ?_ (by assumption) ?_
        rotate_left
        · (intro w hSw; (try dsimp only at hSw); go_simp; try (with_reducible rfl))
        (try simp only [Act.put, List.setIfInBounds_toArray, List.set_cons_zero, List.set_cons_succ])
        refine heldT (i := 22) rfl (by kernel_rfl) (by kernel_rfl) (by kernel_rfl) (fun _ _ _ h => h) (by rfl) (v := ?_) ?_ (by assumption) ?_
        rotate_left
        · (intro w hSw; (try dsimp only at hSw); go_simp; try (with_reducible rfl))
        (try simp only [Act.put, List.setIfInBounds_toArray, List.set_cons_zero, List.set_cons_succ])
        refine heldT (i := 23) rfl (by kernel_rfl) (by kernel_rfl) (by kernel_rfl) (fun _ _ _ h => h) (by rfl) (v := ?_) ?_ (by assumption) ?_
        rotate_left
        · (intro w hSw; (try dsimp only at hSw); go_simp; try (with_reducible rfl))
        (try simp only [Act.put, List.setIfInBounds_toArray, List.set_cons_zero, List.set_cons_succ])
        refine heldT (i := 24) rfl (by kernel_rfl) (by kernel_rfl) (by kernel_rfl) (fun _ _ _ h => h) (by rfl) (v := ?_) ?_ (by assumption) ?_
        rotate_left
        · (intro w hSw; (try dsimp only at hSw); go_simp; try (with_reducible rfl))
        (try simp only [Act.put, List.setIfInBounds_toArray, List.set_cons_zero, List.set_cons_succ])
        refine heldT (i := 26) rfl (by kernel_rfl) (by kernel_rfl) (by kernel_rfl) (fun _ _ _ h => h) (by rfl) (v := ?_) ?_ (by assumption) ?_
        rotate_left
        · (intro w hSw; (try dsimp only at hSw); go_simp; try (with_reducible rfl))
        (try simp only [Act.put, List.setIfInBounds_toArray, List.set_cons_zero, List.set_cons_succ])
        refine heldC (i := 25) rfl (by kernel_rfl) (fun K' hK => ?_)
        go_simp
        refine (calls_isG (impl_PowerOf _ _) GN.w1 GN.w2).mono ?_; rintro e w22 ⟨rfl, hb22⟩
        (try (go_wp2_with fail))
        refine hK.out _ _ ?_ (fun hHd5 => ?_)
        · ((try dsimp only); (refine KR.out _ ?_; (repeat (first | exact Below.refl _ _ | assumption | refine below_step ?_ (by assumption) | refine below_alloc ?_ _ | refine below_drewN ?_ _ | refine Below.drew ?_ | refine Below.setCell ?_ (by first | (simp; done) | omega | (simp; omega)) _))))
        clear hK K' hHd4
        (try simp only [Act.put, List.setIfInBounds_toArray, List.set_cons_zero, List.set_cons_succ])
        refine heldC (i := 27) rfl (by kernel_rfl) (fun K' hK => ?_)
        go_simp
        refine (calls_isG (impl_PowerOf _ _) GN.w5 GN.w6).mono ?_; rintro e w23 ⟨rfl, hb23⟩
        (try (go_wp2_with fail))
        refine hK.out _ _ ?_ (fun hHd6 => ?_)
        · ((try dsimp only); (refine KR.out _ ?_; (repeat (first | exact Below.refl _ _ | assumption | refine below_step ?_ (by assumption) | refine below_alloc ?_ _ | refine below_drewN ?_ _ | refine Below.drew ?_ | refine Below.setCell ?_ (by first | (simp; done) | omega | (simp; omega)) _))))
        clear hK K' hHd5
        (try simp only [Act.put, List.setIfInBounds_toArray, List.set_cons_zero, List.set_cons_succ])
        refine heldC (i := 28) rfl (by kernel_rfl) (fun K' hK => ?_)
        go_simp
        refine (calls_isI (impl_CompareGold _ _ _ _ _) GN.cp).mono ?_; rintro e w24 ⟨rfl, hb24⟩
        (try (go_wp2_with fail))
        refine hK.out _ _ ?_ (fun hHd7 => ?_)
        · ((try dsimp only); (refine KR.out _ ?_; (repeat (first | exact Below.refl _ _ | assumption | refine below_step ?_ (by assumption) | refine below_alloc ?_ _ | refine below_drewN ?_ _ | refine Below.drew ?_ | refine Below.setCell ?_ (by first | (simp; done) | omega | (simp; omega)) _))))
        clear hK K' hHd6
        (try simp only [Act.put, List.setIfInBounds_toArray, List.set_cons_zero, List.set_cons_succ])
        refine heldT (i := 29) rfl (by kernel_rfl) (by kernel_rfl) (by kernel_rfl) (fun _ _ _ h => h) (by rfl) (v := ?_) ?_ (by assumption) ?_
        rotate_left
        · (intro w hSw; (try dsimp only at hSw); go_simp; try (with_reducible rfl))
        (try simp only [Act.put, List.setIfInBounds_toArray, List.set_cons_zero, List.set_cons_succ])
        refine heldT (i := 30) rfl (by kernel_rfl) (by kernel_rfl) (by kernel_rfl) (fun _ _ _ h => h) (by rfl) (v := ?_) ?_ (by assumption) ?_
        rotate_left
        · (intro w hSw; (try dsimp only at hSw); go_simp; try (with_reducible rfl))
        (try simp only [Act.put, List.setIfInBounds_toArray, List.set_cons_zero, List.set_cons_succ])
        refine heldT (i := 31) rfl (by kernel_rfl) (by kernel_rfl) (by kernel_rfl) (fun _ _ _ h => h) (by rfl) (v := ?_) ?_ (by assumption) ?_
        rotate_left
        · (intro w hSw; (try dsimp only at hSw); go_simp; try (with_reducible rfl))
        (try simp only [Act.put, List.setIfInBounds_toArray, List.set_cons_zero, List.set_cons_succ])
        refine wpAnyH_done (by kernel_rfl) ?_ _
        clear KR
        have hRR : Below C2.heap.size C2 w24 := by (repeat (first | exact Below.refl _ _ | assumption | refine below_step ?_ (by assumption) | refine below_alloc ?_ _ | refine below_drewN ?_ _ | refine Below.drew ?_ | refine Below.setCell ?_ (by first | (simp; done) | omega | (simp; omega)) _))
        replace Fg_0 := bel_cell hRR Zg Fg_0
        replace Fg_1 := bel_cell hRR Zg Fg_1
        replace Zg := cellb_lt3 Fg_0
        replace Fh_0 := bel_cell hRR Zh Fh_0
        replace Fh_1 := bel_cell hRR Zh Fh_1
        replace Zh := cellb_lt3 Fh_0
        replace hV := below_step hV hRR
        clear hRR
        clear hR
        go_wp2
        go_ret
        exact ⟨ret_bool (by simp), by (repeat (first | exact Below.refl _ _ | assumption | refine below_step ?_ (by assumption) | refine below_alloc ?_ _ | refine below_drewN ?_ _ | refine Below.drew ?_ | refine Below.setCell ?_ (by first | (simp; done) | omega | (simp; omega)) _))⟩
end Go.Proofs.Ytmdpacgoijnonaa
