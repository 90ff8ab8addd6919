/- Drawn aims: a small board, a position and a goal. -/
import Derived.Test.YtianfakgojmnpaaDrawR
namespace Go.Proofs.Ytianfakgojmnpaa
open Go.RowKit
set_option maxRecDepth 100000 in
set_option maxHeartbeats 8000000 in
theorem spec_l21Start (g B : Nat) (w : World) (hc : CurAt B w g) :
    Calls Try.prog 100 #[.pointer (some ⟨g, 0, none⟩)] w fun e w' => ∃ W H X p q : Int, e = .returned (.tuple #[.agg #[.int .i64 W, .int .i64 H, .int .i64 X], .int .i64 p, .int .i64 q]) ∧ smallB W H X ∧ positionOk W H X p = true ∧ positionOk W H X q = true ∧ CurAt B w' g ∧ w.grownBy w' (some g) := by
  have hg := hc.1
  have hgB := hc.2.1
  go_enter Try.func100, Try.ntmps100
  go_wp2_with fail
  have R := new3 (w := w) (a := 0) (b := 0) (c := 0) (ty := 44)
  have hgr : w.grownBy (w.alloc (.cells #[.int .i64 0, .int .i64 0, .int .i64 0] 44)) (some g) := gr_alloc (gr_refl _ _) _
  replace hc := hc.below (below_one w (.cells #[.int .i64 0, .int .i64 0, .int .i64 0] 44))
  have hrg : w.heap.size ≠ g := by omega
  refine (spec_l14Start g B _ hc).mono ?_
  rintro e w1 ⟨W, H, X, p, rfl, hs, hp, hc1, hg1⟩
  replace R := R.grown hg1 (by simp; omega)
  replace hgr := gr_trans hgr hg1
  clear hc hg1
  go_wp2_with fail
  generalize hU : w1.alloc (.cells #[.int .i64 W, .int .i64 H, .int .i64 X] 44) = U
  have Bd : Cells3 U w1.heap.size W H X := by subst hU; exact new3
  have hcU : CurAt B U g := by subst hU; exact hc1.below (below_one _ _)
  have hgU : w.grownBy U (some g) := by subst hU; exact gr_alloc hgr _
  have RU : Cells3 U w.heap.size 0 0 0 := by subst hU; exact R.below (below_one _ _)
  have hbg : w1.heap.size ≠ g := by have := hc1.1; omega
  have hbr : w1.heap.size ≠ w.heap.size := by have := R.1; omega
  have hbw : w.heap.size ≤ w1.heap.size := hgr.size
  clear hU R hc1 hgr
  have hq := Bd
  obtain ⟨hbs, ⟨b0, b1, b2⟩, f0, f1, f2⟩ := hq
  refine (spec_CountHoles _ _ _ _).mono ?_
  rintro e w2 ⟨rfl, hb2⟩
  replace Bd := Bd.below hb2
  replace hcU := hcU.below hb2
  replace hgU := gr_below hgU hb2
  replace RU := RU.below hb2
  clear hb2 b0 b1 b2 f0 f1 f2 hbs
  by_cases h10 : 10 < (holes W H X).length
  · go_wp2_with fail
    refine (spec_Rectangle 3 3 _ (by omega) (by omega) (by omega) (by omega)).mono ?_
    rintro e w3 ⟨rfl, hb3⟩
    replace Bd := Bd.below hb3
    replace hcU := hcU.below hb3
    replace hgU := gr_below hgU hb3
    replace RU := RU.below hb3
    clear hb3
    have hq := Bd
    obtain ⟨hbs, ⟨b0, b1, b2⟩, f0, f1, f2⟩ := hq
    have Bd' := Bd.set3 3 3 511
    have hc' := ((hcU.set (k := w1.heap.size) (j := 0) (v := .int .i64 3) (by omega) hbg).set (k := w1.heap.size) (j := 1) (v := .int .i64 3) (by omega) hbg).set (k := w1.heap.size) (j := 2) (v := .int .i64 511) (by omega) hbg
    have hg' := gr_set3 (gr_set3 (gr_set3 hgU (n := w1.heap.size) hbw 0 (.int .i64 3)) hbw 1 (.int .i64 3)) hbw 2 (.int .i64 511)
    have R' := ((RU.other (k := w1.heap.size) (j := 0) (v := .int .i64 3) (fun e => hbr e.symm)).other (k := w1.heap.size) (j := 1) (v := .int .i64 3) (fun e => hbr e.symm)).other (k := w1.heap.size) (j := 2) (v := .int .i64 511) (fun e => hbr e.symm)
    clear Bd hcU hgU RU
    have hs4 : smallB 3 3 511 := ⟨by decide, by decide, by decide, by decide⟩
    have hqq := Bd'
    obtain ⟨_, ⟨y0, y1, y2⟩, _⟩ := hqq
    go_wp2_with fail
    clear b0 b1 b2 f0 f1 f2 hbs
    refine (spec_l06Start g B _ _ _ _ hc' hs4.1).mono ?_
    rintro e w4 ⟨p', rfl, hp', hc4, hg4⟩
    have B4 := Bd'.grown hg4 (by simp; omega)
    have R4 := R'.grown hg4 (by simp; omega)
    have G4 := gr_trans hg' hg4
    clear y0 y1 y2 Bd' hc' hg' R' hg4
    have K3 : Hid (∀ (w' : World), Cells3 w' w1.heap.size 3 3 511 → Cells3 w' w1.heap.size 3 3 511 ∧ w'.cell? ⟨w1.heap.size, 0, none⟩ = some (.int .i64 3) ∧ w'.cell? ⟨w1.heap.size, 1, none⟩ = some (.int .i64 3) ∧ w'.cell? ⟨w1.heap.size, 2, none⟩ = some (.int .i64 511)) := fun w' h => ⟨h, h.2.1.1, h.2.1.2.1, h.2.1.2.2⟩
    go_wp2_with fail
    refine wp_region_held_drew (S := (fun w' => Cells3 w' w1.heap.size 3 3 511 ∧ w'.cell? ⟨w1.heap.size, 0, none⟩ = some (.int .i64 3) ∧ w'.cell? ⟨w1.heap.size, 1, none⟩ = some (.int .i64 3) ∧ w'.cell? ⟨w1.heap.size, 2, none⟩ = some (.int .i64 511))) (by kernel_rfl) ?_ (fun hHd0 => ?_)
    · (refine K3.out _ ?_; exact (Cells3.drew B4))
    refine heldT (i := 0) rfl (by kernel_rfl) (by kernel_rfl) (by kernel_rfl) (fun _ _ _ h => h) (by rfl) (v := ?_) ?_ (by assumption) ?_
    rotate_left
    · (intro w hSw; (try dsimp only at hSw); go_simp; try (with_reducible rfl))
    (try simp only [Act.put, List.setIfInBounds_toArray, List.set_cons_zero, List.set_cons_succ])
    refine heldT (i := 1) rfl (by kernel_rfl) (by kernel_rfl) (by kernel_rfl) (fun _ _ _ h => h) (by rfl) (v := ?_) ?_ (by assumption) ?_
    rotate_left
    · (intro w hSw; (try dsimp only at hSw); go_simp; try (with_reducible rfl))
    (try simp only [Act.put, List.setIfInBounds_toArray, List.set_cons_zero, List.set_cons_succ])
    refine heldT (i := 2) rfl (by kernel_rfl) (by kernel_rfl) (by kernel_rfl) (fun _ _ _ h => h) (by rfl) (v := ?_) ?_ (by assumption) ?_
    rotate_left
    · (intro w hSw; (try dsimp only at hSw); go_simp; try (with_reducible rfl))
    (try simp only [Act.put, List.setIfInBounds_toArray, List.set_cons_zero, List.set_cons_succ])
    refine heldT (i := 3) rfl (by kernel_rfl) (by kernel_rfl) (by kernel_rfl) (fun _ _ _ h => h) (by rfl) (v := ?_) ?_ (by assumption) ?_
    rotate_left
    · (intro w hSw; (try dsimp only at hSw); go_simp; try (with_reducible rfl))
    (try simp only [Act.put, List.setIfInBounds_toArray, List.set_cons_zero, List.set_cons_succ])
    refine heldT (i := 4) rfl (by kernel_rfl) (by kernel_rfl) (by kernel_rfl) (fun _ _ _ h => h) (by rfl) (v := ?_) ?_ (by assumption) ?_
    rotate_left
    · (intro w hSw; (try dsimp only at hSw); go_simp; try (with_reducible rfl))
    (try simp only [Act.put, List.setIfInBounds_toArray, List.set_cons_zero, List.set_cons_succ])
    refine heldT (i := 5) rfl (by kernel_rfl) (by kernel_rfl) (by kernel_rfl) (fun _ _ _ h => h) (by rfl) (v := ?_) ?_ (by assumption) ?_
    rotate_left
    · (intro w hSw; (try dsimp only at hSw); go_simp; try (with_reducible rfl))
    (try simp only [Act.put, List.setIfInBounds_toArray, List.set_cons_zero, List.set_cons_succ])
    refine heldC (i := 6) rfl (by kernel_rfl) (fun K' hK => ?_)
    go_simp
    refine (spec_l01Below g B _ _ (CurAt.drewS hc4) (by omega) (by omega)).mono ?_; rintro e w5 ⟨n, rfl, n0, n1, hc5, hg5⟩; have G5 := gr_trans (gr_drew G4) hg5; have B5 := (Cells3.drew B4).grown hg5 (by simp; omega); have R5 := (Cells3.drew R4).grown hg5 (by simp; omega)
    (try (go_wp2_with fail))
    refine hK.out _ _ ?_ (fun hHd1 => ?_)
    · ((try dsimp only); (refine K3.out _ ?_; exact B5))
    clear hK K' hHd0
    (try simp only [Act.put, List.setIfInBounds_toArray, List.set_cons_zero, List.set_cons_succ])
    refine heldC (i := 7) rfl (by kernel_rfl) (fun K' hK => ?_)
    go_simp
    refine (spec_l06Play g B _ _ _ _ _ _ hc5 hp' (by omega) (by omega)).mono ?_; rintro e w6 ⟨AL, cL, ls, rfl, oL, hll, hc6, hg6⟩; have G6 := gr_trans G5 hg6; have B6 := B5.grown hg6 (by simp; omega); have R6 := R5.grown hg6 (by simp; omega); have hFL := FAt_of_own oL; obtain ⟨y, hy⟩ : ∃ y, playTo 3 3 511 p' ls = y := ⟨_, rfl⟩; obtain ⟨yo, hyo⟩ : ∃ y, playOk 3 3 511 p' ls = y := ⟨_, rfl⟩; have HY := Lib.hid (show positionOk 3 3 511 y = true from (by rw [← hy]; exact playTo_ok hp'))
    (try (go_wp2_with fail))
    refine hK.out _ _ ?_ (fun hHd2 => ?_)
    · ((try dsimp only); (refine K3.out _ ?_; exact B6))
    clear hK K' hHd1
    (try simp only [Act.put, List.setIfInBounds_toArray, List.set_cons_zero, List.set_cons_succ])
    refine heldC (i := 8) rfl (by kernel_rfl) (fun K' hK => ?_)
    go_simp
    refine (calls_is2 (spec_PlayAll _ _ _ _ _ _ _ _ (pos_max hp').2 hFL (by omega)) hy hyo).mono ?_; rintro e w7 ⟨rfl, hb7⟩; have G7 := gr_below G6 hb7; have B7 := B6.below hb7; have R7 := R6.below hb7; have hc7 := hc6.below hb7
    (try (go_wp2_with fail))
    refine hK.out _ _ ?_ (fun hHd3 => ?_)
    · ((try dsimp only); (refine K3.out _ ?_; exact B7))
    clear hK K' hHd2
    (try simp only [Act.put, List.setIfInBounds_toArray, List.set_cons_zero, List.set_cons_succ])
    refine heldT (i := 9) rfl (by kernel_rfl) (by kernel_rfl) (by kernel_rfl) (fun _ _ _ h => h) (by rfl) (v := ?_) ?_ (by assumption) ?_
    rotate_left
    · (intro w hSw; (try dsimp only at hSw); go_simp; try (with_reducible rfl))
    (try simp only [Act.put, List.setIfInBounds_toArray, List.set_cons_zero, List.set_cons_succ])
    refine heldT (i := 10) rfl (by kernel_rfl) (by kernel_rfl) (by kernel_rfl) (fun _ _ _ h => h) (by rfl) (v := ?_) ?_ (by assumption) ?_
    rotate_left
    · (intro w hSw; (try dsimp only at hSw); go_simp; try (with_reducible rfl))
    (try simp only [Act.put, List.setIfInBounds_toArray, List.set_cons_zero, List.set_cons_succ])
    refine heldT (i := 11) rfl (by kernel_rfl) (by kernel_rfl) (by kernel_rfl) (fun _ _ _ h => h) (by rfl) (v := ?_) ?_ (by assumption) ?_
    rotate_left
    · (intro w hSw; (try dsimp only at hSw); go_simp; try (with_reducible rfl))
    (try simp only [Act.put, List.setIfInBounds_toArray, List.set_cons_zero, List.set_cons_succ])
    refine heldT (i := 12) rfl (by kernel_rfl) (by kernel_rfl) (by kernel_rfl) (fun _ _ _ h => h) (by rfl) (v := ?_) ?_ (by assumption) ?_
    rotate_left
    · (intro w hSw; (try dsimp only at hSw); go_simp; try (with_reducible rfl))
    (try simp only [Act.put, List.setIfInBounds_toArray, List.set_cons_zero, List.set_cons_succ])
    refine heldT (i := 13) rfl (by kernel_rfl) (by kernel_rfl) (by kernel_rfl) (fun _ _ _ h => h) (by rfl) (v := ?_) ?_ (by assumption) ?_
    rotate_left
    · (intro w hSw; (try dsimp only at hSw); go_simp; try (with_reducible rfl))
    (try simp only [Act.put, List.setIfInBounds_toArray, List.set_cons_zero, List.set_cons_succ])
    refine wpAnyH_done (by kernel_rfl) ?_ _
    go_wp2_with fail
    refine (spec_l01Once g B 8 _ hc7 (by omega) (by omega)).mono ?_
    rintro e w8 ⟨r, rfl, hc8, hg8⟩
    have G8 := gr_trans G7 hg8
    have B8 := B7.grown hg8 (by simp; omega)
    have R8 := R7.grown hg8 (by simp; omega)
    have hq8 := B8
    obtain ⟨_, ⟨b0, b1, b2⟩, _⟩ := hq8
    cases r
    · skip
      obtain ⟨_, ⟨Q0, Q1, Q2⟩, _⟩ := R8.set3 3 3 511
      have Q0 := Lib.hid Q0
      have Q1 := Lib.hid Q1
      have Q2 := Lib.hid Q2
      have Rq := R8
      obtain ⟨r9, ⟨t0, t1, t2⟩, u0, u1, u2⟩ := Rq
      go_wp2
      exact bodyPost_ret (v := .tuple #[.agg #[.int .i64 3, .int .i64 3, .int .i64 511], .int .i64 p', .int .i64 y]) (by simp [results, Try.results100, go_sem, Q0.out, Q1.out, Q2.out]) rfl
        ⟨3, 3, 511, p', y, rfl, hs4, hp', HY.out, ((hc8.set (by omega) hrg).set (by omega) hrg).set (by omega) hrg, gr_set3 (gr_set3 (gr_set3 G8 (Nat.le_refl _) _ _) (Nat.le_refl _) _ _) (Nat.le_refl _) _ _⟩
    · go_wp2_with fail
      refine (spec_l04Some g B _ _ _ _ hc8 hs4.1).mono ?_
      rintro e w9 ⟨z, rfl, hz, hc9, hg9⟩
      have G9 := gr_trans G8 hg9
      have B9 := B8.grown hg9 (by simp; omega)
      have R9 := R8.grown hg9 (by simp; omega)
      clear b0 b1 b2
      have hq9 := B9
      obtain ⟨_, ⟨b0, b1, b2⟩, _⟩ := hq9
      obtain ⟨_, ⟨Q0, Q1, Q2⟩, _⟩ := R9.set3 3 3 511
      have Q0 := Lib.hid Q0
      have Q1 := Lib.hid Q1
      have Q2 := Lib.hid Q2
      have Rq := R9
      obtain ⟨r9, ⟨t0, t1, t2⟩, u0, u1, u2⟩ := Rq
      go_wp2
      exact bodyPost_ret (v := .tuple #[.agg #[.int .i64 3, .int .i64 3, .int .i64 511], .int .i64 p', .int .i64 z]) (by simp [results, Try.results100, go_sem, Q0.out, Q1.out, Q2.out]) rfl
        ⟨3, 3, 511, p', z, rfl, hs4, hp', hz, ((hc9.set (by omega) hrg).set (by omega) hrg).set (by omega) hrg, gr_set3 (gr_set3 (gr_set3 G9 (Nat.le_refl _) _ _) (Nat.le_refl _) _ _) (Nat.le_refl _) _ _⟩
  · have B4 := Bd
    have hc4 := hcU
    have G4 := hgU
    have R4 := RU
    have hs4 := hs
    have hp' := hp
    clear Bd hcU hgU RU
    have K3 : Hid (∀ (w' : World), Cells3 w' w1.heap.size W H X → Cells3 w' w1.heap.size W H X ∧ w'.cell? ⟨w1.heap.size, 0, none⟩ = some (.int .i64 W) ∧ w'.cell? ⟨w1.heap.size, 1, none⟩ = some (.int .i64 H) ∧ w'.cell? ⟨w1.heap.size, 2, none⟩ = some (.int .i64 X)) := fun w' h => ⟨h, h.2.1.1, h.2.1.2.1, h.2.1.2.2⟩
    go_wp2_with fail
    refine wp_region_held_drew (S := (fun w' => Cells3 w' w1.heap.size W H X ∧ w'.cell? ⟨w1.heap.size, 0, none⟩ = some (.int .i64 W) ∧ w'.cell? ⟨w1.heap.size, 1, none⟩ = some (.int .i64 H) ∧ w'.cell? ⟨w1.heap.size, 2, none⟩ = some (.int .i64 X))) (by kernel_rfl) ?_ (fun hHd0 => ?_)
    · (refine K3.out _ ?_; exact (Cells3.drew B4))
    refine heldT (i := 0) rfl (by kernel_rfl) (by kernel_rfl) (by kernel_rfl) (fun _ _ _ h => h) (by rfl) (v := ?_) ?_ (by assumption) ?_
    rotate_left
    · (intro w hSw; (try dsimp only at hSw); go_simp; try (with_reducible rfl))
    (try simp only [Act.put, List.setIfInBounds_toArray, List.set_cons_zero, List.set_cons_succ])
    refine heldT (i := 1) rfl (by kernel_rfl) (by kernel_rfl) (by kernel_rfl) (fun _ _ _ h => h) (by rfl) (v := ?_) ?_ (by assumption) ?_
    rotate_left
    · (intro w hSw; (try dsimp only at hSw); go_simp; try (with_reducible rfl))
    (try simp only [Act.put, List.setIfInBounds_toArray, List.set_cons_zero, List.set_cons_succ])
    refine heldT (i := 2) rfl (by kernel_rfl) (by kernel_rfl) (by kernel_rfl) (fun _ _ _ h => h) (by rfl) (v := ?_) ?_ (by assumption) ?_
    rotate_left
    · (intro w hSw; (try dsimp only at hSw); go_simp; try (with_reducible rfl))
    (try simp only [Act.put, List.setIfInBounds_toArray, List.set_cons_zero, List.set_cons_succ])
    refine heldT (i := 3) rfl (by kernel_rfl) (by kernel_rfl) (by kernel_rfl) (fun _ _ _ h => h) (by rfl) (v := ?_) ?_ (by assumption) ?_
    rotate_left
    · (intro w hSw; (try dsimp only at hSw); go_simp; try (with_reducible rfl))
    (try simp only [Act.put, List.setIfInBounds_toArray, List.set_cons_zero, List.set_cons_succ])
    refine heldT (i := 4) rfl (by kernel_rfl) (by kernel_rfl) (by kernel_rfl) (fun _ _ _ h => h) (by rfl) (v := ?_) ?_ (by assumption) ?_
    rotate_left
    · (intro w hSw; (try dsimp only at hSw); go_simp; try (with_reducible rfl))
    (try simp only [Act.put, List.setIfInBounds_toArray, List.set_cons_zero, List.set_cons_succ])
    refine heldT (i := 5) rfl (by kernel_rfl) (by kernel_rfl) (by kernel_rfl) (fun _ _ _ h => h) (by rfl) (v := ?_) ?_ (by assumption) ?_
    rotate_left
    · (intro w hSw; (try dsimp only at hSw); go_simp; try (with_reducible rfl))
    (try simp only [Act.put, List.setIfInBounds_toArray, List.set_cons_zero, List.set_cons_succ])
    refine heldC (i := 6) rfl (by kernel_rfl) (fun K' hK => ?_)
    go_simp
    refine (spec_l01Below g B _ _ (CurAt.drewS hc4) (by omega) (by omega)).mono ?_; rintro e w5 ⟨n, rfl, n0, n1, hc5, hg5⟩; have G5 := gr_trans (gr_drew G4) hg5; have B5 := (Cells3.drew B4).grown hg5 (by simp; omega); have R5 := (Cells3.drew R4).grown hg5 (by simp; omega)
    (try (go_wp2_with fail))
    refine hK.out _ _ ?_ (fun hHd1 => ?_)
    · ((try dsimp only); (refine K3.out _ ?_; exact B5))
    clear hK K' hHd0
    (try simp only [Act.put, List.setIfInBounds_toArray, List.set_cons_zero, List.set_cons_succ])
    refine heldC (i := 7) rfl (by kernel_rfl) (fun K' hK => ?_)
    go_simp
    refine (spec_l06Play g B _ _ _ _ _ _ hc5 hp' (by omega) (by omega)).mono ?_; rintro e w6 ⟨AL, cL, ls, rfl, oL, hll, hc6, hg6⟩; have G6 := gr_trans G5 hg6; have B6 := B5.grown hg6 (by simp; omega); have R6 := R5.grown hg6 (by simp; omega); have hFL := FAt_of_own oL; obtain ⟨y, hy⟩ : ∃ y, playTo W H X p ls = y := ⟨_, rfl⟩; obtain ⟨yo, hyo⟩ : ∃ y, playOk W H X p ls = y := ⟨_, rfl⟩; have HY := Lib.hid (show positionOk W H X y = true from (by rw [← hy]; exact playTo_ok hp'))
    (try (go_wp2_with fail))
    refine hK.out _ _ ?_ (fun hHd2 => ?_)
    · ((try dsimp only); (refine K3.out _ ?_; exact B6))
    clear hK K' hHd1
    (try simp only [Act.put, List.setIfInBounds_toArray, List.set_cons_zero, List.set_cons_succ])
    refine heldC (i := 8) rfl (by kernel_rfl) (fun K' hK => ?_)
    go_simp
    refine (calls_is2 (spec_PlayAll _ _ _ _ _ _ _ _ (pos_max hp').2 hFL (by omega)) hy hyo).mono ?_; rintro e w7 ⟨rfl, hb7⟩; have G7 := gr_below G6 hb7; have B7 := B6.below hb7; have R7 := R6.below hb7; have hc7 := hc6.below hb7
    (try (go_wp2_with fail))
    refine hK.out _ _ ?_ (fun hHd3 => ?_)
    · ((try dsimp only); (refine K3.out _ ?_; exact B7))
    clear hK K' hHd2
    (try simp only [Act.put, List.setIfInBounds_toArray, List.set_cons_zero, List.set_cons_succ])
    refine heldT (i := 9) rfl (by kernel_rfl) (by kernel_rfl) (by kernel_rfl) (fun _ _ _ h => h) (by rfl) (v := ?_) ?_ (by assumption) ?_
    rotate_left
    · (intro w hSw; (try dsimp only at hSw); go_simp; try (with_reducible rfl))
    (try simp only [Act.put, List.setIfInBounds_toArray, List.set_cons_zero, List.set_cons_succ])
    refine heldT (i := 10) rfl (by kernel_rfl) (by kernel_rfl) (by kernel_rfl) (fun _ _ _ h => h) (by rfl) (v := ?_) ?_ (by assumption) ?_
    rotate_left
    · (intro w hSw; (try dsimp only at hSw); go_simp; try (with_reducible rfl))
    (try simp only [Act.put, List.setIfInBounds_toArray, List.set_cons_zero, List.set_cons_succ])
    refine heldT (i := 11) rfl (by kernel_rfl) (by kernel_rfl) (by kernel_rfl) (fun _ _ _ h => h) (by rfl) (v := ?_) ?_ (by assumption) ?_
    rotate_left
    · (intro w hSw; (try dsimp only at hSw); go_simp; try (with_reducible rfl))
    (try simp only [Act.put, List.setIfInBounds_toArray, List.set_cons_zero, List.set_cons_succ])
    refine heldT (i := 12) rfl (by kernel_rfl) (by kernel_rfl) (by kernel_rfl) (fun _ _ _ h => h) (by rfl) (v := ?_) ?_ (by assumption) ?_
    rotate_left
    · (intro w hSw; (try dsimp only at hSw); go_simp; try (with_reducible rfl))
    (try simp only [Act.put, List.setIfInBounds_toArray, List.set_cons_zero, List.set_cons_succ])
    refine heldT (i := 13) rfl (by kernel_rfl) (by kernel_rfl) (by kernel_rfl) (fun _ _ _ h => h) (by rfl) (v := ?_) ?_ (by assumption) ?_
    rotate_left
    · (intro w hSw; (try dsimp only at hSw); go_simp; try (with_reducible rfl))
    (try simp only [Act.put, List.setIfInBounds_toArray, List.set_cons_zero, List.set_cons_succ])
    refine wpAnyH_done (by kernel_rfl) ?_ _
    go_wp2_with fail
    refine (spec_l01Once g B 8 _ hc7 (by omega) (by omega)).mono ?_
    rintro e w8 ⟨r, rfl, hc8, hg8⟩
    have G8 := gr_trans G7 hg8
    have B8 := B7.grown hg8 (by simp; omega)
    have R8 := R7.grown hg8 (by simp; omega)
    have hq8 := B8
    obtain ⟨_, ⟨b0, b1, b2⟩, _⟩ := hq8
    cases r
    · skip
      obtain ⟨_, ⟨Q0, Q1, Q2⟩, _⟩ := R8.set3 W H X
      have Q0 := Lib.hid Q0
      have Q1 := Lib.hid Q1
      have Q2 := Lib.hid Q2
      have Rq := R8
      obtain ⟨r9, ⟨t0, t1, t2⟩, u0, u1, u2⟩ := Rq
      go_wp2
      exact bodyPost_ret (v := .tuple #[.agg #[.int .i64 W, .int .i64 H, .int .i64 X], .int .i64 p, .int .i64 y]) (by simp [results, Try.results100, go_sem, Q0.out, Q1.out, Q2.out]) rfl
        ⟨W, H, X, p, y, rfl, hs4, hp', HY.out, ((hc8.set (by omega) hrg).set (by omega) hrg).set (by omega) hrg, gr_set3 (gr_set3 (gr_set3 G8 (Nat.le_refl _) _ _) (Nat.le_refl _) _ _) (Nat.le_refl _) _ _⟩
    · go_wp2_with fail
      refine (spec_l04Some g B _ _ _ _ hc8 hs4.1).mono ?_
      rintro e w9 ⟨z, rfl, hz, hc9, hg9⟩
      have G9 := gr_trans G8 hg9
      have B9 := B8.grown hg9 (by simp; omega)
      have R9 := R8.grown hg9 (by simp; omega)
      clear b0 b1 b2
      have hq9 := B9
      obtain ⟨_, ⟨b0, b1, b2⟩, _⟩ := hq9
      obtain ⟨_, ⟨Q0, Q1, Q2⟩, _⟩ := R9.set3 W H X
      have Q0 := Lib.hid Q0
      have Q1 := Lib.hid Q1
      have Q2 := Lib.hid Q2
      have Rq := R9
      obtain ⟨r9, ⟨t0, t1, t2⟩, u0, u1, u2⟩ := Rq
      go_wp2
      exact bodyPost_ret (v := .tuple #[.agg #[.int .i64 W, .int .i64 H, .int .i64 X], .int .i64 p, .int .i64 z]) (by simp [results, Try.results100, go_sem, Q0.out, Q1.out, Q2.out]) rfl
        ⟨W, H, X, p, z, rfl, hs4, hp', hz, ((hc9.set (by omega) hrg).set (by omega) hrg).set (by omega) hrg, gr_set3 (gr_set3 (gr_set3 G9 (Nat.le_refl _) _ _) (Nat.le_refl _) _ _) (Nat.le_refl _) _ _⟩
set_option maxHeartbeats 4000000 in
theorem spec_DrawAim (A : Option Addr) (n cap : Nat) (w : World) (hc : Bytes w A n) (hn : n ≤ 4294967296) :
    Calls Try.prog 42 #[.slice A n cap] w fun e w' => ∃ W H X p q : Int, e = .returned (.tuple #[.agg #[.int .i64 W, .int .i64 H, .int .i64 X], .int .i64 p, .int .i64 q]) ∧ smallB W H X ∧ positionOk W H X p = true ∧ positionOk W H X q = true ∧ Below w.heap.size w w' := by
  go_enter Try.func42, Try.ntmps42
  go_wp2_with fail
  generalize hV : w.alloc (.cells #[.int .i64 0, .int .i64 0, .int .i64 0] 44) = V
  have R : Cells3 V w.heap.size 0 0 0 := by subst hV; exact new3
  have v0 : Below w.heap.size w V := by subst hV; exact below_one _ _
  have zV : w.heap.size < V.heap.size := by subst hV; simp
  clear hV
  refine (spec_l01New _ _ _ _ (hc.below v0) hn).mono ?_
  rintro e w1 ⟨g, rfl, hgV, hc1, hb1⟩
  go_wp2_with fail
  refine (spec_l21Start g _ _ hc1).mono ?_
  rintro e w2 ⟨W, H, X, p, q, rfl, hs, hp, hq, hc2, hg2⟩
  have hb2 := below_gr hb1 hb1.size hg2 hgV
  have hz2 : w.heap.size < w2.heap.size := Nat.lt_of_lt_of_le zV hb2.size
  have R3 := R.below hb2
  obtain ⟨r9, ⟨t0, t1, t2⟩, u0, u1, u2⟩ := R3
  obtain ⟨_, ⟨Q0, Q1, Q2⟩, _⟩ := (R.below hb2).set3 W H X
  have QA : Hid (∀ ob : Obj, _) := fun ob => (World.cell?_alloc_past (w := ((w2.setCell ⟨w.heap.size, 0, none⟩ (.int .i64 W)).setCell ⟨w.heap.size, 1, none⟩ (.int .i64 H)).setCell ⟨w.heap.size, 2, none⟩ (.int .i64 X)) ob w.heap.size 0 (by simpa using hz2)).trans Q0
  have QB : Hid (∀ ob : Obj, _) := fun ob => (World.cell?_alloc_past (w := ((w2.setCell ⟨w.heap.size, 0, none⟩ (.int .i64 W)).setCell ⟨w.heap.size, 1, none⟩ (.int .i64 H)).setCell ⟨w.heap.size, 2, none⟩ (.int .i64 X)) ob w.heap.size 1 (by simpa using hz2)).trans Q1
  have QC : Hid (∀ ob : Obj, _) := fun ob => (World.cell?_alloc_past (w := ((w2.setCell ⟨w.heap.size, 0, none⟩ (.int .i64 W)).setCell ⟨w.heap.size, 1, none⟩ (.int .i64 H)).setCell ⟨w.heap.size, 2, none⟩ (.int .i64 X)) ob w.heap.size 2 (by simpa using hz2)).trans Q2
  clear R Q0 Q1 Q2
  go_wp2
  exact bodyPost_ret (v := .tuple #[.agg #[.int .i64 W, .int .i64 H, .int .i64 X], .int .i64 p, .int .i64 q]) (by simp [results, Try.results42, go_sem, QA.out, QB.out, QC.out]) rfl ⟨W, H, X, p, q, rfl, hs, hp, hq, by have := below_step v0 hb2; (repeat (first | exact Below.refl _ _ | assumption | refine below_step ?_ (by assumption) | refine below_alloc ?_ _ | refine below_drewN ?_ _ | refine Below.drew ?_ | refine Below.setCell ?_ (by first | (simp; done) | omega | (simp; omega)) _))⟩
end Go.Proofs.Ytianfakgojmnpaa
