/- Drawn starts: a small board and a position of it. -/
import Derived.Test.YtianfakgojmnpaaDrawP
namespace Go.Proofs.Ytianfakgojmnpaa
open Go.RowKit
theorem CurAt.drewS {w : World} {g B : Nat} (hc : CurAt B w g) : CurAt B w.drew g := hc
theorem holes_some {W H X : Int} (h : boardOk W H X = true) : 0 < (holes W H X).length := by
  have F := boardOk_facts h
  rcases Nat.eq_zero_or_pos (holes W H X).length with h0 | h0
  · exfalso
    have he : holes W H X = [] := List.length_eq_zero_iff.1 h0
    have hlt := board_lt h
    have h1 := F.x1
    have hz : X.toNat = 0 := by
      apply Nat.eq_of_testBit_eq; intro i
      rw [Nat.zero_testBit]
      cases hb : X.toNat.testBit i
      · rfl
      · have hi : i < (W * H).toNat := by
          have h2 := Nat.ge_two_pow_of_testBit hb
          unfold cells2 at hlt
          exact (Nat.pow_lt_pow_iff_right (a := 2) (by decide)).1 (Nat.lt_of_le_of_lt h2 hlt)
        have : i ∈ holes W H X := by
          unfold holes; rw [if_pos h]; exact bitsTo_mem.2 ⟨by omega, hb⟩
        rw [he] at this; cases this
    omega
  · exact h0
set_option maxHeartbeats 4000000 in
theorem spec_l06Start (g B : Nat) (W H X : Int) (w : World) (hc : CurAt B w g) (hok : boardOk W H X = true) :
    Calls Try.prog 128 #[.pointer (some ⟨g, 0, none⟩), .agg #[.int .i64 W, .int .i64 H, .int .i64 X]] w fun e w' => ∃ p : Int, e = .returned (.int .i64 p) ∧ positionOk W H X p = true ∧ CurAt B w' g ∧ w.grownBy w' (some g) := by
  have hg := hc.1
  have F := boardOk_facts hok
  have x1 := F.x1
  have x3 := F.x3
  have m2 := F.m2
  have hn0 := holes_some hok
  have hnl := holes_small W H X
  have hn3 : holes W H X ≠ [] := by intro e; rw [e] at hn0; simp at hn0
  have hn1 : ((((holes W H X).length : Nat) : Int) == 0) = false := by simp [hn3]
  go_enter Try.func128, Try.ntmps128
  go_wp2_with fail
  have Bd := new3 (w := w) (a := W) (b := H) (c := X) (ty := 44)
  replace hc := hc.below (below_one w (.cells #[.int .i64 W, .int .i64 H, .int .i64 X] 44))
  have hgr : w.grownBy (w.alloc (.cells #[.int .i64 W, .int .i64 H, .int .i64 X] 44)) (some g) := gr_alloc (gr_refl _ _) _
  have hgl : g < (w.alloc (.cells #[.int .i64 W, .int .i64 H, .int .i64 X] 44)).heap.size := by simp; omega
  refine (spec_HolesOf _ _ _ _).mono ?_
  rintro e w1 ⟨A, cap, rfl, ho, hb1⟩
  replace hc := hc.below hb1
  replace hgr := gr_below hgr hb1
  replace Bd := Bd.below hb1
  generalize (w.alloc (.cells #[.int .i64 W, .int .i64 H, .int .i64 X] 44)).heap.size = LO at ho hgl
  clear hb1
  have hbg : w.heap.size ≠ g := by omega
  go_wp2_with fail
  refine (spec_l01Once g B 3 _ hc (by omega) (by omega)).mono ?_
  rintro e w2 ⟨r, rfl, hc2, hg2⟩
  have ho2 := ho.kept hg2 (own_notgP ho hgl)
  have hgr2 := gr_trans hgr hg2
  have Bd2 := Bd.grown hg2 (by simp; omega)
  clear hc hgr ho Bd hg2
  have hq := Bd2
  obtain ⟨hbs, ⟨b0, b1, b2⟩, _⟩ := hq
  cases r
  · have K2 : Hid (∀ (w' : World), Cells3 w' w.heap.size W H X → Cells3 w' w.heap.size W H X ∧ w'.cell? ⟨w.heap.size, 2, none⟩ = some (.int .i64 X)) := fun w' h => ⟨h, h.2.1.2.2⟩
    go_wp2_with fail
    refine wp_region_held_drew (S := (fun w' => Cells3 w' w.heap.size W H X ∧ w'.cell? ⟨w.heap.size, 2, none⟩ = some (.int .i64 X))) (by kernel_rfl) ?_ (fun hHd0 => ?_)
    · (refine K2.out _ ?_; exact Cells3.drew Bd2)
    refine heldT (i := 0) rfl (by kernel_rfl) (by kernel_rfl) (by kernel_rfl) (fun _ _ _ h => h) (by rfl) (v := ?_) ?_ (by assumption) ?_
    rotate_left
    · (intro w hSw; (try dsimp only at hSw); go_simp; try (with_reducible rfl))
    (try simp only [Act.put, List.setIfInBounds_toArray, List.set_cons_zero, List.set_cons_succ])
    refine heldT (i := 1) rfl (by kernel_rfl) (by kernel_rfl) (by kernel_rfl) (fun _ _ _ h => h) (by rfl) (v := ?_) ?_ (by assumption) ?_
    rotate_left
    · (intro w hSw; (try dsimp only at hSw); go_simp; try (with_reducible rfl))
    (try simp only [Act.put, List.setIfInBounds_toArray, List.set_cons_zero, List.set_cons_succ])
    refine heldT (i := 2) rfl (by kernel_rfl) (by kernel_rfl) (by kernel_rfl) (fun _ _ _ h => h) (by rfl) (v := ?_) ?_ (by assumption) ?_
    rotate_left
    · (intro w hSw; (try dsimp only at hSw); go_simp; try (with_reducible rfl))
    (try simp only [Act.put, List.setIfInBounds_toArray, List.set_cons_zero, List.set_cons_succ])
    refine heldT (i := 3) rfl (by kernel_rfl) (by kernel_rfl) (by kernel_rfl) (fun _ _ _ h => h) (by rfl) (v := ?_) ?_ (by assumption) ?_
    rotate_left
    · (intro w hSw; (try dsimp only at hSw); go_simp; try (with_reducible rfl))
    (try simp only [Act.put, List.setIfInBounds_toArray, List.set_cons_zero, List.set_cons_succ])
    refine heldT (i := 4) rfl (by kernel_rfl) (by kernel_rfl) (by kernel_rfl) (fun _ _ _ h => h) (by rfl) (v := ?_) ?_ (by assumption) ?_
    rotate_left
    · (intro w hSw; (try dsimp only at hSw); go_simp; try (with_reducible rfl))
    (try simp only [Act.put, List.setIfInBounds_toArray, List.set_cons_zero, List.set_cons_succ])
    refine heldT (i := 5) rfl (by kernel_rfl) (by kernel_rfl) (by kernel_rfl) (fun _ _ _ h => h) (by rfl) (v := ?_) ?_ (by assumption) ?_
    rotate_left
    · (intro w hSw; (try dsimp only at hSw); go_simp; try (with_reducible rfl))
    (try simp only [Act.put, List.setIfInBounds_toArray, List.set_cons_zero, List.set_cons_succ])
    refine heldC (i := 6) rfl (by kernel_rfl) (fun K' hK => ?_)
    go_simp
    refine (spec_l01Below g B _ _ (CurAt.drewS hc2) (by omega) (by omega)).mono ?_; rintro e w4 ⟨i, rfl, i0, i1, hc4, hg4⟩; have ho4 := (show w2.drew.ownsRow LO 3 1 (.slice A (holes W H X).length cap) (holes W H X).length (ints (toInts (holes W H X))) from ho2).kept hg4 (own_notgP ho2 hgl); have hgr4 := gr_trans (gr_drew hgr2) hg4; have Bd4 := (Cells3.drew Bd2).grown hg4 (by simp; omega); obtain ⟨i, rfl⟩ : ∃ n : Nat, i = (n : Int) := ⟨i.toNat, by omega⟩; obtain ⟨h, hh⟩ : ∃ h, (holes W H X)[i]? = some h := ⟨_, List.getElem?_eq_getElem (by omega)⟩; obtain ⟨q1, q2, q3⟩ := hole_bit (holes_hole (List.mem_of_getElem? hh)).1; obtain ⟨b, off, rfl, c1⟩ := (FAt_of_own ho4) i (h : Int) (by simp [toInts, hh]); obtain ⟨p1, p2⟩ := pow_bd (n := h) (by omega); have hw : IntKind.i64.wrap (2 ^ h) = 2 ^ h := (by rw [IntKind.wrap_i64]; omega); have hpos := pos_minus (j := h) (positionOk_mk hok (by omega) (Nat.and_self _)) (by simpa using q3); have hpz := (positionOk_facts hpos).p0; have hwX : IntKind.i64.wrap (X - 2 ^ h) = X - 2 ^ h := (by rw [IntKind.wrap_i64]; omega); clear hh q3 ho2 hc2 hgr2 hg4 b0 b1 b2
    (try (go_wp2_with fail))
    refine hK.out _ _ ?_ (fun hHd1 => ?_)
    · ((try dsimp only); (refine K2.out _ ?_; exact Bd4))
    clear hK K' hHd0
    (try simp only [Act.put, List.setIfInBounds_toArray, List.set_cons_zero, List.set_cons_succ])
    refine heldT (i := 7) rfl (by kernel_rfl) (by kernel_rfl) (by kernel_rfl) (fun _ _ _ h => h) (by rfl) (v := ?_) ?_ (by assumption) ?_
    rotate_left
    · (intro w hSw; (try dsimp only at hSw); go_simp; try (with_reducible rfl))
    (try simp only [Act.put, List.setIfInBounds_toArray, List.set_cons_zero, List.set_cons_succ])
    refine heldC (i := 8) rfl (by kernel_rfl) (fun K' hK => ?_)
    go_simp
    skip
    (try (go_wp2_with fail))
    refine hK.out _ _ ?_ (fun hHd2 => ?_)
    · ((try dsimp only); (refine K2.out _ ?_; exact Bd4))
    clear hK K' hHd1
    (try simp only [Act.put, List.setIfInBounds_toArray, List.set_cons_zero, List.set_cons_succ])
    refine heldT (i := 9) rfl (by kernel_rfl) (by kernel_rfl) (by kernel_rfl) (fun _ _ _ h => h) (by rfl) (v := ?_) ?_ (by assumption) ?_
    rotate_left
    · (intro w hSw; (try dsimp only at hSw); go_simp; try (with_reducible rfl))
    (try simp only [Act.put, List.setIfInBounds_toArray, List.set_cons_zero, List.set_cons_succ])
    refine heldT (i := 10) rfl (by kernel_rfl) (by kernel_rfl) (by kernel_rfl) (fun _ _ _ h => h) (by rfl) (v := ?_) ?_ (by assumption) ?_
    rotate_left
    · (intro w hSw; (try dsimp only at hSw); go_simp; try (with_reducible rfl))
    (try simp only [Act.put, List.setIfInBounds_toArray, List.set_cons_zero, List.set_cons_succ])
    refine heldT (i := 11) rfl (by kernel_rfl) (by kernel_rfl) (by kernel_rfl) (fun _ _ _ h => h) (by rfl) (v := ?_) ?_ (by assumption) ?_
    rotate_left
    · (intro w hSw; (try dsimp only at hSw); go_simp; try (with_reducible rfl))
    (try simp only [Act.put, List.setIfInBounds_toArray, List.set_cons_zero, List.set_cons_succ])
    refine wpAnyH_done (by kernel_rfl) ?_ _
    obtain ⟨p, hp⟩ : ∃ p, X - 2 ^ h = p := ⟨_, rfl⟩
    rw [hp] at hpos hpz ⊢
    clear hp hwX
    go_wp2_with fail
    refine (spec_l01Below g B _ _ hc4 (by omega) (by omega)).mono ?_
    rintro e w5 ⟨j, rfl, j0, j1, hc5, hg5⟩
    have ho5 := ho4.kept hg5 (own_notgP ho4 hgl)
    have hgr5 := gr_trans hgr4 hg5
    obtain ⟨j, rfl⟩ : ∃ n : Nat, j = (n : Int) := ⟨j.toNat, by omega⟩
    obtain ⟨h2, hh2⟩ : ∃ h, (holes W H X)[j]? = some h := ⟨_, List.getElem?_eq_getElem (by omega)⟩
    obtain ⟨q4, q5, q6⟩ := hole_bit (holes_hole (List.mem_of_getElem? hh2)).1
    obtain ⟨b', off', e5, c5⟩ := (FAt_of_own ho5) j (h2 : Int) (by simp [toInts, hh2])
    injection e5 with e5; injection e5 with e6 e7; subst e6 e7
    have FP := positionOk_facts hpos
    have fp0 := FP.p0
    have fpX := FP.le
    obtain ⟨r1, r2⟩ := pow_bd (n := h2) (by omega)
    have hw2 : IntKind.i64.wrap (2 ^ h2) = 2 ^ h2 := by rw [IntKind.wrap_i64]; omega
    have hq := beq_shr_one (p := p) (k := (h2 : Int)) (by omega) (by omega)
    have HPOS := Lib.hid hpos
    clear hh2 q6 FP hpos hg5 ho4 hgr4 hc4
    cases hbit : bitI p (h2 : Int)
    · rw [hbit] at hq
      have hq2 : (bits .and .i64 (p / 2 ^ h2) 1 == 1) = false := by simpa using hq
      clear hq
      go_wp2
      go_ret
      exact ⟨p, rfl, HPOS.out, hc5, hgr5⟩
    · rw [hbit] at hq
      have hq2 : (bits .and .i64 (p / 2 ^ h2) 1 == 1) = true := by simpa using hq
      have HM := Lib.hid (pos_minus HPOS.out (by simpa [bitI] using hbit))
      clear hq
      go_wp2_with fail
      refine (spec_l01Once g B 2 _ hc5 (by omega) (by omega)).mono ?_
      rintro e w6 ⟨r, rfl, hc6, hg6⟩
      have hgr6 := gr_trans hgr5 hg6
      have hpm := (positionOk_facts HM.out).p0
      have hw3 : IntKind.i64.wrap (p - 2 ^ h2) = p - 2 ^ h2 := by rw [IntKind.wrap_i64]; omega
      cases r
      · go_wp2
        go_ret
        exact ⟨p, rfl, HPOS.out, hc6, hgr6⟩
      · go_wp2
        go_ret
        exact ⟨p - 2 ^ h2, rfl, HM.out, hc6, hgr6⟩
  · go_wp2_with fail
    refine (spec_l04Some g B _ _ _ _ hc2 hok).mono ?_
    rintro e w3 ⟨p, rfl, hp, hc3, hg3⟩
    go_wp2
    go_ret
    exact ⟨p, rfl, hp, hc3, gr_trans hgr2 hg3⟩
set_option maxHeartbeats 4000000 in
theorem spec_l14Start (g B : Nat) (w : World) (hc : CurAt B w g) :
    Calls Try.prog 88 #[.pointer (some ⟨g, 0, none⟩)] w fun e w' => ∃ W H X p : Int, e = .returned (.tuple #[.agg #[.int .i64 W, .int .i64 H, .int .i64 X], .int .i64 p]) ∧ smallB W H X ∧ positionOk W H X p = true ∧ CurAt B w' g ∧ w.grownBy w' (some g) := by
  have hg := hc.1
  have hgB := hc.2.1
  go_enter Try.func88, Try.ntmps88
  go_wp2_with fail
  have R := new3 (w := w) (a := 0) (b := 0) (c := 0) (ty := 44)
  have hgr : w.grownBy (w.alloc (.cells #[.int .i64 0, .int .i64 0, .int .i64 0] 44)) (some g) := gr_alloc (gr_refl _ _) _
  replace hc := hc.below (below_one w (.cells #[.int .i64 0, .int .i64 0, .int .i64 0] 44))
  have hrg : w.heap.size ≠ g := by omega
  refine (spec_l02Small g B _ hc).mono ?_
  rintro e w1 ⟨W, H, X, rfl, hs, hc1, hg1⟩
  replace R := R.grown hg1 (by simp; omega)
  replace hgr := gr_trans hgr hg1
  clear hc hg1
  go_wp2_with fail
  generalize hU : w1.alloc (.cells #[.int .i64 W, .int .i64 H, .int .i64 X] 44) = U
  have Bd : Cells3 U w1.heap.size W H X := by subst hU; exact new3
  have hcU : CurAt B U g := by subst hU; exact hc1.below (below_one _ _)
  have hgU : w.grownBy U (some g) := by subst hU; exact gr_alloc hgr _
  have RU : Cells3 U w.heap.size 0 0 0 := by subst hU; exact R.below (below_one _ _)
  have hbg : w1.heap.size ≠ g := by have := hc1.1; omega
  have hbr : w1.heap.size ≠ w.heap.size := by have := R.1; omega
  have hbw : w.heap.size ≤ w1.heap.size := hgr.size
  clear hU R hc1 hgr
  have hq := Bd
  obtain ⟨hbs, ⟨b0, b1, b2⟩, f0, f1, f2⟩ := hq
  refine (spec_CountHoles _ _ _ _).mono ?_
  rintro e w2 ⟨rfl, hb2⟩
  replace Bd := Bd.below hb2
  replace hcU := hcU.below hb2
  replace hgU := gr_below hgU hb2
  replace RU := RU.below hb2
  clear hb2 b0 b1 b2 f0 f1 f2 hbs
  by_cases h13 : 13 < (holes W H X).length
  · go_wp2_with fail
    refine (spec_Rectangle 4 3 _ (by omega) (by omega) (by omega) (by omega)).mono ?_
    rintro e w3 ⟨rfl, hb3⟩
    replace Bd := Bd.below hb3
    replace hcU := hcU.below hb3
    replace hgU := gr_below hgU hb3
    replace RU := RU.below hb3
    clear hb3
    have hq := Bd
    obtain ⟨hbs, ⟨b0, b1, b2⟩, f0, f1, f2⟩ := hq
    have Bd' := Bd.set3 4 3 4095
    have hc' := ((hcU.set (k := w1.heap.size) (j := 0) (v := .int .i64 4) (by omega) hbg).set (k := w1.heap.size) (j := 1) (v := .int .i64 3) (by omega) hbg).set (k := w1.heap.size) (j := 2) (v := .int .i64 4095) (by omega) hbg
    have hg' := gr_set3 (gr_set3 (gr_set3 hgU (n := w1.heap.size) hbw 0 (.int .i64 4)) hbw 1 (.int .i64 3)) hbw 2 (.int .i64 4095)
    have R' := ((RU.other (k := w1.heap.size) (j := 0) (v := .int .i64 4) (fun e => hbr e.symm)).other (k := w1.heap.size) (j := 1) (v := .int .i64 3) (fun e => hbr e.symm)).other (k := w1.heap.size) (j := 2) (v := .int .i64 4095) (fun e => hbr e.symm)
    clear Bd hcU hgU RU
    have hs4 : smallB 4 3 4095 := ⟨by decide, by decide, by decide, by decide⟩
    go_wp2_with fail
    clear b0 b1 b2 f0 f1 f2 hbs
    generalize ((w3.setCell ⟨w1.heap.size, 0, none⟩ (.int .i64 4)).setCell ⟨w1.heap.size, 1, none⟩ (.int .i64 3)).setCell ⟨w1.heap.size, 2, none⟩ (.int .i64 4095) = U at *
    have K3 : Hid (∀ (w' : World), Cells3 w' w1.heap.size 4 3 4095 → Cells3 w' w1.heap.size 4 3 4095 ∧ w'.cell? ⟨w1.heap.size, 0, none⟩ = some (.int .i64 4) ∧ w'.cell? ⟨w1.heap.size, 1, none⟩ = some (.int .i64 3) ∧ w'.cell? ⟨w1.heap.size, 2, none⟩ = some (.int .i64 4095)) := fun w' h => ⟨h, h.2.1.1, h.2.1.2.1, h.2.1.2.2⟩
    refine wp_region_held_drew (S := (fun w' => Cells3 w' w1.heap.size 4 3 4095 ∧ w'.cell? ⟨w1.heap.size, 0, none⟩ = some (.int .i64 4) ∧ w'.cell? ⟨w1.heap.size, 1, none⟩ = some (.int .i64 3) ∧ w'.cell? ⟨w1.heap.size, 2, none⟩ = some (.int .i64 4095))) (by kernel_rfl) ?_ (fun hHd0 => ?_)
    · (refine K3.out _ ?_; exact (Cells3.drew Bd'))
    refine heldT (i := 0) rfl (by kernel_rfl) (by kernel_rfl) (by kernel_rfl) (fun _ _ _ h => h) (by rfl) (v := ?_) ?_ (by assumption) ?_
    rotate_left
    · (intro w hSw; (try dsimp only at hSw); go_simp; try (with_reducible rfl))
    (try simp only [Act.put, List.setIfInBounds_toArray, List.set_cons_zero, List.set_cons_succ])
    refine heldT (i := 1) rfl (by kernel_rfl) (by kernel_rfl) (by kernel_rfl) (fun _ _ _ h => h) (by rfl) (v := ?_) ?_ (by assumption) ?_
    rotate_left
    · (intro w hSw; (try dsimp only at hSw); go_simp; try (with_reducible rfl))
    (try simp only [Act.put, List.setIfInBounds_toArray, List.set_cons_zero, List.set_cons_succ])
    refine heldT (i := 2) rfl (by kernel_rfl) (by kernel_rfl) (by kernel_rfl) (fun _ _ _ h => h) (by rfl) (v := ?_) ?_ (by assumption) ?_
    rotate_left
    · (intro w hSw; (try dsimp only at hSw); go_simp; try (with_reducible rfl))
    (try simp only [Act.put, List.setIfInBounds_toArray, List.set_cons_zero, List.set_cons_succ])
    refine heldC (i := 3) rfl (by kernel_rfl) (fun K' hK => ?_)
    go_simp
    refine (spec_l06Start g B _ _ _ _ (CurAt.drewS hc') hs4.1).mono ?_; rintro e w5 ⟨p, rfl, hp, hc5, hg5⟩; have hg5' := gr_trans (gr_drew hg') hg5; have R5 := (Cells3.drew R').grown hg5 (by simp; omega); have B5 := (Cells3.drew Bd').grown hg5 (by simp; omega); have R5q := R5; obtain ⟨r9, ⟨t0, t1, t2⟩, u0, u1, u2⟩ := R5q
    (try (go_wp2_with fail))
    refine hK.out _ _ ?_ (fun hHd1 => ?_)
    · ((try dsimp only); (refine K3.out _ ?_; exact B5))
    clear hK K' hHd0
    (try simp only [Act.put, List.setIfInBounds_toArray, List.set_cons_zero, List.set_cons_succ])
    refine heldC (i := 4) rfl (by kernel_rfl) (fun K' hK => ?_)
    go_simp
    skip
    (try (go_wp2_with fail))
    refine hK.out _ _ ?_ (fun hHd2 => ?_)
    · ((try dsimp only); (refine K3.out _ ?_; exact (((B5.other hbr).other hbr).other hbr)))
    clear hK K' hHd1
    (try simp only [Act.put, List.setIfInBounds_toArray, List.set_cons_zero, List.set_cons_succ])
    refine heldT (i := 5) rfl (by kernel_rfl) (by kernel_rfl) (by kernel_rfl) (fun _ _ _ h => h) (by rfl) (v := ?_) ?_ (by assumption) ?_
    rotate_left
    · (intro w hSw; (try dsimp only at hSw); go_simp; try (with_reducible rfl))
    (try simp only [Act.put, List.setIfInBounds_toArray, List.set_cons_zero, List.set_cons_succ])
    refine wpAnyH_done (by kernel_rfl) ?_ _
    obtain ⟨_, ⟨Q0, Q1, Q2⟩, _⟩ := R5.set3 4 3 4095
    have Q0 := Lib.hid Q0
    have Q1 := Lib.hid Q1
    have Q2 := Lib.hid Q2
    go_wp2
    exact bodyPost_ret (v := .tuple #[.agg #[.int .i64 4, .int .i64 3, .int .i64 4095], .int .i64 p]) (by simp [results, Try.results88, go_sem, Q0.out, Q1.out, Q2.out]) rfl
      ⟨4, 3, 4095, p, rfl, hs4, hp, ((hc5.set (by omega) hrg).set (by omega) hrg).set (by omega) hrg, gr_set3 (gr_set3 (gr_set3 hg5' (Nat.le_refl _) _ _) (Nat.le_refl _) _ _) (Nat.le_refl _) _ _⟩
  · have Bd' := Bd
    have hc' := hcU
    have hg' := hgU
    have R' := RU
    have hs4 := hs
    clear Bd hcU hgU RU
    go_wp2_with fail
    have K3 : Hid (∀ (w' : World), Cells3 w' w1.heap.size W H X → Cells3 w' w1.heap.size W H X ∧ w'.cell? ⟨w1.heap.size, 0, none⟩ = some (.int .i64 W) ∧ w'.cell? ⟨w1.heap.size, 1, none⟩ = some (.int .i64 H) ∧ w'.cell? ⟨w1.heap.size, 2, none⟩ = some (.int .i64 X)) := fun w' h => ⟨h, h.2.1.1, h.2.1.2.1, h.2.1.2.2⟩
    refine wp_region_held_drew (S := (fun w' => Cells3 w' w1.heap.size W H X ∧ w'.cell? ⟨w1.heap.size, 0, none⟩ = some (.int .i64 W) ∧ w'.cell? ⟨w1.heap.size, 1, none⟩ = some (.int .i64 H) ∧ w'.cell? ⟨w1.heap.size, 2, none⟩ = some (.int .i64 X))) (by kernel_rfl) ?_ (fun hHd0 => ?_)
    · (refine K3.out _ ?_; exact (Cells3.drew Bd'))
    refine heldT (i := 0) rfl (by kernel_rfl) (by kernel_rfl) (by kernel_rfl) (fun _ _ _ h => h) (by rfl) (v := ?_) ?_ (by assumption) ?_
    rotate_left
    · (intro w hSw; (try dsimp only at hSw); go_simp; try (with_reducible rfl))
    (try simp only [Act.put, List.setIfInBounds_toArray, List.set_cons_zero, List.set_cons_succ])
    refine heldT (i := 1) rfl (by kernel_rfl) (by kernel_rfl) (by kernel_rfl) (fun _ _ _ h => h) (by rfl) (v := ?_) ?_ (by assumption) ?_
    rotate_left
    · (intro w hSw; (try dsimp only at hSw); go_simp; try (with_reducible rfl))
    (try simp only [Act.put, List.setIfInBounds_toArray, List.set_cons_zero, List.set_cons_succ])
    refine heldT (i := 2) rfl (by kernel_rfl) (by kernel_rfl) (by kernel_rfl) (fun _ _ _ h => h) (by rfl) (v := ?_) ?_ (by assumption) ?_
    rotate_left
    · (intro w hSw; (try dsimp only at hSw); go_simp; try (with_reducible rfl))
    (try simp only [Act.put, List.setIfInBounds_toArray, List.set_cons_zero, List.set_cons_succ])
    refine heldC (i := 3) rfl (by kernel_rfl) (fun K' hK => ?_)
    go_simp
    refine (spec_l06Start g B _ _ _ _ (CurAt.drewS hc') hs4.1).mono ?_; rintro e w5 ⟨p, rfl, hp, hc5, hg5⟩; have hg5' := gr_trans (gr_drew hg') hg5; have R5 := (Cells3.drew R').grown hg5 (by simp; omega); have B5 := (Cells3.drew Bd').grown hg5 (by simp; omega); have R5q := R5; obtain ⟨r9, ⟨t0, t1, t2⟩, u0, u1, u2⟩ := R5q
    (try (go_wp2_with fail))
    refine hK.out _ _ ?_ (fun hHd1 => ?_)
    · ((try dsimp only); (refine K3.out _ ?_; exact B5))
    clear hK K' hHd0
    (try simp only [Act.put, List.setIfInBounds_toArray, List.set_cons_zero, List.set_cons_succ])
    refine heldC (i := 4) rfl (by kernel_rfl) (fun K' hK => ?_)
    go_simp
    skip
    (try (go_wp2_with fail))
    refine hK.out _ _ ?_ (fun hHd2 => ?_)
    · ((try dsimp only); (refine K3.out _ ?_; exact (((B5.other hbr).other hbr).other hbr)))
    clear hK K' hHd1
    (try simp only [Act.put, List.setIfInBounds_toArray, List.set_cons_zero, List.set_cons_succ])
    refine heldT (i := 5) rfl (by kernel_rfl) (by kernel_rfl) (by kernel_rfl) (fun _ _ _ h => h) (by rfl) (v := ?_) ?_ (by assumption) ?_
    rotate_left
    · (intro w hSw; (try dsimp only at hSw); go_simp; try (with_reducible rfl))
    (try simp only [Act.put, List.setIfInBounds_toArray, List.set_cons_zero, List.set_cons_succ])
    refine wpAnyH_done (by kernel_rfl) ?_ _
    obtain ⟨_, ⟨Q0, Q1, Q2⟩, _⟩ := R5.set3 W H X
    have Q0 := Lib.hid Q0
    have Q1 := Lib.hid Q1
    have Q2 := Lib.hid Q2
    go_wp2
    exact bodyPost_ret (v := .tuple #[.agg #[.int .i64 W, .int .i64 H, .int .i64 X], .int .i64 p]) (by simp [results, Try.results88, go_sem, Q0.out, Q1.out, Q2.out]) rfl
      ⟨W, H, X, p, rfl, hs4, hp, ((hc5.set (by omega) hrg).set (by omega) hrg).set (by omega) hrg, gr_set3 (gr_set3 (gr_set3 hg5' (Nat.le_refl _) _ _) (Nat.le_refl _) _ _) (Nat.le_refl _) _ _⟩
end Go.Proofs.Ytianfakgojmnpaa
