/- Proofs by weights: the walk. -/
import Derived.Test.YtianfakgojmnpaaProofQ
import Derived.Test.YtianfakgojmnpaaClass
import Derived.Test.YtianfakgojmnpaaDrawT
import Derived.Test.YtianfakgojmnpaaLiftC
import Derived.Deep.DeepCutAuto
import Derived.BigQuiet
import Derived.Deep.QuietTactic
namespace Go.Proofs.Ytianfakgojmnpaa
open Go.RowKit
attribute [local go_sem ↓] Go.wp_at_zero Go.wp_at_succ

theorem falling_len {W H X : Int} {ws : List Int} (h : isFalling W H X ws = true) : ws.length ≤ 49 := by
  unfold isFalling weightsOk at h
  simp only [Bool.and_eq_true, beq_iff_eq] at h
  have := (boardOk_facts h.1.1.1).m2
  omega
theorem proof_len {W H X p q : Int} {ws : List Int} (h : isProof W H X ws p q = true) : ws.length ≤ 49 := by
  unfold isProof at h
  simp only [Bool.and_eq_true] at h
  exact falling_len h.1.1.1
set_option maxRecDepth 100000 in
set_option maxHeartbeats 8000000 in
theorem law_FnProofs (A : Option Addr) (cap len : Nat) (w : World) (hAm : Bytes w A len ∧ len ≤ maxLen) :
    Calls Try.prog 9 #[.slice A len cap] w fun e w' => e = .returned (.bool true) ∧ Below w.heap.size w w' := by
  obtain ⟨hA, hmax⟩ := hAm
  have hmx : len ≤ 9223372036854775807 := by simp only [maxLen] at hmax; omega
  clear hmax
  by_cases hbig : 1048576 < len
  · have hbd : decide (1048576 < len) = true := by simp [hbig]
    go_enter Try.func9, Try.ntmps9
    go_wp2_with fail
    refine (calls_is (laws_big _ _ _ _ hmx) hbd).mono ?_
    rintro e _ ⟨rfl, rfl⟩
    go_wp2
    go_ret
    exact ⟨rfl, Below.refl _ _⟩
  have hbd : decide (1048576 < len) = false := by simp [hbig]
  have hlen : len ≤ 4294967296 := by omega
  go_enter Try.func9, Try.ntmps9
  go_wp2_with fail
  refine (calls_is (laws_big _ _ _ _ hmx) hbd).mono ?_
  rintro e _ ⟨rfl, rfl⟩
  go_wp2_with fail
  refine (spec_DrawCanReach A len cap _ hA hlen).mono ?_
  rintro e w1 ⟨W, H, X, p, q, rfl, hpm, hqm, hb1⟩
  go_wp2_with fail
  generalize hU : w1.alloc (.cells #[.int .i64 W, .int .i64 H, .int .i64 X] 44) = U
  have Bd : Cells3 U w1.heap.size W H X := by subst hU; exact new3
  have hV : Below w.heap.size w U := by subst hU; exact below_alloc hb1 _
  clear hU hb1
  have hFN := impl_FindProof W H X p (-1)
  rw [find_neg] at hFN
  obtain ⟨hbs, ⟨b0, b1, b2⟩, _⟩ := id Bd
  cases h1 : isSmall W H X
  · refine (calls_is (spec_IsSmall _ _ _ _) h1).mono ?_
    rintro e w2 ⟨rfl, hb2⟩
    replace Bd := Bd.below hb2
    replace hV := below_step hV hb2
    clear b0 b1 b2 hbs hb2
    obtain ⟨hbs, ⟨b0, b1, b2⟩, _⟩ := id Bd
    go_wp2_with fail
    refine (hFN _ hpm (by decide)).mono ?_
    rintro e w5 ⟨FA, fc, rfl, oF, hb5⟩
    go_wp2
    go_ret
    exact ⟨rfl, below_step hV hb5⟩
  cases h2 : positionOk W H X p
  · refine (calls_is (spec_IsSmall _ _ _ _) h1).mono ?_
    rintro e w2 ⟨rfl, hb2⟩
    replace Bd := Bd.below hb2
    replace hV := below_step hV hb2
    clear b0 b1 b2 hbs hb2
    obtain ⟨hbs, ⟨b0, b1, b2⟩, _⟩ := id Bd
    go_wp2_with fail
    refine (calls_is (spec_PositionOk _ _ _ _ _ hpm) h2).mono ?_
    rintro e w3 ⟨rfl, hb3⟩
    replace Bd := Bd.below hb3
    replace hV := below_step hV hb3
    clear b0 b1 b2 hbs hb3
    obtain ⟨hbs, ⟨b0, b1, b2⟩, _⟩ := id Bd
    go_wp2_with fail
    refine (hFN _ hpm (by decide)).mono ?_
    rintro e w5 ⟨FA, fc, rfl, oF, hb5⟩
    go_wp2
    go_ret
    exact ⟨rfl, below_step hV hb5⟩
  refine (calls_is (spec_IsSmall _ _ _ _) h1).mono ?_
  rintro e w2 ⟨rfl, hb2⟩
  replace Bd := Bd.below hb2
  replace hV := below_step hV hb2
  clear b0 b1 b2 hbs hb2
  obtain ⟨hbs, ⟨b0, b1, b2⟩, _⟩ := id Bd
  go_wp2_with fail
  refine (calls_is (spec_PositionOk _ _ _ _ _ hpm) h2).mono ?_
  rintro e w3 ⟨rfl, hb3⟩
  replace Bd := Bd.below hb3
  replace hV := below_step hV hb3
  clear b0 b1 b2 hbs hb3
  obtain ⟨hbs, ⟨b0, b1, b2⟩, _⟩ := id Bd
  cases h3 : positionOk W H X q
  · go_wp2_with fail
    refine (calls_is (spec_PositionOk _ _ _ _ _ hqm) h3).mono ?_
    rintro e w4 ⟨rfl, hb4⟩
    replace Bd := Bd.below hb4
    replace hV := below_step hV hb4
    clear b0 b1 b2 hbs hb4
    obtain ⟨hbs, ⟨b0, b1, b2⟩, _⟩ := id Bd
    go_wp2_with fail
    refine (hFN _ hpm (by decide)).mono ?_
    rintro e w5 ⟨FA, fc, rfl, oF, hb5⟩
    go_wp2
    go_ret
    exact ⟨rfl, below_step hV hb5⟩
  go_wp2_with fail
  refine (calls_is (spec_PositionOk _ _ _ _ _ hqm) h3).mono ?_
  rintro e w4 ⟨rfl, hb4⟩
  replace Bd := Bd.below hb4
  replace hV := below_step hV hb4
  clear b0 b1 b2 hbs hb4 hFN
  obtain ⟨hbs, ⟨b0, b1, b2⟩, _⟩ := id Bd
  have hbk := (positionOk_facts h2).b
  clear h1 h2 h3
  obtain ⟨ok, can, kb, ws, G⟩ := proofF_of W H X p q
  have hF := impl_FindProof W H X p q w4 hpm hqm
  rw [G.fw, G.fo] at hF
  go_wp2_with fail
  refine hF.mono ?_
  rintro e w5 ⟨FA, fc, rfl, oF, hb5⟩
  have hFW := FAt_of_own oF
  replace Bd := Bd.below hb5
  replace hV := below_step hV hb5
  clear b0 b1 b2 hbs hb5 oF hF
  obtain ⟨hbs, ⟨b0, b1, b2⟩, _⟩ := id Bd
  go_wp2_with fail
  refine (calls_is (impl_CanReach W H X p q _ hpm hqm) G.c1).mono ?_
  rintro e w6 ⟨rfl, hb6⟩
  replace hFW := hFW.below hb6
  replace Bd := Bd.below hb6
  replace hV := below_step hV hb6
  clear b0 b1 b2 hbs hb6
  obtain ⟨hbs, ⟨b0, b1, b2⟩, _⟩ := id Bd
  go_upto_region 9 with fail
  go_cut [66] (fun s66 wx => s66 = .bool false ∧ Below w6.heap.size w6 wx)
  case first =>
    cases ok
    · go_wp2_with fail
      go_meet
      exact ⟨by simp, Below.refl _ _⟩
    · have hpr := G.pr rfl
      have hno := G.no rfl
      subst hno
      have hwl := proof_len hpr
      go_wp2_with fail
      refine (calls_is (impl_IsProof W H X FA fc ws p q _ hFW (by omega) hpm hqm) hpr).mono ?_
      rintro e w7 ⟨rfl, hb7⟩
      go_wp2_with fail
      go_meet
      exact ⟨by simp, hb7⟩
  obtain ⟨rfl, hcut⟩ := hcut
  generalize hwc : wc = w7 at *
  clear hwc b0 b1 b2 hbs hFW
  replace Bd := Bd.below hcut
  replace hV := below_step hV hcut
  clear hcut
  go_wp2
  go_loopw [11] (fun s11 wr => ∃ k : Nat, k ≤ 3 ∧ s11 = .int .i64 k ∧ Below w7.heap.size w7 wr) (fun s11 _ => 3 - (intOf s11).toNat)
  case atStart => exact ⟨0, by omega, rfl, Below.refl _ _⟩
  case round =>
    rename World => wj
    obtain ⟨k, hk, rfl, hbj⟩ := hrel
    have BdJ := Bd.below hbj
    obtain ⟨hbs, ⟨b0, b1, b2⟩, _⟩ := id BdJ
    have hBJ := Below.refl wj.heap.size wj
    by_cases hk3 : k < 3
    · have hki : (k : Int) < 3 := by omega
      have hcf := class_falls hbk (r := (k : Int)) (inB_iff.2 ⟨by omega, by omega⟩)
      have hcl := falling_len hcf
      have HC := Lib.hid hcf
      have KJ : Hid (∀ w', Below wj.heap.size wj w' → Below wj.heap.size wj w' ∧ w'.cell? ⟨w1.heap.size, 0, none⟩ = some (.int .i64 W) ∧ w'.cell? ⟨w1.heap.size, 1, none⟩ = some (.int .i64 H) ∧ w'.cell? ⟨w1.heap.size, 2, none⟩ = some (.int .i64 X)) := fun w' hB => ⟨hB, bel_cell hB hbs b0, bel_cell hB hbs b1, bel_cell hB hbs b2⟩
      clear b0 b1 b2 hcf
      go_wp2_with fail
      refine wp_region_held_drew (S := (fun w' => Below wj.heap.size wj w' ∧ w'.cell? ⟨w1.heap.size, 0, none⟩ = some (.int .i64 W) ∧ w'.cell? ⟨w1.heap.size, 1, none⟩ = some (.int .i64 H) ∧ w'.cell? ⟨w1.heap.size, 2, none⟩ = some (.int .i64 X))) (by kernel_rfl) ?_ (fun hHd0 => ?_)
      · (refine KJ.out _ ?_; (repeat (first | exact Below.refl _ _ | assumption | refine below_step ?_ (by assumption) | refine below_alloc ?_ _ | refine below_drewN ?_ _ | refine Below.drew ?_ | refine Below.setCell ?_ (by first | (simp; done) | omega | (simp; omega)) _)))
      refine heldT (i := 0) rfl (by kernel_rfl) (by kernel_rfl) (by kernel_rfl) (fun _ _ _ h => h) (by rfl) (v := ?_) ?_ (by assumption) ?_
      rotate_left
      · (intro w hSw; (try dsimp only at hSw); go_simp; try (with_reducible rfl))
      (try simp only [Act.put, List.setIfInBounds_toArray, List.set_cons_zero, List.set_cons_succ])
      refine heldT (i := 1) rfl (by kernel_rfl) (by kernel_rfl) (by kernel_rfl) (fun _ _ _ h => h) (by rfl) (v := ?_) ?_ (by assumption) ?_
      rotate_left
      · (intro w hSw; (try dsimp only at hSw); go_simp; try (with_reducible rfl))
      (try simp only [Act.put, List.setIfInBounds_toArray, List.set_cons_zero, List.set_cons_succ])
      refine heldT (i := 2) rfl (by kernel_rfl) (by kernel_rfl) (by kernel_rfl) (fun _ _ _ h => h) (by rfl) (v := ?_) ?_ (by assumption) ?_
      rotate_left
      · (intro w hSw; (try dsimp only at hSw); go_simp; try (with_reducible rfl))
      (try simp only [Act.put, List.setIfInBounds_toArray, List.set_cons_zero, List.set_cons_succ])
      refine heldC (i := 3) rfl (by kernel_rfl) (fun K' hK => ?_)
      go_simp
      refine (impl_ClassWeights W H X (k : Int) _).mono ?_; rintro e w8 ⟨A8, c8, rfl, oC, hb8⟩; have hFC := FAt_of_own oC
      (try (go_wp2_with fail))
      refine hK.out _ _ ?_ (fun hHd1 => ?_)
      · ((try dsimp only); (refine KJ.out _ ?_; (repeat (first | exact Below.refl _ _ | assumption | refine below_step ?_ (by assumption) | refine below_alloc ?_ _ | refine below_drewN ?_ _ | refine Below.drew ?_ | refine Below.setCell ?_ (by first | (simp; done) | omega | (simp; omega)) _))))
      clear hK K' hHd0
      (try simp only [Act.put, List.setIfInBounds_toArray, List.set_cons_zero, List.set_cons_succ])
      refine heldC (i := 4) rfl (by kernel_rfl) (fun K' hK => ?_)
      go_simp
      refine (calls_is (spec_IsFalling W H X _ _ _ _ hFC (by omega)) HC.out).mono ?_; rintro e w9 ⟨rfl, hb9⟩
      (try (go_wp2_with fail))
      refine hK.out _ _ ?_ (fun hHd2 => ?_)
      · ((try dsimp only); (refine KJ.out _ ?_; (repeat (first | exact Below.refl _ _ | assumption | refine below_step ?_ (by assumption) | refine below_alloc ?_ _ | refine below_drewN ?_ _ | refine Below.drew ?_ | refine Below.setCell ?_ (by first | (simp; done) | omega | (simp; omega)) _))))
      clear hK K' hHd1
      (try simp only [Act.put, List.setIfInBounds_toArray, List.set_cons_zero, List.set_cons_succ])
      refine heldT (i := 5) rfl (by kernel_rfl) (by kernel_rfl) (by kernel_rfl) (fun _ _ _ h => h) (by rfl) (v := ?_) ?_ (by assumption) ?_
      rotate_left
      · (intro w hSw; (try dsimp only at hSw); go_simp; try (with_reducible rfl))
      (try simp only [Act.put, List.setIfInBounds_toArray, List.set_cons_zero, List.set_cons_succ])
      refine wpAnyH_done (by kernel_rfl) ?_ _
      go_wp2
      go_roundw
      case rel => exact ⟨k + 1, by omega, by go_num, below_step hbj (by (repeat (first | exact Below.refl _ _ | assumption | refine below_step ?_ (by assumption) | refine below_alloc ?_ _ | refine below_drewN ?_ _ | refine Below.drew ?_ | refine Below.setCell ?_ (by first | (simp; done) | omega | (simp; omega)) _)))⟩
      case measure => simp [intOf]; omega
    · obtain rfl : k = 3 := by omega
      replace hV := below_step hV hbj
      clear hbj Bd
      go_wp2_with fail
      refine (laws_at0 A len cap _ (hA.below hV) hlen).mono ?_
      rintro e _ ⟨z, rfl, z0, z1, rfl⟩
      have h7 : inB (z % 7) 0 6 = true := inB_iff.2 ⟨by omega, by omega⟩
      have hcf := col_falls hbk h7
      have hrf := row_falls hbk h7
      have hcl := falling_len hcf
      have hrl := falling_len hrf
      have HC := Lib.hid hcf
      have HR := Lib.hid hrf
      have KJ : Hid (∀ w', Below wj.heap.size wj w' → Below wj.heap.size wj w' ∧ w'.cell? ⟨w1.heap.size, 0, none⟩ = some (.int .i64 W) ∧ w'.cell? ⟨w1.heap.size, 1, none⟩ = some (.int .i64 H) ∧ w'.cell? ⟨w1.heap.size, 2, none⟩ = some (.int .i64 X)) := fun w' hB => ⟨hB, bel_cell hB hbs b0, bel_cell hB hbs b1, bel_cell hB hbs b2⟩
      have hks := G.ks
      clear b0 b1 b2 hcf hrf
      cases can
      · skip
        go_wp2_with fail
        refine wp_region_held_drew (S := (fun w' => Below wj.heap.size wj w' ∧ w'.cell? ⟨w1.heap.size, 0, none⟩ = some (.int .i64 W) ∧ w'.cell? ⟨w1.heap.size, 1, none⟩ = some (.int .i64 H) ∧ w'.cell? ⟨w1.heap.size, 2, none⟩ = some (.int .i64 X))) (by kernel_rfl) ?_ (fun hHd0 => ?_)
        · (refine KJ.out _ ?_; (repeat (first | exact Below.refl _ _ | assumption | refine below_step ?_ (by assumption) | refine below_alloc ?_ _ | refine below_drewN ?_ _ | refine Below.drew ?_ | refine Below.setCell ?_ (by first | (simp; done) | omega | (simp; omega)) _)))
        refine heldT (i := 0) rfl (by kernel_rfl) (by kernel_rfl) (by kernel_rfl) (fun _ _ _ h => h) (by rfl) (v := ?_) ?_ (by assumption) ?_
        rotate_left
        · (intro w hSw; (try dsimp only at hSw); go_simp; try (with_reducible rfl))
        (try simp only [Act.put, List.setIfInBounds_toArray, List.set_cons_zero, List.set_cons_succ])
        refine heldT (i := 1) rfl (by kernel_rfl) (by kernel_rfl) (by kernel_rfl) (fun _ _ _ h => h) (by rfl) (v := ?_) ?_ (by assumption) ?_
        rotate_left
        · (intro w hSw; (try dsimp only at hSw); go_simp; try (with_reducible rfl))
        (try simp only [Act.put, List.setIfInBounds_toArray, List.set_cons_zero, List.set_cons_succ])
        refine heldT (i := 2) rfl (by kernel_rfl) (by kernel_rfl) (by kernel_rfl) (fun _ _ _ h => h) (by rfl) (v := ?_) ?_ (by assumption) ?_
        rotate_left
        · (intro w hSw; (try dsimp only at hSw); go_simp; try (with_reducible rfl))
        (try simp only [Act.put, List.setIfInBounds_toArray, List.set_cons_zero, List.set_cons_succ])
        refine heldC (i := 3) rfl (by kernel_rfl) (fun K' hK => ?_)
        go_simp
        refine (impl_ColumnWeights W H X (z % 7) _).mono ?_; rintro e w8 ⟨A8, c8, rfl, oC, hb8⟩; have hFC := FAt_of_own oC
        (try (go_wp2_with fail))
        refine hK.out _ _ ?_ (fun hHd1 => ?_)
        · ((try dsimp only); (refine KJ.out _ ?_; (repeat (first | exact Below.refl _ _ | assumption | refine below_step ?_ (by assumption) | refine below_alloc ?_ _ | refine below_drewN ?_ _ | refine Below.drew ?_ | refine Below.setCell ?_ (by first | (simp; done) | omega | (simp; omega)) _))))
        clear hK K' hHd0
        (try simp only [Act.put, List.setIfInBounds_toArray, List.set_cons_zero, List.set_cons_succ])
        refine heldC (i := 4) rfl (by kernel_rfl) (fun K' hK => ?_)
        go_simp
        refine (calls_is (spec_IsFalling W H X _ _ _ _ hFC (by omega)) HC.out).mono ?_; rintro e w9 ⟨rfl, hb9⟩
        (try (go_wp2_with fail))
        refine hK.out _ _ ?_ (fun hHd2 => ?_)
        · ((try dsimp only); (refine KJ.out _ ?_; (repeat (first | exact Below.refl _ _ | assumption | refine below_step ?_ (by assumption) | refine below_alloc ?_ _ | refine below_drewN ?_ _ | refine Below.drew ?_ | refine Below.setCell ?_ (by first | (simp; done) | omega | (simp; omega)) _))))
        clear hK K' hHd1
        (try simp only [Act.put, List.setIfInBounds_toArray, List.set_cons_zero, List.set_cons_succ])
        refine heldT (i := 5) rfl (by kernel_rfl) (by kernel_rfl) (by kernel_rfl) (fun _ _ _ h => h) (by rfl) (v := ?_) ?_ (by assumption) ?_
        rotate_left
        · (intro w hSw; (try dsimp only at hSw); go_simp; try (with_reducible rfl))
        (try simp only [Act.put, List.setIfInBounds_toArray, List.set_cons_zero, List.set_cons_succ])
        refine heldT (i := 6) rfl (by kernel_rfl) (by kernel_rfl) (by kernel_rfl) (fun _ _ _ h => h) (by rfl) (v := ?_) ?_ (by assumption) ?_
        rotate_left
        · (intro w hSw; (try dsimp only at hSw); go_simp; try (with_reducible rfl))
        (try simp only [Act.put, List.setIfInBounds_toArray, List.set_cons_zero, List.set_cons_succ])
        refine heldT (i := 7) rfl (by kernel_rfl) (by kernel_rfl) (by kernel_rfl) (fun _ _ _ h => h) (by rfl) (v := ?_) ?_ (by assumption) ?_
        rotate_left
        · (intro w hSw; (try dsimp only at hSw); go_simp; try (with_reducible rfl))
        (try simp only [Act.put, List.setIfInBounds_toArray, List.set_cons_zero, List.set_cons_succ])
        refine heldT (i := 8) rfl (by kernel_rfl) (by kernel_rfl) (by kernel_rfl) (fun _ _ _ h => h) (by rfl) (v := ?_) ?_ (by assumption) ?_
        rotate_left
        · (intro w hSw; (try dsimp only at hSw); go_simp; try (with_reducible rfl))
        (try simp only [Act.put, List.setIfInBounds_toArray, List.set_cons_zero, List.set_cons_succ])
        refine heldC (i := 9) rfl (by kernel_rfl) (fun K' hK => ?_)
        go_simp
        refine (impl_RowWeights W H X (z % 7) _).mono ?_; rintro e w10 ⟨A10, c10, rfl, oR, hb10⟩; have hFR := FAt_of_own oR
        (try (go_wp2_with fail))
        refine hK.out _ _ ?_ (fun hHd3 => ?_)
        · ((try dsimp only); (refine KJ.out _ ?_; (repeat (first | exact Below.refl _ _ | assumption | refine below_step ?_ (by assumption) | refine below_alloc ?_ _ | refine below_drewN ?_ _ | refine Below.drew ?_ | refine Below.setCell ?_ (by first | (simp; done) | omega | (simp; omega)) _))))
        clear hK K' hHd2
        (try simp only [Act.put, List.setIfInBounds_toArray, List.set_cons_zero, List.set_cons_succ])
        refine heldC (i := 10) rfl (by kernel_rfl) (fun K' hK => ?_)
        go_simp
        refine (calls_is (spec_IsFalling W H X _ _ _ _ hFR (by omega)) HR.out).mono ?_; rintro e w11 ⟨rfl, hb11⟩
        (try (go_wp2_with fail))
        refine hK.out _ _ ?_ (fun hHd4 => ?_)
        · ((try dsimp only); (refine KJ.out _ ?_; (repeat (first | exact Below.refl _ _ | assumption | refine below_step ?_ (by assumption) | refine below_alloc ?_ _ | refine below_drewN ?_ _ | refine Below.drew ?_ | refine Below.setCell ?_ (by first | (simp; done) | omega | (simp; omega)) _))))
        clear hK K' hHd3
        (try simp only [Act.put, List.setIfInBounds_toArray, List.set_cons_zero, List.set_cons_succ])
        refine heldT (i := 11) rfl (by kernel_rfl) (by kernel_rfl) (by kernel_rfl) (fun _ _ _ h => h) (by rfl) (v := ?_) ?_ (by assumption) ?_
        rotate_left
        · (intro w hSw; (try dsimp only at hSw); go_simp; try (with_reducible rfl))
        (try simp only [Act.put, List.setIfInBounds_toArray, List.set_cons_zero, List.set_cons_succ])
        refine heldT (i := 12) rfl (by kernel_rfl) (by kernel_rfl) (by kernel_rfl) (fun _ _ _ h => h) (by rfl) (v := ?_) ?_ (by assumption) ?_
        rotate_left
        · (intro w hSw; (try dsimp only at hSw); go_simp; try (with_reducible rfl))
        (try simp only [Act.put, List.setIfInBounds_toArray, List.set_cons_zero, List.set_cons_succ])
        refine heldT (i := 13) rfl (by kernel_rfl) (by kernel_rfl) (by kernel_rfl) (fun _ _ _ h => h) (by rfl) (v := ?_) ?_ (by assumption) ?_
        rotate_left
        · (intro w hSw; (try dsimp only at hSw); go_simp; try (with_reducible rfl))
        (try simp only [Act.put, List.setIfInBounds_toArray, List.set_cons_zero, List.set_cons_succ])
        refine heldT (i := 14) rfl (by kernel_rfl) (by kernel_rfl) (by kernel_rfl) (fun _ _ _ h => h) (by rfl) (v := ?_) ?_ (by assumption) ?_
        rotate_left
        · (intro w hSw; (try dsimp only at hSw); go_simp; try (with_reducible rfl))
        (try simp only [Act.put, List.setIfInBounds_toArray, List.set_cons_zero, List.set_cons_succ])
        refine heldT (i := 15) rfl (by kernel_rfl) (by kernel_rfl) (by kernel_rfl) (fun _ _ _ h => h) (by rfl) (v := ?_) ?_ (by assumption) ?_
        rotate_left
        · (intro w hSw; (try dsimp only at hSw); go_simp; try (with_reducible rfl))
        (try simp only [Act.put, List.setIfInBounds_toArray, List.set_cons_zero, List.set_cons_succ])
        refine heldT (i := 16) rfl (by kernel_rfl) (by kernel_rfl) (by kernel_rfl) (fun _ _ _ h => h) (by rfl) (v := ?_) ?_ (by assumption) ?_
        rotate_left
        · (intro w hSw; (try dsimp only at hSw); go_simp; try (with_reducible rfl))
        (try simp only [Act.put, List.setIfInBounds_toArray, List.set_cons_zero, List.set_cons_succ])
        refine heldC (i := 17) rfl (by kernel_rfl) (fun K' hK => ?_)
        go_simp
        refine (calls_is (spec_CanReach W H X p q _ hpm hqm) G.c1).mono ?_; rintro e w12 ⟨rfl, hb12⟩
        (try (go_wp2_with fail))
        refine hK.out _ _ ?_ (fun hHd5 => ?_)
        · ((try dsimp only); (refine KJ.out _ ?_; (repeat (first | exact Below.refl _ _ | assumption | refine below_step ?_ (by assumption) | refine below_alloc ?_ _ | refine below_drewN ?_ _ | refine Below.drew ?_ | refine Below.setCell ?_ (by first | (simp; done) | omega | (simp; omega)) _))))
        clear hK K' hHd4
        (try simp only [Act.put, List.setIfInBounds_toArray, List.set_cons_zero, List.set_cons_succ])
        refine heldT (i := 18) rfl (by kernel_rfl) (by kernel_rfl) (by kernel_rfl) (fun _ _ _ h => h) (by rfl) (v := .bool true) ?_ (by assumption) ?_
        · (intro w hSw; (try dsimp only at hSw); go_simp; try simp)
        (try simp only [Act.put, List.setIfInBounds_toArray, List.set_cons_zero, List.set_cons_succ])
        refine heldT (i := 19) rfl (by kernel_rfl) (by kernel_rfl) (by kernel_rfl) (fun _ _ _ h => h) (by rfl) (v := ?_) ?_ (by assumption) ?_
        rotate_left
        · (intro w hSw; (try dsimp only at hSw); go_simp; try (with_reducible rfl))
        (try simp only [Act.put, List.setIfInBounds_toArray, List.set_cons_zero, List.set_cons_succ])
        refine heldT (i := 20) rfl (by kernel_rfl) (by kernel_rfl) (by kernel_rfl) (fun _ _ _ h => h) (by rfl) (v := ?_) ?_ (by assumption) ?_
        rotate_left
        · (intro w hSw; (try dsimp only at hSw); go_simp; try (with_reducible rfl))
        (try simp only [Act.put, List.setIfInBounds_toArray, List.set_cons_zero, List.set_cons_succ])
        refine heldT (i := 21) rfl (by kernel_rfl) (by kernel_rfl) (by kernel_rfl) (fun _ _ _ h => h) (by rfl) (v := ?_) ?_ (by assumption) ?_
        rotate_left
        · (intro w hSw; (try dsimp only at hSw); go_simp; try (with_reducible rfl))
        (try simp only [Act.put, List.setIfInBounds_toArray, List.set_cons_zero, List.set_cons_succ])
        refine heldT (i := 22) rfl (by kernel_rfl) (by kernel_rfl) (by kernel_rfl) (fun _ _ _ h => h) (by rfl) (v := ?_) ?_ (by assumption) ?_
        rotate_left
        · (intro w hSw; (try dsimp only at hSw); go_simp; try (with_reducible rfl))
        (try simp only [Act.put, List.setIfInBounds_toArray, List.set_cons_zero, List.set_cons_succ])
        refine heldT (i := 23) rfl (by kernel_rfl) (by kernel_rfl) (by kernel_rfl) (fun _ _ _ h => h) (by rfl) (v := ?_) ?_ (by assumption) ?_
        rotate_left
        · (intro w hSw; (try dsimp only at hSw); go_simp; try (with_reducible rfl))
        (try simp only [Act.put, List.setIfInBounds_toArray, List.set_cons_zero, List.set_cons_succ])
        refine heldU (i := 24) rfl (by kernel_rfl) (by kernel_rfl) (by kernel_rfl) (fun _ _ _ h => h) (by rfl) (by assumption) ?_
        (try simp only [Act.put, List.setIfInBounds_toArray, List.set_cons_zero, List.set_cons_succ])
        refine heldU (i := 25) rfl (by kernel_rfl) (by kernel_rfl) (by kernel_rfl) (fun _ _ _ h => h) (by rfl) (by assumption) ?_
        (try simp only [Act.put, List.setIfInBounds_toArray, List.set_cons_zero, List.set_cons_succ])
        refine heldU (i := 26) rfl (by kernel_rfl) (by kernel_rfl) (by kernel_rfl) (fun _ _ _ h => h) (by rfl) (by assumption) ?_
        (try simp only [Act.put, List.setIfInBounds_toArray, List.set_cons_zero, List.set_cons_succ])
        refine heldU (i := 27) rfl (by kernel_rfl) (by kernel_rfl) (by kernel_rfl) (fun _ _ _ h => h) (by rfl) (by assumption) ?_
        (try simp only [Act.put, List.setIfInBounds_toArray, List.set_cons_zero, List.set_cons_succ])
        refine heldT (i := 28) rfl (by kernel_rfl) (by kernel_rfl) (by kernel_rfl) (fun _ _ _ h => h) (by rfl) (v := ?_) ?_ (by assumption) ?_
        rotate_left
        · (intro w hSw; (try dsimp only at hSw); go_simp; try (with_reducible rfl))
        (try simp only [Act.put, List.setIfInBounds_toArray, List.set_cons_zero, List.set_cons_succ])
        refine heldT (i := 29) rfl (by kernel_rfl) (by kernel_rfl) (by kernel_rfl) (fun _ _ _ h => h) (by rfl) (v := ?_) ?_ (by assumption) ?_
        rotate_left
        · (intro w hSw; (try dsimp only at hSw); go_simp; try (with_reducible rfl))
        (try simp only [Act.put, List.setIfInBounds_toArray, List.set_cons_zero, List.set_cons_succ])
        refine heldT (i := 30) rfl (by kernel_rfl) (by kernel_rfl) (by kernel_rfl) (fun _ _ _ h => h) (by rfl) (v := ?_) ?_ (by assumption) ?_
        rotate_left
        · (intro w hSw; (try dsimp only at hSw); go_simp; try (with_reducible rfl))
        (try simp only [Act.put, List.setIfInBounds_toArray, List.set_cons_zero, List.set_cons_succ])
        refine wpAnyH_done (by kernel_rfl) ?_ _
        go_wp2
        go_ret
        exact ⟨ret_bool (by simp), below_step hV (by (repeat (first | exact Below.refl _ _ | assumption | refine below_step ?_ (by assumption) | refine below_alloc ?_ _ | refine below_drewN ?_ _ | refine Below.drew ?_ | refine Below.setCell ?_ (by first | (simp; done) | omega | (simp; omega)) _)))⟩
      · have hkb := hks rfl
        subst hkb
        go_wp2_with fail
        refine wp_region_held_drew (S := (fun w' => Below wj.heap.size wj w' ∧ w'.cell? ⟨w1.heap.size, 0, none⟩ = some (.int .i64 W) ∧ w'.cell? ⟨w1.heap.size, 1, none⟩ = some (.int .i64 H) ∧ w'.cell? ⟨w1.heap.size, 2, none⟩ = some (.int .i64 X))) (by kernel_rfl) ?_ (fun hHd0 => ?_)
        · (refine KJ.out _ ?_; (repeat (first | exact Below.refl _ _ | assumption | refine below_step ?_ (by assumption) | refine below_alloc ?_ _ | refine below_drewN ?_ _ | refine Below.drew ?_ | refine Below.setCell ?_ (by first | (simp; done) | omega | (simp; omega)) _)))
        refine heldT (i := 0) rfl (by kernel_rfl) (by kernel_rfl) (by kernel_rfl) (fun _ _ _ h => h) (by rfl) (v := ?_) ?_ (by assumption) ?_
        rotate_left
        · (intro w hSw; (try dsimp only at hSw); go_simp; try (with_reducible rfl))
        (try simp only [Act.put, List.setIfInBounds_toArray, List.set_cons_zero, List.set_cons_succ])
        refine heldT (i := 1) rfl (by kernel_rfl) (by kernel_rfl) (by kernel_rfl) (fun _ _ _ h => h) (by rfl) (v := ?_) ?_ (by assumption) ?_
        rotate_left
        · (intro w hSw; (try dsimp only at hSw); go_simp; try (with_reducible rfl))
        (try simp only [Act.put, List.setIfInBounds_toArray, List.set_cons_zero, List.set_cons_succ])
        refine heldT (i := 2) rfl (by kernel_rfl) (by kernel_rfl) (by kernel_rfl) (fun _ _ _ h => h) (by rfl) (v := ?_) ?_ (by assumption) ?_
        rotate_left
        · (intro w hSw; (try dsimp only at hSw); go_simp; try (with_reducible rfl))
        (try simp only [Act.put, List.setIfInBounds_toArray, List.set_cons_zero, List.set_cons_succ])
        refine heldC (i := 3) rfl (by kernel_rfl) (fun K' hK => ?_)
        go_simp
        refine (impl_ColumnWeights W H X (z % 7) _).mono ?_; rintro e w8 ⟨A8, c8, rfl, oC, hb8⟩; have hFC := FAt_of_own oC
        (try (go_wp2_with fail))
        refine hK.out _ _ ?_ (fun hHd1 => ?_)
        · ((try dsimp only); (refine KJ.out _ ?_; (repeat (first | exact Below.refl _ _ | assumption | refine below_step ?_ (by assumption) | refine below_alloc ?_ _ | refine below_drewN ?_ _ | refine Below.drew ?_ | refine Below.setCell ?_ (by first | (simp; done) | omega | (simp; omega)) _))))
        clear hK K' hHd0
        (try simp only [Act.put, List.setIfInBounds_toArray, List.set_cons_zero, List.set_cons_succ])
        refine heldC (i := 4) rfl (by kernel_rfl) (fun K' hK => ?_)
        go_simp
        refine (calls_is (spec_IsFalling W H X _ _ _ _ hFC (by omega)) HC.out).mono ?_; rintro e w9 ⟨rfl, hb9⟩
        (try (go_wp2_with fail))
        refine hK.out _ _ ?_ (fun hHd2 => ?_)
        · ((try dsimp only); (refine KJ.out _ ?_; (repeat (first | exact Below.refl _ _ | assumption | refine below_step ?_ (by assumption) | refine below_alloc ?_ _ | refine below_drewN ?_ _ | refine Below.drew ?_ | refine Below.setCell ?_ (by first | (simp; done) | omega | (simp; omega)) _))))
        clear hK K' hHd1
        (try simp only [Act.put, List.setIfInBounds_toArray, List.set_cons_zero, List.set_cons_succ])
        refine heldT (i := 5) rfl (by kernel_rfl) (by kernel_rfl) (by kernel_rfl) (fun _ _ _ h => h) (by rfl) (v := ?_) ?_ (by assumption) ?_
        rotate_left
        · (intro w hSw; (try dsimp only at hSw); go_simp; try (with_reducible rfl))
        (try simp only [Act.put, List.setIfInBounds_toArray, List.set_cons_zero, List.set_cons_succ])
        refine heldT (i := 6) rfl (by kernel_rfl) (by kernel_rfl) (by kernel_rfl) (fun _ _ _ h => h) (by rfl) (v := ?_) ?_ (by assumption) ?_
        rotate_left
        · (intro w hSw; (try dsimp only at hSw); go_simp; try (with_reducible rfl))
        (try simp only [Act.put, List.setIfInBounds_toArray, List.set_cons_zero, List.set_cons_succ])
        refine heldT (i := 7) rfl (by kernel_rfl) (by kernel_rfl) (by kernel_rfl) (fun _ _ _ h => h) (by rfl) (v := ?_) ?_ (by assumption) ?_
        rotate_left
        · (intro w hSw; (try dsimp only at hSw); go_simp; try (with_reducible rfl))
        (try simp only [Act.put, List.setIfInBounds_toArray, List.set_cons_zero, List.set_cons_succ])
        refine heldT (i := 8) rfl (by kernel_rfl) (by kernel_rfl) (by kernel_rfl) (fun _ _ _ h => h) (by rfl) (v := ?_) ?_ (by assumption) ?_
        rotate_left
        · (intro w hSw; (try dsimp only at hSw); go_simp; try (with_reducible rfl))
        (try simp only [Act.put, List.setIfInBounds_toArray, List.set_cons_zero, List.set_cons_succ])
        refine heldC (i := 9) rfl (by kernel_rfl) (fun K' hK => ?_)
        go_simp
        refine (impl_RowWeights W H X (z % 7) _).mono ?_; rintro e w10 ⟨A10, c10, rfl, oR, hb10⟩; have hFR := FAt_of_own oR
        (try (go_wp2_with fail))
        refine hK.out _ _ ?_ (fun hHd3 => ?_)
        · ((try dsimp only); (refine KJ.out _ ?_; (repeat (first | exact Below.refl _ _ | assumption | refine below_step ?_ (by assumption) | refine below_alloc ?_ _ | refine below_drewN ?_ _ | refine Below.drew ?_ | refine Below.setCell ?_ (by first | (simp; done) | omega | (simp; omega)) _))))
        clear hK K' hHd2
        (try simp only [Act.put, List.setIfInBounds_toArray, List.set_cons_zero, List.set_cons_succ])
        refine heldC (i := 10) rfl (by kernel_rfl) (fun K' hK => ?_)
        go_simp
        refine (calls_is (spec_IsFalling W H X _ _ _ _ hFR (by omega)) HR.out).mono ?_; rintro e w11 ⟨rfl, hb11⟩
        (try (go_wp2_with fail))
        refine hK.out _ _ ?_ (fun hHd4 => ?_)
        · ((try dsimp only); (refine KJ.out _ ?_; (repeat (first | exact Below.refl _ _ | assumption | refine below_step ?_ (by assumption) | refine below_alloc ?_ _ | refine below_drewN ?_ _ | refine Below.drew ?_ | refine Below.setCell ?_ (by first | (simp; done) | omega | (simp; omega)) _))))
        clear hK K' hHd3
        (try simp only [Act.put, List.setIfInBounds_toArray, List.set_cons_zero, List.set_cons_succ])
        refine heldT (i := 11) rfl (by kernel_rfl) (by kernel_rfl) (by kernel_rfl) (fun _ _ _ h => h) (by rfl) (v := ?_) ?_ (by assumption) ?_
        rotate_left
        · (intro w hSw; (try dsimp only at hSw); go_simp; try (with_reducible rfl))
        (try simp only [Act.put, List.setIfInBounds_toArray, List.set_cons_zero, List.set_cons_succ])
        refine heldT (i := 12) rfl (by kernel_rfl) (by kernel_rfl) (by kernel_rfl) (fun _ _ _ h => h) (by rfl) (v := ?_) ?_ (by assumption) ?_
        rotate_left
        · (intro w hSw; (try dsimp only at hSw); go_simp; try (with_reducible rfl))
        (try simp only [Act.put, List.setIfInBounds_toArray, List.set_cons_zero, List.set_cons_succ])
        refine heldT (i := 13) rfl (by kernel_rfl) (by kernel_rfl) (by kernel_rfl) (fun _ _ _ h => h) (by rfl) (v := ?_) ?_ (by assumption) ?_
        rotate_left
        · (intro w hSw; (try dsimp only at hSw); go_simp; try (with_reducible rfl))
        (try simp only [Act.put, List.setIfInBounds_toArray, List.set_cons_zero, List.set_cons_succ])
        refine heldT (i := 14) rfl (by kernel_rfl) (by kernel_rfl) (by kernel_rfl) (fun _ _ _ h => h) (by rfl) (v := ?_) ?_ (by assumption) ?_
        rotate_left
        · (intro w hSw; (try dsimp only at hSw); go_simp; try (with_reducible rfl))
        (try simp only [Act.put, List.setIfInBounds_toArray, List.set_cons_zero, List.set_cons_succ])
        refine heldT (i := 15) rfl (by kernel_rfl) (by kernel_rfl) (by kernel_rfl) (fun _ _ _ h => h) (by rfl) (v := ?_) ?_ (by assumption) ?_
        rotate_left
        · (intro w hSw; (try dsimp only at hSw); go_simp; try (with_reducible rfl))
        (try simp only [Act.put, List.setIfInBounds_toArray, List.set_cons_zero, List.set_cons_succ])
        refine heldT (i := 16) rfl (by kernel_rfl) (by kernel_rfl) (by kernel_rfl) (fun _ _ _ h => h) (by rfl) (v := ?_) ?_ (by assumption) ?_
        rotate_left
        · (intro w hSw; (try dsimp only at hSw); go_simp; try (with_reducible rfl))
        (try simp only [Act.put, List.setIfInBounds_toArray, List.set_cons_zero, List.set_cons_succ])
        refine heldC (i := 17) rfl (by kernel_rfl) (fun K' hK => ?_)
        go_simp
        refine (calls_is (spec_CanReach W H X p q _ hpm hqm) G.c1).mono ?_; rintro e w12 ⟨rfl, hb12⟩
        (try (go_wp2_with fail))
        refine hK.out _ _ ?_ (fun hHd5 => ?_)
        · ((try dsimp only); (refine KJ.out _ ?_; (repeat (first | exact Below.refl _ _ | assumption | refine below_step ?_ (by assumption) | refine below_alloc ?_ _ | refine below_drewN ?_ _ | refine Below.drew ?_ | refine Below.setCell ?_ (by first | (simp; done) | omega | (simp; omega)) _))))
        clear hK K' hHd4
        (try simp only [Act.put, List.setIfInBounds_toArray, List.set_cons_zero, List.set_cons_succ])
        refine heldT (i := 18) rfl (by kernel_rfl) (by kernel_rfl) (by kernel_rfl) (fun _ _ _ h => h) (by rfl) (v := .bool true) ?_ (by assumption) ?_
        · (intro w hSw; (try dsimp only at hSw); go_simp; try simp)
        (try simp only [Act.put, List.setIfInBounds_toArray, List.set_cons_zero, List.set_cons_succ])
        refine heldT (i := 19) rfl (by kernel_rfl) (by kernel_rfl) (by kernel_rfl) (fun _ _ _ h => h) (by rfl) (v := ?_) ?_ (by assumption) ?_
        rotate_left
        · (intro w hSw; (try dsimp only at hSw); go_simp; try (with_reducible rfl))
        (try simp only [Act.put, List.setIfInBounds_toArray, List.set_cons_zero, List.set_cons_succ])
        refine heldT (i := 20) rfl (by kernel_rfl) (by kernel_rfl) (by kernel_rfl) (fun _ _ _ h => h) (by rfl) (v := ?_) ?_ (by assumption) ?_
        rotate_left
        · (intro w hSw; (try dsimp only at hSw); go_simp; try (with_reducible rfl))
        (try simp only [Act.put, List.setIfInBounds_toArray, List.set_cons_zero, List.set_cons_succ])
        refine heldT (i := 21) rfl (by kernel_rfl) (by kernel_rfl) (by kernel_rfl) (fun _ _ _ h => h) (by rfl) (v := ?_) ?_ (by assumption) ?_
        rotate_left
        · (intro w hSw; (try dsimp only at hSw); go_simp; try (with_reducible rfl))
        (try simp only [Act.put, List.setIfInBounds_toArray, List.set_cons_zero, List.set_cons_succ])
        refine heldT (i := 22) rfl (by kernel_rfl) (by kernel_rfl) (by kernel_rfl) (fun _ _ _ h => h) (by rfl) (v := ?_) ?_ (by assumption) ?_
        rotate_left
        · (intro w hSw; (try dsimp only at hSw); go_simp; try (with_reducible rfl))
        (try simp only [Act.put, List.setIfInBounds_toArray, List.set_cons_zero, List.set_cons_succ])
        refine heldT (i := 23) rfl (by kernel_rfl) (by kernel_rfl) (by kernel_rfl) (fun _ _ _ h => h) (by rfl) (v := ?_) ?_ (by assumption) ?_
        rotate_left
        · (intro w hSw; (try dsimp only at hSw); go_simp; try (with_reducible rfl))
        (try simp only [Act.put, List.setIfInBounds_toArray, List.set_cons_zero, List.set_cons_succ])
        refine heldT (i := 24) rfl (by kernel_rfl) (by kernel_rfl) (by kernel_rfl) (fun _ _ _ h => h) (by rfl) (v := ?_) ?_ (by assumption) ?_
        rotate_left
        · (intro w hSw; (try dsimp only at hSw); go_simp; try (with_reducible rfl))
        (try simp only [Act.put, List.setIfInBounds_toArray, List.set_cons_zero, List.set_cons_succ])
        refine heldT (i := 25) rfl (by kernel_rfl) (by kernel_rfl) (by kernel_rfl) (fun _ _ _ h => h) (by rfl) (v := ?_) ?_ (by assumption) ?_
        rotate_left
        · (intro w hSw; (try dsimp only at hSw); go_simp; try (with_reducible rfl))
        (try simp only [Act.put, List.setIfInBounds_toArray, List.set_cons_zero, List.set_cons_succ])
        refine heldT (i := 26) rfl (by kernel_rfl) (by kernel_rfl) (by kernel_rfl) (fun _ _ _ h => h) (by rfl) (v := ?_) ?_ (by assumption) ?_
        rotate_left
        · (intro w hSw; (try dsimp only at hSw); go_simp; try (with_reducible rfl))
        (try simp only [Act.put, List.setIfInBounds_toArray, List.set_cons_zero, List.set_cons_succ])
        refine heldC (i := 27) rfl (by kernel_rfl) (fun K' hK => ?_)
        go_simp
        refine (calls_is (spec_SameKey W H X p q _ hpm hqm) G.sk).mono ?_; rintro e w13 ⟨rfl, hb13⟩
        (try (go_wp2_with fail))
        refine hK.out _ _ ?_ (fun hHd6 => ?_)
        · ((try dsimp only); (refine KJ.out _ ?_; (repeat (first | exact Below.refl _ _ | assumption | refine below_step ?_ (by assumption) | refine below_alloc ?_ _ | refine below_drewN ?_ _ | refine Below.drew ?_ | refine Below.setCell ?_ (by first | (simp; done) | omega | (simp; omega)) _))))
        clear hK K' hHd5
        (try simp only [Act.put, List.setIfInBounds_toArray, List.set_cons_zero, List.set_cons_succ])
        refine heldT (i := 28) rfl (by kernel_rfl) (by kernel_rfl) (by kernel_rfl) (fun _ _ _ h => h) (by rfl) (v := ?_) ?_ (by assumption) ?_
        rotate_left
        · (intro w hSw; (try dsimp only at hSw); go_simp; try (with_reducible rfl))
        (try simp only [Act.put, List.setIfInBounds_toArray, List.set_cons_zero, List.set_cons_succ])
        refine heldT (i := 29) rfl (by kernel_rfl) (by kernel_rfl) (by kernel_rfl) (fun _ _ _ h => h) (by rfl) (v := ?_) ?_ (by assumption) ?_
        rotate_left
        · (intro w hSw; (try dsimp only at hSw); go_simp; try (with_reducible rfl))
        (try simp only [Act.put, List.setIfInBounds_toArray, List.set_cons_zero, List.set_cons_succ])
        refine heldT (i := 30) rfl (by kernel_rfl) (by kernel_rfl) (by kernel_rfl) (fun _ _ _ h => h) (by rfl) (v := ?_) ?_ (by assumption) ?_
        rotate_left
        · (intro w hSw; (try dsimp only at hSw); go_simp; try (with_reducible rfl))
        (try simp only [Act.put, List.setIfInBounds_toArray, List.set_cons_zero, List.set_cons_succ])
        refine wpAnyH_done (by kernel_rfl) ?_ _
        go_wp2
        go_ret
        exact ⟨ret_bool (by simp), below_step hV (by (repeat (first | exact Below.refl _ _ | assumption | refine below_step ?_ (by assumption) | refine below_alloc ?_ _ | refine below_drewN ?_ _ | refine Below.drew ?_ | refine Below.setCell ?_ (by first | (simp; done) | omega | (simp; omega)) _)))⟩
end Go.Proofs.Ytianfakgojmnpaa
