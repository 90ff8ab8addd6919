/- Drawn boards and positions that need not be sound. -/
import Derived.Test.YtianfakgojmnpaaDrawW
import Derived.Test.YtianfakgojmnpaaDrawR
import Derived.Test.YtianfakgojmnpaaHeld
import Derived.Deep.DeepCutAuto
namespace Go.Proofs.Ytianfakgojmnpaa
open Go.RowKit
attribute [local go_sem ↓] Go.wp_at_zero Go.wp_at_succ

set_option maxHeartbeats 1000000 in
theorem spec_l01PickInt_mem (g B : Nat) (b off cap : Nat) (zs : List Int) (w : World) (hc : CurAt B w g) (h0 : 0 < zs.length) (h1 : zs.length ≤ 256) (hb : b ≠ g) (hlt : b < w.heap.size)
    (hz : ∀ j z, zs[j]? = some z → w.cell? ⟨b, off + j, none⟩ = some (.int .i64 z)) :
    Calls Try.prog 143 #[.pointer (some ⟨g, 0, none⟩), .slice (some ⟨b, off, none⟩) zs.length cap] w fun e w' => ∃ x : Int, e = .returned (.int .i64 x) ∧ x ∈ zs ∧ CurAt B w' g ∧ w.grownBy w' (some g) := by
  go_enter Try.func143, Try.ntmps143
  go_wp2_with fail
  refine (spec_l01Below g B _ _ hc (by omega) (by omega)).mono ?_
  rintro e w1 ⟨i, rfl, i0, i1, hc1, hg1⟩
  obtain ⟨i, rfl⟩ : ∃ n : Nat, i = (n : Int) := ⟨i.toNat, by omega⟩
  obtain ⟨x, hx⟩ : ∃ x, zs[i]? = some x := ⟨_, List.getElem?_eq_getElem (by omega)⟩
  have c1 := (gr_far hg1 hlt hb).trans (hz _ _ hx)
  have HZ := Lib.hid hz
  have HM := Lib.hid (List.mem_of_getElem? hx)
  clear hz hx
  go_wp2
  go_ret
  exact ⟨x, rfl, HM.out, hc1, hg1⟩
theorem Cells3.set0 {w : World} {r : Nat} {a b c : Int} (h : Cells3 w r a b c) (x : Int) : Cells3 (w.setCell ⟨r, 0, none⟩ (.int .i64 x)) r x b c := by
  obtain ⟨h0, ⟨h1, h2, h3⟩, h4, h5, h6⟩ := h
  refine ⟨by simpa using h0, ⟨World.cell?_setCell_same _ _ _ h1, ?_, ?_⟩, by simpa using h4, by simpa using h5, by simpa using h6⟩
  · rw [World.cell?_setCell_other _ _ _ _ (by simp)]; exact h2
  · rw [World.cell?_setCell_other _ _ _ _ (by simp)]; exact h3
set_option maxRecDepth 100000 in
set_option maxHeartbeats 4000000 in
theorem spec_CrossBoard (w : World) :
    Calls Try.prog 146 #[] w fun e w' => ∃ n : Nat, e = .returned (.agg #[.int .i64 7, .int .i64 7, .int .i64 n]) ∧ n < 562949953421312 ∧ Below w.heap.size w w' := by
  go_enter Try.func146, Try.ntmps146
  go_wp2
  generalize hV : (w.alloc (.cells #[.int .i64 0, .int .i64 0, .int .i64 0] 44)).alloc (.cells #[.int .i64 7, .int .i64 7, .int .i64 0] 44) = V
  have Bd : Cells3 V (w.heap.size + 1) 7 7 ((0 : Nat) : Int) := by subst hV; have := new3 (w := w.alloc (.cells #[.int .i64 0, .int .i64 0, .int .i64 0] 44)) (a := 7) (b := 7) (c := 0) (ty := 44); simpa using this
  have R : Cells3 V w.heap.size 0 0 0 := by subst hV; exact new3.below (below_one _ _)
  have v0 : Below w.heap.size w V := by subst hV; (repeat (first | exact Below.refl _ _ | assumption | refine below_step ?_ (by assumption) | refine below_alloc ?_ _ | refine below_drewN ?_ _ | refine Below.drew ?_ | refine Below.setCell ?_ (by first | (simp; done) | omega | (simp; omega)) _))
  clear hV
  go_loopw [2] (fun s2 wr => ∃ k n : Nat, k ≤ 49 ∧ s2 = .int .i64 k ∧ n < 562949953421312 ∧ Cells3 wr (w.heap.size + 1) 7 7 (n : Int) ∧ Cells3 wr w.heap.size 0 0 0 ∧ Below w.heap.size w wr) (fun s2 _ => 49 - (intOf s2).toNat)
  case atStart => exact ⟨0, 0, by omega, rfl, by omega, Bd, R, v0⟩
  case round =>
    clear Bd R v0
    obtain ⟨k, n, hk, rfl, hn, Bd, R, hbel⟩ := hrel
    by_cases hlt : k < 49
    · have hlt2 : (k : Int) < 49 := by omega
      go_upto_region 7 with fail
      go_cut [27] (fun s27 wx => ∃ d : Bool, s27 = .bool d ∧ wx = wr)
      case first =>
        by_cases q1 : 2 ≤ (k : Int) % 7 <;> by_cases q2 : (k : Int) % 7 ≤ 4 <;> by_cases q3 : 2 ≤ (k : Int) / 7 <;> by_cases q4 : (k : Int) / 7 ≤ 4
        all_goals
          go_wp2_with fail
          go_meet
          exact ⟨_, rfl, rfl⟩
      obtain ⟨d, rfl, hcw⟩ := hcut
      have hcw2 := hcw.symm
      subst hcw2
      cases d
      · go_wp2
        go_roundw
        case rel => exact ⟨k + 1, n, by omega, by go_num, hn, Bd, R, hbel⟩
        case measure => simp [intOf]; omega
      · have hw1 : IntKind.i64.wrap (2 ^ k) = 2 ^ k := by simpa using wrap_pow' (k := (k : Int)) (by omega)
        have hp2 : (2 : Nat) ^ k < 562949953421312 := by simpa using pow2_lt (k := (k : Int)) (by omega)
        have hor := nat_or hn hp2
        have hor2 := or_lt49 hn hp2
        have hpi := pow2_int k
        obtain ⟨m, hm⟩ : ∃ m, n ||| 2 ^ k = m := ⟨_, rfl⟩
        rw [← hpi, hm] at hor
        rw [hm] at hor2
        clear hpi hm
        obtain ⟨hbs, ⟨b0, b1, b2⟩, f0, f1, f2⟩ := id Bd
        have hBd' := Bd.set2 (m : Int)
        have hR' := R.other (k := w.heap.size + 1) (j := 2) (v := .int .i64 (m : Int)) (by omega)
        go_wp2_with fail
        refine wp_region_held_drew (S := (fun _ => True)) (by kernel_rfl) ?_ (fun hHd0 => ?_)
        · exact trivial
        refine heldT (i := 0) rfl (by kernel_rfl) (by kernel_rfl) (by kernel_rfl) (fun _ _ _ h => h) (by rfl) (v := ?_) ?_ (by assumption) ?_
        rotate_left
        · (intro w hSw; (try dsimp only at hSw); go_simp; try (with_reducible rfl))
        (try simp only [Act.put, List.setIfInBounds_toArray, List.set_cons_zero, List.set_cons_succ])
        refine heldT (i := 2) rfl (by kernel_rfl) (by kernel_rfl) (by kernel_rfl) (fun _ _ _ h => h) (by rfl) (v := ?_) ?_ (by assumption) ?_
        rotate_left
        · (intro w hSw; (try dsimp only at hSw); go_simp; try (with_reducible rfl))
        (try simp only [Act.put, List.setIfInBounds_toArray, List.set_cons_zero, List.set_cons_succ])
        refine heldT (i := 3) rfl (by kernel_rfl) (by kernel_rfl) (by kernel_rfl) (fun _ _ _ h => h) (by rfl) (v := ?_) ?_ (by assumption) ?_
        rotate_left
        · (intro w hSw; (try dsimp only at hSw); go_simp; try (with_reducible rfl))
        (try simp only [Act.put, List.setIfInBounds_toArray, List.set_cons_zero, List.set_cons_succ])
        refine heldC (i := 1) rfl (by kernel_rfl) (fun K' hK => ?_)
        go_simp
        skip
        (try (go_wp2_with fail))
        refine hK.out _ _ ?_ (fun hHd1 => ?_)
        · exact trivial
        clear hK K' hHd0
        (try simp only [Act.put, List.setIfInBounds_toArray, List.set_cons_zero, List.set_cons_succ])
        refine heldT (i := 4) rfl (by kernel_rfl) (by kernel_rfl) (by kernel_rfl) (fun _ _ _ h => h) (by rfl) (v := ?_) ?_ (by assumption) ?_
        rotate_left
        · (intro w hSw; (try dsimp only at hSw); go_simp; try (with_reducible rfl))
        (try simp only [Act.put, List.setIfInBounds_toArray, List.set_cons_zero, List.set_cons_succ])
        refine heldT (i := 5) rfl (by kernel_rfl) (by kernel_rfl) (by kernel_rfl) (fun _ _ _ h => h) (by rfl) (v := ?_) ?_ (by assumption) ?_
        rotate_left
        · (intro w hSw; (try dsimp only at hSw); go_simp; try (with_reducible rfl))
        (try simp only [Act.put, List.setIfInBounds_toArray, List.set_cons_zero, List.set_cons_succ])
        refine heldC (i := 6) rfl (by kernel_rfl) (fun K' hK => ?_)
        go_simp
        skip
        (try (go_wp2_with fail))
        refine hK.out _ _ ?_ (fun hHd2 => ?_)
        · exact trivial
        clear hK K' hHd1
        (try simp only [Act.put, List.setIfInBounds_toArray, List.set_cons_zero, List.set_cons_succ])
        refine wpAnyH_done (by kernel_rfl) ?_ _
        go_wp2
        go_roundw
        case rel => exact ⟨k + 1, m, by omega, by go_num, hor2, hBd', hR', Below.setCell (Below.drew hbel) (by simp only; omega) _⟩
        case measure => simp [intOf]; omega
    · obtain rfl : k = 49 := by omega
      obtain ⟨hbs, ⟨b0, b1, b2⟩, f0, f1, f2⟩ := Bd
      have R3 := R
      obtain ⟨r9, ⟨t0, t1, t2⟩, u0, u1, u2⟩ := R3
      obtain ⟨_, ⟨Q0, Q1, Q2⟩, _⟩ := R.set3 7 7 (n : Int)
      have Q0 := Lib.hid Q0
      have Q1 := Lib.hid Q1
      have Q2 := Lib.hid Q2
      clear R
      go_wp2
      exact bodyPost_ret (v := .agg #[.int .i64 7, .int .i64 7, .int .i64 (n : Int)]) (by simp [results, Try.results146, go_sem, Q0.out, Q1.out, Q2.out]) rfl ⟨n, rfl, hn, by (repeat (first | exact Below.refl _ _ | assumption | refine below_step ?_ (by assumption) | refine below_alloc ?_ _ | refine below_drewN ?_ _ | refine Below.drew ?_ | refine Below.setCell ?_ (by first | (simp; done) | omega | (simp; omega)) _))⟩
set_option maxHeartbeats 4000000 in
theorem spec_l02Any (g B : Nat) (w : World) (hc : CurAt B w g) :
    Calls Try.prog 142 #[.pointer (some ⟨g, 0, none⟩)] w fun e w' => ∃ W H X : Int, e = .returned (.agg #[.int .i64 W, .int .i64 H, .int .i64 X]) ∧ X ≤ 9223372036854775807 ∧ CurAt B w' g ∧ w.grownBy w' (some g) := by
  have hg := hc.1
  have hgB := hc.2.1
  go_enter Try.func142, Try.ntmps142
  go_wp2_with fail
  have R := new3 (w := w) (a := 0) (b := 0) (c := 0) (ty := 44)
  have hgr : w.grownBy (w.alloc (.cells #[.int .i64 0, .int .i64 0, .int .i64 0] 44)) (some g) := gr_alloc (gr_refl _ _) _
  replace hc := hc.below (below_one w (.cells #[.int .i64 0, .int .i64 0, .int .i64 0] 44))
  have hrg : w.heap.size ≠ g := by omega
  refine (spec_l02Small g B _ hc).mono ?_
  rintro e w1 ⟨W, H, X, rfl, hs, hc1, hg1⟩
  have hX : X ≤ 9223372036854775807 := by have := (boardOk_facts hs.1).x3; omega
  replace R := R.grown hg1 (by simp; omega)
  replace hgr := gr_trans hgr hg1
  clear hc hg1 hs
  go_wp2_with fail
  generalize hU : w1.alloc (.cells #[.int .i64 W, .int .i64 H, .int .i64 X] 44) = U
  have Bd : Cells3 U w1.heap.size W H X := by subst hU; exact new3
  have hcU : CurAt B U g := by subst hU; exact hc1.below (below_one _ _)
  have hgU : w.grownBy U (some g) := by subst hU; exact gr_alloc hgr _
  have RU : Cells3 U w.heap.size 0 0 0 := by subst hU; exact R.below (below_one _ _)
  have hbg : w1.heap.size ≠ g := by have := hc1.1; omega
  have hbr : w1.heap.size ≠ w.heap.size := by have := R.1; omega
  have hbw : w.heap.size ≤ w1.heap.size := hgr.size
  have hwB : B ≤ w.heap.size := by omega
  clear hU R hc1 hgr
  refine (spec_l01Below g B _ _ hcU (by omega) (by omega)).mono ?_
  rintro e w2 ⟨z, rfl, z0, z1, hc2, hg2⟩
  replace RU := RU.grown hg2 (by simp; omega)
  replace Bd := Bd.grown hg2 (by simp; omega)
  replace hgU := gr_trans hgU hg2
  clear hcU hg2
  by_cases q0 : z = 0
  · subst q0
    obtain ⟨hbs, ⟨b0, b1, b2⟩, f0, f1, f2⟩ := id Bd
    go_wp2_with fail
    refine (spec_l01PickInt g B _ 0 _ [0, 1, 7, 8, -1] _ (hc2.below (below_one _ _)) (by decide) (by decide) (by have := hc2.1; omega) (by simp) (by intro j z hj; match j, hj with | 0, hj => (simp at hj; subst hj; simp) | 1, hj => (simp at hj; subst hj; simp) | 2, hj => (simp at hj; subst hj; simp) | 3, hj => (simp at hj; subst hj; simp) | 4, hj => (simp at hj; subst hj; simp) | (n + 5), hj => simp at hj)).mono ?_
    rintro e w3 ⟨x, rfl, hc3, hg3⟩
    replace RU := (RU.below (below_one _ _)).grown hg3 (by simp; omega)
    replace Bd := (Bd.below (below_one _ _)).grown hg3 (by simp; omega)
    replace hgU := gr_trans (gr_alloc hgU _) hg3
    clear hc2 hg3 b0 b1 b2 f0 f1 f2 hbs
    obtain ⟨hbs, ⟨b0, b1, b2⟩, f0, f1, f2⟩ := id Bd
    have Bd' := Bd.set0 x
    have RU' := RU.other (k := w1.heap.size) (j := 0) (v := .int .i64 x) (fun e => hbr e.symm)
    have hc' := hc3.set (k := w1.heap.size) (j := 0) (v := .int .i64 x) (by omega) hbg
    have hg' := gr_set3 hgU (n := w1.heap.size) hbw 0 (.int .i64 x)
    clear Bd RU hc3 hgU
    go_upto_region 9 with fail
    clear b0 b1 b2 f0 f1 f2 hbs
    generalize w3.setCell ⟨w1.heap.size, 0, none⟩ (.int .i64 x) = Y at *
    obtain ⟨hbs, ⟨b0, b1, b2⟩, f0, f1, f2⟩ := Bd'
    obtain ⟨r9, ⟨t0, t1, t2⟩, u0, u1, u2⟩ := id RU'
    obtain ⟨_, ⟨Q0, Q1, Q2⟩, _⟩ := RU'.set3 x H X
    have Q0 := Lib.hid Q0
    have Q1 := Lib.hid Q1
    have Q2 := Lib.hid Q2
    clear RU'
    go_wp2
    exact bodyPost_ret (v := .agg #[.int .i64 x, .int .i64 H, .int .i64 X]) (by simp [results, Try.results142, go_sem, Q0.out, Q1.out, Q2.out]) rfl ⟨x, H, X, rfl, hX, ((hc'.set hwB hrg).set hwB hrg).set hwB hrg, gr_set3 (gr_set3 (gr_set3 hg' (Nat.le_refl _) _ _) (Nat.le_refl _) _ _) (Nat.le_refl _) _ _⟩
  · by_cases q1 : z = 1
    · subst q1
      obtain ⟨hbs, ⟨b0, b1, b2⟩, f0, f1, f2⟩ := id Bd
      go_wp2_with fail
      refine (spec_l01PickInt_mem g B _ 0 _ [0, -1, 1, 562949953421312, 9223372036854775807] _ (hc2.below (below_one _ _)) (by decide) (by decide) (by have := hc2.1; omega) (by simp) (by intro j z hj; match j, hj with | 0, hj => (simp at hj; subst hj; simp) | 1, hj => (simp at hj; subst hj; simp) | 2, hj => (simp at hj; subst hj; simp) | 3, hj => (simp at hj; subst hj; simp) | 4, hj => (simp at hj; subst hj; simp) | (n + 5), hj => simp at hj)).mono ?_
      rintro e w3 ⟨x, rfl, hmx, hc3, hg3⟩
      have hX2 : x ≤ 9223372036854775807 := by simp only [List.mem_cons, List.not_mem_nil, or_false] at hmx; omega
      replace RU := (RU.below (below_one _ _)).grown hg3 (by simp; omega)
      replace Bd := (Bd.below (below_one _ _)).grown hg3 (by simp; omega)
      replace hgU := gr_trans (gr_alloc hgU _) hg3
      clear hc2 hg3 b0 b1 b2 f0 f1 f2 hbs hmx
      obtain ⟨hbs, ⟨b0, b1, b2⟩, f0, f1, f2⟩ := id Bd
      have Bd' := Bd.set2 x
      have RU' := RU.other (k := w1.heap.size) (j := 2) (v := .int .i64 x) (fun e => hbr e.symm)
      have hc' := hc3.set (k := w1.heap.size) (j := 2) (v := .int .i64 x) (by omega) hbg
      have hg' := gr_set3 hgU (n := w1.heap.size) hbw 2 (.int .i64 x)
      clear Bd RU hc3 hgU
      go_upto_region 9 with fail
      clear b0 b1 b2 f0 f1 f2 hbs
      generalize w3.setCell ⟨w1.heap.size, 2, none⟩ (.int .i64 x) = Y at *
      obtain ⟨hbs, ⟨b0, b1, b2⟩, f0, f1, f2⟩ := Bd'
      obtain ⟨r9, ⟨t0, t1, t2⟩, u0, u1, u2⟩ := id RU'
      obtain ⟨_, ⟨Q0, Q1, Q2⟩, _⟩ := RU'.set3 W H x
      have Q0 := Lib.hid Q0
      have Q1 := Lib.hid Q1
      have Q2 := Lib.hid Q2
      clear RU'
      go_wp2
      exact bodyPost_ret (v := .agg #[.int .i64 W, .int .i64 H, .int .i64 x]) (by simp [results, Try.results142, go_sem, Q0.out, Q1.out, Q2.out]) rfl ⟨W, H, x, rfl, hX2, ((hc'.set hwB hrg).set hwB hrg).set hwB hrg, gr_set3 (gr_set3 (gr_set3 hg' (Nat.le_refl _) _ _) (Nat.le_refl _) _ _) (Nat.le_refl _) _ _⟩
    · have q0b : (z == 0) = false := by simp [q0]
      have q1b : (z == 1) = false := by simp [q1]
      by_cases q2 : z = 2
      · subst q2
        obtain ⟨hbs, ⟨b0, b1, b2⟩, f0, f1, f2⟩ := id Bd
        go_wp2_with fail
        refine (spec_CrossBoard _).mono ?_
        rintro e w3 ⟨n, rfl, hn, hb3⟩
        have hX2 : (n : Int) ≤ 9223372036854775807 := by omega
        have hc3 := hc2.below hb3
        replace RU := RU.below hb3
        replace Bd := Bd.below hb3
        replace hgU := gr_below hgU hb3
        clear hc2 hb3 b0 b1 b2 f0 f1 f2 hbs
        obtain ⟨hbs, ⟨b0, b1, b2⟩, f0, f1, f2⟩ := id Bd
        have Bd' := Bd.set3 7 7 (n : Int)
        have RU' := ((RU.other (k := w1.heap.size) (j := 0) (v := .int .i64 7) (fun e => hbr e.symm)).other (k := w1.heap.size) (j := 1) (v := .int .i64 7) (fun e => hbr e.symm)).other (k := w1.heap.size) (j := 2) (v := .int .i64 (n : Int)) (fun e => hbr e.symm)
        have hc' := ((hc3.set (k := w1.heap.size) (j := 0) (v := .int .i64 7) (by omega) hbg).set (k := w1.heap.size) (j := 1) (v := .int .i64 7) (by omega) hbg).set (k := w1.heap.size) (j := 2) (v := .int .i64 (n : Int)) (by omega) hbg
        have hg' := gr_set3 (gr_set3 (gr_set3 hgU (n := w1.heap.size) hbw 0 (.int .i64 7)) hbw 1 (.int .i64 7)) hbw 2 (.int .i64 (n : Int))
        clear Bd RU hc3 hgU
        go_upto_region 9 with fail
        clear b0 b1 b2 f0 f1 f2 hbs
        generalize ((w3.setCell ⟨w1.heap.size, 0, none⟩ (.int .i64 7)).setCell ⟨w1.heap.size, 1, none⟩ (.int .i64 7)).setCell ⟨w1.heap.size, 2, none⟩ (.int .i64 (n : Int)) = Y at *
        obtain ⟨hbs, ⟨b0, b1, b2⟩, f0, f1, f2⟩ := Bd'
        obtain ⟨r9, ⟨t0, t1, t2⟩, u0, u1, u2⟩ := id RU'
        obtain ⟨_, ⟨Q0, Q1, Q2⟩, _⟩ := RU'.set3 7 7 (n : Int)
        have Q0 := Lib.hid Q0
        have Q1 := Lib.hid Q1
        have Q2 := Lib.hid Q2
        clear RU'
        go_wp2
        exact bodyPost_ret (v := .agg #[.int .i64 7, .int .i64 7, .int .i64 (n : Int)]) (by simp [results, Try.results142, go_sem, Q0.out, Q1.out, Q2.out]) rfl ⟨7, 7, (n : Int), rfl, hX2, ((hc'.set hwB hrg).set hwB hrg).set hwB hrg, gr_set3 (gr_set3 (gr_set3 hg' (Nat.le_refl _) _ _) (Nat.le_refl _) _ _) (Nat.le_refl _) _ _⟩
      · have q2b : (z == 2) = false := by simp [q2]
        have Bd' := Bd
        have RU' := RU
        have hc' := hc2
        have hg' := hgU
        clear Bd RU hc2 hgU
        go_upto_region 9 with fail
        obtain ⟨hbs, ⟨b0, b1, b2⟩, f0, f1, f2⟩ := Bd'
        obtain ⟨r9, ⟨t0, t1, t2⟩, u0, u1, u2⟩ := id RU'
        obtain ⟨_, ⟨Q0, Q1, Q2⟩, _⟩ := RU'.set3 W H X
        have Q0 := Lib.hid Q0
        have Q1 := Lib.hid Q1
        have Q2 := Lib.hid Q2
        clear RU'
        go_wp2
        exact bodyPost_ret (v := .agg #[.int .i64 W, .int .i64 H, .int .i64 X]) (by simp [results, Try.results142, go_sem, Q0.out, Q1.out, Q2.out]) rfl ⟨W, H, X, rfl, hX, ((hc'.set hwB hrg).set hwB hrg).set hwB hrg, gr_set3 (gr_set3 (gr_set3 hg' (Nat.le_refl _) _ _) (Nat.le_refl _) _ _) (Nat.le_refl _) _ _⟩
set_option maxHeartbeats 4000000 in
theorem spec_l04Some_no (g B : Nat) (W H X : Int) (w : World) (hc : CurAt B w g) (hok : boardOk W H X = false) :
    Calls Try.prog 116 #[.pointer (some ⟨g, 0, none⟩), .agg #[.int .i64 W, .int .i64 H, .int .i64 X]] w fun e w' => e = .returned (.int .i64 0) ∧ CurAt B w' g ∧ w.grownBy w' (some g) := by
  have hO := spec_HolesOf W H X
  have he : holes W H X = [] := by unfold holes; rw [hok]; rfl
  rw [he] at hO
  go_enter Try.func116, Try.ntmps116
  go_wp2_with fail
  replace hc := hc.below (below_one w (.cells #[.int .i64 W, .int .i64 H, .int .i64 X] 44))
  have hgr : w.grownBy (w.alloc (.cells #[.int .i64 W, .int .i64 H, .int .i64 X] 44)) (some g) := gr_alloc (gr_refl _ _) _
  refine (hO _).mono ?_
  rintro e w1 ⟨A, cap, rfl, ho, hb1⟩
  replace hc := hc.below hb1
  replace hgr := gr_below hgr hb1
  clear hb1 ho hO
  go_wp2
  go_loopw [5, 7] (fun s5 s7 wr => s5 = .int .i64 0 ∧ s7 = .int .i64 0 ∧ wr = w1) (fun _ _ _ => 0)
  case atStart => exact ⟨rfl, rfl, rfl⟩
  case round =>
    obtain ⟨rfl, rfl, rfl⟩ := hrel
    go_wp2
    go_ret
    exact ⟨rfl, hc, hgr⟩
theorem spec_l04Some_any (g B : Nat) (W H X : Int) (w : World) (hc : CurAt B w g) :
    Calls Try.prog 116 #[.pointer (some ⟨g, 0, none⟩), .agg #[.int .i64 W, .int .i64 H, .int .i64 X]] w fun e w' => ∃ n : Nat, e = .returned (.int .i64 n) ∧ n < 562949953421312 ∧ CurAt B w' g ∧ w.grownBy w' (some g) := by
  cases hok : boardOk W H X
  · exact (spec_l04Some_no g B W H X w hc hok).mono fun e w' h => ⟨0, h.1, by omega, h.2.1, h.2.2⟩
  · refine (spec_l04Some g B W H X w hc hok).mono ?_
    rintro e w' ⟨p, rfl, hp, hc', hg'⟩
    have F := positionOk_facts hp
    have := (boardOk_facts F.b).x3
    have := F.le
    have := F.p0
    exact ⟨p.toNat, by rw [show ((p.toNat : Nat) : Int) = p by omega], by omega, hc', hg'⟩
set_option maxHeartbeats 4000000 in
theorem spec_l04Any (g B : Nat) (w : World) (hc : CurAt B w g) :
    Calls Try.prog 134 #[.pointer (some ⟨g, 0, none⟩)] w fun e w' => ∃ W H X p : Int, e = .returned (.tuple #[.agg #[.int .i64 W, .int .i64 H, .int .i64 X], .int .i64 p]) ∧ p ≤ 9223372036854775807 ∧ CurAt B w' g ∧ w.grownBy w' (some g) := by
  have hg := hc.1
  have hgB := hc.2.1
  go_enter Try.func134, Try.ntmps134
  go_wp2_with fail
  have R := new3 (w := w) (a := 0) (b := 0) (c := 0) (ty := 44)
  have hgr : w.grownBy (w.alloc (.cells #[.int .i64 0, .int .i64 0, .int .i64 0] 44)) (some g) := gr_alloc (gr_refl _ _) _
  replace hc := hc.below (below_one w (.cells #[.int .i64 0, .int .i64 0, .int .i64 0] 44))
  have hrg : w.heap.size ≠ g := by omega
  refine (spec_l02Any g B _ hc).mono ?_
  rintro e w1 ⟨W, H, X, rfl, hX, hc1, hg1⟩
  replace R := R.grown hg1 (by simp; omega)
  replace hgr := gr_trans hgr hg1
  clear hc hg1
  go_wp2_with fail
  generalize hU : w1.alloc (.cells #[.int .i64 W, .int .i64 H, .int .i64 X] 44) = U
  have Bd : Cells3 U w1.heap.size W H X := by subst hU; exact new3
  have hcU : CurAt B U g := by subst hU; exact hc1.below (below_one _ _)
  have hgU : w.grownBy U (some g) := by subst hU; exact gr_alloc hgr _
  have RU : Cells3 U w.heap.size 0 0 0 := by subst hU; exact R.below (below_one _ _)
  have hbg : w1.heap.size ≠ g := by have := hc1.1; omega
  have hwB : B ≤ w.heap.size := by omega
  clear hU R hc1 hgr
  obtain ⟨hbs, ⟨b0, b1, b2⟩, f0, f1, f2⟩ := id Bd
  refine (spec_l04Some_any g B W H X _ hcU).mono ?_
  rintro e w2 ⟨n, rfl, hn, hc2, hg2⟩
  replace RU := RU.grown hg2 (by simp; omega)
  replace Bd := Bd.grown hg2 (by simp; omega)
  replace hgU := gr_trans hgU hg2
  clear hcU hg2 b0 b1 b2 f0 f1 f2 hbs
  go_wp2_with fail
  refine (spec_l01Below g B _ _ hc2 (by omega) (by omega)).mono ?_
  rintro e w3 ⟨z, rfl, z0, z1, hc3, hg3⟩
  replace RU := RU.grown hg3 (by simp; omega)
  replace Bd := Bd.grown hg3 (by simp; omega)
  replace hgU := gr_trans hgU hg3
  clear hc2 hg3
  by_cases q0 : z = 0
  · subst q0
    obtain ⟨hbs, ⟨b0, b1, b2⟩, f0, f1, f2⟩ := id Bd
    go_wp2_with fail
    refine (spec_l01PickInt_mem g B _ 0 _ [-1, 0, X, 9223372036854775807] _ (hc3.below (below_one _ _)) (by simp) (by simp) (by have := hc3.1; omega) (by simp) (by intro j z hj; match j, hj with | 0, hj => (simp at hj; subst hj; simp) | 1, hj => (simp at hj; subst hj; simp) | 2, hj => (simp at hj; subst hj; simp) | 3, hj => (simp at hj; subst hj; simp) | (n + 4), hj => simp at hj)).mono ?_
    rintro e w4 ⟨p, rfl, hmx, hc4, hg4⟩
    have hP : p ≤ 9223372036854775807 := by simp only [List.mem_cons, List.not_mem_nil, or_false] at hmx; omega
    have RU' := (RU.below (below_one w3 (.cells #[.int .i64 (-1), .int .i64 0, .int .i64 X, .int .i64 9223372036854775807] 3))).grown hg4 (by simp; omega)
    have Bd' := (Bd.below (below_one w3 (.cells #[.int .i64 (-1), .int .i64 0, .int .i64 X, .int .i64 9223372036854775807] 3))).grown hg4 (by simp; omega)
    have hg' := gr_trans (gr_alloc hgU (.cells #[.int .i64 (-1), .int .i64 0, .int .i64 X, .int .i64 9223372036854775807] 3)) hg4
    have hc' := hc4
    clear hc3 hg4 b0 b1 b2 f0 f1 f2 hbs hmx Bd RU hgU hc4
    obtain ⟨hbs, ⟨b0, b1, b2⟩, f0, f1, f2⟩ := Bd'
    obtain ⟨r9, ⟨t0, t1, t2⟩, u0, u1, u2⟩ := id RU'
    obtain ⟨_, ⟨Q0, Q1, Q2⟩, _⟩ := RU'.set3 W H X
    have Q0 := Lib.hid Q0
    have Q1 := Lib.hid Q1
    have Q2 := Lib.hid Q2
    clear RU'
    go_wp2
    exact bodyPost_ret (v := .tuple #[.agg #[.int .i64 W, .int .i64 H, .int .i64 X], .int .i64 p]) (by simp [results, Try.results134, go_sem, Q0.out, Q1.out, Q2.out]) rfl ⟨W, H, X, p, rfl, hP, ((hc'.set hwB hrg).set hwB hrg).set hwB hrg, gr_set3 (gr_set3 (gr_set3 hg' (Nat.le_refl _) _ _) (Nat.le_refl _) _ _) (Nat.le_refl _) _ _⟩
  · have q0b : (z == 0) = false := by simp [q0]
    by_cases q1 : z = 1
    · subst q1
      go_wp2_with fail
      refine (spec_l01Below g B _ _ hc3 (by omega) (by omega)).mono ?_
      rintro e w4 ⟨k, rfl, k0, k1, hc4, hg4⟩
      obtain ⟨k, rfl⟩ : ∃ m : Nat, k = (m : Int) := ⟨k.toNat, by omega⟩
      have hw1 : IntKind.i64.wrap (2 ^ k) = 2 ^ k := by simpa using wrap_pow' (k := (k : Int)) (by omega)
      have hp2 : (2 : Nat) ^ k < 562949953421312 := by simpa using pow2_lt (k := (k : Int)) (by omega)
      have hxr := nat_xor hn hp2
      have hxr2 := xor_lt49 hn hp2
      have hpi := pow2_int k
      obtain ⟨m, hm⟩ : ∃ m, n ^^^ 2 ^ k = m := ⟨_, rfl⟩
      rw [← hpi, hm] at hxr
      rw [hm] at hxr2
      clear hpi hm
      have hP : (m : Int) ≤ 9223372036854775807 := by omega
      have RU' := RU.grown hg4 (by simp; omega)
      have Bd' := Bd.grown hg4 (by simp; omega)
      have hg' := gr_trans hgU hg4
      have hc' := hc4
      clear hc3 hg4 Bd RU hgU hc4
      obtain ⟨hbs, ⟨b0, b1, b2⟩, f0, f1, f2⟩ := Bd'
      obtain ⟨r9, ⟨t0, t1, t2⟩, u0, u1, u2⟩ := id RU'
      obtain ⟨_, ⟨Q0, Q1, Q2⟩, _⟩ := RU'.set3 W H X
      have Q0 := Lib.hid Q0
      have Q1 := Lib.hid Q1
      have Q2 := Lib.hid Q2
      clear RU'
      go_wp2
      exact bodyPost_ret (v := .tuple #[.agg #[.int .i64 W, .int .i64 H, .int .i64 X], .int .i64 (m : Int)]) (by simp [results, Try.results134, go_sem, Q0.out, Q1.out, Q2.out]) rfl ⟨W, H, X, (m : Int), rfl, hP, ((hc'.set hwB hrg).set hwB hrg).set hwB hrg, gr_set3 (gr_set3 (gr_set3 hg' (Nat.le_refl _) _ _) (Nat.le_refl _) _ _) (Nat.le_refl _) _ _⟩
    · have q1b : (z == 1) = false := by simp [q1]
      have Bd' := Bd
      have RU' := RU
      have hc' := hc3
      have hg' := hgU
      have hP : (n : Int) ≤ 9223372036854775807 := by omega
      clear Bd RU hc3 hgU
      obtain ⟨hbs, ⟨b0, b1, b2⟩, f0, f1, f2⟩ := Bd'
      obtain ⟨r9, ⟨t0, t1, t2⟩, u0, u1, u2⟩ := id RU'
      obtain ⟨_, ⟨Q0, Q1, Q2⟩, _⟩ := RU'.set3 W H X
      have Q0 := Lib.hid Q0
      have Q1 := Lib.hid Q1
      have Q2 := Lib.hid Q2
      clear RU'
      go_wp2
      exact bodyPost_ret (v := .tuple #[.agg #[.int .i64 W, .int .i64 H, .int .i64 X], .int .i64 (n : Int)]) (by simp [results, Try.results134, go_sem, Q0.out, Q1.out, Q2.out]) rfl ⟨W, H, X, (n : Int), rfl, hP, ((hc'.set hwB hrg).set hwB hrg).set hwB hrg, gr_set3 (gr_set3 (gr_set3 hg' (Nat.le_refl _) _ _) (Nat.le_refl _) _ _) (Nat.le_refl _) _ _⟩
set_option maxHeartbeats 4000000 in
theorem spec_l14Any (g B : Nat) (w : World) (hc : CurAt B w g) :
    Calls Try.prog 112 #[.pointer (some ⟨g, 0, none⟩)] w fun e w' => ∃ W H X p : Int, e = .returned (.tuple #[.agg #[.int .i64 W, .int .i64 H, .int .i64 X], .int .i64 p]) ∧ p ≤ 9223372036854775807 ∧ CurAt B w' g ∧ w.grownBy w' (some g) := by
  have hg := hc.1
  have hgB := hc.2.1
  go_enter Try.func112, Try.ntmps112
  go_wp2_with fail
  have R := new3 (w := w) (a := 0) (b := 0) (c := 0) (ty := 44)
  have hgr : w.grownBy (w.alloc (.cells #[.int .i64 0, .int .i64 0, .int .i64 0] 44)) (some g) := gr_alloc (gr_refl _ _) _
  replace hc := hc.below (below_one w (.cells #[.int .i64 0, .int .i64 0, .int .i64 0] 44))
  have hrg : w.heap.size ≠ g := by omega
  have hwB : B ≤ w.heap.size := by omega
  refine (spec_l01Once g B 8 _ hc (by omega) (by omega)).mono ?_
  rintro e w1 ⟨r, rfl, hc1, hg1⟩
  replace R := R.grown hg1 (by simp; omega)
  replace hgr := gr_trans hgr hg1
  clear hc hg1
  cases r
  · go_wp2_with fail
    refine (spec_l14Start g B _ hc1).mono ?_
    rintro e w2 ⟨W, H, X, p, rfl, hs, hp, hc2, hg2⟩
    have hP := (pos_max hp).2
    have Bd' := new3 (w := w2) (a := W) (b := H) (c := X) (ty := 44)
    have RU' := (R.grown hg2 (by simp; omega)).below (below_one w2 (.cells #[.int .i64 W, .int .i64 H, .int .i64 X] 44))
    have hc' := hc2.below (below_one w2 (.cells #[.int .i64 W, .int .i64 H, .int .i64 X] 44))
    have hg' := gr_alloc (gr_trans hgr hg2) (.cells #[.int .i64 W, .int .i64 H, .int .i64 X] 44)
    clear R hgr hc1 hg2 hc2
    go_upto_region 5 with fail
    generalize w2.alloc (.cells #[.int .i64 W, .int .i64 H, .int .i64 X] 44) = Y at *
    obtain ⟨hbs, ⟨b0, b1, b2⟩, f0, f1, f2⟩ := Bd'
    obtain ⟨r9, ⟨t0, t1, t2⟩, u0, u1, u2⟩ := id RU'
    obtain ⟨_, ⟨Q0, Q1, Q2⟩, _⟩ := RU'.set3 W H X
    have Q0 := Lib.hid Q0
    have Q1 := Lib.hid Q1
    have Q2 := Lib.hid Q2
    clear RU'
    go_wp2
    exact bodyPost_ret (v := .tuple #[.agg #[.int .i64 W, .int .i64 H, .int .i64 X], .int .i64 p]) (by simp [results, Try.results112, go_sem, Q0.out, Q1.out, Q2.out]) rfl ⟨W, H, X, p, rfl, hP, ((hc'.set hwB hrg).set hwB hrg).set hwB hrg, gr_set3 (gr_set3 (gr_set3 hg' (Nat.le_refl _) _ _) (Nat.le_refl _) _ _) (Nat.le_refl _) _ _⟩
  · go_wp2_with fail
    refine (spec_l04Any g B _ hc1).mono ?_
    rintro e w2 ⟨W, H, X, p, rfl, hP, hc2, hg2⟩
    have Bd' := new3 (w := w2) (a := W) (b := H) (c := X) (ty := 44)
    have RU' := (R.grown hg2 (by simp; omega)).below (below_one w2 (.cells #[.int .i64 W, .int .i64 H, .int .i64 X] 44))
    have hc' := hc2.below (below_one w2 (.cells #[.int .i64 W, .int .i64 H, .int .i64 X] 44))
    have hg' := gr_alloc (gr_trans hgr hg2) (.cells #[.int .i64 W, .int .i64 H, .int .i64 X] 44)
    clear R hgr hc1 hg2 hc2
    go_upto_region 3 with fail
    generalize w2.alloc (.cells #[.int .i64 W, .int .i64 H, .int .i64 X] 44) = Y at *
    obtain ⟨hbs, ⟨b0, b1, b2⟩, f0, f1, f2⟩ := Bd'
    obtain ⟨r9, ⟨t0, t1, t2⟩, u0, u1, u2⟩ := id RU'
    obtain ⟨_, ⟨Q0, Q1, Q2⟩, _⟩ := RU'.set3 W H X
    have Q0 := Lib.hid Q0
    have Q1 := Lib.hid Q1
    have Q2 := Lib.hid Q2
    clear RU'
    go_wp2
    exact bodyPost_ret (v := .tuple #[.agg #[.int .i64 W, .int .i64 H, .int .i64 X], .int .i64 p]) (by simp [results, Try.results112, go_sem, Q0.out, Q1.out, Q2.out]) rfl ⟨W, H, X, p, rfl, hP, ((hc'.set hwB hrg).set hwB hrg).set hwB hrg, gr_set3 (gr_set3 (gr_set3 hg' (Nat.le_refl _) _ _) (Nat.le_refl _) _ _) (Nat.le_refl _) _ _⟩
set_option maxHeartbeats 4000000 in
theorem spec_l06Play_no (g B : Nat) (W H X p n : Int) (w : World) (hc : CurAt B w g) (hp : positionOk W H X p = false) (hpm : p ≤ 9223372036854775807) :
    Calls Try.prog 113 #[.pointer (some ⟨g, 0, none⟩), .agg #[.int .i64 W, .int .i64 H, .int .i64 X], .int .i64 p, .int .i64 n] w fun e w' => ∃ (A : Option Addr) (cap : Nat) (ls : List (Int × Int × Int)), e = .returned (.slice A ls.length cap) ∧
      w'.ownsRow w.heap.size 46 3 (.slice A ls.length cap) ls.length (ints (lflat ls)) ∧ ls.length ≤ 20 ∧ CurAt B w' g ∧ w.grownBy w' (some g) := by
  have hJ := spec_JumpsOf W H X p
  have he : jumpsOf W H X p = [] := by unfold jumpsOf; rw [hp]; rfl
  rw [he] at hJ
  go_enter Try.func113, Try.ntmps113
  go_wp2_with fail
  generalize hV : w.alloc (.cells #[.int .i64 W, .int .i64 H, .int .i64 X] 44) = V
  have Bd : Cells3 V w.heap.size W H X := by subst hV; exact new3
  have hcV : CurAt B V g := by subst hV; exact hc.below (below_one _ _)
  have hgV : w.grownBy V (some g) := by subst hV; exact gr_alloc (gr_refl _ _) _
  have hVs : V.heap.size = w.heap.size + 1 := by subst hV; simp
  clear hV hc
  have hown := madeR (V := V) (s := 3) 46
  replace Bd := Bd.below (below_one V (.cells #[] 46))
  replace hcV := hcV.below (below_one V (.cells #[] 46))
  replace hgV := gr_alloc hgV (.cells #[] 46)
  rw [hVs] at hown
  have hVw : w.heap.size ≤ w.heap.size + 1 := by omega
  generalize V.alloc (.cells #[] 46) = Y at *
  go_loopw [2, 9, 10] (fun s2 v s10 wr => s2 = .int .i64 p ∧ v = .slice (some ⟨w.heap.size + 1, 0, none⟩) 0 0 ∧ s10 = .int .i64 0 ∧ wr = Y) (fun _ _ _ _ => 0)
  case atStart => exact ⟨rfl, rfl, rfl, rfl⟩
  case round =>
    obtain ⟨rfl, rfl, rfl, rfl⟩ := hrel
    obtain ⟨hbs, ⟨b0, b1, b2⟩, f0, f1, f2⟩ := id Bd
    by_cases hn : 0 < n
    · go_wp2_with fail
      refine (hJ _ hpm).mono ?_
      rintro e w2 ⟨A, cap, rfl, oJ, hb2⟩
      go_wp2
      go_ret
      exact ⟨_, _, [], rfl, own_lower (own_below hown hb2) hVw, by simp, hcV.below hb2, gr_below hgV hb2⟩
    · go_wp2
      go_ret
      exact ⟨_, _, [], rfl, own_lower hown hVw, by simp, hcV, hgV⟩
theorem spec_l06Play_any (g B : Nat) (W H X p n : Int) (w : World) (hc : CurAt B w g) (hpm : p ≤ 9223372036854775807) (n0 : 0 ≤ n) (n1 : n ≤ 20) :
    Calls Try.prog 113 #[.pointer (some ⟨g, 0, none⟩), .agg #[.int .i64 W, .int .i64 H, .int .i64 X], .int .i64 p, .int .i64 n] w fun e w' => ∃ (A : Option Addr) (cap : Nat) (ls : List (Int × Int × Int)), e = .returned (.slice A ls.length cap) ∧
      w'.ownsRow w.heap.size 46 3 (.slice A ls.length cap) ls.length (ints (lflat ls)) ∧ ls.length ≤ 20 ∧ CurAt B w' g ∧ w.grownBy w' (some g) := by
  cases hp : positionOk W H X p
  · exact spec_l06Play_no g B W H X p n w hc hp hpm
  · exact spec_l06Play g B W H X p n w hc hp n0 n1
theorem playTo_le {W H X p : Int} {ls : List (Int × Int × Int)} (hpm : p ≤ 9223372036854775807) : playTo W H X p ls ≤ 9223372036854775807 := by
  cases hp : positionOk W H X p
  · have e : playTo W H X p ls = p := by unfold playTo playAll; rw [hp]; simp
    rw [e]; exact hpm
  · exact (pos_max (playTo_ok hp)).2
set_option maxHeartbeats 8000000 in
theorem spec_DrawCanReach (A : Option Addr) (n cap : Nat) (w : World) (hc : Bytes w A n) (hn : n ≤ 4294967296) :
    Calls Try.prog 60 #[.slice A n cap] w fun e w' => ∃ W H X p q : Int, e = .returned (.tuple #[.agg #[.int .i64 W, .int .i64 H, .int .i64 X], .int .i64 p, .int .i64 q]) ∧ p ≤ 9223372036854775807 ∧ q ≤ 9223372036854775807 ∧ Below w.heap.size w w' := by
  go_enter Try.func60, Try.ntmps60
  go_wp2_with fail
  generalize hV : w.alloc (.cells #[.int .i64 0, .int .i64 0, .int .i64 0] 44) = V
  have R : Cells3 V w.heap.size 0 0 0 := by subst hV; exact new3
  have v0 : Below w.heap.size w V := by subst hV; exact below_one _ _
  have zV : w.heap.size < V.heap.size := by subst hV; simp
  clear hV
  refine (spec_l01New _ _ _ _ (hc.below v0) hn).mono ?_
  rintro e w1 ⟨g, rfl, hgV, hc1, hb1⟩
  obtain ⟨B, hB⟩ : ∃ B, V.heap.size = B := ⟨_, rfl⟩
  have hrg : w.heap.size ≠ g := by omega
  replace R := R.below hb1
  go_wp2_with fail
  refine (spec_l14Any g _ _ hc1).mono ?_
  rintro e w2 ⟨W, H, X, p, rfl, hP, hc2, hg2⟩
  replace R := R.grown hg2 (by simp; omega)
  go_wp2_with fail
  generalize hU : w2.alloc (.cells #[.int .i64 W, .int .i64 H, .int .i64 X] 44) = U
  have B4 : Cells3 U w2.heap.size W H X := by subst hU; exact new3
  have hc4 := hc2.below (below_one w2 (.cells #[.int .i64 W, .int .i64 H, .int .i64 X] 44))
  rw [hU] at hc4
  have G4 : w1.grownBy U (some g) := by subst hU; exact gr_alloc hg2 _
  have R4 : Cells3 U w.heap.size 0 0 0 := by subst hU; exact R.below (below_one _ _)
  have hbg : w2.heap.size ≠ g := by have := hc2.1; omega
  clear hU R hc2 hg2
  have K3 : Hid (∀ (w' : World), Cells3 w' w2.heap.size W H X → Cells3 w' w2.heap.size W H X ∧ w'.cell? ⟨w2.heap.size, 0, none⟩ = some (.int .i64 W) ∧ w'.cell? ⟨w2.heap.size, 1, none⟩ = some (.int .i64 H) ∧ w'.cell? ⟨w2.heap.size, 2, none⟩ = some (.int .i64 X)) := fun w' h => ⟨h, h.2.1.1, h.2.1.2.1, h.2.1.2.2⟩
  go_wp2_with fail
  refine wp_region_held_drew (S := (fun w' => Cells3 w' w2.heap.size W H X ∧ w'.cell? ⟨w2.heap.size, 0, none⟩ = some (.int .i64 W) ∧ w'.cell? ⟨w2.heap.size, 1, none⟩ = some (.int .i64 H) ∧ w'.cell? ⟨w2.heap.size, 2, none⟩ = some (.int .i64 X))) (by kernel_rfl) ?_ (fun hHd0 => ?_)
  · (refine K3.out _ ?_; exact (Cells3.drew B4))
  refine heldT (i := 0) rfl (by kernel_rfl) (by kernel_rfl) (by kernel_rfl) (fun _ _ _ h => h) (by rfl) (v := ?_) ?_ (by assumption) ?_
  rotate_left
  · (intro w hSw; (try dsimp only at hSw); go_simp; try (with_reducible rfl))
  (try simp only [Act.put, List.setIfInBounds_toArray, List.set_cons_zero, List.set_cons_succ])
  refine heldT (i := 1) rfl (by kernel_rfl) (by kernel_rfl) (by kernel_rfl) (fun _ _ _ h => h) (by rfl) (v := ?_) ?_ (by assumption) ?_
  rotate_left
  · (intro w hSw; (try dsimp only at hSw); go_simp; try (with_reducible rfl))
  (try simp only [Act.put, List.setIfInBounds_toArray, List.set_cons_zero, List.set_cons_succ])
  refine heldT (i := 2) rfl (by kernel_rfl) (by kernel_rfl) (by kernel_rfl) (fun _ _ _ h => h) (by rfl) (v := ?_) ?_ (by assumption) ?_
  rotate_left
  · (intro w hSw; (try dsimp only at hSw); go_simp; try (with_reducible rfl))
  (try simp only [Act.put, List.setIfInBounds_toArray, List.set_cons_zero, List.set_cons_succ])
  refine heldT (i := 3) rfl (by kernel_rfl) (by kernel_rfl) (by kernel_rfl) (fun _ _ _ h => h) (by rfl) (v := ?_) ?_ (by assumption) ?_
  rotate_left
  · (intro w hSw; (try dsimp only at hSw); go_simp; try (with_reducible rfl))
  (try simp only [Act.put, List.setIfInBounds_toArray, List.set_cons_zero, List.set_cons_succ])
  refine heldT (i := 4) rfl (by kernel_rfl) (by kernel_rfl) (by kernel_rfl) (fun _ _ _ h => h) (by rfl) (v := ?_) ?_ (by assumption) ?_
  rotate_left
  · (intro w hSw; (try dsimp only at hSw); go_simp; try (with_reducible rfl))
  (try simp only [Act.put, List.setIfInBounds_toArray, List.set_cons_zero, List.set_cons_succ])
  refine heldT (i := 5) rfl (by kernel_rfl) (by kernel_rfl) (by kernel_rfl) (fun _ _ _ h => h) (by rfl) (v := ?_) ?_ (by assumption) ?_
  rotate_left
  · (intro w hSw; (try dsimp only at hSw); go_simp; try (with_reducible rfl))
  (try simp only [Act.put, List.setIfInBounds_toArray, List.set_cons_zero, List.set_cons_succ])
  refine heldC (i := 6) rfl (by kernel_rfl) (fun K' hK => ?_)
  go_simp
  refine (spec_l01Below g _ _ _ (CurAt.drewS hc4) (by omega) (by omega)).mono ?_; rintro e w5 ⟨m, rfl, n0, n1, hc5, hg5⟩; have G5 := gr_trans (gr_drew G4) hg5; have B5 := (Cells3.drew B4).grown hg5 (by simp; omega); have R5 := (Cells3.drew R4).grown hg5 (by simp; omega)
  (try (go_wp2_with fail))
  refine hK.out _ _ ?_ (fun hHd1 => ?_)
  · ((try dsimp only); (refine K3.out _ ?_; exact B5))
  clear hK K' hHd0
  (try simp only [Act.put, List.setIfInBounds_toArray, List.set_cons_zero, List.set_cons_succ])
  refine heldC (i := 7) rfl (by kernel_rfl) (fun K' hK => ?_)
  go_simp
  refine (spec_l06Play_any g _ _ _ _ _ _ _ hc5 hP (by omega) (by omega)).mono ?_; rintro e w6 ⟨AL, cL, ls, rfl, oL, hll, hc6, hg6⟩; have G6 := gr_trans G5 hg6; have B6 := B5.grown hg6 (by simp; omega); have R6 := R5.grown hg6 (by simp; omega); have hFL := FAt_of_own oL; obtain ⟨y, hy⟩ : ∃ y, playTo W H X p ls = y := ⟨_, rfl⟩; obtain ⟨yo, hyo⟩ : ∃ y, playOk W H X p ls = y := ⟨_, rfl⟩; have hyl : y ≤ 9223372036854775807 := (by rw [← hy]; exact playTo_le hP)
  (try (go_wp2_with fail))
  refine hK.out _ _ ?_ (fun hHd2 => ?_)
  · ((try dsimp only); (refine K3.out _ ?_; exact B6))
  clear hK K' hHd1
  (try simp only [Act.put, List.setIfInBounds_toArray, List.set_cons_zero, List.set_cons_succ])
  refine heldC (i := 8) rfl (by kernel_rfl) (fun K' hK => ?_)
  go_simp
  refine (calls_is2 (spec_PlayAll _ _ _ _ _ _ _ _ hP hFL (by omega)) hy hyo).mono ?_; rintro e w7 ⟨rfl, hb7⟩; have G7 := gr_below G6 hb7; have B7 := B6.below hb7; have R7 := R6.below hb7; have hc7 := hc6.below hb7
  (try (go_wp2_with fail))
  refine hK.out _ _ ?_ (fun hHd3 => ?_)
  · ((try dsimp only); (refine K3.out _ ?_; exact B7))
  clear hK K' hHd2
  (try simp only [Act.put, List.setIfInBounds_toArray, List.set_cons_zero, List.set_cons_succ])
  refine heldT (i := 9) rfl (by kernel_rfl) (by kernel_rfl) (by kernel_rfl) (fun _ _ _ h => h) (by rfl) (v := ?_) ?_ (by assumption) ?_
  rotate_left
  · (intro w hSw; (try dsimp only at hSw); go_simp; try (with_reducible rfl))
  (try simp only [Act.put, List.setIfInBounds_toArray, List.set_cons_zero, List.set_cons_succ])
  refine heldT (i := 10) rfl (by kernel_rfl) (by kernel_rfl) (by kernel_rfl) (fun _ _ _ h => h) (by rfl) (v := ?_) ?_ (by assumption) ?_
  rotate_left
  · (intro w hSw; (try dsimp only at hSw); go_simp; try (with_reducible rfl))
  (try simp only [Act.put, List.setIfInBounds_toArray, List.set_cons_zero, List.set_cons_succ])
  refine heldT (i := 11) rfl (by kernel_rfl) (by kernel_rfl) (by kernel_rfl) (fun _ _ _ h => h) (by rfl) (v := ?_) ?_ (by assumption) ?_
  rotate_left
  · (intro w hSw; (try dsimp only at hSw); go_simp; try (with_reducible rfl))
  (try simp only [Act.put, List.setIfInBounds_toArray, List.set_cons_zero, List.set_cons_succ])
  refine heldT (i := 12) rfl (by kernel_rfl) (by kernel_rfl) (by kernel_rfl) (fun _ _ _ h => h) (by rfl) (v := ?_) ?_ (by assumption) ?_
  rotate_left
  · (intro w hSw; (try dsimp only at hSw); go_simp; try (with_reducible rfl))
  (try simp only [Act.put, List.setIfInBounds_toArray, List.set_cons_zero, List.set_cons_succ])
  refine heldT (i := 13) rfl (by kernel_rfl) (by kernel_rfl) (by kernel_rfl) (fun _ _ _ h => h) (by rfl) (v := ?_) ?_ (by assumption) ?_
  rotate_left
  · (intro w hSw; (try dsimp only at hSw); go_simp; try (with_reducible rfl))
  (try simp only [Act.put, List.setIfInBounds_toArray, List.set_cons_zero, List.set_cons_succ])
  refine wpAnyH_done (by kernel_rfl) ?_ _
  go_wp2_with fail
  refine (spec_l01Once g _ 3 _ hc7 (by omega) (by omega)).mono ?_
  rintro e w8 ⟨r, rfl, hc8, hg8⟩
  have G8 := gr_trans G7 hg8
  have B8 := B7.grown hg8 (by simp; omega)
  have R8 := R7.grown hg8 (by simp; omega)
  cases r
  · skip
    obtain ⟨hbs, ⟨b0, b1, b2⟩, f0, f1, f2⟩ := id B8
    obtain ⟨r9, ⟨t0, t1, t2⟩, u0, u1, u2⟩ := id R8
    obtain ⟨_, ⟨Q0, Q1, Q2⟩, _⟩ := R8.set3 W H X
    have Q0 := Lib.hid Q0
    have Q1 := Lib.hid Q1
    have Q2 := Lib.hid Q2
    have hbl := below_step v0 (below_gr hb1 hb1.size G8 hgV)
    go_wp2
    exact bodyPost_ret (v := .tuple #[.agg #[.int .i64 W, .int .i64 H, .int .i64 X], .int .i64 p, .int .i64 y]) (by simp [results, Try.results60, go_sem, Q0.out, Q1.out, Q2.out]) rfl ⟨W, H, X, p, y, rfl, hP, hyl, Below.setCell (Below.setCell (Below.setCell hbl (Nat.le_refl _) _) (Nat.le_refl _) _) (Nat.le_refl _) _⟩
  · obtain ⟨_, ⟨b0, b1, b2⟩, _⟩ := id B8
    go_wp2_with fail
    refine (spec_l04Some_any g _ _ _ _ _ hc8).mono ?_
    rintro e w9 ⟨z, rfl, hz, hc9, hg9⟩
    have G9 := gr_trans G8 hg9
    have B9 := B8.grown hg9 (by simp; omega)
    have R9 := R8.grown hg9 (by simp; omega)
    clear b0 b1 b2
    obtain ⟨hbs, ⟨b0, b1, b2⟩, f0, f1, f2⟩ := id B9
    obtain ⟨r9, ⟨t0, t1, t2⟩, u0, u1, u2⟩ := id R9
    obtain ⟨_, ⟨Q0, Q1, Q2⟩, _⟩ := R9.set3 W H X
    have Q0 := Lib.hid Q0
    have Q1 := Lib.hid Q1
    have Q2 := Lib.hid Q2
    have hbl := below_step v0 (below_gr hb1 hb1.size G9 hgV)
    go_wp2
    exact bodyPost_ret (v := .tuple #[.agg #[.int .i64 W, .int .i64 H, .int .i64 X], .int .i64 p, .int .i64 (z : Int)]) (by simp [results, Try.results60, go_sem, Q0.out, Q1.out, Q2.out]) rfl ⟨W, H, X, p, (z : Int), rfl, hP, by omega, Below.setCell (Below.setCell (Below.setCell hbl (Nat.le_refl _) _) (Nat.le_refl _) _) (Nat.le_refl _) _⟩
end Go.Proofs.Ytianfakgojmnpaa
