/- Turned games: contracts of IsSolution and CanTurn. -/
import Derived.Test.YtmdpacgoijnonaaPlay
import Derived.Test.YtmdpacgoijnonaaHeld
import Derived.Test.YtmdpacgoijnonaaBoard
import Derived.Test.YtmdpacgoijnonaaLineS
namespace Go.Proofs.Ytmdpacgoijnonaa
open Go.RowKit

def isSolution (W H X p goal : Int) (ls : List (Int × Int × Int)) : Bool := playOk W H X p ls && decide (playTo W H X p ls = goal)
def canTurn (W H X p : Int) (ls : List (Int × Int × Int)) : Bool := playOk W H X p ls && isSolution W H X (otherOf W H X (playTo W H X p ls)) (otherOf W H X p) ls.reverse
theorem otherOf_max {W H X p : Int} (hX : X ≤ 9223372036854775807) (hp : p ≤ 9223372036854775807) : otherOf W H X p ≤ 9223372036854775807 := by
  unfold otherOf
  split
  · have := Nat.xor_lt_two_pow (x := X.toNat) (y := p.toNat) (n := 63) (by omega) (by omega)
    omega
  · omega
set_option maxHeartbeats 2000000 in
theorem impl_IsSolution (W H X p g : Int) (A : Option Addr) (cap : Nat) (ls : List (Int × Int × Int)) (w : World) (hp : p ≤ 9223372036854775807) (hA : FAt w A (lflat ls)) (hn : ls.length ≤ 4294967296) :
    Calls Try.prog 57 #[.agg #[.int .i64 W, .int .i64 H, .int .i64 X], .int .i64 p, .int .i64 g, .slice A ls.length cap] w fun e w' => e = .returned (.bool (isSolution W H X p g ls)) ∧ Below w.heap.size w w' := by
  obtain ⟨z, hz⟩ : ∃ z, playTo W H X p ls = z := ⟨_, rfl⟩
  cases h1 : playOk W H X p ls
  all_goals
    go_enter Try.func57, Try.ntmps57
    go_wp2_with fail
    refine (calls_is2 (impl_PlayAll _ _ _ _ _ _ _ _ hp (hA.below (by (repeat (first | exact Below.refl _ _ | assumption | refine below_step ?_ (by assumption) | refine below_alloc ?_ _ | refine below_drewN ?_ _ | refine Below.drew ?_ | refine Below.setCell ?_ (by first | (simp; done) | omega | (simp; omega)) _)))) hn) hz h1).mono ?_
    rintro e w1 ⟨rfl, hb1⟩
    go_wp2
    go_ret
    exact ⟨ret_bool (by rw [Bool.eq_iff_iff]; simp [isSolution, h1, hz]), by (repeat (first | exact Below.refl _ _ | assumption | refine below_step ?_ (by assumption) | refine below_alloc ?_ _ | refine below_drewN ?_ _ | refine Below.drew ?_ | refine Below.setCell ?_ (by first | (simp; done) | omega | (simp; omega)) _))⟩
set_option maxHeartbeats 2000000 in
theorem spec_IsSolution (W H X p g : Int) (A : Option Addr) (cap : Nat) (ls : List (Int × Int × Int)) (w : World) (hp : p ≤ 9223372036854775807) (hA : FAt w A (lflat ls)) (hn : ls.length ≤ 4294967296) :
    Calls Try.prog 53 #[.agg #[.int .i64 W, .int .i64 H, .int .i64 X], .int .i64 p, .int .i64 g, .slice A ls.length cap] w fun e w' => e = .returned (.bool (isSolution W H X p g ls)) ∧ Below w.heap.size w w' := by
  obtain ⟨z, hz⟩ : ∃ z, playTo W H X p ls = z := ⟨_, rfl⟩
  cases h1 : playOk W H X p ls
  all_goals
    go_enter Try.func53, Try.ntmps53
    go_wp2_with fail
    refine (calls_is2 (spec_PlayAll _ _ _ _ _ _ _ _ hp (hA.below (by (repeat (first | exact Below.refl _ _ | assumption | refine below_step ?_ (by assumption) | refine below_alloc ?_ _ | refine below_drewN ?_ _ | refine Below.drew ?_ | refine Below.setCell ?_ (by first | (simp; done) | omega | (simp; omega)) _)))) hn) hz h1).mono ?_
    rintro e w1 ⟨rfl, hb1⟩
    go_wp2
    go_ret
    exact ⟨ret_bool (by rw [Bool.eq_iff_iff]; simp [isSolution, h1, hz]), by (repeat (first | exact Below.refl _ _ | assumption | refine below_step ?_ (by assumption) | refine below_alloc ?_ _ | refine below_drewN ?_ _ | refine Below.drew ?_ | refine Below.setCell ?_ (by first | (simp; done) | omega | (simp; omega)) _))⟩
theorem impl_TurnR (A : Option Addr) (cap : Nat) (zs : List (Int × Int × Int)) (w : World) (hA : FAt w A (lflat zs)) (hn : zs.length ≤ 4294967296) {R : List (Int × Int × Int)} (hR : zs.reverse = R) :
    Calls Try.prog 59 #[.slice A zs.length cap] w (RetOwn 42 3 w R.length (lflat R)) := by
  subst hR; rw [List.length_reverse]; exact impl_TurnGame A cap zs w hA hn
set_option maxHeartbeats 4000000 in
theorem impl_CanTurn (W H X p : Int) (A : Option Addr) (cap : Nat) (ls : List (Int × Int × Int)) (w : World) (hX : X ≤ 9223372036854775807) (hp : p ≤ 9223372036854775807) (hA : FAt w A (lflat ls)) (hn : ls.length ≤ 4294967296) :
    Calls Try.prog 32 #[.agg #[.int .i64 W, .int .i64 H, .int .i64 X], .int .i64 p, .slice A ls.length cap] w fun e w' => e = .returned (.bool (canTurn W H X p ls)) ∧ Below w.heap.size w w' := by
  obtain ⟨z, hz⟩ : ∃ z, playTo W H X p ls = z := ⟨_, rfl⟩
  have hzz : z ≤ 9223372036854775807 := by rw [← hz]; exact playTo_pos hp
  obtain ⟨R, hR⟩ : ∃ R, ls.reverse = R := ⟨_, rfl⟩
  have hnr : R.length ≤ 4294967296 := by rw [← hR, List.length_reverse]; exact hn
  have HR := Lib.hid hR
  clear hR
  cases h1 : playOk W H X p ls
  · skip
    go_enter Try.func32, Try.ntmps32
    go_wp2_with fail
    generalize hV : w.alloc (.cells #[.int .i64 W, .int .i64 H, .int .i64 X] 40) = V
    have v0 : Below w.heap.size w V := by subst hV; (repeat (first | exact Below.refl _ _ | assumption | refine below_step ?_ (by assumption) | refine below_alloc ?_ _ | refine below_drewN ?_ _ | refine Below.drew ?_ | refine Below.setCell ?_ (by first | (simp; done) | omega | (simp; omega)) _))
    have z0 : w.heap.size < V.heap.size := by subst hV; simp <;> omega
    have v0_0 : V.cell? ⟨w.heap.size, 0, none⟩ = some (.int .i64 W) := by subst hV; simp
    have v0_1 : V.cell? ⟨w.heap.size, 1, none⟩ = some (.int .i64 H) := by subst hV; simp
    have v0_2 : V.cell? ⟨w.heap.size, 2, none⟩ = some (.int .i64 X) := by subst hV; simp
    have K : Hid (∀ w', Below V.heap.size V w' → Below V.heap.size V w' ∧ w'.cell? ⟨w.heap.size, 0, none⟩ = some (.int .i64 W) ∧ w'.cell? ⟨w.heap.size, 1, none⟩ = some (.int .i64 H) ∧ w'.cell? ⟨w.heap.size, 2, none⟩ = some (.int .i64 X)) := fun w' hB => ⟨hB, bel_cell hB z0 v0_0, bel_cell hB z0 v0_1, bel_cell hB z0 v0_2⟩
    have ZV : Hid (w.heap.size + 1 = V.heap.size) := by subst hV; unfold Hid; simp
    clear hV
    have hAV := Lib.hid (hA.below v0)
    refine (calls_is2 (impl_PlayAll _ _ _ _ _ _ _ _ hp (hAV.out.below (by (repeat (first | exact Below.refl _ _ | assumption | refine below_step ?_ (by assumption) | refine below_alloc ?_ _ | refine below_drewN ?_ _ | refine Below.drew ?_ | refine Below.setCell ?_ (by first | (simp; done) | omega | (simp; omega)) _)))) hn) hz h1).mono ?_
    rintro e w1 ⟨rfl, hb1⟩
    have hVV : Below V.heap.size V w1 := by (repeat (first | exact Below.refl _ _ | assumption | refine below_step ?_ (by assumption) | refine below_alloc ?_ _ | refine below_drewN ?_ _ | refine Below.drew ?_ | refine Below.setCell ?_ (by first | (simp; done) | omega | (simp; omega)) _))
    clear hb1
    go_wp2_with fail
    refine wp_region_held_drew (S := (fun w' => Below V.heap.size V w' ∧ w'.cell? ⟨w.heap.size, 0, none⟩ = some (.int .i64 W) ∧ w'.cell? ⟨w.heap.size, 1, none⟩ = some (.int .i64 H) ∧ w'.cell? ⟨w.heap.size, 2, none⟩ = some (.int .i64 X))) (by kernel_rfl) ?_ (fun hHd0 => ?_)
    · (refine K.out _ ?_; (repeat (first | exact Below.refl _ _ | assumption | refine below_step ?_ (by assumption) | refine below_alloc ?_ _ | refine below_drewN ?_ _ | refine Below.drew ?_ | refine Below.setCell ?_ (by first | (simp; done) | omega | (simp; omega)) _)))
    refine heldT (i := 0) rfl (by kernel_rfl) (by kernel_rfl) (by kernel_rfl) (fun _ _ _ h => h) (by rfl) (v := ?_) ?_ (by assumption) ?_
    rotate_left
    · (intro w hSw; (try dsimp only at hSw); go_simp; try (with_reducible rfl))
    (try simp only [Act.put, List.setIfInBounds_toArray, List.set_cons_zero, List.set_cons_succ])
    refine heldT (i := 1) rfl (by kernel_rfl) (by kernel_rfl) (by kernel_rfl) (fun _ _ _ h => h) (by rfl) (v := ?_) ?_ (by assumption) ?_
    rotate_left
    · (intro w hSw; (try dsimp only at hSw); go_simp; try (with_reducible rfl))
    (try simp only [Act.put, List.setIfInBounds_toArray, List.set_cons_zero, List.set_cons_succ])
    refine heldU (i := 2) rfl (by kernel_rfl) (by kernel_rfl) (by kernel_rfl) (fun _ _ _ h => h) (by rfl) (by assumption) ?_
    (try simp only [Act.put, List.setIfInBounds_toArray, List.set_cons_zero, List.set_cons_succ])
    refine heldU (i := 3) rfl (by kernel_rfl) (by kernel_rfl) (by kernel_rfl) (fun _ _ _ h => h) (by rfl) (by assumption) ?_
    (try simp only [Act.put, List.setIfInBounds_toArray, List.set_cons_zero, List.set_cons_succ])
    refine heldU (i := 4) rfl (by kernel_rfl) (by kernel_rfl) (by kernel_rfl) (fun _ _ _ h => h) (by rfl) (by assumption) ?_
    (try simp only [Act.put, List.setIfInBounds_toArray, List.set_cons_zero, List.set_cons_succ])
    refine heldU (i := 5) rfl (by kernel_rfl) (by kernel_rfl) (by kernel_rfl) (fun _ _ _ h => h) (by rfl) (by assumption) ?_
    (try simp only [Act.put, List.setIfInBounds_toArray, List.set_cons_zero, List.set_cons_succ])
    refine heldU (i := 6) rfl (by kernel_rfl) (by kernel_rfl) (by kernel_rfl) (fun _ _ _ h => h) (by rfl) (by assumption) ?_
    (try simp only [Act.put, List.setIfInBounds_toArray, List.set_cons_zero, List.set_cons_succ])
    refine heldU (i := 7) rfl (by kernel_rfl) (by kernel_rfl) (by kernel_rfl) (fun _ _ _ h => h) (by rfl) (by assumption) ?_
    (try simp only [Act.put, List.setIfInBounds_toArray, List.set_cons_zero, List.set_cons_succ])
    refine heldU (i := 8) rfl (by kernel_rfl) (by kernel_rfl) (by kernel_rfl) (fun _ _ _ h => h) (by rfl) (by assumption) ?_
    (try simp only [Act.put, List.setIfInBounds_toArray, List.set_cons_zero, List.set_cons_succ])
    refine heldU (i := 9) rfl (by kernel_rfl) (by kernel_rfl) (by kernel_rfl) (fun _ _ _ h => h) (by rfl) (by assumption) ?_
    (try simp only [Act.put, List.setIfInBounds_toArray, List.set_cons_zero, List.set_cons_succ])
    refine heldU (i := 10) rfl (by kernel_rfl) (by kernel_rfl) (by kernel_rfl) (fun _ _ _ h => h) (by rfl) (by assumption) ?_
    (try simp only [Act.put, List.setIfInBounds_toArray, List.set_cons_zero, List.set_cons_succ])
    refine heldU (i := 11) rfl (by kernel_rfl) (by kernel_rfl) (by kernel_rfl) (fun _ _ _ h => h) (by rfl) (by assumption) ?_
    (try simp only [Act.put, List.setIfInBounds_toArray, List.set_cons_zero, List.set_cons_succ])
    refine heldT (i := 12) rfl (by kernel_rfl) (by kernel_rfl) (by kernel_rfl) (fun _ _ _ h => h) (by rfl) (v := ?_) ?_ (by assumption) ?_
    rotate_left
    · (intro w hSw; (try dsimp only at hSw); go_simp; try (with_reducible rfl))
    (try simp only [Act.put, List.setIfInBounds_toArray, List.set_cons_zero, List.set_cons_succ])
    refine heldT (i := 13) rfl (by kernel_rfl) (by kernel_rfl) (by kernel_rfl) (fun _ _ _ h => h) (by rfl) (v := ?_) ?_ (by assumption) ?_
    rotate_left
    · (intro w hSw; (try dsimp only at hSw); go_simp; try (with_reducible rfl))
    (try simp only [Act.put, List.setIfInBounds_toArray, List.set_cons_zero, List.set_cons_succ])
    refine wpAnyH_done (by kernel_rfl) ?_ _
    go_wp2
    go_ret
    exact ⟨ret_bool (by simp [canTurn, h1, hz]), by (repeat (first | exact Below.refl _ _ | assumption | refine below_step ?_ (by assumption) | refine below_alloc ?_ _ | refine below_drewN ?_ _ | refine Below.drew ?_ | refine Below.setCell ?_ (by first | (simp; done) | omega | (simp; omega)) _))⟩
  go_enter Try.func32, Try.ntmps32
  go_wp2_with fail
  generalize hV : w.alloc (.cells #[.int .i64 W, .int .i64 H, .int .i64 X] 40) = V
  have v0 : Below w.heap.size w V := by subst hV; (repeat (first | exact Below.refl _ _ | assumption | refine below_step ?_ (by assumption) | refine below_alloc ?_ _ | refine below_drewN ?_ _ | refine Below.drew ?_ | refine Below.setCell ?_ (by first | (simp; done) | omega | (simp; omega)) _))
  have z0 : w.heap.size < V.heap.size := by subst hV; simp <;> omega
  have v0_0 : V.cell? ⟨w.heap.size, 0, none⟩ = some (.int .i64 W) := by subst hV; simp
  have v0_1 : V.cell? ⟨w.heap.size, 1, none⟩ = some (.int .i64 H) := by subst hV; simp
  have v0_2 : V.cell? ⟨w.heap.size, 2, none⟩ = some (.int .i64 X) := by subst hV; simp
  have K : Hid (∀ w', Below V.heap.size V w' → Below V.heap.size V w' ∧ w'.cell? ⟨w.heap.size, 0, none⟩ = some (.int .i64 W) ∧ w'.cell? ⟨w.heap.size, 1, none⟩ = some (.int .i64 H) ∧ w'.cell? ⟨w.heap.size, 2, none⟩ = some (.int .i64 X)) := fun w' hB => ⟨hB, bel_cell hB z0 v0_0, bel_cell hB z0 v0_1, bel_cell hB z0 v0_2⟩
  have ZV : Hid (w.heap.size + 1 = V.heap.size) := by subst hV; unfold Hid; simp
  clear hV
  have hAV := Lib.hid (hA.below v0)
  refine (calls_is2 (impl_PlayAll _ _ _ _ _ _ _ _ hp (hAV.out.below (by (repeat (first | exact Below.refl _ _ | assumption | refine below_step ?_ (by assumption) | refine below_alloc ?_ _ | refine below_drewN ?_ _ | refine Below.drew ?_ | refine Below.setCell ?_ (by first | (simp; done) | omega | (simp; omega)) _)))) hn) hz h1).mono ?_
  rintro e w1 ⟨rfl, hb1⟩
  have hVV : Below V.heap.size V w1 := by (repeat (first | exact Below.refl _ _ | assumption | refine below_step ?_ (by assumption) | refine below_alloc ?_ _ | refine below_drewN ?_ _ | refine Below.drew ?_ | refine Below.setCell ?_ (by first | (simp; done) | omega | (simp; omega)) _))
  clear hb1
  go_wp2_with fail
  refine wp_region_held_drew (S := (fun w' => Below V.heap.size V w' ∧ w'.cell? ⟨w.heap.size, 0, none⟩ = some (.int .i64 W) ∧ w'.cell? ⟨w.heap.size, 1, none⟩ = some (.int .i64 H) ∧ w'.cell? ⟨w.heap.size, 2, none⟩ = some (.int .i64 X))) (by kernel_rfl) ?_ (fun hHd0 => ?_)
  · (refine K.out _ ?_; (repeat (first | exact Below.refl _ _ | assumption | refine below_step ?_ (by assumption) | refine below_alloc ?_ _ | refine below_drewN ?_ _ | refine Below.drew ?_ | refine Below.setCell ?_ (by first | (simp; done) | omega | (simp; omega)) _)))
  refine heldT (i := 0) rfl (by kernel_rfl) (by kernel_rfl) (by kernel_rfl) (fun _ _ _ h => h) (by rfl) (v := ?_) ?_ (by assumption) ?_
  rotate_left
  · (intro w hSw; (try dsimp only at hSw); go_simp; try (with_reducible rfl))
  (try simp only [Act.put, List.setIfInBounds_toArray, List.set_cons_zero, List.set_cons_succ])
  refine heldT (i := 1) rfl (by kernel_rfl) (by kernel_rfl) (by kernel_rfl) (fun _ _ _ h => h) (by rfl) (v := ?_) ?_ (by assumption) ?_
  rotate_left
  · (intro w hSw; (try dsimp only at hSw); go_simp; try (with_reducible rfl))
  (try simp only [Act.put, List.setIfInBounds_toArray, List.set_cons_zero, List.set_cons_succ])
  refine heldT (i := 2) rfl (by kernel_rfl) (by kernel_rfl) (by kernel_rfl) (fun _ _ _ h => h) (by rfl) (v := ?_) ?_ (by assumption) ?_
  rotate_left
  · (intro w hSw; (try dsimp only at hSw); go_simp; try (with_reducible rfl))
  (try simp only [Act.put, List.setIfInBounds_toArray, List.set_cons_zero, List.set_cons_succ])
  refine heldT (i := 3) rfl (by kernel_rfl) (by kernel_rfl) (by kernel_rfl) (fun _ _ _ h => h) (by rfl) (v := ?_) ?_ (by assumption) ?_
  rotate_left
  · (intro w hSw; (try dsimp only at hSw); go_simp; try (with_reducible rfl))
  (try simp only [Act.put, List.setIfInBounds_toArray, List.set_cons_zero, List.set_cons_succ])
  refine heldT (i := 4) rfl (by kernel_rfl) (by kernel_rfl) (by kernel_rfl) (fun _ _ _ h => h) (by rfl) (v := ?_) ?_ (by assumption) ?_
  rotate_left
  · (intro w hSw; (try dsimp only at hSw); go_simp; try (with_reducible rfl))
  (try simp only [Act.put, List.setIfInBounds_toArray, List.set_cons_zero, List.set_cons_succ])
  refine heldT (i := 6) rfl (by kernel_rfl) (by kernel_rfl) (by kernel_rfl) (fun _ _ _ h => h) (by rfl) (v := ?_) ?_ (by assumption) ?_
  rotate_left
  · (intro w hSw; (try dsimp only at hSw); go_simp; try (with_reducible rfl))
  (try simp only [Act.put, List.setIfInBounds_toArray, List.set_cons_zero, List.set_cons_succ])
  refine heldT (i := 7) rfl (by kernel_rfl) (by kernel_rfl) (by kernel_rfl) (fun _ _ _ h => h) (by rfl) (v := ?_) ?_ (by assumption) ?_
  rotate_left
  · (intro w hSw; (try dsimp only at hSw); go_simp; try (with_reducible rfl))
  (try simp only [Act.put, List.setIfInBounds_toArray, List.set_cons_zero, List.set_cons_succ])
  refine heldT (i := 9) rfl (by kernel_rfl) (by kernel_rfl) (by kernel_rfl) (fun _ _ _ h => h) (by rfl) (v := ?_) ?_ (by assumption) ?_
  rotate_left
  · (intro w hSw; (try dsimp only at hSw); go_simp; try (with_reducible rfl))
  (try simp only [Act.put, List.setIfInBounds_toArray, List.set_cons_zero, List.set_cons_succ])
  refine heldC (i := 5) rfl (by kernel_rfl) (fun K' hK => ?_)
  go_simp
  refine (impl_OtherOf _ _ _ _ _ hzz).mono ?_; rintro e w2 ⟨rfl, hb2⟩
  (try (go_wp2_with fail))
  refine hK.out _ _ ?_ (fun hHd1 => ?_)
  · ((try dsimp only); (refine K.out _ ?_; (repeat (first | exact Below.refl _ _ | assumption | refine below_step ?_ (by assumption) | refine below_alloc ?_ _ | refine below_drewN ?_ _ | refine Below.drew ?_ | refine Below.setCell ?_ (by first | (simp; done) | omega | (simp; omega)) _))))
  clear hK K' hHd0
  (try simp only [Act.put, List.setIfInBounds_toArray, List.set_cons_zero, List.set_cons_succ])
  refine heldC (i := 8) rfl (by kernel_rfl) (fun K' hK => ?_)
  go_simp
  refine (impl_OtherOf _ _ _ _ _ hp).mono ?_; rintro e w3 ⟨rfl, hb3⟩
  (try (go_wp2_with fail))
  refine hK.out _ _ ?_ (fun hHd2 => ?_)
  · ((try dsimp only); (refine K.out _ ?_; (repeat (first | exact Below.refl _ _ | assumption | refine below_step ?_ (by assumption) | refine below_alloc ?_ _ | refine below_drewN ?_ _ | refine Below.drew ?_ | refine Below.setCell ?_ (by first | (simp; done) | omega | (simp; omega)) _))))
  clear hK K' hHd1
  (try simp only [Act.put, List.setIfInBounds_toArray, List.set_cons_zero, List.set_cons_succ])
  refine heldC (i := 10) rfl (by kernel_rfl) (fun K' hK => ?_)
  go_simp
  refine (impl_TurnR _ _ _ _ (hAV.out.below (by (repeat (first | exact Below.refl _ _ | assumption | refine below_step ?_ (by assumption) | refine below_alloc ?_ _ | refine below_drewN ?_ _ | refine Below.drew ?_ | refine Below.setCell ?_ (by first | (simp; done) | omega | (simp; omega)) _)))) hn HR.out).mono ?_; rintro e w4 ⟨AR, cR, rfl, oR, hb4⟩
  (try (go_wp2_with fail))
  refine hK.out _ _ ?_ (fun hHd3 => ?_)
  · ((try dsimp only); (refine K.out _ ?_; (repeat (first | exact Below.refl _ _ | assumption | refine below_step ?_ (by assumption) | refine below_alloc ?_ _ | refine below_drewN ?_ _ | refine Below.drew ?_ | refine Below.setCell ?_ (by first | (simp; done) | omega | (simp; omega)) _))))
  clear hK K' hHd2
  (try simp only [Act.put, List.setIfInBounds_toArray, List.set_cons_zero, List.set_cons_succ])
  refine heldC (i := 11) rfl (by kernel_rfl) (fun K' hK => ?_)
  go_simp
  refine (impl_IsSolution _ _ _ _ _ _ _ _ _ (otherOf_max hX hzz) (FAt_of_own oR) hnr).mono ?_; rintro e w5 ⟨rfl, hb5⟩
  (try (go_wp2_with fail))
  refine hK.out _ _ ?_ (fun hHd4 => ?_)
  · ((try dsimp only); (refine K.out _ ?_; (repeat (first | exact Below.refl _ _ | assumption | refine below_step ?_ (by assumption) | refine below_alloc ?_ _ | refine below_drewN ?_ _ | refine Below.drew ?_ | refine Below.setCell ?_ (by first | (simp; done) | omega | (simp; omega)) _))))
  clear hK K' hHd3
  (try simp only [Act.put, List.setIfInBounds_toArray, List.set_cons_zero, List.set_cons_succ])
  refine heldT (i := 12) rfl (by kernel_rfl) (by kernel_rfl) (by kernel_rfl) (fun _ _ _ h => h) (by rfl) (v := ?_) ?_ (by assumption) ?_
  rotate_left
  · (intro w hSw; (try dsimp only at hSw); go_simp; try (with_reducible rfl))
  (try simp only [Act.put, List.setIfInBounds_toArray, List.set_cons_zero, List.set_cons_succ])
  refine heldT (i := 13) rfl (by kernel_rfl) (by kernel_rfl) (by kernel_rfl) (fun _ _ _ h => h) (by rfl) (v := ?_) ?_ (by assumption) ?_
  rotate_left
  · (intro w hSw; (try dsimp only at hSw); go_simp; try (with_reducible rfl))
  (try simp only [Act.put, List.setIfInBounds_toArray, List.set_cons_zero, List.set_cons_succ])
  refine wpAnyH_done (by kernel_rfl) ?_ _
  go_wp2
  go_ret
  exact ⟨ret_bool (by simp [canTurn, h1, hz, HR.out]), by (repeat (first | exact Below.refl _ _ | assumption | refine below_step ?_ (by assumption) | refine below_alloc ?_ _ | refine below_drewN ?_ _ | refine Below.drew ?_ | refine Below.setCell ?_ (by first | (simp; done) | omega | (simp; omega)) _))⟩
theorem spec_TurnR (A : Option Addr) (cap : Nat) (zs : List (Int × Int × Int)) (w : World) (hA : FAt w A (lflat zs)) (hn : zs.length ≤ 4294967296) {R : List (Int × Int × Int)} (hR : zs.reverse = R) :
    Calls Try.prog 55 #[.slice A zs.length cap] w (RetOwn 42 3 w R.length (lflat R)) := by
  subst hR; rw [List.length_reverse]; exact spec_TurnGame A cap zs w hA hn
set_option maxHeartbeats 4000000 in
theorem spec_CanTurn (W H X p : Int) (A : Option Addr) (cap : Nat) (ls : List (Int × Int × Int)) (w : World) (hX : X ≤ 9223372036854775807) (hp : p ≤ 9223372036854775807) (hA : FAt w A (lflat ls)) (hn : ls.length ≤ 4294967296) :
    Calls Try.prog 30 #[.agg #[.int .i64 W, .int .i64 H, .int .i64 X], .int .i64 p, .slice A ls.length cap] w fun e w' => e = .returned (.bool (canTurn W H X p ls)) ∧ Below w.heap.size w w' := by
  obtain ⟨z, hz⟩ : ∃ z, playTo W H X p ls = z := ⟨_, rfl⟩
  have hzz : z ≤ 9223372036854775807 := by rw [← hz]; exact playTo_pos hp
  obtain ⟨R, hR⟩ : ∃ R, ls.reverse = R := ⟨_, rfl⟩
  have hnr : R.length ≤ 4294967296 := by rw [← hR, List.length_reverse]; exact hn
  have HR := Lib.hid hR
  clear hR
  cases h1 : playOk W H X p ls
  · skip
    go_enter Try.func30, Try.ntmps30
    go_wp2_with fail
    generalize hV : w.alloc (.cells #[.int .i64 W, .int .i64 H, .int .i64 X] 40) = V
    have v0 : Below w.heap.size w V := by subst hV; (repeat (first | exact Below.refl _ _ | assumption | refine below_step ?_ (by assumption) | refine below_alloc ?_ _ | refine below_drewN ?_ _ | refine Below.drew ?_ | refine Below.setCell ?_ (by first | (simp; done) | omega | (simp; omega)) _))
    have z0 : w.heap.size < V.heap.size := by subst hV; simp <;> omega
    have v0_0 : V.cell? ⟨w.heap.size, 0, none⟩ = some (.int .i64 W) := by subst hV; simp
    have v0_1 : V.cell? ⟨w.heap.size, 1, none⟩ = some (.int .i64 H) := by subst hV; simp
    have v0_2 : V.cell? ⟨w.heap.size, 2, none⟩ = some (.int .i64 X) := by subst hV; simp
    have K : Hid (∀ w', Below V.heap.size V w' → Below V.heap.size V w' ∧ w'.cell? ⟨w.heap.size, 0, none⟩ = some (.int .i64 W) ∧ w'.cell? ⟨w.heap.size, 1, none⟩ = some (.int .i64 H) ∧ w'.cell? ⟨w.heap.size, 2, none⟩ = some (.int .i64 X)) := fun w' hB => ⟨hB, bel_cell hB z0 v0_0, bel_cell hB z0 v0_1, bel_cell hB z0 v0_2⟩
    have ZV : Hid (w.heap.size + 1 = V.heap.size) := by subst hV; unfold Hid; simp
    clear hV
    have hAV := Lib.hid (hA.below v0)
    refine (calls_is2 (spec_PlayAll _ _ _ _ _ _ _ _ hp (hAV.out.below (by (repeat (first | exact Below.refl _ _ | assumption | refine below_step ?_ (by assumption) | refine below_alloc ?_ _ | refine below_drewN ?_ _ | refine Below.drew ?_ | refine Below.setCell ?_ (by first | (simp; done) | omega | (simp; omega)) _)))) hn) hz h1).mono ?_
    rintro e w1 ⟨rfl, hb1⟩
    have hVV : Below V.heap.size V w1 := by (repeat (first | exact Below.refl _ _ | assumption | refine below_step ?_ (by assumption) | refine below_alloc ?_ _ | refine below_drewN ?_ _ | refine Below.drew ?_ | refine Below.setCell ?_ (by first | (simp; done) | omega | (simp; omega)) _))
    clear hb1
    go_wp2_with fail
    refine wp_region_held_drew (S := (fun w' => Below V.heap.size V w' ∧ w'.cell? ⟨w.heap.size, 0, none⟩ = some (.int .i64 W) ∧ w'.cell? ⟨w.heap.size, 1, none⟩ = some (.int .i64 H) ∧ w'.cell? ⟨w.heap.size, 2, none⟩ = some (.int .i64 X))) (by kernel_rfl) ?_ (fun hHd0 => ?_)
    · (refine K.out _ ?_; (repeat (first | exact Below.refl _ _ | assumption | refine below_step ?_ (by assumption) | refine below_alloc ?_ _ | refine below_drewN ?_ _ | refine Below.drew ?_ | refine Below.setCell ?_ (by first | (simp; done) | omega | (simp; omega)) _)))
    refine heldT (i := 0) rfl (by kernel_rfl) (by kernel_rfl) (by kernel_rfl) (fun _ _ _ h => h) (by rfl) (v := ?_) ?_ (by assumption) ?_
    rotate_left
    · (intro w hSw; (try dsimp only at hSw); go_simp; try (with_reducible rfl))
    (try simp only [Act.put, List.setIfInBounds_toArray, List.set_cons_zero, List.set_cons_succ])
    refine heldT (i := 1) rfl (by kernel_rfl) (by kernel_rfl) (by kernel_rfl) (fun _ _ _ h => h) (by rfl) (v := ?_) ?_ (by assumption) ?_
    rotate_left
    · (intro w hSw; (try dsimp only at hSw); go_simp; try (with_reducible rfl))
    (try simp only [Act.put, List.setIfInBounds_toArray, List.set_cons_zero, List.set_cons_succ])
    refine heldU (i := 2) rfl (by kernel_rfl) (by kernel_rfl) (by kernel_rfl) (fun _ _ _ h => h) (by rfl) (by assumption) ?_
    (try simp only [Act.put, List.setIfInBounds_toArray, List.set_cons_zero, List.set_cons_succ])
    refine heldU (i := 3) rfl (by kernel_rfl) (by kernel_rfl) (by kernel_rfl) (fun _ _ _ h => h) (by rfl) (by assumption) ?_
    (try simp only [Act.put, List.setIfInBounds_toArray, List.set_cons_zero, List.set_cons_succ])
    refine heldU (i := 4) rfl (by kernel_rfl) (by kernel_rfl) (by kernel_rfl) (fun _ _ _ h => h) (by rfl) (by assumption) ?_
    (try simp only [Act.put, List.setIfInBounds_toArray, List.set_cons_zero, List.set_cons_succ])
    refine heldU (i := 5) rfl (by kernel_rfl) (by kernel_rfl) (by kernel_rfl) (fun _ _ _ h => h) (by rfl) (by assumption) ?_
    (try simp only [Act.put, List.setIfInBounds_toArray, List.set_cons_zero, List.set_cons_succ])
    refine heldU (i := 6) rfl (by kernel_rfl) (by kernel_rfl) (by kernel_rfl) (fun _ _ _ h => h) (by rfl) (by assumption) ?_
    (try simp only [Act.put, List.setIfInBounds_toArray, List.set_cons_zero, List.set_cons_succ])
    refine heldU (i := 7) rfl (by kernel_rfl) (by kernel_rfl) (by kernel_rfl) (fun _ _ _ h => h) (by rfl) (by assumption) ?_
    (try simp only [Act.put, List.setIfInBounds_toArray, List.set_cons_zero, List.set_cons_succ])
    refine heldU (i := 8) rfl (by kernel_rfl) (by kernel_rfl) (by kernel_rfl) (fun _ _ _ h => h) (by rfl) (by assumption) ?_
    (try simp only [Act.put, List.setIfInBounds_toArray, List.set_cons_zero, List.set_cons_succ])
    refine heldU (i := 9) rfl (by kernel_rfl) (by kernel_rfl) (by kernel_rfl) (fun _ _ _ h => h) (by rfl) (by assumption) ?_
    (try simp only [Act.put, List.setIfInBounds_toArray, List.set_cons_zero, List.set_cons_succ])
    refine heldU (i := 10) rfl (by kernel_rfl) (by kernel_rfl) (by kernel_rfl) (fun _ _ _ h => h) (by rfl) (by assumption) ?_
    (try simp only [Act.put, List.setIfInBounds_toArray, List.set_cons_zero, List.set_cons_succ])
    refine heldU (i := 11) rfl (by kernel_rfl) (by kernel_rfl) (by kernel_rfl) (fun _ _ _ h => h) (by rfl) (by assumption) ?_
    (try simp only [Act.put, List.setIfInBounds_toArray, List.set_cons_zero, List.set_cons_succ])
    refine heldT (i := 12) rfl (by kernel_rfl) (by kernel_rfl) (by kernel_rfl) (fun _ _ _ h => h) (by rfl) (v := ?_) ?_ (by assumption) ?_
    rotate_left
    · (intro w hSw; (try dsimp only at hSw); go_simp; try (with_reducible rfl))
    (try simp only [Act.put, List.setIfInBounds_toArray, List.set_cons_zero, List.set_cons_succ])
    refine heldT (i := 13) rfl (by kernel_rfl) (by kernel_rfl) (by kernel_rfl) (fun _ _ _ h => h) (by rfl) (v := ?_) ?_ (by assumption) ?_
    rotate_left
    · (intro w hSw; (try dsimp only at hSw); go_simp; try (with_reducible rfl))
    (try simp only [Act.put, List.setIfInBounds_toArray, List.set_cons_zero, List.set_cons_succ])
    refine wpAnyH_done (by kernel_rfl) ?_ _
    go_wp2
    go_ret
    exact ⟨ret_bool (by simp [canTurn, h1, hz]), by (repeat (first | exact Below.refl _ _ | assumption | refine below_step ?_ (by assumption) | refine below_alloc ?_ _ | refine below_drewN ?_ _ | refine Below.drew ?_ | refine Below.setCell ?_ (by first | (simp; done) | omega | (simp; omega)) _))⟩
  go_enter Try.func30, Try.ntmps30
  go_wp2_with fail
  generalize hV : w.alloc (.cells #[.int .i64 W, .int .i64 H, .int .i64 X] 40) = V
  have v0 : Below w.heap.size w V := by subst hV; (repeat (first | exact Below.refl _ _ | assumption | refine below_step ?_ (by assumption) | refine below_alloc ?_ _ | refine below_drewN ?_ _ | refine Below.drew ?_ | refine Below.setCell ?_ (by first | (simp; done) | omega | (simp; omega)) _))
  have z0 : w.heap.size < V.heap.size := by subst hV; simp <;> omega
  have v0_0 : V.cell? ⟨w.heap.size, 0, none⟩ = some (.int .i64 W) := by subst hV; simp
  have v0_1 : V.cell? ⟨w.heap.size, 1, none⟩ = some (.int .i64 H) := by subst hV; simp
  have v0_2 : V.cell? ⟨w.heap.size, 2, none⟩ = some (.int .i64 X) := by subst hV; simp
  have K : Hid (∀ w', Below V.heap.size V w' → Below V.heap.size V w' ∧ w'.cell? ⟨w.heap.size, 0, none⟩ = some (.int .i64 W) ∧ w'.cell? ⟨w.heap.size, 1, none⟩ = some (.int .i64 H) ∧ w'.cell? ⟨w.heap.size, 2, none⟩ = some (.int .i64 X)) := fun w' hB => ⟨hB, bel_cell hB z0 v0_0, bel_cell hB z0 v0_1, bel_cell hB z0 v0_2⟩
  have ZV : Hid (w.heap.size + 1 = V.heap.size) := by subst hV; unfold Hid; simp
  clear hV
  have hAV := Lib.hid (hA.below v0)
  refine (calls_is2 (spec_PlayAll _ _ _ _ _ _ _ _ hp (hAV.out.below (by (repeat (first | exact Below.refl _ _ | assumption | refine below_step ?_ (by assumption) | refine below_alloc ?_ _ | refine below_drewN ?_ _ | refine Below.drew ?_ | refine Below.setCell ?_ (by first | (simp; done) | omega | (simp; omega)) _)))) hn) hz h1).mono ?_
  rintro e w1 ⟨rfl, hb1⟩
  have hVV : Below V.heap.size V w1 := by (repeat (first | exact Below.refl _ _ | assumption | refine below_step ?_ (by assumption) | refine below_alloc ?_ _ | refine below_drewN ?_ _ | refine Below.drew ?_ | refine Below.setCell ?_ (by first | (simp; done) | omega | (simp; omega)) _))
  clear hb1
  go_wp2_with fail
  refine wp_region_held_drew (S := (fun w' => Below V.heap.size V w' ∧ w'.cell? ⟨w.heap.size, 0, none⟩ = some (.int .i64 W) ∧ w'.cell? ⟨w.heap.size, 1, none⟩ = some (.int .i64 H) ∧ w'.cell? ⟨w.heap.size, 2, none⟩ = some (.int .i64 X))) (by kernel_rfl) ?_ (fun hHd0 => ?_)
  · (refine K.out _ ?_; (repeat (first | exact Below.refl _ _ | assumption | refine below_step ?_ (by assumption) | refine below_alloc ?_ _ | refine below_drewN ?_ _ | refine Below.drew ?_ | refine Below.setCell ?_ (by first | (simp; done) | omega | (simp; omega)) _)))
  refine heldT (i := 0) rfl (by kernel_rfl) (by kernel_rfl) (by kernel_rfl) (fun _ _ _ h => h) (by rfl) (v := ?_) ?_ (by assumption) ?_
  rotate_left
  · (intro w hSw; (try dsimp only at hSw); go_simp; try (with_reducible rfl))
  (try simp only [Act.put, List.setIfInBounds_toArray, List.set_cons_zero, List.set_cons_succ])
  refine heldT (i := 1) rfl (by kernel_rfl) (by kernel_rfl) (by kernel_rfl) (fun _ _ _ h => h) (by rfl) (v := ?_) ?_ (by assumption) ?_
  rotate_left
  · (intro w hSw; (try dsimp only at hSw); go_simp; try (with_reducible rfl))
  (try simp only [Act.put, List.setIfInBounds_toArray, List.set_cons_zero, List.set_cons_succ])
  refine heldT (i := 2) rfl (by kernel_rfl) (by kernel_rfl) (by kernel_rfl) (fun _ _ _ h => h) (by rfl) (v := ?_) ?_ (by assumption) ?_
  rotate_left
  · (intro w hSw; (try dsimp only at hSw); go_simp; try (with_reducible rfl))
  (try simp only [Act.put, List.setIfInBounds_toArray, List.set_cons_zero, List.set_cons_succ])
  refine heldT (i := 3) rfl (by kernel_rfl) (by kernel_rfl) (by kernel_rfl) (fun _ _ _ h => h) (by rfl) (v := ?_) ?_ (by assumption) ?_
  rotate_left
  · (intro w hSw; (try dsimp only at hSw); go_simp; try (with_reducible rfl))
  (try simp only [Act.put, List.setIfInBounds_toArray, List.set_cons_zero, List.set_cons_succ])
  refine heldT (i := 4) rfl (by kernel_rfl) (by kernel_rfl) (by kernel_rfl) (fun _ _ _ h => h) (by rfl) (v := ?_) ?_ (by assumption) ?_
  rotate_left
  · (intro w hSw; (try dsimp only at hSw); go_simp; try (with_reducible rfl))
  (try simp only [Act.put, List.setIfInBounds_toArray, List.set_cons_zero, List.set_cons_succ])
  refine heldT (i := 6) rfl (by kernel_rfl) (by kernel_rfl) (by kernel_rfl) (fun _ _ _ h => h) (by rfl) (v := ?_) ?_ (by assumption) ?_
  rotate_left
  · (intro w hSw; (try dsimp only at hSw); go_simp; try (with_reducible rfl))
  (try simp only [Act.put, List.setIfInBounds_toArray, List.set_cons_zero, List.set_cons_succ])
  refine heldT (i := 7) rfl (by kernel_rfl) (by kernel_rfl) (by kernel_rfl) (fun _ _ _ h => h) (by rfl) (v := ?_) ?_ (by assumption) ?_
  rotate_left
  · (intro w hSw; (try dsimp only at hSw); go_simp; try (with_reducible rfl))
  (try simp only [Act.put, List.setIfInBounds_toArray, List.set_cons_zero, List.set_cons_succ])
  refine heldT (i := 9) rfl (by kernel_rfl) (by kernel_rfl) (by kernel_rfl) (fun _ _ _ h => h) (by rfl) (v := ?_) ?_ (by assumption) ?_
  rotate_left
  · (intro w hSw; (try dsimp only at hSw); go_simp; try (with_reducible rfl))
  (try simp only [Act.put, List.setIfInBounds_toArray, List.set_cons_zero, List.set_cons_succ])
  refine heldC (i := 5) rfl (by kernel_rfl) (fun K' hK => ?_)
  go_simp
  refine (spec_OtherOf _ _ _ _ _ hzz).mono ?_; rintro e w2 ⟨rfl, hb2⟩
  (try (go_wp2_with fail))
  refine hK.out _ _ ?_ (fun hHd1 => ?_)
  · ((try dsimp only); (refine K.out _ ?_; (repeat (first | exact Below.refl _ _ | assumption | refine below_step ?_ (by assumption) | refine below_alloc ?_ _ | refine below_drewN ?_ _ | refine Below.drew ?_ | refine Below.setCell ?_ (by first | (simp; done) | omega | (simp; omega)) _))))
  clear hK K' hHd0
  (try simp only [Act.put, List.setIfInBounds_toArray, List.set_cons_zero, List.set_cons_succ])
  refine heldC (i := 8) rfl (by kernel_rfl) (fun K' hK => ?_)
  go_simp
  refine (spec_OtherOf _ _ _ _ _ hp).mono ?_; rintro e w3 ⟨rfl, hb3⟩
  (try (go_wp2_with fail))
  refine hK.out _ _ ?_ (fun hHd2 => ?_)
  · ((try dsimp only); (refine K.out _ ?_; (repeat (first | exact Below.refl _ _ | assumption | refine below_step ?_ (by assumption) | refine below_alloc ?_ _ | refine below_drewN ?_ _ | refine Below.drew ?_ | refine Below.setCell ?_ (by first | (simp; done) | omega | (simp; omega)) _))))
  clear hK K' hHd1
  (try simp only [Act.put, List.setIfInBounds_toArray, List.set_cons_zero, List.set_cons_succ])
  refine heldC (i := 10) rfl (by kernel_rfl) (fun K' hK => ?_)
  go_simp
  refine (spec_TurnR _ _ _ _ (hAV.out.below (by (repeat (first | exact Below.refl _ _ | assumption | refine below_step ?_ (by assumption) | refine below_alloc ?_ _ | refine below_drewN ?_ _ | refine Below.drew ?_ | refine Below.setCell ?_ (by first | (simp; done) | omega | (simp; omega)) _)))) hn HR.out).mono ?_; rintro e w4 ⟨AR, cR, rfl, oR, hb4⟩
  (try (go_wp2_with fail))
  refine hK.out _ _ ?_ (fun hHd3 => ?_)
  · ((try dsimp only); (refine K.out _ ?_; (repeat (first | exact Below.refl _ _ | assumption | refine below_step ?_ (by assumption) | refine below_alloc ?_ _ | refine below_drewN ?_ _ | refine Below.drew ?_ | refine Below.setCell ?_ (by first | (simp; done) | omega | (simp; omega)) _))))
  clear hK K' hHd2
  (try simp only [Act.put, List.setIfInBounds_toArray, List.set_cons_zero, List.set_cons_succ])
  refine heldC (i := 11) rfl (by kernel_rfl) (fun K' hK => ?_)
  go_simp
  refine (spec_IsSolution _ _ _ _ _ _ _ _ _ (otherOf_max hX hzz) (FAt_of_own oR) hnr).mono ?_; rintro e w5 ⟨rfl, hb5⟩
  (try (go_wp2_with fail))
  refine hK.out _ _ ?_ (fun hHd4 => ?_)
  · ((try dsimp only); (refine K.out _ ?_; (repeat (first | exact Below.refl _ _ | assumption | refine below_step ?_ (by assumption) | refine below_alloc ?_ _ | refine below_drewN ?_ _ | refine Below.drew ?_ | refine Below.setCell ?_ (by first | (simp; done) | omega | (simp; omega)) _))))
  clear hK K' hHd3
  (try simp only [Act.put, List.setIfInBounds_toArray, List.set_cons_zero, List.set_cons_succ])
  refine heldT (i := 12) rfl (by kernel_rfl) (by kernel_rfl) (by kernel_rfl) (fun _ _ _ h => h) (by rfl) (v := ?_) ?_ (by assumption) ?_
  rotate_left
  · (intro w hSw; (try dsimp only at hSw); go_simp; try (with_reducible rfl))
  (try simp only [Act.put, List.setIfInBounds_toArray, List.set_cons_zero, List.set_cons_succ])
  refine heldT (i := 13) rfl (by kernel_rfl) (by kernel_rfl) (by kernel_rfl) (fun _ _ _ h => h) (by rfl) (v := ?_) ?_ (by assumption) ?_
  rotate_left
  · (intro w hSw; (try dsimp only at hSw); go_simp; try (with_reducible rfl))
  (try simp only [Act.put, List.setIfInBounds_toArray, List.set_cons_zero, List.set_cons_succ])
  refine wpAnyH_done (by kernel_rfl) ?_ _
  go_wp2
  go_ret
  exact ⟨ret_bool (by simp [canTurn, h1, hz, HR.out]), by (repeat (first | exact Below.refl _ _ | assumption | refine below_step ?_ (by assumption) | refine below_alloc ?_ _ | refine below_drewN ?_ _ | refine Below.drew ?_ | refine Below.setCell ?_ (by first | (simp; done) | omega | (simp; omega)) _))⟩
end Go.Proofs.Ytmdpacgoijnonaa
