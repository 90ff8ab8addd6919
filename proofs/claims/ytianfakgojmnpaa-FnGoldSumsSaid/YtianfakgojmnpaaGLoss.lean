/- Golden losses: contracts. -/
import Derived.Test.YtianfakgojmnpaaHope
import Derived.Test.YtianfakgojmnpaaThree
import Derived.Test.YtianfakgojmnpaaGoldX
import Derived.Test.YtianfakgojmnpaaFalling
import Derived.Test.YtianfakgojmnpaaHeld
namespace Go.Proofs.Ytianfakgojmnpaa
open Go.RowKit

def goldLoss (W H X t : Int) (f o k : Int) : Int × Int :=
  if isLine W H X f o k = true ∧ hasHole W H X t = true then ((gAt W H X t f).1 + (gAt W H X t o).1 - (gAt W H X t k).1, (gAt W H X t f).2 + (gAt W H X t o).2 - (gAt W H X t k).2) else (0, 0)
theorem cellb_lt2 {w : World} {b o : Nat} {v : Value} (h : w.cell? ⟨b, o, none⟩ = some v) : b < w.heap.size := by
  rcases Nat.lt_or_ge b w.heap.size with h1 | h1
  · exact h1
  · simp [World.cell?, Array.getElem?_eq_none h1] at h
theorem cell_past {w : World} {b o : Nat} {obj : Obj} (h : b < w.heap.size) : (w.alloc obj).cell? ⟨b, o, none⟩ = w.cell? ⟨b, o, none⟩ := (below_one w obj).cell (p := ⟨b, o, none⟩) h
theorem gAt_small (W H X t k : Int) : -10946 ≤ (gAt W H X t k).1 ∧ (gAt W H X t k).1 ≤ 10946 ∧ -10946 ≤ (gAt W H X t k).2 ∧ (gAt W H X t k).2 ≤ 10946 := pow_small _
set_option maxHeartbeats 2000000 in
theorem impl_GoldLoss (W H X t f o k : Int) (w : World) :
    Calls Try.prog 46 #[.agg #[.int .i64 W, .int .i64 H, .int .i64 X], .int .i64 t, .agg #[.int .i64 f, .int .i64 o, .int .i64 k]] w fun e w' => e = .returned (.agg #[.int .i64 (goldLoss W H X t f o k).1, .int .i64 (goldLoss W H X t f o k).2]) ∧ Below w.heap.size w w' := by
  cases h1 : isLine W H X f o k
  · have e : goldLoss W H X t f o k = (0, 0) := by simp [goldLoss, h1]
    go_enter Try.func46, Try.ntmps46
    go_wp2_with fail
    refine (calls_is (impl_isLine _ _ _ _ _ _ _) h1).mono ?_
    rintro e w1 ⟨rfl, hb1⟩
    obtain ⟨hc1, hf1, hs1⟩ := bcell3 hb1
    have hz1 := hb1.size
    (try simp at hz1)
    go_wp2
    exact bodyPost_ret (v := .agg #[.int .i64 0, .int .i64 0]) (by simp [results, Try.results46, go_sem, hc1, hs1]) rfl ⟨by rw [e], by (repeat (first | exact Below.refl _ _ | assumption | refine below_step ?_ (by assumption) | refine below_alloc ?_ _ | refine below_drewN ?_ _ | refine Below.drew ?_ | refine Below.setCell ?_ (by first | (simp; done) | omega | (simp; omega)) _))⟩
  cases h2 : hasHole W H X t
  · have e : goldLoss W H X t f o k = (0, 0) := by simp [goldLoss, h2]
    go_enter Try.func46, Try.ntmps46
    go_wp2_with fail
    refine (calls_is (impl_isLine _ _ _ _ _ _ _) h1).mono ?_
    rintro e w1 ⟨rfl, hb1⟩
    obtain ⟨hc1, hf1, hs1⟩ := bcell3 hb1
    have hz1 := hb1.size
    (try simp at hz1)
    go_wp2_with fail
    refine (calls_is (impl_HasHole _ _ _ _ _) h2).mono ?_
    rintro e w2 ⟨rfl, hb2⟩
    obtain ⟨hc2, hf2, hs2⟩ := bcell3 hb2
    have hz2 := hb2.size
    (try simp at hz2)
    have hb1_2 := below_step (below_step hb1 (by (repeat (first | exact Below.refl _ _ | assumption | refine below_step ?_ (by assumption) | refine below_alloc ?_ _ | refine below_drewN ?_ _ | refine Below.drew ?_ | refine Below.setCell ?_ (by first | (simp; done) | omega | (simp; omega)) _)))) hb2
    clear hc1 hf1 hs1
    obtain ⟨hc1_2, hf1_2, hs1_2⟩ := bcell3 hb1_2
    go_wp2
    exact bodyPost_ret (v := .agg #[.int .i64 0, .int .i64 0]) (by simp [results, Try.results46, go_sem, hc1_2, hs1_2, hc2, hs2]) rfl ⟨by rw [e], by (repeat (first | exact Below.refl _ _ | assumption | refine below_step ?_ (by assumption) | refine below_alloc ?_ _ | refine below_drewN ?_ _ | refine Below.drew ?_ | refine Below.setCell ?_ (by first | (simp; done) | omega | (simp; omega)) _))⟩
  have e : goldLoss W H X t f o k = ((gAt W H X t f).1 + (gAt W H X t o).1 - (gAt W H X t k).1, (gAt W H X t f).2 + (gAt W H X t o).2 - (gAt W H X t k).2) := by simp [goldLoss, h1, h2]
  rw [e]
  clear e
  go_enter Try.func46, Try.ntmps46
  go_wp2_with fail
  generalize hV : ((w.alloc (.cells #[.int .i64 W, .int .i64 H, .int .i64 X] 44)).alloc (.cells #[.int .i64 f, .int .i64 o, .int .i64 k] 46)).alloc (.cells #[.int .i64 0, .int .i64 0] 31) = V
  have v0 : Below w.heap.size w V := by subst hV; (repeat (first | exact Below.refl _ _ | assumption | refine below_step ?_ (by assumption) | refine below_alloc ?_ _ | refine below_drewN ?_ _ | refine Below.drew ?_ | refine Below.setCell ?_ (by first | (simp; done) | omega | (simp; omega)) _))
  have z0 : w.heap.size < V.heap.size := by subst hV; simp <;> omega
  have v0_0 : V.cell? ⟨w.heap.size, 0, none⟩ = some (.int .i64 W) := bel_cell (V := (w.alloc (.cells #[.int .i64 W, .int .i64 H, .int .i64 X] 44))) (by subst hV; exact below_alloc (below_alloc (Below.refl _ _) _) _) (by simp <;> omega) (top_cell (by simp) rfl)
  have v0_1 : V.cell? ⟨w.heap.size, 1, none⟩ = some (.int .i64 H) := bel_cell (V := (w.alloc (.cells #[.int .i64 W, .int .i64 H, .int .i64 X] 44))) (by subst hV; exact below_alloc (below_alloc (Below.refl _ _) _) _) (by simp <;> omega) (top_cell (by simp) rfl)
  have v0_2 : V.cell? ⟨w.heap.size, 2, none⟩ = some (.int .i64 X) := bel_cell (V := (w.alloc (.cells #[.int .i64 W, .int .i64 H, .int .i64 X] 44))) (by subst hV; exact below_alloc (below_alloc (Below.refl _ _) _) _) (by simp <;> omega) (top_cell (by simp) rfl)
  have z1 : w.heap.size + 1 < V.heap.size := by subst hV; simp <;> omega
  have v1_0 : V.cell? ⟨w.heap.size + 1, 0, none⟩ = some (.int .i64 f) := bel_cell (V := ((w.alloc (.cells #[.int .i64 W, .int .i64 H, .int .i64 X] 44)).alloc (.cells #[.int .i64 f, .int .i64 o, .int .i64 k] 46))) (by subst hV; exact below_alloc (Below.refl _ _) _) (by simp <;> omega) (top_cell (by simp) rfl)
  have v1_1 : V.cell? ⟨w.heap.size + 1, 1, none⟩ = some (.int .i64 o) := bel_cell (V := ((w.alloc (.cells #[.int .i64 W, .int .i64 H, .int .i64 X] 44)).alloc (.cells #[.int .i64 f, .int .i64 o, .int .i64 k] 46))) (by subst hV; exact below_alloc (Below.refl _ _) _) (by simp <;> omega) (top_cell (by simp) rfl)
  have v1_2 : V.cell? ⟨w.heap.size + 1, 2, none⟩ = some (.int .i64 k) := bel_cell (V := ((w.alloc (.cells #[.int .i64 W, .int .i64 H, .int .i64 X] 44)).alloc (.cells #[.int .i64 f, .int .i64 o, .int .i64 k] 46))) (by subst hV; exact below_alloc (Below.refl _ _) _) (by simp <;> omega) (top_cell (by simp) rfl)
  have z2 : w.heap.size + 1 + 1 < V.heap.size := by subst hV; simp <;> omega
  have v2_0 : V.cell? ⟨w.heap.size + 1 + 1, 0, none⟩ = some (.int .i64 0) := bel_cell (V := (((w.alloc (.cells #[.int .i64 W, .int .i64 H, .int .i64 X] 44)).alloc (.cells #[.int .i64 f, .int .i64 o, .int .i64 k] 46)).alloc (.cells #[.int .i64 0, .int .i64 0] 31))) (by subst hV; exact Below.refl _ _) (by simp <;> omega) (top_cell (by simp) rfl)
  have v2_1 : V.cell? ⟨w.heap.size + 1 + 1, 1, none⟩ = some (.int .i64 0) := bel_cell (V := (((w.alloc (.cells #[.int .i64 W, .int .i64 H, .int .i64 X] 44)).alloc (.cells #[.int .i64 f, .int .i64 o, .int .i64 k] 46)).alloc (.cells #[.int .i64 0, .int .i64 0] 31))) (by subst hV; exact Below.refl _ _) (by simp <;> omega) (top_cell (by simp) rfl)
  have K : Hid (∀ w', Below V.heap.size V w' → Below V.heap.size V w' ∧ w'.cell? ⟨w.heap.size, 0, none⟩ = some (.int .i64 W) ∧ w'.cell? ⟨w.heap.size, 1, none⟩ = some (.int .i64 H) ∧ w'.cell? ⟨w.heap.size, 2, none⟩ = some (.int .i64 X) ∧ w'.cell? ⟨w.heap.size + 1, 0, none⟩ = some (.int .i64 f) ∧ w'.cell? ⟨w.heap.size + 1, 1, none⟩ = some (.int .i64 o) ∧ w'.cell? ⟨w.heap.size + 1, 2, none⟩ = some (.int .i64 k) ∧ w'.cell? ⟨w.heap.size + 1 + 1, 0, none⟩ = some (.int .i64 0) ∧ w'.cell? ⟨w.heap.size + 1 + 1, 1, none⟩ = some (.int .i64 0)) := fun w' hB => ⟨hB, bel_cell hB z0 v0_0, bel_cell hB z0 v0_1, bel_cell hB z0 v0_2, bel_cell hB z1 v1_0, bel_cell hB z1 v1_1, bel_cell hB z1 v1_2, bel_cell hB z2 v2_0, bel_cell hB z2 v2_1⟩
  have ZV : Hid (w.heap.size + 1 + 1 + 1 = V.heap.size) := by subst hV; unfold Hid; simp
  have fz0 : V.frozen? ⟨w.heap.size + 1 + 1, 0, none⟩ = false := by subst hV; exact top_frozen (by simp)
  have fz1 : V.frozen? ⟨w.heap.size + 1 + 1, 1, none⟩ = false := by subst hV; exact top_frozen (by simp)
  clear hV
  refine (calls_is (impl_isLine _ _ _ _ _ _ _) h1).mono ?_
  rintro e w1 ⟨rfl, hb1⟩
  have d0 := bel_cell hb1 z0 v0_0
  have d1 := bel_cell hb1 z0 v0_1
  have d2 := bel_cell hb1 z0 v0_2
  go_wp2_with fail
  refine (calls_is (impl_HasHole _ _ _ _ _) h2).mono ?_
  rintro e w2 ⟨rfl, hb2⟩
  have hU := below_step hb1 hb2
  go_wp2_with fail
  refine wp_region_held_drew (S := (fun w' => Below V.heap.size V w' ∧ w'.cell? ⟨w.heap.size, 0, none⟩ = some (.int .i64 W) ∧ w'.cell? ⟨w.heap.size, 1, none⟩ = some (.int .i64 H) ∧ w'.cell? ⟨w.heap.size, 2, none⟩ = some (.int .i64 X) ∧ w'.cell? ⟨w.heap.size + 1, 0, none⟩ = some (.int .i64 f) ∧ w'.cell? ⟨w.heap.size + 1, 1, none⟩ = some (.int .i64 o) ∧ w'.cell? ⟨w.heap.size + 1, 2, none⟩ = some (.int .i64 k) ∧ w'.cell? ⟨w.heap.size + 1 + 1, 0, none⟩ = some (.int .i64 0) ∧ w'.cell? ⟨w.heap.size + 1 + 1, 1, none⟩ = some (.int .i64 0))) (by kernel_rfl) ?_ (fun hHd0 => ?_)
  · (refine K.out _ ?_; (repeat (first | exact Below.refl _ _ | assumption | refine below_step ?_ (by assumption) | refine below_alloc ?_ _ | refine below_drewN ?_ _ | refine Below.drew ?_ | refine Below.setCell ?_ (by first | (simp; done) | omega | (simp; omega)) _)))
  refine heldT (i := 0) rfl (by kernel_rfl) (by kernel_rfl) (by kernel_rfl) (fun _ _ _ h => h) (by rfl) (v := ?_) ?_ (by assumption) ?_
  rotate_left
  · (intro w hSw; (try dsimp only at hSw); go_simp; try (with_reducible rfl))
  (try simp only [Act.put, List.setIfInBounds_toArray, List.set_cons_zero, List.set_cons_succ])
  refine heldT (i := 1) rfl (by kernel_rfl) (by kernel_rfl) (by kernel_rfl) (fun _ _ _ h => h) (by rfl) (v := ?_) ?_ (by assumption) ?_
  rotate_left
  · (intro w hSw; (try dsimp only at hSw); go_simp; try (with_reducible rfl))
  (try simp only [Act.put, List.setIfInBounds_toArray, List.set_cons_zero, List.set_cons_succ])
  refine heldT (i := 2) rfl (by kernel_rfl) (by kernel_rfl) (by kernel_rfl) (fun _ _ _ h => h) (by rfl) (v := ?_) ?_ (by assumption) ?_
  rotate_left
  · (intro w hSw; (try dsimp only at hSw); go_simp; try (with_reducible rfl))
  (try simp only [Act.put, List.setIfInBounds_toArray, List.set_cons_zero, List.set_cons_succ])
  refine heldT (i := 3) rfl (by kernel_rfl) (by kernel_rfl) (by kernel_rfl) (fun _ _ _ h => h) (by rfl) (v := ?_) ?_ (by assumption) ?_
  rotate_left
  · (intro w hSw; (try dsimp only at hSw); go_simp; try (with_reducible rfl))
  (try simp only [Act.put, List.setIfInBounds_toArray, List.set_cons_zero, List.set_cons_succ])
  refine heldT (i := 5) rfl (by kernel_rfl) (by kernel_rfl) (by kernel_rfl) (fun _ _ _ h => h) (by rfl) (v := ?_) ?_ (by assumption) ?_
  rotate_left
  · (intro w hSw; (try dsimp only at hSw); go_simp; try (with_reducible rfl))
  (try simp only [Act.put, List.setIfInBounds_toArray, List.set_cons_zero, List.set_cons_succ])
  refine heldT (i := 6) rfl (by kernel_rfl) (by kernel_rfl) (by kernel_rfl) (fun _ _ _ h => h) (by rfl) (v := ?_) ?_ (by assumption) ?_
  rotate_left
  · (intro w hSw; (try dsimp only at hSw); go_simp; try (with_reducible rfl))
  (try simp only [Act.put, List.setIfInBounds_toArray, List.set_cons_zero, List.set_cons_succ])
  refine heldT (i := 7) rfl (by kernel_rfl) (by kernel_rfl) (by kernel_rfl) (fun _ _ _ h => h) (by rfl) (v := ?_) ?_ (by assumption) ?_
  rotate_left
  · (intro w hSw; (try dsimp only at hSw); go_simp; try (with_reducible rfl))
  (try simp only [Act.put, List.setIfInBounds_toArray, List.set_cons_zero, List.set_cons_succ])
  refine heldT (i := 8) rfl (by kernel_rfl) (by kernel_rfl) (by kernel_rfl) (fun _ _ _ h => h) (by rfl) (v := ?_) ?_ (by assumption) ?_
  rotate_left
  · (intro w hSw; (try dsimp only at hSw); go_simp; try (with_reducible rfl))
  (try simp only [Act.put, List.setIfInBounds_toArray, List.set_cons_zero, List.set_cons_succ])
  refine heldT (i := 10) rfl (by kernel_rfl) (by kernel_rfl) (by kernel_rfl) (fun _ _ _ h => h) (by rfl) (v := ?_) ?_ (by assumption) ?_
  rotate_left
  · (intro w hSw; (try dsimp only at hSw); go_simp; try (with_reducible rfl))
  (try simp only [Act.put, List.setIfInBounds_toArray, List.set_cons_zero, List.set_cons_succ])
  refine heldT (i := 11) rfl (by kernel_rfl) (by kernel_rfl) (by kernel_rfl) (fun _ _ _ h => h) (by rfl) (v := ?_) ?_ (by assumption) ?_
  rotate_left
  · (intro w hSw; (try dsimp only at hSw); go_simp; try (with_reducible rfl))
  (try simp only [Act.put, List.setIfInBounds_toArray, List.set_cons_zero, List.set_cons_succ])
  refine heldT (i := 12) rfl (by kernel_rfl) (by kernel_rfl) (by kernel_rfl) (fun _ _ _ h => h) (by rfl) (v := ?_) ?_ (by assumption) ?_
  rotate_left
  · (intro w hSw; (try dsimp only at hSw); go_simp; try (with_reducible rfl))
  (try simp only [Act.put, List.setIfInBounds_toArray, List.set_cons_zero, List.set_cons_succ])
  refine heldT (i := 13) rfl (by kernel_rfl) (by kernel_rfl) (by kernel_rfl) (fun _ _ _ h => h) (by rfl) (v := ?_) ?_ (by assumption) ?_
  rotate_left
  · (intro w hSw; (try dsimp only at hSw); go_simp; try (with_reducible rfl))
  (try simp only [Act.put, List.setIfInBounds_toArray, List.set_cons_zero, List.set_cons_succ])
  have hVV := below_drewN (below_drewN hU 0) 0
  refine region_three V 31 ((gAt W H X t f).1) ((gAt W H X t f).2) ((gAt W H X t o).1) ((gAt W H X t o).2) ((gAt W H X t k).1) ((gAt W H X t k).2) (by kernel_rfl) (by kernel_rfl) (fun w' hB => K.out w' hB) ?_ ?_ ?_ ?_ ?_ ?_ ?_ ?_ ?_ ?_ _ (by (repeat (first | exact Below.refl _ _ | assumption | refine below_step ?_ (by assumption) | refine below_alloc ?_ _ | refine below_drewN ?_ _ | refine Below.drew ?_ | refine Below.setCell ?_ (by first | (simp; done) | omega | (simp; omega)) _)))
  · intro y1 y2 y3 x1 x2 x3 w3 K3 hB hK
    simp only [canon, A2, List.setIfInBounds_toArray, List.set_cons_zero, List.set_cons_succ] at hK ⊢
    refine wpOp_step rfl (fun K4 hK4 => ?_)
    go_simp
    refine (impl_GoldAt _ _ _ _ _ _).mono ?_
    rintro e w4 ⟨rfl, hb⟩
    exact hK4 _ _ (hK _ hb)
  · intro y1 y2 y3 x1 x2 x3 w3 K3 hB hK
    simp only [canon, A2, List.setIfInBounds_toArray, List.set_cons_zero, List.set_cons_succ] at hK ⊢
    refine wpOp_step rfl (fun K4 hK4 => ?_)
    go_simp
    refine (impl_GoldAt _ _ _ _ _ _).mono ?_
    rintro e w4 ⟨rfl, hb⟩
    exact hK4 _ _ (hK _ hb)
  · intro y1 y2 y3 x1 x2 x3 w3 K3 hB hK
    simp only [canon, A2, List.setIfInBounds_toArray, List.set_cons_zero, List.set_cons_succ] at hK ⊢
    refine wpOp_step rfl (fun K4 hK4 => ?_)
    go_simp
    refine (impl_GoldAt _ _ _ _ _ _).mono ?_
    rintro e w4 ⟨rfl, hb⟩
    exact hK4 _ _ (hK _ hb)
  · intro y1 y2 y3 x1 x2 x3 w3 K3 hB hK
    simp only [canon, A2, List.setIfInBounds_toArray, List.set_cons_zero, List.set_cons_succ] at hK ⊢
    refine wpOp_step rfl (fun K4 hK4 => ?_)
    go_simp
    exact hK4 _ _ hK
  · intro y1 y2 y3 x1 x2 x3 w3 K3 hB hK
    simp only [canon, A2, List.setIfInBounds_toArray, List.set_cons_zero, List.set_cons_succ] at hK ⊢
    refine wpOp_step rfl (fun K4 hK4 => ?_)
    go_simp
    exact hK4 _ _ hK
  · intro y1 y2 y3 x1 x2 x3 w3 K3 hB hK
    simp only [canon, A2, List.setIfInBounds_toArray, List.set_cons_zero, List.set_cons_succ] at hK ⊢
    refine wpOp_step rfl (fun K4 hK4 => ?_)
    go_simp
    exact hK4 _ _ hK
  · intro y1 y2 x1 x2 g w3 K3 u0 u1 hB hc0 hc1 hf0 hf1 hK
    simp only [canon, A2, List.setIfInBounds_toArray, List.set_cons_zero, List.set_cons_succ] at hK ⊢
    refine wpOp_step rfl (fun K4 hK4 => ?_)
    go_simp
    exact hK4 _ _ hK
  · intro y1 y2 x1 x2 g w3 K3 u0 u1 hB hc0 hc1 hf0 hf1 hK
    simp only [canon, A2, List.setIfInBounds_toArray, List.set_cons_zero, List.set_cons_succ] at hK ⊢
    refine wpOp_step rfl (fun K4 hK4 => ?_)
    go_simp
    exact hK4 _ _ hK
  · intro y1 y2 x1 x2 g w3 K3 u0 u1 hB hc0 hc1 hf0 hf1 hK
    simp only [canon, A2, List.setIfInBounds_toArray, List.set_cons_zero, List.set_cons_succ] at hK ⊢
    refine wpOp_step rfl (fun K4 hK4 => ?_)
    go_simp
    exact hK4 _ _ hK
  intro g1 g2 g3 w3 hB a1 a2 b1 b2 c1 c2
  simp only [canon, A2, List.setIfInBounds_toArray, List.set_cons_zero, List.set_cons_succ]
  obtain ⟨mf1, mf2, mf3, mf4⟩ := gAt_small W H X t f
  obtain ⟨mo1, mo2, mo3, mo4⟩ := gAt_small W H X t o
  obtain ⟨mk1, mk2, mk3, mk4⟩ := gAt_small W H X t k
  have r0 := bel_cell hB z2 v2_0
  have r1 := bel_cell hB z2 v2_1
  have q0 := bel_frozen hB z2 fz0
  have q1 := bel_frozen hB z2 fz1
  have Q2 := Lib.hid (set2_cells (x := .int .i64 ((gAt W H X t f).1 + (gAt W H X t o).1 - (gAt W H X t k).1)) (y := .int .i64 ((gAt W H X t f).2 + (gAt W H X t o).2 - (gAt W H X t k).2)) r0 r1)
  go_wp2
  exact bodyPost_ret (v := .agg #[.int .i64 ((gAt W H X t f).1 + (gAt W H X t o).1 - (gAt W H X t k).1), .int .i64 ((gAt W H X t f).2 + (gAt W H X t o).2 - (gAt W H X t k).2)]) (by simp [results, Try.results46, go_sem, Q2.out.1, Q2.out.2]) rfl ⟨rfl, by (repeat (first | exact Below.refl _ _ | assumption | refine below_step ?_ (by assumption) | refine below_alloc ?_ _ | refine below_drewN ?_ _ | refine Below.drew ?_ | refine Below.setCell ?_ (by first | (simp; done) | omega | (simp; omega)) _))⟩
end Go.Proofs.Ytianfakgojmnpaa
