/- Drawn golden numbers: each is only said to be small. -/
import Derived.Test.YtmdpacgoijnonaaDraw
import Derived.Test.YtmdpacgoijnonaaGoldC
import Derived.Test.YtmdpacgoijnonaaGoldX
import Derived.Test.YtmdpacgoijnonaaHeld
namespace Go.Proofs.Ytmdpacgoijnonaa
open Go.RowKit

theorem gr_setNew {a w : World} {row : Option Nat} (h : a.grownBy w row) {n j : Nat} (hn : a.heap.size ≤ n) (v : Value) : a.grownBy (w.setCell ⟨n, j, none⟩ v) row := by
  refine ⟨h.os, h.tape, h.output, by simpa using h.size, fun i hi hne => ?_⟩
  rw [heap_setCell_other w ⟨n, j, none⟩ i v (fun e => by simp at e; omega)]
  exact h.block i hi hne
theorem gr_frozen {w w' : World} {g b o : Nat} (h : w.grownBy w' (some g)) (hb : b < w.heap.size) (hne : b ≠ g) : w'.frozen? ⟨b, o, none⟩ = w.frozen? ⟨b, o, none⟩ :=
  World.frozen?_of_block (h.block b hb (by simpa using hne))
theorem CurAt.drew {w : World} {g B : Nat} (hc : CurAt B w g) : CurAt B w.drew g := hc
/-- the blocks at lo and above, but for g, are as they were -/
def Kept (lo g : Nat) (W w : World) : Prop := W.heap.size ≤ w.heap.size ∧ ∀ i, i < W.heap.size → i ≠ g → lo ≤ i → w.heap[i]? = W.heap[i]?
theorem Kept.refl (lo g : Nat) (W : World) : Kept lo g W W := ⟨Nat.le_refl _, fun _ _ _ _ => rfl⟩
theorem Kept.drewN {lo g : Nat} {W w : World} (h : Kept lo g W w) (k : Nat) : Kept lo g W (w.drewN k) := h
theorem Kept.drew {lo g : Nat} {W w : World} (h : Kept lo g W w) : Kept lo g W w.drew := h
theorem Kept.grown {lo g : Nat} {W w w' : World} (h : Kept lo g W w) (hg : w.grownBy w' (some g)) : Kept lo g W w' :=
  ⟨Nat.le_trans h.1 hg.size, fun i hi hne hl => (hg.block i (Nat.lt_of_lt_of_le hi h.1) (by simpa using hne)).trans (h.2 i hi hne hl)⟩
theorem Kept.set {lo g k j : Nat} {W w : World} {v : Value} (h : Kept lo g W w) (hk : k < lo) : Kept lo g W (w.setCell ⟨k, j, none⟩ v) :=
  ⟨by simpa using h.1, fun i hi hne hl => (heap_setCell_other w ⟨k, j, none⟩ i v (fun e => by simp at e; omega)).trans (h.2 i hi hne hl)⟩
theorem Kept.cell {lo g b o : Nat} {W w : World} {v : Value} (h : Kept lo g W w) (hb : b < W.heap.size) (hne : b ≠ g) (hl : lo ≤ b) (hv : W.cell? ⟨b, o, none⟩ = some v) : w.cell? ⟨b, o, none⟩ = some v :=
  (World.cell?_of_block (h.2 b hb hne hl)).trans hv
theorem top_cell2 {W : World} {cs : Array Value} {ty : TypeId} {g j : Nat} {v : Value} (hg : g = W.heap.size) (h : cs[j]? = some v) : (W.alloc (.cells cs ty)).cell? ⟨g, j, none⟩ = some v := by
  subst hg; simp [h]
theorem top_frozen2 {W : World} {cs : Array Value} {ty : TypeId} {g j : Nat} (hg : g = W.heap.size) : (W.alloc (.cells cs ty)).frozen? ⟨g, j, none⟩ = false := by
  subst hg; simp
theorem set2_far {w : World} {g k o : Nat} {x y v : Value} (h : w.cell? ⟨k, o, none⟩ = some v) (hne : k ≠ g) : ((w.setCell ⟨g, 0, none⟩ x).setCell ⟨g, 1, none⟩ y).cell? ⟨k, o, none⟩ = some v := by
  rw [World.cell?_setCell_other _ _ _ _ (by simp [hne]), World.cell?_setCell_other _ _ _ _ (by simp [hne])]; exact h
theorem bel_frozen2 {V w : World} (h : Below V.heap.size V w) {b o : Nat} (hb : b < V.heap.size) (hv : V.frozen? ⟨b, o, none⟩ = false) : w.frozen? ⟨b, o, none⟩ = false := (h.frozen (p := ⟨b, o, none⟩) hb).trans hv
theorem new2 {w : World} {x y : Value} {ty : TypeId} : (w.alloc (.cells #[x, y] ty)).cell? ⟨w.heap.size, 0, none⟩ = some x ∧ (w.alloc (.cells #[x, y] ty)).cell? ⟨w.heap.size, 1, none⟩ = some y := ⟨by simp, by simp⟩
def smallG (a b : Int) : Prop := -10946 ≤ a ∧ a ≤ 10946 ∧ -10946 ≤ b ∧ b ≤ 10946

set_option maxHeartbeats 2000000 in
theorem spec_l11Gold (g B : Nat) (w : World) (hc : CurAt B w g) :
    Calls Try.prog 35 #[.pointer (some ⟨g, 0, none⟩)] w fun e w' => ∃ a b : Int, e = .returned (.agg #[.int .i64 a, .int .i64 b]) ∧ smallG a b ∧ CurAt B w' g ∧ w.grownBy w' (some g) := by
  have hg := hc.1
  have hgB := hc.2.1
  go_enter Try.func35, Try.ntmps35
  go_wp2_with fail
  generalize hV : w.alloc (.cells #[.int .i64 0, .int .i64 0] 25) = V
  have v0 : w.grownBy V (some g) := by subst hV; exact gr_alloc (gr_refl _ _) _
  have hcV : CurAt B V g := by subst hV; exact hc.below (below_one _ _)
  have zV : w.heap.size < V.heap.size := by subst hV; simp
  have r0 : V.cell? ⟨w.heap.size, 0, none⟩ = some (.int .i64 0) := by subst hV; simp
  have r1 : V.cell? ⟨w.heap.size, 1, none⟩ = some (.int .i64 0) := by subst hV; simp
  have f0 : V.frozen? ⟨w.heap.size, 0, none⟩ = false := by subst hV; simp
  have f1 : V.frozen? ⟨w.heap.size, 1, none⟩ = false := by subst hV; simp
  have hne : w.heap.size ≠ g := by omega
  clear hV
  refine (spec_l01Once g B _ _ hcV (by omega) (by omega)).mono ?_
  rintro e w1 ⟨x, rfl, hc1, hg1⟩
  replace v0 := gr_trans v0 hg1
  replace r0 := (gr_far hg1 zV hne).trans r0
  replace r1 := (gr_far hg1 zV hne).trans r1
  replace f0 := (gr_frozen hg1 zV hne).trans f0
  replace f1 := (gr_frozen hg1 zV hne).trans f1
  replace zV := Nat.lt_of_lt_of_le zV hg1.size
  cases x
  · go_wp2_with fail
    refine (spec_l01Below g B _ _ hc1 (by omega) (by omega)).mono ?_
    rintro e w2 ⟨a, rfl, a0, a1, hc2, hg2⟩
    replace v0 := gr_trans v0 hg2
    replace r0 := (gr_far hg2 zV hne).trans r0
    replace r1 := (gr_far hg2 zV hne).trans r1
    replace f0 := (gr_frozen hg2 zV hne).trans f0
    replace f1 := (gr_frozen hg2 zV hne).trans f1
    replace zV := Nat.lt_of_lt_of_le zV hg2.size
    go_wp2_with fail
    refine (spec_l01Below g B _ _ hc2 (by omega) (by omega)).mono ?_
    rintro e w3 ⟨b, rfl, b0, b1, hc3, hg3⟩
    replace v0 := gr_trans v0 hg3
    replace r0 := (gr_far hg3 zV hne).trans r0
    replace r1 := (gr_far hg3 zV hne).trans r1
    replace f0 := (gr_frozen hg3 zV hne).trans f0
    replace f1 := (gr_frozen hg3 zV hne).trans f1
    replace zV := Nat.lt_of_lt_of_le zV hg3.size
    have Q2 := Lib.hid (set2_cells (x := .int .i64 (a - 20)) (y := .int .i64 (b - 20)) r0 r1)
    go_wp2
    exact bodyPost_ret (v := .agg #[.int .i64 (a - 20), .int .i64 (b - 20)]) (by simp [results, Try.results35, go_sem, Q2.out.1, Q2.out.2]) rfl
      ⟨_, _, rfl, ⟨by omega, by omega, by omega, by omega⟩, (hc3.set (by omega) hne).set (by omega) hne, gr_setNew (gr_setNew v0 (Nat.le_refl _) _) (Nat.le_refl _) _⟩
  · go_wp2_with fail
    refine (spec_l01Below g B _ _ hc1 (by omega) (by omega)).mono ?_
    rintro e w2 ⟨n, rfl, a0, a1, hc2, hg2⟩
    replace v0 := gr_trans v0 hg2
    replace r0 := (gr_far hg2 zV hne).trans r0
    replace r1 := (gr_far hg2 zV hne).trans r1
    replace f0 := (gr_frozen hg2 zV hne).trans f0
    replace f1 := (gr_frozen hg2 zV hne).trans f1
    replace zV := Nat.lt_of_lt_of_le zV hg2.size
    go_wp2_with fail
    refine (spec_PowerOf _ _).mono ?_
    rintro e w3 ⟨rfl, hb3⟩
    have hg3 : w2.grownBy w3 (some g) := gr_below (gr_refl _ _) hb3
    have hc3 := hc2.below hb3
    replace v0 := gr_trans v0 hg3
    replace r0 := (gr_far hg3 zV hne).trans r0
    replace r1 := (gr_far hg3 zV hne).trans r1
    replace f0 := (gr_frozen hg3 zV hne).trans f0
    replace f1 := (gr_frozen hg3 zV hne).trans f1
    replace zV := Nat.lt_of_lt_of_le zV hg3.size
    have Q2 := Lib.hid (set2_cells (x := .int .i64 (powA n)) (y := .int .i64 (powB n)) r0 r1)
    go_wp2
    exact bodyPost_ret (v := .agg #[.int .i64 (powA n), .int .i64 (powB n)]) (by simp [results, Try.results35, go_sem, Q2.out.1, Q2.out.2]) rfl
      ⟨_, _, rfl, pow_small n, (hc3.set (by omega) hne).set (by omega) hne, gr_setNew (gr_setNew v0 (Nat.le_refl _) _) (Nat.le_refl _) _⟩
set_option maxHeartbeats 4000000 in
theorem spec_DrawGolds (A : Option Addr) (n cap : Nat) (w : World) (hc : Bytes w A n) (hn : n ≤ 4294967296) :
    Calls Try.prog 8 #[.slice A n cap] w fun e w' => ∃ a b c d x y : Int, e = .returned (.tuple #[.agg #[.int .i64 a, .int .i64 b], .agg #[.int .i64 c, .int .i64 d], .agg #[.int .i64 x, .int .i64 y]]) ∧ smallG a b ∧ smallG c d ∧ smallG x y ∧ Below w.heap.size w w' := by
  go_enter Try.func8, Try.ntmps8
  go_wp2_with fail
  generalize hV : ((w.alloc (.cells #[.int .i64 0, .int .i64 0] 25)).alloc (.cells #[.int .i64 0, .int .i64 0] 25)).alloc (.cells #[.int .i64 0, .int .i64 0] 25) = V
  have v0 : Below w.heap.size w V := by subst hV; (repeat (first | exact Below.refl _ _ | assumption | refine below_step ?_ (by assumption) | refine below_alloc ?_ _ | refine below_drewN ?_ _ | refine Below.drew ?_ | refine Below.setCell ?_ (by first | (simp; done) | omega | (simp; omega)) _))
  have z0 : w.heap.size < V.heap.size := by subst hV; simp <;> omega
  have v0_0 : V.cell? ⟨w.heap.size, 0, none⟩ = some (.int .i64 0) := bel_cell (V := (w.alloc (.cells #[.int .i64 0, .int .i64 0] 25))) (by subst hV; exact below_alloc (below_alloc (Below.refl _ _) _) _) (by simp <;> omega) (top_cell2 (by simp) rfl)
  have v0_1 : V.cell? ⟨w.heap.size, 1, none⟩ = some (.int .i64 0) := bel_cell (V := (w.alloc (.cells #[.int .i64 0, .int .i64 0] 25))) (by subst hV; exact below_alloc (below_alloc (Below.refl _ _) _) _) (by simp <;> omega) (top_cell2 (by simp) rfl)
  have z1 : w.heap.size + 1 < V.heap.size := by subst hV; simp <;> omega
  have v1_0 : V.cell? ⟨w.heap.size + 1, 0, none⟩ = some (.int .i64 0) := bel_cell (V := ((w.alloc (.cells #[.int .i64 0, .int .i64 0] 25)).alloc (.cells #[.int .i64 0, .int .i64 0] 25))) (by subst hV; exact below_alloc (Below.refl _ _) _) (by simp <;> omega) (top_cell2 (by simp) rfl)
  have v1_1 : V.cell? ⟨w.heap.size + 1, 1, none⟩ = some (.int .i64 0) := bel_cell (V := ((w.alloc (.cells #[.int .i64 0, .int .i64 0] 25)).alloc (.cells #[.int .i64 0, .int .i64 0] 25))) (by subst hV; exact below_alloc (Below.refl _ _) _) (by simp <;> omega) (top_cell2 (by simp) rfl)
  have z2 : w.heap.size + 1 + 1 < V.heap.size := by subst hV; simp <;> omega
  have v2_0 : V.cell? ⟨w.heap.size + 1 + 1, 0, none⟩ = some (.int .i64 0) := bel_cell (V := (((w.alloc (.cells #[.int .i64 0, .int .i64 0] 25)).alloc (.cells #[.int .i64 0, .int .i64 0] 25)).alloc (.cells #[.int .i64 0, .int .i64 0] 25))) (by subst hV; exact Below.refl _ _) (by simp <;> omega) (top_cell2 (by simp) rfl)
  have v2_1 : V.cell? ⟨w.heap.size + 1 + 1, 1, none⟩ = some (.int .i64 0) := bel_cell (V := (((w.alloc (.cells #[.int .i64 0, .int .i64 0] 25)).alloc (.cells #[.int .i64 0, .int .i64 0] 25)).alloc (.cells #[.int .i64 0, .int .i64 0] 25))) (by subst hV; exact Below.refl _ _) (by simp <;> omega) (top_cell2 (by simp) rfl)
  have K : Hid (∀ w', Below V.heap.size V w' → Below V.heap.size V w' ∧ w'.cell? ⟨w.heap.size, 0, none⟩ = some (.int .i64 0) ∧ w'.cell? ⟨w.heap.size, 1, none⟩ = some (.int .i64 0) ∧ w'.cell? ⟨w.heap.size + 1, 0, none⟩ = some (.int .i64 0) ∧ w'.cell? ⟨w.heap.size + 1, 1, none⟩ = some (.int .i64 0) ∧ w'.cell? ⟨w.heap.size + 1 + 1, 0, none⟩ = some (.int .i64 0) ∧ w'.cell? ⟨w.heap.size + 1 + 1, 1, none⟩ = some (.int .i64 0)) := fun w' hB => ⟨hB, bel_cell hB z0 v0_0, bel_cell hB z0 v0_1, bel_cell hB z1 v1_0, bel_cell hB z1 v1_1, bel_cell hB z2 v2_0, bel_cell hB z2 v2_1⟩
  have ZV : Hid (w.heap.size + 1 + 1 + 1 = V.heap.size) := by subst hV; unfold Hid; simp
  have fz0_0 : V.frozen? ⟨w.heap.size, 0, none⟩ = false := bel_frozen2 (V := (w.alloc (.cells #[.int .i64 0, .int .i64 0] 25))) (by subst hV; exact below_alloc (below_alloc (Below.refl _ _) _) _) (by simp <;> omega) (top_frozen2 (by simp))
  have fz0_1 : V.frozen? ⟨w.heap.size, 1, none⟩ = false := bel_frozen2 (V := (w.alloc (.cells #[.int .i64 0, .int .i64 0] 25))) (by subst hV; exact below_alloc (below_alloc (Below.refl _ _) _) _) (by simp <;> omega) (top_frozen2 (by simp))
  have fz1_0 : V.frozen? ⟨w.heap.size + 1, 0, none⟩ = false := bel_frozen2 (V := ((w.alloc (.cells #[.int .i64 0, .int .i64 0] 25)).alloc (.cells #[.int .i64 0, .int .i64 0] 25))) (by subst hV; exact below_alloc (Below.refl _ _) _) (by simp <;> omega) (top_frozen2 (by simp))
  have fz1_1 : V.frozen? ⟨w.heap.size + 1, 1, none⟩ = false := bel_frozen2 (V := ((w.alloc (.cells #[.int .i64 0, .int .i64 0] 25)).alloc (.cells #[.int .i64 0, .int .i64 0] 25))) (by subst hV; exact below_alloc (Below.refl _ _) _) (by simp <;> omega) (top_frozen2 (by simp))
  have fz2_0 : V.frozen? ⟨w.heap.size + 1 + 1, 0, none⟩ = false := bel_frozen2 (V := (((w.alloc (.cells #[.int .i64 0, .int .i64 0] 25)).alloc (.cells #[.int .i64 0, .int .i64 0] 25)).alloc (.cells #[.int .i64 0, .int .i64 0] 25))) (by subst hV; exact Below.refl _ _) (by simp <;> omega) (top_frozen2 (by simp))
  have fz2_1 : V.frozen? ⟨w.heap.size + 1 + 1, 1, none⟩ = false := bel_frozen2 (V := (((w.alloc (.cells #[.int .i64 0, .int .i64 0] 25)).alloc (.cells #[.int .i64 0, .int .i64 0] 25)).alloc (.cells #[.int .i64 0, .int .i64 0] 25))) (by subst hV; exact Below.refl _ _) (by simp <;> omega) (top_frozen2 (by simp))
  clear hV
  refine (spec_l01New _ _ _ _ (hc.below v0) hn).mono ?_
  rintro e w1 ⟨g, rfl, hgV, hc1, hb1⟩
  go_wp2_with fail
  refine (spec_l11Gold g _ _ hc1).mono ?_
  rintro e w2 ⟨a, b, rfl, hab, hc2, hg2⟩
  have hb2 := below_gr hb1 hb1.size hg2 hgV
  go_wp2_with fail
  have hc2a := hc2.below (below_one w2 (.cells #[.int .i64 a, .int .i64 b] 25))
  have hb2a := below_alloc hb2 (.cells #[.int .i64 a, .int .i64 b] 25)
  have sg2 := hc2.1
  have X0 := (new2 (w := w2) (x := .int .i64 a) (y := .int .i64 b) (ty := 25))
  refine (spec_l11Gold g _ _ hc2a).mono ?_
  rintro e w3 ⟨c, d, rfl, hcd, hc3, hg3⟩
  have hb3 := below_gr hb2a hb2a.size hg3 hgV
  have X1 : w3.cell? ⟨w2.heap.size, 0, none⟩ = some (.int .i64 a) := (gr_far hg3 (by simp) (by omega)).trans X0.1
  have X2 : w3.cell? ⟨w2.heap.size, 1, none⟩ = some (.int .i64 b) := (gr_far hg3 (by simp) (by omega)).trans X0.2
  have sx : w2.heap.size < w3.heap.size := by have := hg3.size; simp at this; omega
  go_wp2_with fail
  generalize hU : w3.alloc (.cells #[.int .i64 c, .int .i64 d] 25) = U
  have hbU : Below V.heap.size V U := by subst hU; exact below_alloc hb3 _
  have hcU : CurAt V.heap.size U g := by subst hU; exact hc3.below (below_one _ _)
  have sg3 := hc3.1
  have sU : w3.heap.size < U.heap.size := by subst hU; simp
  have sV2 := hb2.size
  have x0 : U.cell? ⟨w2.heap.size, 0, none⟩ = some (.int .i64 a) := by subst hU; exact bel_cell (below_one _ _) sx X1
  have x1 : U.cell? ⟨w2.heap.size, 1, none⟩ = some (.int .i64 b) := by subst hU; exact bel_cell (below_one _ _) sx X2
  have y0 : U.cell? ⟨w3.heap.size, 0, none⟩ = some (.int .i64 c) := by subst hU; exact new2.1
  have y1 : U.cell? ⟨w3.heap.size, 1, none⟩ = some (.int .i64 d) := by subst hU; exact new2.2
  clear hU X0 X1 X2
  have K2 : Hid (∀ w', Kept V.heap.size g U w' → Kept V.heap.size g U w' ∧ w'.cell? ⟨w2.heap.size, 0, none⟩ = some (.int .i64 a) ∧ w'.cell? ⟨w2.heap.size, 1, none⟩ = some (.int .i64 b) ∧ w'.cell? ⟨w3.heap.size, 0, none⟩ = some (.int .i64 c) ∧ w'.cell? ⟨w3.heap.size, 1, none⟩ = some (.int .i64 d)) := fun w' h => ⟨h, h.cell (by omega) (by omega) (by omega) x0, h.cell (by omega) (by omega) (by omega) x1, h.cell (by omega) (by omega) (by omega) y0, h.cell (by omega) (by omega) (by omega) y1⟩
  have ku := Kept.refl V.heap.size g U
  refine wp_region_held_drew (S := (fun w' => Kept V.heap.size g U w' ∧ w'.cell? ⟨w2.heap.size, 0, none⟩ = some (.int .i64 a) ∧ w'.cell? ⟨w2.heap.size, 1, none⟩ = some (.int .i64 b) ∧ w'.cell? ⟨w3.heap.size, 0, none⟩ = some (.int .i64 c) ∧ w'.cell? ⟨w3.heap.size, 1, none⟩ = some (.int .i64 d))) (by kernel_rfl) ?_ (fun hHd0 => ?_)
  · (refine K2.out _ ?_; exact Kept.drew ku)
  refine heldT (i := 0) rfl (by kernel_rfl) (by kernel_rfl) (by kernel_rfl) (fun _ _ _ h => h) (by rfl) (v := ?_) ?_ (by assumption) ?_
  rotate_left
  · (intro w hSw; (try dsimp only at hSw); go_simp; try (with_reducible rfl))
  (try simp only [Act.put, List.setIfInBounds_toArray, List.set_cons_zero, List.set_cons_succ])
  refine heldT (i := 1) rfl (by kernel_rfl) (by kernel_rfl) (by kernel_rfl) (fun _ _ _ h => h) (by rfl) (v := ?_) ?_ (by assumption) ?_
  rotate_left
  · (intro w hSw; (try dsimp only at hSw); go_simp; try (with_reducible rfl))
  (try simp only [Act.put, List.setIfInBounds_toArray, List.set_cons_zero, List.set_cons_succ])
  refine heldT (i := 2) rfl (by kernel_rfl) (by kernel_rfl) (by kernel_rfl) (fun _ _ _ h => h) (by rfl) (v := ?_) ?_ (by assumption) ?_
  rotate_left
  · (intro w hSw; (try dsimp only at hSw); go_simp; try (with_reducible rfl))
  (try simp only [Act.put, List.setIfInBounds_toArray, List.set_cons_zero, List.set_cons_succ])
  refine heldC (i := 3) rfl (by kernel_rfl) (fun K' hK => ?_)
  go_simp
  refine (spec_l11Gold g _ _ (CurAt.drew hcU)).mono ?_; rintro e w5 ⟨x, y, rfl, hxy, hc5, hg5⟩; have hb5 := below_gr (Below.drew hbU) hbU.size hg5 hgV; have ku5 := (Kept.drew ku).grown hg5; have r0_0 := bel_cell hb5 z0 v0_0; have q0_0 := bel_frozen2 hb5 z0 fz0_0; have r0_1 := bel_cell hb5 z0 v0_1; have q0_1 := bel_frozen2 hb5 z0 fz0_1; have r1_0 := bel_cell hb5 z1 v1_0; have q1_0 := bel_frozen2 hb5 z1 fz1_0; have r1_1 := bel_cell hb5 z1 v1_1; have q1_1 := bel_frozen2 hb5 z1 fz1_1; have r2_0 := bel_cell hb5 z2 v2_0; have q2_0 := bel_frozen2 hb5 z2 fz2_0; have r2_1 := bel_cell hb5 z2 v2_1; have q2_1 := bel_frozen2 hb5 z2 fz2_1
  (try (go_wp2_with fail))
  refine hK.out _ _ ?_ (fun hHd1 => ?_)
  · ((try dsimp only); (refine K2.out _ ?_; exact ku5))
  clear hK K' hHd0
  (try simp only [Act.put, List.setIfInBounds_toArray, List.set_cons_zero, List.set_cons_succ])
  refine heldC (i := 4) rfl (by kernel_rfl) (fun K' hK => ?_)
  go_simp
  skip
  (try (go_wp2_with fail))
  refine hK.out _ _ ?_ (fun hHd2 => ?_)
  · ((try dsimp only); (refine K2.out _ ?_; exact (Kept.set (Kept.set ku5 z0) z0)))
  clear hK K' hHd1
  (try simp only [Act.put, List.setIfInBounds_toArray, List.set_cons_zero, List.set_cons_succ])
  refine heldC (i := 5) rfl (by kernel_rfl) (fun K' hK => ?_)
  go_simp
  skip
  (try (go_wp2_with fail))
  refine hK.out _ _ ?_ (fun hHd3 => ?_)
  · ((try dsimp only); (refine K2.out _ ?_; exact (Kept.set (Kept.set (Kept.set (Kept.set ku5 z0) z0) z1) z1)))
  clear hK K' hHd2
  (try simp only [Act.put, List.setIfInBounds_toArray, List.set_cons_zero, List.set_cons_succ])
  refine heldC (i := 6) rfl (by kernel_rfl) (fun K' hK => ?_)
  go_simp
  skip
  (try (go_wp2_with fail))
  refine hK.out _ _ ?_ (fun hHd4 => ?_)
  · ((try dsimp only); (refine K2.out _ ?_; exact (Kept.set (Kept.set (Kept.set (Kept.set (Kept.set (Kept.set ku5 z0) z0) z1) z1) z2) z2)))
  clear hK K' hHd3
  (try simp only [Act.put, List.setIfInBounds_toArray, List.set_cons_zero, List.set_cons_succ])

  have Q0 := set2_cells (x := .int .i64 a) (y := .int .i64 b) r0_0 r0_1
  have P0 := Lib.hid (set2_far (x := .int .i64 x) (y := .int .i64 y) (g := w.heap.size + 1 + 1) (set2_far (x := .int .i64 c) (y := .int .i64 d) (g := w.heap.size + 1) Q0.1 (by omega)) (by omega))
  have R0 := Lib.hid (set2_far (x := .int .i64 x) (y := .int .i64 y) (g := w.heap.size + 1 + 1) (set2_far (x := .int .i64 c) (y := .int .i64 d) (g := w.heap.size + 1) Q0.2 (by omega)) (by omega))
  clear Q0
  have Q1 := set2_cells (x := .int .i64 c) (y := .int .i64 d) (set2_far (x := .int .i64 a) (y := .int .i64 b) (g := w.heap.size) r1_0 (by omega)) (set2_far (x := .int .i64 a) (y := .int .i64 b) (g := w.heap.size) r1_1 (by omega))
  have P1 := Lib.hid (set2_far (x := .int .i64 x) (y := .int .i64 y) (g := w.heap.size + 1 + 1) Q1.1 (by omega))
  have R1 := Lib.hid (set2_far (x := .int .i64 x) (y := .int .i64 y) (g := w.heap.size + 1 + 1) Q1.2 (by omega))
  clear Q1
  have Q2 := set2_cells (x := .int .i64 x) (y := .int .i64 y) (set2_far (x := .int .i64 c) (y := .int .i64 d) (g := w.heap.size + 1) (set2_far (x := .int .i64 a) (y := .int .i64 b) (g := w.heap.size) r2_0 (by omega)) (by omega)) (set2_far (x := .int .i64 c) (y := .int .i64 d) (g := w.heap.size + 1) (set2_far (x := .int .i64 a) (y := .int .i64 b) (g := w.heap.size) r2_1 (by omega)) (by omega))
  have P2 := Lib.hid Q2.1
  have R2 := Lib.hid Q2.2
  clear Q2
  refine wpAnyH_done (by kernel_rfl) ?_ _
  go_wp2
  exact bodyPost_ret (v := .tuple #[.agg #[.int .i64 a, .int .i64 b], .agg #[.int .i64 c, .int .i64 d], .agg #[.int .i64 x, .int .i64 y]]) (by simp [results, Try.results8, go_sem, P0.out, P1.out, P2.out, R0.out, R1.out, R2.out]) rfl
    ⟨a, b, c, d, x, y, rfl, hab, hcd, hxy, ((((((below_step v0 hb5).setCell (by first | (simp; done) | omega | (simp; omega)) _).setCell (by first | (simp; done) | omega | (simp; omega)) _).setCell (by first | (simp; done) | omega | (simp; omega)) _).setCell (by first | (simp; done) | omega | (simp; omega)) _).setCell (by first | (simp; done) | omega | (simp; omega)) _).setCell (by first | (simp; done) | omega | (simp; omega)) _⟩
end Go.Proofs.Ytmdpacgoijnonaa
