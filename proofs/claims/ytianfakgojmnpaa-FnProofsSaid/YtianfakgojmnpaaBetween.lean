/- The line between two holes: mathematics and contracts. -/
import Derived.Test.YtianfakgojmnpaaFalling
namespace Go.Proofs.Ytianfakgojmnpaa
open Go.RowKit

theorem set2_cells' {w : World} {g : Nat} {x y u v : Value} (_h0 : w.cell? ⟨g, 0, none⟩ = some u) (h1 : w.cell? ⟨g, 1, none⟩ = some v) :
    ((w.setCell ⟨g, 0, none⟩ x).setCell ⟨g, 1, none⟩ y).cell? ⟨g, 1, none⟩ = some y := by
  have e : (w.setCell ⟨g, 0, none⟩ x).cell? ⟨g, 1, none⟩ = some v := by rw [World.cell?_setCell_other _ _ _ _ (by simp)]; exact h1
  exact World.cell?_setCell_same _ _ _ e
def joins (f t : Int) (l : Int × Int × Int) : Bool := decide (l.1 = f) && decide (l.2.2 = t)
def lineBetween (W H X f t : Int) : Option (Int × Int × Int) := (linesOf W H X).find? (joins f t)
def isLine (W H X f o t : Int) : Bool := decide (lineBetween W H X f t = some (f, o, t))
theorem lineBetween_some {W H X f t : Int} {l : Int × Int × Int} (h : lineBetween W H X f t = some l) : l ∈ linesOf W H X ∧ l.1 = f ∧ l.2.2 = t := by
  refine ⟨List.mem_of_find?_eq_some h, ?_⟩
  have := List.find?_some h
  simpa [joins] using this

set_option maxHeartbeats 4000000 in
theorem impl_LineBetween (W H X p q : Int) (w : World) :
    Calls Try.prog 131 #[.agg #[.int .i64 W, .int .i64 H, .int .i64 X], .int .i64 p, .int .i64 q] w fun e w' => e = .returned (.tuple #[lineV (lineOr (lineBetween W H X p q)), .bool (lineBetween W H X p q).isSome]) ∧ Below w.heap.size w w' := by
  have hll := linesOf_len W H X
  have hbl : lineBetween W H X p q = (linesOf W H X).find? (joins p q) := rfl
  rw [hbl]
  clear hbl
  go_enter Try.func131, Try.ntmps131
  go_wp2_with fail
  generalize hV : (w.alloc (.cells #[.int .i64 W, .int .i64 H, .int .i64 X] 44)).alloc (.cells #[.int .i64 0, .int .i64 0, .int .i64 0] 46) = V
  have v0 : Below w.heap.size w V := by subst hV; (repeat (first | exact Below.refl _ _ | assumption | refine below_step ?_ (by assumption) | refine below_alloc ?_ _ | refine below_drewN ?_ _ | refine Below.drew ?_ | refine Below.setCell ?_ (by first | (simp; done) | omega | (simp; omega)) _))
  have z0 : w.heap.size < V.heap.size := by subst hV; simp <;> omega
  have v0_0 : V.cell? ⟨w.heap.size, 0, none⟩ = some (.int .i64 W) := by subst hV; simp
  have v0_1 : V.cell? ⟨w.heap.size, 1, none⟩ = some (.int .i64 H) := by subst hV; simp
  have v0_2 : V.cell? ⟨w.heap.size, 2, none⟩ = some (.int .i64 X) := by subst hV; simp
  have z1 : w.heap.size + 1 < V.heap.size := by subst hV; simp <;> omega
  have v1_0 : V.cell? ⟨w.heap.size + 1, 0, none⟩ = some (.int .i64 0) := by subst hV; simp
  have v1_1 : V.cell? ⟨w.heap.size + 1, 1, none⟩ = some (.int .i64 0) := by subst hV; simp
  have v1_2 : V.cell? ⟨w.heap.size + 1, 2, none⟩ = some (.int .i64 0) := by subst hV; simp
  have K : Hid (∀ w', Below V.heap.size V w' → Below V.heap.size V w' ∧ w'.cell? ⟨w.heap.size, 0, none⟩ = some (.int .i64 W) ∧ w'.cell? ⟨w.heap.size, 1, none⟩ = some (.int .i64 H) ∧ w'.cell? ⟨w.heap.size, 2, none⟩ = some (.int .i64 X) ∧ w'.cell? ⟨w.heap.size + 1, 0, none⟩ = some (.int .i64 0) ∧ w'.cell? ⟨w.heap.size + 1, 1, none⟩ = some (.int .i64 0) ∧ w'.cell? ⟨w.heap.size + 1, 2, none⟩ = some (.int .i64 0)) := fun w' hB => ⟨hB, bel_cell hB z0 v0_0, bel_cell hB z0 v0_1, bel_cell hB z0 v0_2, bel_cell hB z1 v1_0, bel_cell hB z1 v1_1, bel_cell hB z1 v1_2⟩
  have ZV : Hid (w.heap.size + 1 + 1 = V.heap.size) := by subst hV; unfold Hid; simp
  have f0 : V.frozen? ⟨w.heap.size + 1, 0, none⟩ = false := by subst hV; simp
  have f1 : V.frozen? ⟨w.heap.size + 1, 1, none⟩ = false := by subst hV; simp
  have f2 : V.frozen? ⟨w.heap.size + 1, 2, none⟩ = false := by subst hV; simp
  clear hV
  have hV := Below.refl V.heap.size V
  refine (impl_LinesOf _ _ _ _).mono ?_
  rintro e w2 ⟨D, c, rfl, hL, hV2⟩
  have hF := FAt_of_own hL
  have hw2 := below_step v0 hV2
  go_wp2_with fail
  go_loopw [13] (fun i wr => ∃ k : Nat, k ≤ (linesOf W H X).length ∧ i = .int .i64 k ∧ ((linesOf W H X).take k).find? (joins p q) = none ∧ Below w2.heap.size w2 wr) (fun i _ => (linesOf W H X).length - (intOf i).toNat)
  case atStart => exact ⟨0, Nat.zero_le _, rfl, rfl, Below.refl _ _⟩
  case round =>
    obtain ⟨k, hk, rfl, hno, hbw⟩ := hrel
    have hF' := hF.below hbw
    have hV' := below_step hV2 hbw
    have r0 := bel_cell hV' z1 v1_0
    have r1 := bel_cell hV' z1 v1_1
    have r2 := bel_cell hV' z1 v1_2
    have s0 := bel_frozen hV' z1 f0
    have s1 := bel_frozen hV' z1 f1
    have s2 := bel_frozen hV' z1 f2
    have z1' : w.heap.size + 1 < wr.heap.size := Nat.lt_of_lt_of_le z1 hV'.size
    have hwr := below_step v0 hV'
    by_cases hlt : k < (linesOf W H X).length
    · obtain ⟨⟨f, o, t⟩, hl⟩ : ∃ l, (linesOf W H X)[k]? = some l := ⟨_, List.getElem?_eq_getElem hlt⟩
      obtain ⟨c1, c2, c3⟩ := lflat_get hl
      obtain ⟨b, off, rfl, l1⟩ := hF' _ _ c1
      obtain ⟨_, _, e2, l2⟩ := hF' _ _ c2
      injection e2 with e2; injection e2 with e3 e4; subst e3 e4
      obtain ⟨_, _, e2, l3⟩ := hF' _ _ c3
      injection e2 with e2; injection e2 with e3 e4; subst e3 e4
      rw [← Nat.add_assoc] at l2 l3
      have hbs := cell_lt l1
      clear c1 c2 c3
      by_cases h1 : f = p
      · by_cases h2 : t = q
        · have hfin := find_yes hno hl (by simp [joins, h1, h2])
          have HFIN := Lib.hid hfin
          clear hfin
          go_wp2_with fail
          try go_quiet (fail)
          go_wp2
          have c0 := World.cell?_setCell_same wr ⟨w.heap.size + 1, 0, none⟩ (.int .i64 p) r0
          have q3 := set3_cells (x := .int .i64 p) (y := .int .i64 o) (z := .int .i64 q) r0 r1 r2
          have c1 := set2_cells' (x := .int .i64 p) (y := .int .i64 o) r0 r1
          have z3 : w.heap.size + 1 < (((wr.setCell ⟨w.heap.size + 1, 0, none⟩ (.int .i64 p)).setCell ⟨w.heap.size + 1, 1, none⟩ (.int .i64 o)).setCell ⟨w.heap.size + 1, 2, none⟩ (.int .i64 q)).heap.size := by simp [World.setCell, z1']
          have y0 := bel_cell (below_one _ (.cells #[.int .i64 p, .int .i64 o, .int .i64 q] 46)) z3 q3.1
          have y1 := bel_cell (below_one _ (.cells #[.int .i64 p, .int .i64 o, .int .i64 q] 46)) z3 q3.2.1
          have y2 := bel_cell (below_one _ (.cells #[.int .i64 p, .int .i64 o, .int .i64 q] 46)) z3 q3.2.2
          exact bodyPost_ret (v := .tuple #[.agg #[.int .i64 p, .int .i64 o, .int .i64 q], .bool true]) (by simp [results, Try.results131, go_sem, y0, y1, y2]) rfl ⟨by rw [HFIN.out, h1, h2]; rfl, by (repeat (first | exact Below.refl _ _ | assumption | refine below_step ?_ (by assumption) | refine below_alloc ?_ _ | refine below_drewN ?_ _ | refine Below.drew ?_ | refine Below.setCell ?_ (by first | (simp; done) | omega | (simp; omega)) _))⟩
        · have hfin := find_no hno hl (by simp [joins, h2])
          have HFIN := Lib.hid hfin
          clear hfin
          go_wp2_with fail
          try go_quiet (fail)
          go_wp2
          go_roundw
          case rel => exact ⟨k + 1, by omega, by go_num, HFIN.out, by (repeat (first | exact Below.refl _ _ | assumption | refine below_step ?_ (by assumption) | refine below_alloc ?_ _ | refine below_drewN ?_ _ | refine Below.drew ?_ | refine Below.setCell ?_ (by first | (simp; done) | omega | (simp; omega)) _))⟩
          case measure => simp [intOf]; omega
      · have hfin := find_no hno hl (by simp [joins, h1])
        have HFIN := Lib.hid hfin
        clear hfin
        go_wp2_with fail
        try go_quiet (fail)
        go_wp2
        go_roundw
        case rel => exact ⟨k + 1, by omega, by go_num, HFIN.out, by (repeat (first | exact Below.refl _ _ | assumption | refine below_step ?_ (by assumption) | refine below_alloc ?_ _ | refine below_drewN ?_ _ | refine Below.drew ?_ | refine Below.setCell ?_ (by first | (simp; done) | omega | (simp; omega)) _))⟩
        case measure => simp [intOf]; omega
    · obtain rfl : k = (linesOf W H X).length := by omega
      rw [List.take_length] at hno
      have HNO := Lib.hid hno
      clear hno
      have q3 := set3_cells (x := .int .i64 0) (y := .int .i64 0) (z := .int .i64 0) r0 r1 r2
      go_wp2
      exact bodyPost_ret (v := .tuple #[.agg #[.int .i64 0, .int .i64 0, .int .i64 0], .bool false]) (by simp [results, Try.results131, go_sem, q3.1, q3.2.1, q3.2.2]) rfl ⟨by rw [HNO.out]; rfl, by (repeat (first | exact Below.refl _ _ | assumption | refine below_step ?_ (by assumption) | refine below_alloc ?_ _ | refine below_drewN ?_ _ | refine Below.drew ?_ | refine Below.setCell ?_ (by first | (simp; done) | omega | (simp; omega)) _))⟩
theorem impl_LineBetween_is (W H X p q : Int) (w : World) {r : Bool} {a b c : Int} (hr : (lineBetween W H X p q).isSome = r) (hl : lineOr (lineBetween W H X p q) = (a, b, c)) :
    Calls Try.prog 131 #[.agg #[.int .i64 W, .int .i64 H, .int .i64 X], .int .i64 p, .int .i64 q] w fun e w' => e = .returned (.tuple #[.agg #[.int .i64 a, .int .i64 b, .int .i64 c], .bool r]) ∧ Below w.heap.size w w' := by
  have h := impl_LineBetween W H X p q w
  rw [hr, hl] at h
  exact h
set_option maxHeartbeats 4000000 in
theorem spec_LineBetween (W H X p q : Int) (w : World) :
    Calls Try.prog 141 #[.agg #[.int .i64 W, .int .i64 H, .int .i64 X], .int .i64 p, .int .i64 q] w fun e w' => e = .returned (.tuple #[lineV (lineOr (lineBetween W H X p q)), .bool (lineBetween W H X p q).isSome]) ∧ Below w.heap.size w w' := by
  have hll := linesOf_len W H X
  have hbl : lineBetween W H X p q = (linesOf W H X).find? (joins p q) := rfl
  rw [hbl]
  clear hbl
  go_enter Try.func141, Try.ntmps141
  go_wp2_with fail
  generalize hV : (w.alloc (.cells #[.int .i64 W, .int .i64 H, .int .i64 X] 44)).alloc (.cells #[.int .i64 0, .int .i64 0, .int .i64 0] 46) = V
  have v0 : Below w.heap.size w V := by subst hV; (repeat (first | exact Below.refl _ _ | assumption | refine below_step ?_ (by assumption) | refine below_alloc ?_ _ | refine below_drewN ?_ _ | refine Below.drew ?_ | refine Below.setCell ?_ (by first | (simp; done) | omega | (simp; omega)) _))
  have z0 : w.heap.size < V.heap.size := by subst hV; simp <;> omega
  have v0_0 : V.cell? ⟨w.heap.size, 0, none⟩ = some (.int .i64 W) := by subst hV; simp
  have v0_1 : V.cell? ⟨w.heap.size, 1, none⟩ = some (.int .i64 H) := by subst hV; simp
  have v0_2 : V.cell? ⟨w.heap.size, 2, none⟩ = some (.int .i64 X) := by subst hV; simp
  have z1 : w.heap.size + 1 < V.heap.size := by subst hV; simp <;> omega
  have v1_0 : V.cell? ⟨w.heap.size + 1, 0, none⟩ = some (.int .i64 0) := by subst hV; simp
  have v1_1 : V.cell? ⟨w.heap.size + 1, 1, none⟩ = some (.int .i64 0) := by subst hV; simp
  have v1_2 : V.cell? ⟨w.heap.size + 1, 2, none⟩ = some (.int .i64 0) := by subst hV; simp
  have K : Hid (∀ w', Below V.heap.size V w' → Below V.heap.size V w' ∧ w'.cell? ⟨w.heap.size, 0, none⟩ = some (.int .i64 W) ∧ w'.cell? ⟨w.heap.size, 1, none⟩ = some (.int .i64 H) ∧ w'.cell? ⟨w.heap.size, 2, none⟩ = some (.int .i64 X) ∧ w'.cell? ⟨w.heap.size + 1, 0, none⟩ = some (.int .i64 0) ∧ w'.cell? ⟨w.heap.size + 1, 1, none⟩ = some (.int .i64 0) ∧ w'.cell? ⟨w.heap.size + 1, 2, none⟩ = some (.int .i64 0)) := fun w' hB => ⟨hB, bel_cell hB z0 v0_0, bel_cell hB z0 v0_1, bel_cell hB z0 v0_2, bel_cell hB z1 v1_0, bel_cell hB z1 v1_1, bel_cell hB z1 v1_2⟩
  have ZV : Hid (w.heap.size + 1 + 1 = V.heap.size) := by subst hV; unfold Hid; simp
  have f0 : V.frozen? ⟨w.heap.size + 1, 0, none⟩ = false := by subst hV; simp
  have f1 : V.frozen? ⟨w.heap.size + 1, 1, none⟩ = false := by subst hV; simp
  have f2 : V.frozen? ⟨w.heap.size + 1, 2, none⟩ = false := by subst hV; simp
  clear hV
  have hV := Below.refl V.heap.size V
  refine (spec_LinesOf _ _ _ _).mono ?_
  rintro e w2 ⟨D, c, rfl, hL, hV2⟩
  have hF := FAt_of_own hL
  have hw2 := below_step v0 hV2
  go_wp2_with fail
  go_loopw [9] (fun i wr => ∃ k : Nat, k ≤ (linesOf W H X).length ∧ i = .int .i64 k ∧ ((linesOf W H X).take k).find? (joins p q) = none ∧ Below w2.heap.size w2 wr) (fun i _ => (linesOf W H X).length - (intOf i).toNat)
  case atStart => exact ⟨0, Nat.zero_le _, rfl, rfl, Below.refl _ _⟩
  case round =>
    obtain ⟨k, hk, rfl, hno, hbw⟩ := hrel
    have hF' := hF.below hbw
    have hV' := below_step hV2 hbw
    have r0 := bel_cell hV' z1 v1_0
    have r1 := bel_cell hV' z1 v1_1
    have r2 := bel_cell hV' z1 v1_2
    have s0 := bel_frozen hV' z1 f0
    have s1 := bel_frozen hV' z1 f1
    have s2 := bel_frozen hV' z1 f2
    have z1' : w.heap.size + 1 < wr.heap.size := Nat.lt_of_lt_of_le z1 hV'.size
    have hwr := below_step v0 hV'
    by_cases hlt : k < (linesOf W H X).length
    · obtain ⟨⟨f, o, t⟩, hl⟩ : ∃ l, (linesOf W H X)[k]? = some l := ⟨_, List.getElem?_eq_getElem hlt⟩
      obtain ⟨c1, c2, c3⟩ := lflat_get hl
      obtain ⟨b, off, rfl, l1⟩ := hF' _ _ c1
      obtain ⟨_, _, e2, l2⟩ := hF' _ _ c2
      injection e2 with e2; injection e2 with e3 e4; subst e3 e4
      obtain ⟨_, _, e2, l3⟩ := hF' _ _ c3
      injection e2 with e2; injection e2 with e3 e4; subst e3 e4
      rw [← Nat.add_assoc] at l2 l3
      have hbs := cell_lt l1
      clear c1 c2 c3
      by_cases h1 : f = p
      · by_cases h2 : t = q
        · have hfin := find_yes hno hl (by simp [joins, h1, h2])
          have HFIN := Lib.hid hfin
          clear hfin
          go_wp2_with fail
          try go_quiet (fail)
          go_wp2
          have c0 := World.cell?_setCell_same wr ⟨w.heap.size + 1, 0, none⟩ (.int .i64 p) r0
          have q3 := set3_cells (x := .int .i64 p) (y := .int .i64 o) (z := .int .i64 q) r0 r1 r2
          have c1 := set2_cells' (x := .int .i64 p) (y := .int .i64 o) r0 r1
          have z3 : w.heap.size + 1 < (((wr.setCell ⟨w.heap.size + 1, 0, none⟩ (.int .i64 p)).setCell ⟨w.heap.size + 1, 1, none⟩ (.int .i64 o)).setCell ⟨w.heap.size + 1, 2, none⟩ (.int .i64 q)).heap.size := by simp [World.setCell, z1']
          have y0 := bel_cell (below_one _ (.cells #[.int .i64 p, .int .i64 o, .int .i64 q] 46)) z3 q3.1
          have y1 := bel_cell (below_one _ (.cells #[.int .i64 p, .int .i64 o, .int .i64 q] 46)) z3 q3.2.1
          have y2 := bel_cell (below_one _ (.cells #[.int .i64 p, .int .i64 o, .int .i64 q] 46)) z3 q3.2.2
          exact bodyPost_ret (v := .tuple #[.agg #[.int .i64 p, .int .i64 o, .int .i64 q], .bool true]) (by simp [results, Try.results141, go_sem, q3.1, q3.2.1, q3.2.2]) rfl ⟨by rw [HFIN.out, h1, h2]; rfl, by (repeat (first | exact Below.refl _ _ | assumption | refine below_step ?_ (by assumption) | refine below_alloc ?_ _ | refine below_drewN ?_ _ | refine Below.drew ?_ | refine Below.setCell ?_ (by first | (simp; done) | omega | (simp; omega)) _))⟩
        · have hfin := find_no hno hl (by simp [joins, h2])
          have HFIN := Lib.hid hfin
          clear hfin
          go_wp2_with fail
          try go_quiet (fail)
          go_wp2
          go_roundw
          case rel => exact ⟨k + 1, by omega, by go_num, HFIN.out, by (repeat (first | exact Below.refl _ _ | assumption | refine below_step ?_ (by assumption) | refine below_alloc ?_ _ | refine below_drewN ?_ _ | refine Below.drew ?_ | refine Below.setCell ?_ (by first | (simp; done) | omega | (simp; omega)) _))⟩
          case measure => simp [intOf]; omega
      · have hfin := find_no hno hl (by simp [joins, h1])
        have HFIN := Lib.hid hfin
        clear hfin
        go_wp2_with fail
        try go_quiet (fail)
        go_wp2
        go_roundw
        case rel => exact ⟨k + 1, by omega, by go_num, HFIN.out, by (repeat (first | exact Below.refl _ _ | assumption | refine below_step ?_ (by assumption) | refine below_alloc ?_ _ | refine below_drewN ?_ _ | refine Below.drew ?_ | refine Below.setCell ?_ (by first | (simp; done) | omega | (simp; omega)) _))⟩
        case measure => simp [intOf]; omega
    · obtain rfl : k = (linesOf W H X).length := by omega
      rw [List.take_length] at hno
      have HNO := Lib.hid hno
      clear hno
      have q3 := set3_cells (x := .int .i64 0) (y := .int .i64 0) (z := .int .i64 0) r0 r1 r2
      go_wp2
      exact bodyPost_ret (v := .tuple #[.agg #[.int .i64 0, .int .i64 0, .int .i64 0], .bool false]) (by simp [results, Try.results141, go_sem, q3.1, q3.2.1, q3.2.2]) rfl ⟨by rw [HNO.out]; rfl, by (repeat (first | exact Below.refl _ _ | assumption | refine below_step ?_ (by assumption) | refine below_alloc ?_ _ | refine below_drewN ?_ _ | refine Below.drew ?_ | refine Below.setCell ?_ (by first | (simp; done) | omega | (simp; omega)) _))⟩
theorem spec_LineBetween_is (W H X p q : Int) (w : World) {r : Bool} {a b c : Int} (hr : (lineBetween W H X p q).isSome = r) (hl : lineOr (lineBetween W H X p q) = (a, b, c)) :
    Calls Try.prog 141 #[.agg #[.int .i64 W, .int .i64 H, .int .i64 X], .int .i64 p, .int .i64 q] w fun e w' => e = .returned (.tuple #[.agg #[.int .i64 a, .int .i64 b, .int .i64 c], .bool r]) ∧ Below w.heap.size w w' := by
  have h := spec_LineBetween W H X p q w
  rw [hr, hl] at h
  exact h
end Go.Proofs.Ytianfakgojmnpaa
