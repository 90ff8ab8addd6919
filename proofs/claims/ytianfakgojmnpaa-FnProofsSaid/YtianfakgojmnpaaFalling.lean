/- Falling weights: mathematics and contracts. -/
import Derived.Test.YtianfakgojmnpaaLinesOf
import Derived.Test.YtianfakgojmnpaaSums
namespace Go.Proofs.Ytianfakgojmnpaa
open Go.RowKit

theorem cell_lt {w : World} {b o : Nat} {v : Value} (h : w.cell? ⟨b, o, none⟩ = some v) : b < w.heap.size := by
  rcases Nat.lt_or_ge b w.heap.size with h1 | h1
  · exact h1
  · simp [World.cell?, Array.getElem?_eq_none h1] at h
theorem bel_frozen {V w : World} (h : Below V.heap.size V w) {b o : Nat} (hb : b < V.heap.size) (hv : V.frozen? ⟨b, o, none⟩ = false) : w.frozen? ⟨b, o, none⟩ = false := by
  rw [(bcell h).2 b o hb, hv]
theorem set3_cells {w : World} {g : Nat} {x y z u v t : Value} (h0 : w.cell? ⟨g, 0, none⟩ = some u) (h1 : w.cell? ⟨g, 1, none⟩ = some v) (h2 : w.cell? ⟨g, 2, none⟩ = some t) :
    (((w.setCell ⟨g, 0, none⟩ x).setCell ⟨g, 1, none⟩ y).setCell ⟨g, 2, none⟩ z).cell? ⟨g, 0, none⟩ = some x ∧ (((w.setCell ⟨g, 0, none⟩ x).setCell ⟨g, 1, none⟩ y).setCell ⟨g, 2, none⟩ z).cell? ⟨g, 1, none⟩ = some y ∧
      (((w.setCell ⟨g, 0, none⟩ x).setCell ⟨g, 1, none⟩ y).setCell ⟨g, 2, none⟩ z).cell? ⟨g, 2, none⟩ = some z := by
  have e1 : (w.setCell ⟨g, 0, none⟩ x).cell? ⟨g, 1, none⟩ = some v := by rw [World.cell?_setCell_other _ _ _ _ (by simp)]; exact h1
  have e2 : (w.setCell ⟨g, 0, none⟩ x).cell? ⟨g, 2, none⟩ = some t := by rw [World.cell?_setCell_other _ _ _ _ (by simp)]; exact h2
  have e3 : ((w.setCell ⟨g, 0, none⟩ x).setCell ⟨g, 1, none⟩ y).cell? ⟨g, 2, none⟩ = some t := by rw [World.cell?_setCell_other _ _ _ _ (by simp)]; exact e2
  refine ⟨?_, ?_, World.cell?_setCell_same _ _ _ e3⟩
  · rw [World.cell?_setCell_other _ _ _ _ (by simp), World.cell?_setCell_other _ _ _ _ (by simp)]; exact World.cell?_setCell_same _ _ _ h0
  · rw [World.cell?_setCell_other _ _ _ _ (by simp)]; exact World.cell?_setCell_same _ _ _ e1
def broken (ws : List Int) (l : Int × Int × Int) : Bool := decide (ws.getD l.1.toNat 0 + ws.getD l.2.1.toNat 0 < ws.getD l.2.2.toNat 0)
def brokenLine (W H X : Int) (ws : List Int) : Option (Int × Int × Int) := if weightsOk W H X ws = true then (linesOf W H X).find? (broken ws) else none
def isFalling (W H X : Int) (ws : List Int) : Bool := weightsOk W H X ws && (brokenLine W H X ws).isNone
def lineOr (o : Option (Int × Int × Int)) : Int × Int × Int := o.getD (0, 0, 0)
def lineV (l : Int × Int × Int) : Value := .agg #[.int .i64 l.1, .int .i64 l.2.1, .int .i64 l.2.2]

theorem lineAt_in {W H X k : Int} {way : Nat} {l : Int × Int × Int} (hk : hasHole W H X k = true) (h : l ∈ lineAt W H X k way) :
    hasHole W H X l.1 = true ∧ hasHole W H X l.2.1 = true ∧ hasHole W H X l.2.2 = true := by
  unfold lineAt at h
  split at h
  · rename_i h0
    simp only [List.mem_singleton] at h
    subst h
    refine ⟨hk, ?_, stepAt_hole h0⟩
    by_cases h1 : hasHole W H X (stepAt W H X k way) = true
    · exact h1
    · have : stepAt W H X (stepAt W H X k way) way = -1 := by
        generalize stepAt W H X k way = z at *
        unfold stepAt
        rw [if_neg h1]
      omega
  · simp at h
theorem linesOf_in {W H X : Int} {l : Int × Int × Int} (h : l ∈ linesOf W H X) :
    hasHole W H X l.1 = true ∧ hasHole W H X l.2.1 = true ∧ hasHole W H X l.2.2 = true := by
  simp only [linesOf, linesTo, List.mem_flatMap] at h
  obtain ⟨j, hj, h⟩ := h
  simp only [linesFrom, List.mem_flatMap] at h
  obtain ⟨m, _, h⟩ := h
  exact lineAt_in (holes_hole hj).1 h
theorem hole_in {W H X k : Int} (h : hasHole W H X k = true) : 0 ≤ k ∧ k ≤ W * H - 1 := by
  simp only [hasHole, Bool.and_eq_true] at h
  exact inB_iff.1 h.1.2

theorem find_no {α : Type} {p : α → Bool} {l : List α} {k : Nat} {x : α} (h : (l.take k).find? p = none) (hk : l[k]? = some x) (hx : p x = false) : (l.take (k + 1)).find? p = none := by
  rw [List.take_add_one, hk, Option.toList_some, List.find?_append, h]; simp [hx]
theorem find_yes {α : Type} {p : α → Bool} {l : List α} {k : Nat} {x : α} (h : (l.take k).find? p = none) (hk : l[k]? = some x) (hx : p x = true) : l.find? p = some x := by
  have e : l = l.take k ++ l.drop k := (List.take_append_drop k l).symm
  have hd : l.drop k = x :: l.drop (k + 1) := by
    obtain ⟨hlt, hg⟩ := List.getElem?_eq_some_iff.1 hk
    rw [List.drop_eq_getElem_cons hlt, hg]
  rw [e, List.find?_append, h, hd]; simp [hx]

set_option maxHeartbeats 400000 in
theorem impl_BrokenLine_no (W H X : Int) (A : Option Addr) (cap : Nat) (ws : List Int) (w : World) (hA : FAt w A ws) (hn : ws.length ≤ 4294967296) (h1 : weightsOk W H X ws = false) :
    Calls Try.prog 136 #[.agg #[.int .i64 W, .int .i64 H, .int .i64 X], .slice A ws.length cap] w fun e w' => e = .returned (.tuple #[lineV (lineOr (brokenLine W H X ws)), .bool (brokenLine W H X ws).isSome]) ∧ Below w.heap.size w w' := by
  have e : brokenLine W H X ws = none := by simp [brokenLine, h1]
  rw [e]
  go_enter Try.func136, Try.ntmps136
  go_wp2_with fail
  refine (calls_is (impl_WeightsOk _ _ _ _ _ _ _ (hA.below (by (repeat (first | exact Below.refl _ _ | assumption | refine below_step ?_ (by assumption) | refine below_alloc ?_ _ | refine below_drewN ?_ _ | refine Below.drew ?_ | refine Below.setCell ?_ (by first | (simp; done) | omega | (simp; omega)) _)))) hn) h1).mono ?_
  rintro e w1 ⟨rfl, hb1⟩
  obtain ⟨hc1, hf1, hs1⟩ := bcell3 hb1
  have hz1 := hb1.size
  (try simp at hz1)
  go_wp2
  exact bodyPost_ret (v := .tuple #[.agg #[.int .i64 0, .int .i64 0, .int .i64 0], .bool false]) (by simp [results, Try.results136, go_sem, hc1]) rfl ⟨rfl, by (repeat (first | exact Below.refl _ _ | assumption | refine below_step ?_ (by assumption) | refine below_alloc ?_ _ | refine below_drewN ?_ _ | refine Below.drew ?_ | refine Below.setCell ?_ (by first | (simp; done) | omega | (simp; omega)) _))⟩

set_option maxHeartbeats 4000000 in
theorem impl_BrokenLine_yes (W H X : Int) (A : Option Addr) (cap : Nat) (ws : List Int) (w : World) (hA : FAt w A ws) (hn : ws.length ≤ 4294967296) (h1 : weightsOk W H X ws = true) :
    Calls Try.prog 136 #[.agg #[.int .i64 W, .int .i64 H, .int .i64 X], .slice A ws.length cap] w fun e w' => e = .returned (.tuple #[lineV (lineOr (brokenLine W H X ws)), .bool (brokenLine W H X ws).isSome]) ∧ Below w.heap.size w w' := by
  obtain ⟨hb, hl, hok⟩ := weights_len h1
  have hll := linesOf_len W H X
  have hbl : brokenLine W H X ws = (linesOf W H X).find? (broken ws) := by simp [brokenLine, h1]
  rw [hbl]
  clear hbl
  have HL := Lib.hid hl
  clear hl hb
  go_enter Try.func136, Try.ntmps136
  go_wp2_with fail
  generalize hV : (w.alloc (.cells #[.int .i64 W, .int .i64 H, .int .i64 X] 44)).alloc (.cells #[.int .i64 0, .int .i64 0, .int .i64 0] 46) = V
  have v0 : Below w.heap.size w V := by subst hV; (repeat (first | exact Below.refl _ _ | assumption | refine below_step ?_ (by assumption) | refine below_alloc ?_ _ | refine below_drewN ?_ _ | refine Below.drew ?_ | refine Below.setCell ?_ (by first | (simp; done) | omega | (simp; omega)) _))
  have z0 : w.heap.size < V.heap.size := by subst hV; simp <;> omega
  have v0_0 : V.cell? ⟨w.heap.size, 0, none⟩ = some (.int .i64 W) := by subst hV; simp
  have v0_1 : V.cell? ⟨w.heap.size, 1, none⟩ = some (.int .i64 H) := by subst hV; simp
  have v0_2 : V.cell? ⟨w.heap.size, 2, none⟩ = some (.int .i64 X) := by subst hV; simp
  have z1 : w.heap.size + 1 < V.heap.size := by subst hV; simp <;> omega
  have v1_0 : V.cell? ⟨w.heap.size + 1, 0, none⟩ = some (.int .i64 0) := by subst hV; simp
  have v1_1 : V.cell? ⟨w.heap.size + 1, 1, none⟩ = some (.int .i64 0) := by subst hV; simp
  have v1_2 : V.cell? ⟨w.heap.size + 1, 2, none⟩ = some (.int .i64 0) := by subst hV; simp
  have K : Hid (∀ w', Below V.heap.size V w' → Below V.heap.size V w' ∧ w'.cell? ⟨w.heap.size, 0, none⟩ = some (.int .i64 W) ∧ w'.cell? ⟨w.heap.size, 1, none⟩ = some (.int .i64 H) ∧ w'.cell? ⟨w.heap.size, 2, none⟩ = some (.int .i64 X) ∧ w'.cell? ⟨w.heap.size + 1, 0, none⟩ = some (.int .i64 0) ∧ w'.cell? ⟨w.heap.size + 1, 1, none⟩ = some (.int .i64 0) ∧ w'.cell? ⟨w.heap.size + 1, 2, none⟩ = some (.int .i64 0)) := fun w' hB => ⟨hB, bel_cell hB z0 v0_0, bel_cell hB z0 v0_1, bel_cell hB z0 v0_2, bel_cell hB z1 v1_0, bel_cell hB z1 v1_1, bel_cell hB z1 v1_2⟩
  have ZV : Hid (w.heap.size + 1 + 1 = V.heap.size) := by subst hV; unfold Hid; simp
  have f0 : V.frozen? ⟨w.heap.size + 1, 0, none⟩ = false := by subst hV; simp
  have f1 : V.frozen? ⟨w.heap.size + 1, 1, none⟩ = false := by subst hV; simp
  have f2 : V.frozen? ⟨w.heap.size + 1, 2, none⟩ = false := by subst hV; simp
  clear hV
  have hV := Below.refl V.heap.size V
  replace hA := hA.below (show Below w.heap.size w V from v0)
  refine (calls_is (impl_WeightsOk _ _ _ _ _ _ _ hA hn) h1).mono ?_
  rintro e w1 ⟨rfl, hb1⟩
  have d0 := bel_cell hb1 z0 v0_0
  have d1 := bel_cell hb1 z0 v0_1
  have d2 := bel_cell hb1 z0 v0_2
  go_wp2_with fail
  refine (impl_LinesOf _ _ _ _).mono ?_
  rintro e w2 ⟨D, c, rfl, hL, hb2⟩
  have hV2 := below_step hb1 hb2
  replace hA := hA.below hV2
  have hb2' := Below.refl w2.heap.size w2
  have hF := FAt_of_own hL
  go_wp2_with fail
  go_loopw [16] (fun i wr => ∃ k : Nat, k ≤ (linesOf W H X).length ∧ i = .int .i64 k ∧ ((linesOf W H X).take k).find? (broken ws) = none ∧ Below w2.heap.size w2 wr) (fun i _ => (linesOf W H X).length - (intOf i).toNat)
  case atStart => exact ⟨0, Nat.zero_le _, rfl, rfl, Below.refl _ _⟩
  case round =>
    obtain ⟨k, hk, rfl, hno, hbw⟩ := hrel
    have hA' := hA.below (below_step hb2' hbw)
    have hF' := hF.below hbw
    have hV' := below_step hV2 hbw
    have r0 := bel_cell hV' z1 v1_0
    have r1 := bel_cell hV' z1 v1_1
    have r2 := bel_cell hV' z1 v1_2
    have s0 := bel_frozen hV' z1 f0
    have s1 := bel_frozen hV' z1 f1
    have s2 := bel_frozen hV' z1 f2
    have z1' : w.heap.size + 1 < wr.heap.size := Nat.lt_of_lt_of_le z1 hV'.size
    by_cases hlt : k < (linesOf W H X).length
    · obtain ⟨⟨f, o, t⟩, hl⟩ : ∃ l, (linesOf W H X)[k]? = some l := ⟨_, List.getElem?_eq_getElem hlt⟩
      obtain ⟨m1, m2, m3⟩ := linesOf_in (List.mem_of_getElem? hl)
      have q1 := hole_in m1
      have q2 := hole_in m2
      have q3 := hole_in m3
      simp only at q1 q2 q3
      clear m1 m2 m3
      obtain ⟨c1, c2, c3⟩ := lflat_get hl
      obtain ⟨b, off, rfl, l1⟩ := hF' _ _ c1
      obtain ⟨_, _, e2, l2⟩ := hF' _ _ c2
      injection e2 with e2; injection e2 with e3 e4; subst e3 e4
      obtain ⟨_, _, e2, l3⟩ := hF' _ _ c3
      injection e2 with e2; injection e2 with e3 e4; subst e3 e4
      rw [← Nat.add_assoc] at l2 l3
      obtain ⟨x, hx⟩ : ∃ x, ws[f.toNat]? = some x := ⟨_, List.getElem?_eq_getElem (by have := HL.out; omega)⟩
      obtain ⟨y, hy⟩ : ∃ y, ws[o.toNat]? = some y := ⟨_, List.getElem?_eq_getElem (by have := HL.out; omega)⟩
      obtain ⟨z, hz⟩ : ∃ z, ws[t.toNat]? = some z := ⟨_, List.getElem?_eq_getElem (by have := HL.out; omega)⟩
      have ex : ws.getD f.toNat 0 = x := by simp [List.getD, hx]
      have ey : ws.getD o.toNat 0 = y := by simp [List.getD, hy]
      have ez : ws.getD t.toNat 0 = z := by simp [List.getD, hz]
      have bx := okW_get hok hx
      have bx2 := okW_get hok hy
      have bz := okW_get hok hz
      have lf : f < ws.length := by have := HL.out; omega
      have lo : o < ws.length := by have := HL.out; omega
      have lt : t < ws.length := by have := HL.out; omega
      obtain ⟨g, ov, rfl, k1⟩ := hA' _ _ hx
      obtain ⟨_, _, e2, k2⟩ := hA' _ _ hy
      injection e2 with e2; injection e2 with e3 e4; subst e3 e4
      obtain ⟨_, _, e2, k3⟩ := hA' _ _ hz
      injection e2 with e2; injection e2 with e3 e4; subst e3 e4
      have hgs := cell_lt k1
      have hbs := cell_lt l1
      clear hx hy hz c1 c2 c3
      by_cases hbr : x + y < z
      · have hfin := find_yes hno hl (by show decide (ws.getD f.toNat 0 + ws.getD o.toNat 0 < ws.getD t.toNat 0) = _; rw [ex, ey, ez]; simp [hbr])
        have HFIN := Lib.hid hfin
        clear hfin
        go_wp2_with fail
        go_quiet (fail)
        go_wp2
        have hwr := below_step v0 hV'
        exact bodyPost_ret (v := .tuple #[.agg #[.int .i64 f, .int .i64 o, .int .i64 t], .bool true]) (by
          have q3 := set3_cells (w := (wr.alloc (.cells #[.int .i64 f, .int .i64 o, .int .i64 t] 46)).drewN nq) (g := w.heap.size + 1) (x := .int .i64 f) (y := .int .i64 o) (z := .int .i64 t) (u := .int .i64 0) (v := .int .i64 0) (t := .int .i64 0) (by simp; first | done | exact bel_cell (below_one wr _) z1' r0 | exact r0) (by simp; first | done | exact bel_cell (below_one wr _) z1' r1 | exact r1) (by simp; first | done | exact bel_cell (below_one wr _) z1' r2 | exact r2)
          simp [results, Try.results136, go_sem, q3.1, q3.2.1, q3.2.2]) rfl ⟨by rw [HFIN.out]; rfl, by (repeat (first | exact Below.refl _ _ | assumption | refine below_step ?_ (by assumption) | refine below_alloc ?_ _ | refine below_drewN ?_ _ | refine Below.drew ?_ | refine Below.setCell ?_ (by first | (simp; done) | omega | (simp; omega)) _))⟩
      · have hfin := find_no hno hl (by show decide (ws.getD f.toNat 0 + ws.getD o.toNat 0 < ws.getD t.toNat 0) = _; rw [ex, ey, ez]; simp [hbr])
        have HFIN := Lib.hid hfin
        clear hfin
        go_wp2_with fail
        go_quiet (fail)
        go_wp2
        go_roundw
        case rel => exact ⟨k + 1, by omega, by go_num, HFIN.out, by (repeat (first | exact Below.refl _ _ | assumption | refine below_step ?_ (by assumption) | refine below_alloc ?_ _ | refine below_drewN ?_ _ | refine Below.drew ?_ | refine Below.setCell ?_ (by first | (simp; done) | omega | (simp; omega)) _))⟩
        case measure => simp [intOf]; omega
    · obtain rfl : k = (linesOf W H X).length := by omega
      rw [List.take_length] at hno
      have HNO := Lib.hid hno
      clear hno
      go_wp2
      exact bodyPost_ret (v := .tuple #[.agg #[.int .i64 0, .int .i64 0, .int .i64 0], .bool false]) (by simp [results, Try.results136, go_sem, r0, r1, r2]) rfl ⟨by rw [HNO.out]; rfl, by (repeat (first | exact Below.refl _ _ | assumption | refine below_step ?_ (by assumption) | refine below_alloc ?_ _ | refine below_drewN ?_ _ | refine Below.drew ?_ | refine Below.setCell ?_ (by first | (simp; done) | omega | (simp; omega)) _))⟩
theorem impl_BrokenLine (W H X : Int) (A : Option Addr) (cap : Nat) (ws : List Int) (w : World) (hA : FAt w A ws) (hn : ws.length ≤ 4294967296) :
    Calls Try.prog 136 #[.agg #[.int .i64 W, .int .i64 H, .int .i64 X], .slice A ws.length cap] w fun e w' => e = .returned (.tuple #[lineV (lineOr (brokenLine W H X ws)), .bool (brokenLine W H X ws).isSome]) ∧ Below w.heap.size w w' := by
  cases h1 : weightsOk W H X ws
  · exact impl_BrokenLine_no W H X A cap ws w hA hn h1
  · exact impl_BrokenLine_yes W H X A cap ws w hA hn h1
set_option maxHeartbeats 4000000 in
theorem spec_BrokenLine_no (W H X : Int) (A : Option Addr) (cap : Nat) (ws : List Int) (w : World) (hA : FAt w A ws) (hn : ws.length ≤ 4294967296) (h1 : weightsOk W H X ws = false) :
    Calls Try.prog 119 #[.agg #[.int .i64 W, .int .i64 H, .int .i64 X], .slice A ws.length cap] w fun e w' => e = .returned (.tuple #[lineV (lineOr (brokenLine W H X ws)), .bool (brokenLine W H X ws).isSome]) ∧ Below w.heap.size w w' := by
  have e : brokenLine W H X ws = none := by simp [brokenLine, h1]
  rw [e]
  have hll := linesOf_len W H X
  go_enter Try.func119, Try.ntmps119
  go_wp2_with fail
  generalize hV : (w.alloc (.cells #[.int .i64 W, .int .i64 H, .int .i64 X] 44)).alloc (.cells #[.int .i64 0, .int .i64 0, .int .i64 0] 46) = V
  have v0 : Below w.heap.size w V := by subst hV; (repeat (first | exact Below.refl _ _ | assumption | refine below_step ?_ (by assumption) | refine below_alloc ?_ _ | refine below_drewN ?_ _ | refine Below.drew ?_ | refine Below.setCell ?_ (by first | (simp; done) | omega | (simp; omega)) _))
  have z0 : w.heap.size < V.heap.size := by subst hV; simp <;> omega
  have v0_0 : V.cell? ⟨w.heap.size, 0, none⟩ = some (.int .i64 W) := by subst hV; simp
  have v0_1 : V.cell? ⟨w.heap.size, 1, none⟩ = some (.int .i64 H) := by subst hV; simp
  have v0_2 : V.cell? ⟨w.heap.size, 2, none⟩ = some (.int .i64 X) := by subst hV; simp
  have z1 : w.heap.size + 1 < V.heap.size := by subst hV; simp <;> omega
  have v1_0 : V.cell? ⟨w.heap.size + 1, 0, none⟩ = some (.int .i64 0) := by subst hV; simp
  have v1_1 : V.cell? ⟨w.heap.size + 1, 1, none⟩ = some (.int .i64 0) := by subst hV; simp
  have v1_2 : V.cell? ⟨w.heap.size + 1, 2, none⟩ = some (.int .i64 0) := by subst hV; simp
  have K : Hid (∀ w', Below V.heap.size V w' → Below V.heap.size V w' ∧ w'.cell? ⟨w.heap.size, 0, none⟩ = some (.int .i64 W) ∧ w'.cell? ⟨w.heap.size, 1, none⟩ = some (.int .i64 H) ∧ w'.cell? ⟨w.heap.size, 2, none⟩ = some (.int .i64 X) ∧ w'.cell? ⟨w.heap.size + 1, 0, none⟩ = some (.int .i64 0) ∧ w'.cell? ⟨w.heap.size + 1, 1, none⟩ = some (.int .i64 0) ∧ w'.cell? ⟨w.heap.size + 1, 2, none⟩ = some (.int .i64 0)) := fun w' hB => ⟨hB, bel_cell hB z0 v0_0, bel_cell hB z0 v0_1, bel_cell hB z0 v0_2, bel_cell hB z1 v1_0, bel_cell hB z1 v1_1, bel_cell hB z1 v1_2⟩
  have ZV : Hid (w.heap.size + 1 + 1 = V.heap.size) := by subst hV; unfold Hid; simp
  have f0 : V.frozen? ⟨w.heap.size + 1, 0, none⟩ = false := by subst hV; simp
  have f1 : V.frozen? ⟨w.heap.size + 1, 1, none⟩ = false := by subst hV; simp
  have f2 : V.frozen? ⟨w.heap.size + 1, 2, none⟩ = false := by subst hV; simp
  clear hV
  have hV := Below.refl V.heap.size V
  replace hA := hA.below (show Below w.heap.size w V from v0)
  refine (spec_LinesOf _ _ _ _).mono ?_
  rintro e w2 ⟨D, c, rfl, hL, hV2⟩
  replace hA := hA.below hV2
  have hb2' := Below.refl w2.heap.size w2
  have hF := FAt_of_own hL
  have d0 := bel_cell hV2 z0 v0_0
  have d1 := bel_cell hV2 z0 v0_1
  have d2 := bel_cell hV2 z0 v0_2
  have r0 := bel_cell hV2 z1 v1_0
  have r1 := bel_cell hV2 z1 v1_1
  have r2 := bel_cell hV2 z1 v1_2
  have hw2 := below_step v0 hV2
  go_wp2_with fail
  go_loopw [7] (fun i wr => i = .int .i64 0 ∧ wr = w2) (fun i _ => 0)
  case atStart => exact ⟨rfl, rfl⟩
  case round =>
    obtain ⟨rfl, rfl⟩ := hrel
    by_cases hlt : 0 < (linesOf W H X).length
    · go_wp2_with fail
      refine (calls_is (spec_WeightsOk _ _ _ _ _ _ _ hA hn) h1).mono ?_
      rintro e w3 ⟨rfl, hb3⟩
      have r0 := bel_cell hb3 (cell_lt r0) r0
      have r1 := bel_cell hb3 (cell_lt r1) r1
      have r2 := bel_cell hb3 (cell_lt r2) r2
      have hV3 := below_step hV2 hb3
      have s0 := bel_frozen hV3 z1 f0
      have s1 := bel_frozen hV3 z1 f1
      have s2 := bel_frozen hV3 z1 f2
      have q3 := set3_cells (x := .int .i64 0) (y := .int .i64 0) (z := .int .i64 0) r0 r1 r2
      go_wp2
      exact bodyPost_ret (v := .tuple #[.agg #[.int .i64 0, .int .i64 0, .int .i64 0], .bool false]) (by simp [results, Try.results119, go_sem, q3.1, q3.2.1, q3.2.2]) rfl ⟨rfl, by (repeat (first | exact Below.refl _ _ | assumption | refine below_step ?_ (by assumption) | refine below_alloc ?_ _ | refine below_drewN ?_ _ | refine Below.drew ?_ | refine Below.setCell ?_ (by first | (simp; done) | omega | (simp; omega)) _))⟩
    · have s0 := bel_frozen hV2 z1 f0
      have s1 := bel_frozen hV2 z1 f1
      have s2 := bel_frozen hV2 z1 f2
      have q3 := set3_cells (x := .int .i64 0) (y := .int .i64 0) (z := .int .i64 0) r0 r1 r2
      go_wp2
      exact bodyPost_ret (v := .tuple #[.agg #[.int .i64 0, .int .i64 0, .int .i64 0], .bool false]) (by simp [results, Try.results119, go_sem, q3.1, q3.2.1, q3.2.2]) rfl ⟨rfl, by (repeat (first | exact Below.refl _ _ | assumption | refine below_step ?_ (by assumption) | refine below_alloc ?_ _ | refine below_drewN ?_ _ | refine Below.drew ?_ | refine Below.setCell ?_ (by first | (simp; done) | omega | (simp; omega)) _))⟩

set_option maxHeartbeats 4000000 in
theorem spec_BrokenLine_yes (W H X : Int) (A : Option Addr) (cap : Nat) (ws : List Int) (w : World) (hA : FAt w A ws) (hn : ws.length ≤ 4294967296) (h1 : weightsOk W H X ws = true) :
    Calls Try.prog 119 #[.agg #[.int .i64 W, .int .i64 H, .int .i64 X], .slice A ws.length cap] w fun e w' => e = .returned (.tuple #[lineV (lineOr (brokenLine W H X ws)), .bool (brokenLine W H X ws).isSome]) ∧ Below w.heap.size w w' := by
  obtain ⟨hb, hl, hok⟩ := weights_len h1
  have hll := linesOf_len W H X
  have hbl : brokenLine W H X ws = (linesOf W H X).find? (broken ws) := by simp [brokenLine, h1]
  rw [hbl]
  clear hbl
  have HL := Lib.hid hl
  clear hl hb
  go_enter Try.func119, Try.ntmps119
  go_wp2_with fail
  generalize hV : (w.alloc (.cells #[.int .i64 W, .int .i64 H, .int .i64 X] 44)).alloc (.cells #[.int .i64 0, .int .i64 0, .int .i64 0] 46) = V
  have v0 : Below w.heap.size w V := by subst hV; (repeat (first | exact Below.refl _ _ | assumption | refine below_step ?_ (by assumption) | refine below_alloc ?_ _ | refine below_drewN ?_ _ | refine Below.drew ?_ | refine Below.setCell ?_ (by first | (simp; done) | omega | (simp; omega)) _))
  have z0 : w.heap.size < V.heap.size := by subst hV; simp <;> omega
  have v0_0 : V.cell? ⟨w.heap.size, 0, none⟩ = some (.int .i64 W) := by subst hV; simp
  have v0_1 : V.cell? ⟨w.heap.size, 1, none⟩ = some (.int .i64 H) := by subst hV; simp
  have v0_2 : V.cell? ⟨w.heap.size, 2, none⟩ = some (.int .i64 X) := by subst hV; simp
  have z1 : w.heap.size + 1 < V.heap.size := by subst hV; simp <;> omega
  have v1_0 : V.cell? ⟨w.heap.size + 1, 0, none⟩ = some (.int .i64 0) := by subst hV; simp
  have v1_1 : V.cell? ⟨w.heap.size + 1, 1, none⟩ = some (.int .i64 0) := by subst hV; simp
  have v1_2 : V.cell? ⟨w.heap.size + 1, 2, none⟩ = some (.int .i64 0) := by subst hV; simp
  have K : Hid (∀ w', Below V.heap.size V w' → Below V.heap.size V w' ∧ w'.cell? ⟨w.heap.size, 0, none⟩ = some (.int .i64 W) ∧ w'.cell? ⟨w.heap.size, 1, none⟩ = some (.int .i64 H) ∧ w'.cell? ⟨w.heap.size, 2, none⟩ = some (.int .i64 X) ∧ w'.cell? ⟨w.heap.size + 1, 0, none⟩ = some (.int .i64 0) ∧ w'.cell? ⟨w.heap.size + 1, 1, none⟩ = some (.int .i64 0) ∧ w'.cell? ⟨w.heap.size + 1, 2, none⟩ = some (.int .i64 0)) := fun w' hB => ⟨hB, bel_cell hB z0 v0_0, bel_cell hB z0 v0_1, bel_cell hB z0 v0_2, bel_cell hB z1 v1_0, bel_cell hB z1 v1_1, bel_cell hB z1 v1_2⟩
  have ZV : Hid (w.heap.size + 1 + 1 = V.heap.size) := by subst hV; unfold Hid; simp
  have f0 : V.frozen? ⟨w.heap.size + 1, 0, none⟩ = false := by subst hV; simp
  have f1 : V.frozen? ⟨w.heap.size + 1, 1, none⟩ = false := by subst hV; simp
  have f2 : V.frozen? ⟨w.heap.size + 1, 2, none⟩ = false := by subst hV; simp
  clear hV
  have hV := Below.refl V.heap.size V
  replace hA := hA.below (show Below w.heap.size w V from v0)
  refine (spec_LinesOf _ _ _ _).mono ?_
  rintro e w2 ⟨D, c, rfl, hL, hV2⟩
  replace hA := hA.below hV2
  have hb2' := Below.refl w2.heap.size w2
  have hF := FAt_of_own hL
  have d0 := bel_cell hV2 z0 v0_0
  have d1 := bel_cell hV2 z0 v0_1
  have d2 := bel_cell hV2 z0 v0_2
  have r0 := bel_cell hV2 z1 v1_0
  have r1 := bel_cell hV2 z1 v1_1
  have r2 := bel_cell hV2 z1 v1_2
  have hw2 := below_step v0 hV2
  go_wp2_with fail
  go_loopw [7] (fun i wr => ∃ k : Nat, k ≤ (linesOf W H X).length ∧ i = .int .i64 k ∧ ((linesOf W H X).take k).find? (broken ws) = none ∧ Below w2.heap.size w2 wr) (fun i _ => (linesOf W H X).length - (intOf i).toNat)
  case atStart => exact ⟨0, Nat.zero_le _, rfl, rfl, Below.refl _ _⟩
  case round =>
    clear d0 d1 d2 r0 r1 r2
    obtain ⟨k, hk, rfl, hno, hbw⟩ := hrel
    have hX := below_step hV2 hbw
    have d0 := bel_cell hX z0 v0_0
    have d1 := bel_cell hX z0 v0_1
    have d2 := bel_cell hX z0 v0_2
    by_cases hlt : k < (linesOf W H X).length
    · go_wp2_with fail
      refine (calls_is (spec_WeightsOk _ _ _ _ _ _ _ (hA.below hbw) hn) h1).mono ?_
      rintro e w3 ⟨rfl, hb3⟩
      replace hbw := below_step hbw hb3
      clear d0 d1 d2 hX
      have hA' := hA.below (below_step hb2' hbw)
      have hF' := hF.below hbw
      have hV' := below_step hV2 hbw
      have r0 := bel_cell hV' z1 v1_0
      have r1 := bel_cell hV' z1 v1_1
      have r2 := bel_cell hV' z1 v1_2
      have s0 := bel_frozen hV' z1 f0
      have s1 := bel_frozen hV' z1 f1
      have s2 := bel_frozen hV' z1 f2
      have z1' : w.heap.size + 1 < w3.heap.size := Nat.lt_of_lt_of_le z1 hV'.size
      obtain ⟨⟨f, o, t⟩, hl⟩ : ∃ l, (linesOf W H X)[k]? = some l := ⟨_, List.getElem?_eq_getElem hlt⟩
      obtain ⟨m1, m2, m3⟩ := linesOf_in (List.mem_of_getElem? hl)
      have q1 := hole_in m1
      have q2 := hole_in m2
      have q3 := hole_in m3
      simp only at q1 q2 q3
      clear m1 m2 m3
      obtain ⟨c1, c2, c3⟩ := lflat_get hl
      obtain ⟨b, off, rfl, l1⟩ := hF' _ _ c1
      obtain ⟨_, _, e2, l2⟩ := hF' _ _ c2
      injection e2 with e2; injection e2 with e3 e4; subst e3 e4
      obtain ⟨_, _, e2, l3⟩ := hF' _ _ c3
      injection e2 with e2; injection e2 with e3 e4; subst e3 e4
      rw [← Nat.add_assoc] at l2 l3
      obtain ⟨x, hx⟩ : ∃ x, ws[f.toNat]? = some x := ⟨_, List.getElem?_eq_getElem (by have := HL.out; omega)⟩
      obtain ⟨y, hy⟩ : ∃ y, ws[o.toNat]? = some y := ⟨_, List.getElem?_eq_getElem (by have := HL.out; omega)⟩
      obtain ⟨z, hz⟩ : ∃ z, ws[t.toNat]? = some z := ⟨_, List.getElem?_eq_getElem (by have := HL.out; omega)⟩
      have ex : ws.getD f.toNat 0 = x := by simp [List.getD, hx]
      have ey : ws.getD o.toNat 0 = y := by simp [List.getD, hy]
      have ez : ws.getD t.toNat 0 = z := by simp [List.getD, hz]
      have bx := okW_get hok hx
      have bx2 := okW_get hok hy
      have bz := okW_get hok hz
      have lf : f < ws.length := by have := HL.out; omega
      have lo : o < ws.length := by have := HL.out; omega
      have lt : t < ws.length := by have := HL.out; omega
      obtain ⟨g, ov, rfl, k1⟩ := hA' _ _ hx
      obtain ⟨_, _, e2, k2⟩ := hA' _ _ hy
      injection e2 with e2; injection e2 with e3 e4; subst e3 e4
      obtain ⟨_, _, e2, k3⟩ := hA' _ _ hz
      injection e2 with e2; injection e2 with e3 e4; subst e3 e4
      have hgs := cell_lt k1
      have hbs := cell_lt l1
      clear hx hy hz c1 c2 c3
      by_cases hbr : x + y < z
      · have hfin := find_yes hno hl (by show decide (ws.getD f.toNat 0 + ws.getD o.toNat 0 < ws.getD t.toNat 0) = _; rw [ex, ey, ez]; simp [hbr])
        have HFIN := Lib.hid hfin
        clear hfin
        go_wp2_with fail
        go_quiet (fail)
        go_wp2
        have hwr := below_step v0 hV'
        exact bodyPost_ret (v := .tuple #[.agg #[.int .i64 f, .int .i64 o, .int .i64 t], .bool true]) (by
          have q3 := set3_cells (w := w3.drewN nq) (g := w.heap.size + 1) (x := .int .i64 f) (y := .int .i64 o) (z := .int .i64 t) (u := .int .i64 0) (v := .int .i64 0) (t := .int .i64 0) (by simp; first | done | exact bel_cell (below_one wr _) z1' r0 | exact r0) (by simp; first | done | exact bel_cell (below_one wr _) z1' r1 | exact r1) (by simp; first | done | exact bel_cell (below_one wr _) z1' r2 | exact r2)
          simp [results, Try.results119, go_sem, q3.1, q3.2.1, q3.2.2]) rfl ⟨by rw [HFIN.out]; rfl, by (repeat (first | exact Below.refl _ _ | assumption | refine below_step ?_ (by assumption) | refine below_alloc ?_ _ | refine below_drewN ?_ _ | refine Below.drew ?_ | refine Below.setCell ?_ (by first | (simp; done) | omega | (simp; omega)) _))⟩
      · have hfin := find_no hno hl (by show decide (ws.getD f.toNat 0 + ws.getD o.toNat 0 < ws.getD t.toNat 0) = _; rw [ex, ey, ez]; simp [hbr])
        have HFIN := Lib.hid hfin
        clear hfin
        go_wp2_with fail
        go_quiet (fail)
        go_wp2
        go_roundw
        case rel => exact ⟨k + 1, by omega, by go_num, HFIN.out, by (repeat (first | exact Below.refl _ _ | assumption | refine below_step ?_ (by assumption) | refine below_alloc ?_ _ | refine below_drewN ?_ _ | refine Below.drew ?_ | refine Below.setCell ?_ (by first | (simp; done) | omega | (simp; omega)) _))⟩
        case measure => simp [intOf]; omega
    · obtain rfl : k = (linesOf W H X).length := by omega
      rw [List.take_length] at hno
      have HNO := Lib.hid hno
      clear hno
      have r0 := bel_cell hX z1 v1_0
      have r1 := bel_cell hX z1 v1_1
      have r2 := bel_cell hX z1 v1_2
      have s0 := bel_frozen hX z1 f0
      have s1 := bel_frozen hX z1 f1
      have s2 := bel_frozen hX z1 f2
      have q3 := set3_cells (x := .int .i64 0) (y := .int .i64 0) (z := .int .i64 0) r0 r1 r2
      have hwX := below_step v0 hX
      go_wp2
      exact bodyPost_ret (v := .tuple #[.agg #[.int .i64 0, .int .i64 0, .int .i64 0], .bool false]) (by simp [results, Try.results119, go_sem, q3.1, q3.2.1, q3.2.2]) rfl ⟨by rw [HNO.out]; rfl, by (repeat (first | exact Below.refl _ _ | assumption | refine below_step ?_ (by assumption) | refine below_alloc ?_ _ | refine below_drewN ?_ _ | refine Below.drew ?_ | refine Below.setCell ?_ (by first | (simp; done) | omega | (simp; omega)) _))⟩
theorem spec_BrokenLine (W H X : Int) (A : Option Addr) (cap : Nat) (ws : List Int) (w : World) (hA : FAt w A ws) (hn : ws.length ≤ 4294967296) :
    Calls Try.prog 119 #[.agg #[.int .i64 W, .int .i64 H, .int .i64 X], .slice A ws.length cap] w fun e w' => e = .returned (.tuple #[lineV (lineOr (brokenLine W H X ws)), .bool (brokenLine W H X ws).isSome]) ∧ Below w.heap.size w w' := by
  cases h1 : weightsOk W H X ws
  · exact spec_BrokenLine_no W H X A cap ws w hA hn h1
  · exact spec_BrokenLine_yes W H X A cap ws w hA hn h1
end Go.Proofs.Ytianfakgojmnpaa
