/- Golden sums: contracts. -/
import Derived.Test.YtianfakgojmnpaaSums
import Derived.Test.YtianfakgojmnpaaBoard
import Derived.Test.YtianfakgojmnpaaGoldD
import Derived.Test.YtianfakgojmnpaaGoldX
import Derived.Test.YtianfakgojmnpaaFalling
namespace Go.Proofs.Ytianfakgojmnpaa
open Go.RowKit

def gAt (W H X t k : Int) : Int × Int := (powA (stepsBetween W H X t k), powB (stepsBetween W H X t k))
def gstep (W H X t : Int) (s : Int × Int) (k : Nat) : Int × Int := (addA s.1 s.2 (gAt W H X t k).1 (gAt W H X t k).2, addB s.1 s.2 (gAt W H X t k).1 (gAt W H X t k).2)
def gfold (W H X t : Int) (ks : List Nat) : Int × Int := ks.foldl (gstep W H X t) (0, 0)
theorem gfold_snoc (W H X t : Int) (ks : List Nat) (k : Nat) : gfold W H X t (ks ++ [k]) = gstep W H X t (gfold W H X t ks) k := by simp [gfold]
theorem top_cell {W : World} {cs : Array Value} {ty : TypeId} {g j : Nat} {v : Value} (hg : g = W.heap.size) (h : cs[j]? = some v) : (W.alloc (.cells cs ty)).cell? ⟨g, j, none⟩ = some v := by
  subst hg; simp [h]
theorem top_frozen {W : World} {cs : Array Value} {ty : TypeId} {g j : Nat} (hg : g = W.heap.size) : (W.alloc (.cells cs ty)).frozen? ⟨g, j, none⟩ = false := by
  subst hg; simp
theorem own_set {w : World} {lo e s n g j : Nat} {v u : Value} {c : List Value} (h : w.ownsRow lo e s v n c) (hg : g < lo) : (w.setCell ⟨g, j, none⟩ u).ownsRow lo e s v n c := by
  refine h.kept (row := some g) ⟨rfl, rfl, rfl, by simp, fun k _ hk => heap_setCell_other w ⟨g, j, none⟩ k u (fun e => hk (by simp [e]))⟩ ?_
  cases hv : v.ownBlock with
  | none => exact .inl rfl
  | some k => 
    refine .inr fun e => ?_
    have := (h.lt k hv).1
    injection e with e
    omega
def goldSum (W H X t p : Int) : Int × Int := if positionOk W H X p = true ∧ hasHole W H X t = true then gfold W H X t (bitsTo p.toNat 49) else (0, 0)
theorem holes_bits {W H X p : Int} (hp : positionOk W H X p = true) : (holes W H X).filter (fun k => p.toNat.testBit k) = bitsTo p.toNat 49 := by
  have F := positionOk_facts hp
  rw [bits_board F.b F.p0 F.le]
  unfold holes; rw [if_pos F.b]
  unfold bitsTo
  rw [List.filter_filter]
  apply List.filter_congr
  intro k _
  cases h : p.toNat.testBit k
  · rfl
  · have := congrArg (·.testBit k) F.sub
    simp only [Nat.testBit_and, h, Bool.true_and] at this
    simp [this]
set_option maxHeartbeats 2000000 in
theorem impl_GoldSum_no1 (W H X t p : Int) (w : World) (hp : p ≤ 9223372036854775807) (h1 : positionOk W H X p = false) :
    Calls Try.prog 47 #[.agg #[.int .i64 W, .int .i64 H, .int .i64 X], .int .i64 t, .int .i64 p] w fun e w' => e = .returned (.agg #[.int .i64 0, .int .i64 0]) ∧ Below w.heap.size w w' := by
  go_enter Try.func47, Try.ntmps47
  go_wp2_with fail
  generalize hV : ((w.alloc (.cells #[.int .i64 W, .int .i64 H, .int .i64 X] 44)).alloc (.cells #[.int .i64 0, .int .i64 0] 31)).alloc (.cells #[.int .i64 0, .int .i64 0] 31) = V
  have v0 : Below w.heap.size w V := by subst hV; (repeat (first | exact Below.refl _ _ | assumption | refine below_step ?_ (by assumption) | refine below_alloc ?_ _ | refine below_drewN ?_ _ | refine Below.drew ?_ | refine Below.setCell ?_ (by first | (simp; done) | omega | (simp; omega)) _))
  have z0 : w.heap.size < V.heap.size := by subst hV; simp <;> omega
  have v0_0 : V.cell? ⟨w.heap.size, 0, none⟩ = some (.int .i64 W) := bel_cell (V := (w.alloc (.cells #[.int .i64 W, .int .i64 H, .int .i64 X] 44))) (by subst hV; exact below_alloc (below_alloc (Below.refl _ _) _) _) (by simp <;> omega) (top_cell (by simp) rfl)
  have v0_1 : V.cell? ⟨w.heap.size, 1, none⟩ = some (.int .i64 H) := bel_cell (V := (w.alloc (.cells #[.int .i64 W, .int .i64 H, .int .i64 X] 44))) (by subst hV; exact below_alloc (below_alloc (Below.refl _ _) _) _) (by simp <;> omega) (top_cell (by simp) rfl)
  have v0_2 : V.cell? ⟨w.heap.size, 2, none⟩ = some (.int .i64 X) := bel_cell (V := (w.alloc (.cells #[.int .i64 W, .int .i64 H, .int .i64 X] 44))) (by subst hV; exact below_alloc (below_alloc (Below.refl _ _) _) _) (by simp <;> omega) (top_cell (by simp) rfl)
  have z1 : w.heap.size + 1 < V.heap.size := by subst hV; simp <;> omega
  have v1_0 : V.cell? ⟨w.heap.size + 1, 0, none⟩ = some (.int .i64 0) := bel_cell (V := ((w.alloc (.cells #[.int .i64 W, .int .i64 H, .int .i64 X] 44)).alloc (.cells #[.int .i64 0, .int .i64 0] 31))) (by subst hV; exact below_alloc (Below.refl _ _) _) (by simp <;> omega) (top_cell (by simp) rfl)
  have v1_1 : V.cell? ⟨w.heap.size + 1, 1, none⟩ = some (.int .i64 0) := bel_cell (V := ((w.alloc (.cells #[.int .i64 W, .int .i64 H, .int .i64 X] 44)).alloc (.cells #[.int .i64 0, .int .i64 0] 31))) (by subst hV; exact below_alloc (Below.refl _ _) _) (by simp <;> omega) (top_cell (by simp) rfl)
  have z2 : w.heap.size + 1 + 1 < V.heap.size := by subst hV; simp <;> omega
  have v2_0 : V.cell? ⟨w.heap.size + 1 + 1, 0, none⟩ = some (.int .i64 0) := bel_cell (V := (((w.alloc (.cells #[.int .i64 W, .int .i64 H, .int .i64 X] 44)).alloc (.cells #[.int .i64 0, .int .i64 0] 31)).alloc (.cells #[.int .i64 0, .int .i64 0] 31))) (by subst hV; exact Below.refl _ _) (by simp <;> omega) (top_cell (by simp) rfl)
  have v2_1 : V.cell? ⟨w.heap.size + 1 + 1, 1, none⟩ = some (.int .i64 0) := bel_cell (V := (((w.alloc (.cells #[.int .i64 W, .int .i64 H, .int .i64 X] 44)).alloc (.cells #[.int .i64 0, .int .i64 0] 31)).alloc (.cells #[.int .i64 0, .int .i64 0] 31))) (by subst hV; exact Below.refl _ _) (by simp <;> omega) (top_cell (by simp) rfl)
  have K : Hid (∀ w', Below V.heap.size V w' → Below V.heap.size V w' ∧ w'.cell? ⟨w.heap.size, 0, none⟩ = some (.int .i64 W) ∧ w'.cell? ⟨w.heap.size, 1, none⟩ = some (.int .i64 H) ∧ w'.cell? ⟨w.heap.size, 2, none⟩ = some (.int .i64 X) ∧ w'.cell? ⟨w.heap.size + 1, 0, none⟩ = some (.int .i64 0) ∧ w'.cell? ⟨w.heap.size + 1, 1, none⟩ = some (.int .i64 0) ∧ w'.cell? ⟨w.heap.size + 1 + 1, 0, none⟩ = some (.int .i64 0) ∧ w'.cell? ⟨w.heap.size + 1 + 1, 1, none⟩ = some (.int .i64 0)) := fun w' hB => ⟨hB, bel_cell hB z0 v0_0, bel_cell hB z0 v0_1, bel_cell hB z0 v0_2, bel_cell hB z1 v1_0, bel_cell hB z1 v1_1, bel_cell hB z2 v2_0, bel_cell hB z2 v2_1⟩
  have ZV : Hid (w.heap.size + 1 + 1 + 1 = V.heap.size) := by subst hV; unfold Hid; simp
  have f10 : V.frozen? ⟨w.heap.size + 1, 0, none⟩ = false := bel_frozen (V := ((w.alloc (.cells #[.int .i64 W, .int .i64 H, .int .i64 X] 44)).alloc (.cells #[.int .i64 0, .int .i64 0] 31))) (by subst hV; exact below_alloc (Below.refl _ _) _) (by simp <;> omega) (top_frozen (by simp))
  have f11 : V.frozen? ⟨w.heap.size + 1, 1, none⟩ = false := bel_frozen (V := ((w.alloc (.cells #[.int .i64 W, .int .i64 H, .int .i64 X] 44)).alloc (.cells #[.int .i64 0, .int .i64 0] 31))) (by subst hV; exact below_alloc (Below.refl _ _) _) (by simp <;> omega) (top_frozen (by simp))
  have f20 : V.frozen? ⟨w.heap.size + 1 + 1, 0, none⟩ = false := bel_frozen (V := (((w.alloc (.cells #[.int .i64 W, .int .i64 H, .int .i64 X] 44)).alloc (.cells #[.int .i64 0, .int .i64 0] 31)).alloc (.cells #[.int .i64 0, .int .i64 0] 31))) (by subst hV; exact Below.refl _ _) (by simp <;> omega) (top_frozen (by simp))
  have f21 : V.frozen? ⟨w.heap.size + 1 + 1, 1, none⟩ = false := bel_frozen (V := (((w.alloc (.cells #[.int .i64 W, .int .i64 H, .int .i64 X] 44)).alloc (.cells #[.int .i64 0, .int .i64 0] 31)).alloc (.cells #[.int .i64 0, .int .i64 0] 31))) (by subst hV; exact Below.refl _ _) (by simp <;> omega) (top_frozen (by simp))
  clear hV
  refine (calls_is (impl_PositionOk _ _ _ _ _ (by omega)) h1).mono ?_
  rintro e w1 ⟨rfl, hV⟩
  have d0 := bel_cell hV z0 v0_0
  have d1 := bel_cell hV z0 v0_1
  have d2 := bel_cell hV z0 v0_2
  have d3 := bel_cell hV z1 v1_0
  have d4 := bel_cell hV z1 v1_1
  have d5 := bel_cell hV z2 v2_0
  have d6 := bel_cell hV z2 v2_1
  have e3 := bel_frozen hV z1 f10
  have e4 := bel_frozen hV z1 f11
  have e5 := bel_frozen hV z2 f20
  have e6 := bel_frozen hV z2 f21
  have hw := below_step v0 hV
  have q3 := set2_cells (x := .int .i64 0) (y := .int .i64 0) d3 d4
  go_wp2
  exact bodyPost_ret (v := .agg #[.int .i64 0, .int .i64 0]) (by simp [results, Try.results47, go_sem, q3.1, q3.2]) rfl ⟨rfl, by (repeat (first | exact Below.refl _ _ | assumption | refine below_step ?_ (by assumption) | refine below_alloc ?_ _ | refine below_drewN ?_ _ | refine Below.drew ?_ | refine Below.setCell ?_ (by first | (simp; done) | omega | (simp; omega)) _))⟩
set_option maxHeartbeats 2000000 in
theorem impl_GoldSum_no2 (W H X t p : Int) (w : World) (hp : p ≤ 9223372036854775807) (h1 : positionOk W H X p = true) (h2 : hasHole W H X t = false) :
    Calls Try.prog 47 #[.agg #[.int .i64 W, .int .i64 H, .int .i64 X], .int .i64 t, .int .i64 p] w fun e w' => e = .returned (.agg #[.int .i64 0, .int .i64 0]) ∧ Below w.heap.size w w' := by
  go_enter Try.func47, Try.ntmps47
  go_wp2_with fail
  generalize hV : ((w.alloc (.cells #[.int .i64 W, .int .i64 H, .int .i64 X] 44)).alloc (.cells #[.int .i64 0, .int .i64 0] 31)).alloc (.cells #[.int .i64 0, .int .i64 0] 31) = V
  have v0 : Below w.heap.size w V := by subst hV; (repeat (first | exact Below.refl _ _ | assumption | refine below_step ?_ (by assumption) | refine below_alloc ?_ _ | refine below_drewN ?_ _ | refine Below.drew ?_ | refine Below.setCell ?_ (by first | (simp; done) | omega | (simp; omega)) _))
  have z0 : w.heap.size < V.heap.size := by subst hV; simp <;> omega
  have v0_0 : V.cell? ⟨w.heap.size, 0, none⟩ = some (.int .i64 W) := bel_cell (V := (w.alloc (.cells #[.int .i64 W, .int .i64 H, .int .i64 X] 44))) (by subst hV; exact below_alloc (below_alloc (Below.refl _ _) _) _) (by simp <;> omega) (top_cell (by simp) rfl)
  have v0_1 : V.cell? ⟨w.heap.size, 1, none⟩ = some (.int .i64 H) := bel_cell (V := (w.alloc (.cells #[.int .i64 W, .int .i64 H, .int .i64 X] 44))) (by subst hV; exact below_alloc (below_alloc (Below.refl _ _) _) _) (by simp <;> omega) (top_cell (by simp) rfl)
  have v0_2 : V.cell? ⟨w.heap.size, 2, none⟩ = some (.int .i64 X) := bel_cell (V := (w.alloc (.cells #[.int .i64 W, .int .i64 H, .int .i64 X] 44))) (by subst hV; exact below_alloc (below_alloc (Below.refl _ _) _) _) (by simp <;> omega) (top_cell (by simp) rfl)
  have z1 : w.heap.size + 1 < V.heap.size := by subst hV; simp <;> omega
  have v1_0 : V.cell? ⟨w.heap.size + 1, 0, none⟩ = some (.int .i64 0) := bel_cell (V := ((w.alloc (.cells #[.int .i64 W, .int .i64 H, .int .i64 X] 44)).alloc (.cells #[.int .i64 0, .int .i64 0] 31))) (by subst hV; exact below_alloc (Below.refl _ _) _) (by simp <;> omega) (top_cell (by simp) rfl)
  have v1_1 : V.cell? ⟨w.heap.size + 1, 1, none⟩ = some (.int .i64 0) := bel_cell (V := ((w.alloc (.cells #[.int .i64 W, .int .i64 H, .int .i64 X] 44)).alloc (.cells #[.int .i64 0, .int .i64 0] 31))) (by subst hV; exact below_alloc (Below.refl _ _) _) (by simp <;> omega) (top_cell (by simp) rfl)
  have z2 : w.heap.size + 1 + 1 < V.heap.size := by subst hV; simp <;> omega
  have v2_0 : V.cell? ⟨w.heap.size + 1 + 1, 0, none⟩ = some (.int .i64 0) := bel_cell (V := (((w.alloc (.cells #[.int .i64 W, .int .i64 H, .int .i64 X] 44)).alloc (.cells #[.int .i64 0, .int .i64 0] 31)).alloc (.cells #[.int .i64 0, .int .i64 0] 31))) (by subst hV; exact Below.refl _ _) (by simp <;> omega) (top_cell (by simp) rfl)
  have v2_1 : V.cell? ⟨w.heap.size + 1 + 1, 1, none⟩ = some (.int .i64 0) := bel_cell (V := (((w.alloc (.cells #[.int .i64 W, .int .i64 H, .int .i64 X] 44)).alloc (.cells #[.int .i64 0, .int .i64 0] 31)).alloc (.cells #[.int .i64 0, .int .i64 0] 31))) (by subst hV; exact Below.refl _ _) (by simp <;> omega) (top_cell (by simp) rfl)
  have K : Hid (∀ w', Below V.heap.size V w' → Below V.heap.size V w' ∧ w'.cell? ⟨w.heap.size, 0, none⟩ = some (.int .i64 W) ∧ w'.cell? ⟨w.heap.size, 1, none⟩ = some (.int .i64 H) ∧ w'.cell? ⟨w.heap.size, 2, none⟩ = some (.int .i64 X) ∧ w'.cell? ⟨w.heap.size + 1, 0, none⟩ = some (.int .i64 0) ∧ w'.cell? ⟨w.heap.size + 1, 1, none⟩ = some (.int .i64 0) ∧ w'.cell? ⟨w.heap.size + 1 + 1, 0, none⟩ = some (.int .i64 0) ∧ w'.cell? ⟨w.heap.size + 1 + 1, 1, none⟩ = some (.int .i64 0)) := fun w' hB => ⟨hB, bel_cell hB z0 v0_0, bel_cell hB z0 v0_1, bel_cell hB z0 v0_2, bel_cell hB z1 v1_0, bel_cell hB z1 v1_1, bel_cell hB z2 v2_0, bel_cell hB z2 v2_1⟩
  have ZV : Hid (w.heap.size + 1 + 1 + 1 = V.heap.size) := by subst hV; unfold Hid; simp
  have f10 : V.frozen? ⟨w.heap.size + 1, 0, none⟩ = false := bel_frozen (V := ((w.alloc (.cells #[.int .i64 W, .int .i64 H, .int .i64 X] 44)).alloc (.cells #[.int .i64 0, .int .i64 0] 31))) (by subst hV; exact below_alloc (Below.refl _ _) _) (by simp <;> omega) (top_frozen (by simp))
  have f11 : V.frozen? ⟨w.heap.size + 1, 1, none⟩ = false := bel_frozen (V := ((w.alloc (.cells #[.int .i64 W, .int .i64 H, .int .i64 X] 44)).alloc (.cells #[.int .i64 0, .int .i64 0] 31))) (by subst hV; exact below_alloc (Below.refl _ _) _) (by simp <;> omega) (top_frozen (by simp))
  have f20 : V.frozen? ⟨w.heap.size + 1 + 1, 0, none⟩ = false := bel_frozen (V := (((w.alloc (.cells #[.int .i64 W, .int .i64 H, .int .i64 X] 44)).alloc (.cells #[.int .i64 0, .int .i64 0] 31)).alloc (.cells #[.int .i64 0, .int .i64 0] 31))) (by subst hV; exact Below.refl _ _) (by simp <;> omega) (top_frozen (by simp))
  have f21 : V.frozen? ⟨w.heap.size + 1 + 1, 1, none⟩ = false := bel_frozen (V := (((w.alloc (.cells #[.int .i64 W, .int .i64 H, .int .i64 X] 44)).alloc (.cells #[.int .i64 0, .int .i64 0] 31)).alloc (.cells #[.int .i64 0, .int .i64 0] 31))) (by subst hV; exact Below.refl _ _) (by simp <;> omega) (top_frozen (by simp))
  clear hV
  refine (calls_is (impl_PositionOk _ _ _ _ _ (by omega)) h1).mono ?_
  rintro e w1 ⟨rfl, hV⟩
  have d0 := bel_cell hV z0 v0_0
  have d1 := bel_cell hV z0 v0_1
  have d2 := bel_cell hV z0 v0_2
  have d3 := bel_cell hV z1 v1_0
  have d4 := bel_cell hV z1 v1_1
  have d5 := bel_cell hV z2 v2_0
  have d6 := bel_cell hV z2 v2_1
  have e3 := bel_frozen hV z1 f10
  have e4 := bel_frozen hV z1 f11
  have e5 := bel_frozen hV z2 f20
  have e6 := bel_frozen hV z2 f21
  go_wp2_with fail
  refine (calls_is (impl_HasHole _ _ _ _ _) h2).mono ?_
  rintro e w2 ⟨rfl, hb2⟩
  replace hV := below_step hV hb2
  clear d0 d1 d2 d3 d4 d5 d6 e3 e4 e5 e6
  have d0 := bel_cell hV z0 v0_0
  have d1 := bel_cell hV z0 v0_1
  have d2 := bel_cell hV z0 v0_2
  have d3 := bel_cell hV z1 v1_0
  have d4 := bel_cell hV z1 v1_1
  have d5 := bel_cell hV z2 v2_0
  have d6 := bel_cell hV z2 v2_1
  have e3 := bel_frozen hV z1 f10
  have e4 := bel_frozen hV z1 f11
  have e5 := bel_frozen hV z2 f20
  have e6 := bel_frozen hV z2 f21
  have hw := below_step v0 hV
  have q3 := set2_cells (x := .int .i64 0) (y := .int .i64 0) d3 d4
  go_wp2
  exact bodyPost_ret (v := .agg #[.int .i64 0, .int .i64 0]) (by simp [results, Try.results47, go_sem, q3.1, q3.2]) rfl ⟨rfl, by (repeat (first | exact Below.refl _ _ | assumption | refine below_step ?_ (by assumption) | refine below_alloc ?_ _ | refine below_drewN ?_ _ | refine Below.drew ?_ | refine Below.setCell ?_ (by first | (simp; done) | omega | (simp; omega)) _))⟩
set_option maxHeartbeats 4000000 in
theorem impl_GoldSum_yes (W H X t p : Int) (w : World) (hp : p ≤ 9223372036854775807) (h1 : positionOk W H X p = true) (h2 : hasHole W H X t = true) :
    Calls Try.prog 47 #[.agg #[.int .i64 W, .int .i64 H, .int .i64 X], .int .i64 t, .int .i64 p] w fun e w' => e = .returned (.agg #[.int .i64 (gfold W H X t (bitsTo p.toNat 49)).1, .int .i64 (gfold W H X t (bitsTo p.toNat 49)).2]) ∧ Below w.heap.size w w' := by
  go_enter Try.func47, Try.ntmps47
  go_wp2_with fail
  generalize hV : ((w.alloc (.cells #[.int .i64 W, .int .i64 H, .int .i64 X] 44)).alloc (.cells #[.int .i64 0, .int .i64 0] 31)).alloc (.cells #[.int .i64 0, .int .i64 0] 31) = V
  have v0 : Below w.heap.size w V := by subst hV; (repeat (first | exact Below.refl _ _ | assumption | refine below_step ?_ (by assumption) | refine below_alloc ?_ _ | refine below_drewN ?_ _ | refine Below.drew ?_ | refine Below.setCell ?_ (by first | (simp; done) | omega | (simp; omega)) _))
  have z0 : w.heap.size < V.heap.size := by subst hV; simp <;> omega
  have v0_0 : V.cell? ⟨w.heap.size, 0, none⟩ = some (.int .i64 W) := bel_cell (V := (w.alloc (.cells #[.int .i64 W, .int .i64 H, .int .i64 X] 44))) (by subst hV; exact below_alloc (below_alloc (Below.refl _ _) _) _) (by simp <;> omega) (top_cell (by simp) rfl)
  have v0_1 : V.cell? ⟨w.heap.size, 1, none⟩ = some (.int .i64 H) := bel_cell (V := (w.alloc (.cells #[.int .i64 W, .int .i64 H, .int .i64 X] 44))) (by subst hV; exact below_alloc (below_alloc (Below.refl _ _) _) _) (by simp <;> omega) (top_cell (by simp) rfl)
  have v0_2 : V.cell? ⟨w.heap.size, 2, none⟩ = some (.int .i64 X) := bel_cell (V := (w.alloc (.cells #[.int .i64 W, .int .i64 H, .int .i64 X] 44))) (by subst hV; exact below_alloc (below_alloc (Below.refl _ _) _) _) (by simp <;> omega) (top_cell (by simp) rfl)
  have z1 : w.heap.size + 1 < V.heap.size := by subst hV; simp <;> omega
  have v1_0 : V.cell? ⟨w.heap.size + 1, 0, none⟩ = some (.int .i64 0) := bel_cell (V := ((w.alloc (.cells #[.int .i64 W, .int .i64 H, .int .i64 X] 44)).alloc (.cells #[.int .i64 0, .int .i64 0] 31))) (by subst hV; exact below_alloc (Below.refl _ _) _) (by simp <;> omega) (top_cell (by simp) rfl)
  have v1_1 : V.cell? ⟨w.heap.size + 1, 1, none⟩ = some (.int .i64 0) := bel_cell (V := ((w.alloc (.cells #[.int .i64 W, .int .i64 H, .int .i64 X] 44)).alloc (.cells #[.int .i64 0, .int .i64 0] 31))) (by subst hV; exact below_alloc (Below.refl _ _) _) (by simp <;> omega) (top_cell (by simp) rfl)
  have z2 : w.heap.size + 1 + 1 < V.heap.size := by subst hV; simp <;> omega
  have v2_0 : V.cell? ⟨w.heap.size + 1 + 1, 0, none⟩ = some (.int .i64 0) := bel_cell (V := (((w.alloc (.cells #[.int .i64 W, .int .i64 H, .int .i64 X] 44)).alloc (.cells #[.int .i64 0, .int .i64 0] 31)).alloc (.cells #[.int .i64 0, .int .i64 0] 31))) (by subst hV; exact Below.refl _ _) (by simp <;> omega) (top_cell (by simp) rfl)
  have v2_1 : V.cell? ⟨w.heap.size + 1 + 1, 1, none⟩ = some (.int .i64 0) := bel_cell (V := (((w.alloc (.cells #[.int .i64 W, .int .i64 H, .int .i64 X] 44)).alloc (.cells #[.int .i64 0, .int .i64 0] 31)).alloc (.cells #[.int .i64 0, .int .i64 0] 31))) (by subst hV; exact Below.refl _ _) (by simp <;> omega) (top_cell (by simp) rfl)
  have K : Hid (∀ w', Below V.heap.size V w' → Below V.heap.size V w' ∧ w'.cell? ⟨w.heap.size, 0, none⟩ = some (.int .i64 W) ∧ w'.cell? ⟨w.heap.size, 1, none⟩ = some (.int .i64 H) ∧ w'.cell? ⟨w.heap.size, 2, none⟩ = some (.int .i64 X) ∧ w'.cell? ⟨w.heap.size + 1, 0, none⟩ = some (.int .i64 0) ∧ w'.cell? ⟨w.heap.size + 1, 1, none⟩ = some (.int .i64 0) ∧ w'.cell? ⟨w.heap.size + 1 + 1, 0, none⟩ = some (.int .i64 0) ∧ w'.cell? ⟨w.heap.size + 1 + 1, 1, none⟩ = some (.int .i64 0)) := fun w' hB => ⟨hB, bel_cell hB z0 v0_0, bel_cell hB z0 v0_1, bel_cell hB z0 v0_2, bel_cell hB z1 v1_0, bel_cell hB z1 v1_1, bel_cell hB z2 v2_0, bel_cell hB z2 v2_1⟩
  have ZV : Hid (w.heap.size + 1 + 1 + 1 = V.heap.size) := by subst hV; unfold Hid; simp
  have f10 : V.frozen? ⟨w.heap.size + 1, 0, none⟩ = false := bel_frozen (V := ((w.alloc (.cells #[.int .i64 W, .int .i64 H, .int .i64 X] 44)).alloc (.cells #[.int .i64 0, .int .i64 0] 31))) (by subst hV; exact below_alloc (Below.refl _ _) _) (by simp <;> omega) (top_frozen (by simp))
  have f11 : V.frozen? ⟨w.heap.size + 1, 1, none⟩ = false := bel_frozen (V := ((w.alloc (.cells #[.int .i64 W, .int .i64 H, .int .i64 X] 44)).alloc (.cells #[.int .i64 0, .int .i64 0] 31))) (by subst hV; exact below_alloc (Below.refl _ _) _) (by simp <;> omega) (top_frozen (by simp))
  have f20 : V.frozen? ⟨w.heap.size + 1 + 1, 0, none⟩ = false := bel_frozen (V := (((w.alloc (.cells #[.int .i64 W, .int .i64 H, .int .i64 X] 44)).alloc (.cells #[.int .i64 0, .int .i64 0] 31)).alloc (.cells #[.int .i64 0, .int .i64 0] 31))) (by subst hV; exact Below.refl _ _) (by simp <;> omega) (top_frozen (by simp))
  have f21 : V.frozen? ⟨w.heap.size + 1 + 1, 1, none⟩ = false := bel_frozen (V := (((w.alloc (.cells #[.int .i64 W, .int .i64 H, .int .i64 X] 44)).alloc (.cells #[.int .i64 0, .int .i64 0] 31)).alloc (.cells #[.int .i64 0, .int .i64 0] 31))) (by subst hV; exact Below.refl _ _) (by simp <;> omega) (top_frozen (by simp))
  clear hV
  refine (calls_is (impl_PositionOk _ _ _ _ _ (by omega)) h1).mono ?_
  rintro e w1 ⟨rfl, hV⟩
  have d0 := bel_cell hV z0 v0_0
  have d1 := bel_cell hV z0 v0_1
  have d2 := bel_cell hV z0 v0_2
  have d3 := bel_cell hV z1 v1_0
  have d4 := bel_cell hV z1 v1_1
  have d5 := bel_cell hV z2 v2_0
  have d6 := bel_cell hV z2 v2_1
  have e3 := bel_frozen hV z1 f10
  have e4 := bel_frozen hV z1 f11
  have e5 := bel_frozen hV z2 f20
  have e6 := bel_frozen hV z2 f21
  go_wp2_with fail
  refine (calls_is (impl_HasHole _ _ _ _ _) h2).mono ?_
  rintro e w2 ⟨rfl, hb2⟩
  replace hV := below_step hV hb2
  clear d0 d1 d2 d3 d4 d5 d6 e3 e4 e5 e6
  have d0 := bel_cell hV z0 v0_0
  have d1 := bel_cell hV z0 v0_1
  have d2 := bel_cell hV z0 v0_2
  have d3 := bel_cell hV z1 v1_0
  have d4 := bel_cell hV z1 v1_1
  have d5 := bel_cell hV z2 v2_0
  have d6 := bel_cell hV z2 v2_1
  have e3 := bel_frozen hV z1 f10
  have e4 := bel_frozen hV z1 f11
  have e5 := bel_frozen hV z2 f20
  have e6 := bel_frozen hV z2 f21
  have HS : Hid (V.heap.size ≤ w2.heap.size) := hV.size
  go_wp2_with fail
  refine (impl_HolesOf _ _ _ _).mono ?_
  rintro e w3 ⟨A, cA, rfl, hH, hb3⟩
  replace hV := below_step hV hb3
  clear d0 d1 d2 d3 d4 d5 d6 e3 e4 e5 e6
  have d0 := bel_cell hV z0 v0_0
  have d1 := bel_cell hV z0 v0_1
  have d2 := bel_cell hV z0 v0_2
  have d3 := bel_cell hV z1 v1_0
  have d4 := bel_cell hV z1 v1_1
  have d5 := bel_cell hV z2 v2_0
  have d6 := bel_cell hV z2 v2_1
  have e3 := bel_frozen hV z1 f10
  have e4 := bel_frozen hV z1 f11
  have e5 := bel_frozen hV z2 f20
  have e6 := bel_frozen hV z2 f21
  have hH2 := own_lower (lo' := V.heap.size) hH HS.out
  have hV2 := hV.mono (show w.heap.size + 1 + 1 ≤ V.heap.size from by omega)
  have hw2 := Nat.lt_of_lt_of_le z2 hV.size
  have hbd9 : (holes W H X).length ≤ 49 := holes_small W H X
  go_wp2_with fail
  go_loopw [25] (fun i wr => ∃ k : Nat, k ≤ (holes W H X).length ∧ i = .int .i64 k ∧ wr.ownsRow V.heap.size 3 1 (.slice A (holes W H X).length cA) (holes W H X).length (ints (toInts (holes W H X))) ∧ Below (w.heap.size + 1 + 1) V wr ∧ wr.cell? ⟨w.heap.size + 1 + 1, 0, none⟩ = some (.int .i64 (gfold W H X t (((holes W H X).take k).filter (fun k => p.toNat.testBit k))).1) ∧ wr.cell? ⟨w.heap.size + 1 + 1, 1, none⟩ = some (.int .i64 (gfold W H X t (((holes W H X).take k).filter (fun k => p.toNat.testBit k))).2) ∧ wr.frozen? ⟨w.heap.size + 1 + 1, 0, none⟩ = false ∧ wr.frozen? ⟨w.heap.size + 1 + 1, 1, none⟩ = false ∧ w.heap.size + 1 + 1 < wr.heap.size) (fun i _ => (holes W H X).length - (intOf i).toNat)
  case atStart => exact ⟨0, Nat.zero_le _, rfl, hH2, hV2, by simpa [gfold] using d5, by simpa [gfold] using d6, e5, e6, hw2⟩
  case round =>
    clear hH hH2 hV2 hw2 d0 d1 d2 d3 d4 d5 d6 e3 e4 e5 e6
    obtain ⟨k, hk, rfl, hH, hbel, s0, s1, s2, s3, hz⟩ := hrel
    have d0 := (hbel.cell (p := ⟨w.heap.size, 0, none⟩) (by simp <;> omega)).trans v0_0
    have d1 := (hbel.cell (p := ⟨w.heap.size, 1, none⟩) (by simp <;> omega)).trans v0_1
    have d2 := (hbel.cell (p := ⟨w.heap.size, 2, none⟩) (by simp <;> omega)).trans v0_2
    by_cases hlt : k < (holes W H X).length
    · obtain ⟨h, hh⟩ : ∃ h, (holes W H X)[k]? = some h := ⟨_, List.getElem?_eq_getElem hlt⟩
      obtain ⟨b, off, rfl, hc⟩ := FAt_of_own hH k (h : Int) (by simp [toInts, hh])
      have hbz := cell_lt hc
      obtain ⟨_, y2, y3⟩ := holes_hole (List.mem_of_getElem? hh)
      obtain ⟨y4, y5⟩ := inB_iff.1 y2
      have y6 := (boardOk_facts y3).m2
      have hp0 := (positionOk_facts h1).p0
      have HH := Lib.hid hh
      clear hh
      cases hbit : bitI p (h : Int)
      · have hstep : gfold W H X t (((holes W H X).take (k + 1)).filter (fun k => p.toNat.testBit k)) = gfold W H X t (((holes W H X).take k).filter (fun k => p.toNat.testBit k)) := by
          rw [List.take_add_one, HH.out, Option.toList_some, List.filter_append]
          have : p.toNat.testBit h = false := by rw [← bitI_nat]; exact hbit
          simp [this]
        have HST := Lib.hid hstep
        clear hstep
        go_wp2_with (go_at_call 105; refine (calls_is (impl_hasBit _ _ _ (by omega) (by omega) (by omega) (by omega)) hbit).mono ?_; rintro e _ ⟨rfl, rfl⟩)
        go_roundw
        case rel => exact ⟨k + 1, by omega, by go_num, hH, hbel, by rw [HST.out]; exact s0, by rw [HST.out]; exact s1, s2, s3, hz⟩
        case measure => simp [intOf]; omega
      · skip
        have hstep : gfold W H X t (((holes W H X).take (k + 1)).filter (fun k => p.toNat.testBit k)) = gstep W H X t (gfold W H X t (((holes W H X).take k).filter (fun k => p.toNat.testBit k))) h := by
          rw [← gfold_snoc]; congr 1
          rw [List.take_add_one, HH.out, Option.toList_some, List.filter_append]
          have : p.toNat.testBit h = true := by rw [← bitI_nat]; exact hbit
          simp [this]
        have HST := Lib.hid hstep
        clear hstep
        go_wp2_with (go_at_call 105; refine (calls_is (impl_hasBit _ _ _ (by omega) (by omega) (by omega) (by omega)) hbit).mono ?_; rintro e _ ⟨rfl, rfl⟩)
        go_region_with (first | (go_at_call 51; refine (impl_GoldAt _ _ _ _ _ _).mono ?_; rintro e w5 ⟨rfl, hb5⟩; have hU5 : Below wr.heap.size wr w5 := (by (repeat (first | exact Below.refl _ _ | assumption | refine below_step ?_ (by assumption) | refine below_alloc ?_ _ | refine below_drewN ?_ _ | refine Below.drew ?_ | refine Below.setCell ?_ (by first | (simp; done) | omega | (simp; omega)) _))); have t0 := bel_cell hU5 hz s0; have t1 := bel_cell hU5 hz s1) | (go_at_call 78; refine (impl_AddGold _ _ _ _ _).mono ?_; rintro e w6 ⟨rfl, hb6⟩; have hU6 : Below wr.heap.size wr w6 := below_step hU5 hb6; have r0 := bel_cell hU6 hz s0; have r1 := bel_cell hU6 hz s1; have r2 := bel_frozen hU6 hz s2; have r3 := bel_frozen hU6 hz s3))
        all_goals
          have hH6 := own_set (j := 1) (u := .int .i64 (gstep W H X t (gfold W H X t (((holes W H X).take k).filter (fun k => p.toNat.testBit k))) h).2) (own_set (j := 0) (u := .int .i64 (gstep W H X t (gfold W H X t (((holes W H X).take k).filter (fun k => p.toNat.testBit k))) h).1) (own_below hH hU6) z2) z2
          have hb7 := ((hbel.trans (hU6.mono (show w.heap.size + 1 + 1 ≤ wr.heap.size from by omega))).setCell (p := ⟨w.heap.size + 1 + 1, 0, none⟩) (Nat.le_refl _) (.int .i64 (gstep W H X t (gfold W H X t (((holes W H X).take k).filter (fun k => p.toNat.testBit k))) h).1)).setCell (p := ⟨w.heap.size + 1 + 1, 1, none⟩) (Nat.le_refl _) (.int .i64 (gstep W H X t (gfold W H X t (((holes W H X).take k).filter (fun k => p.toNat.testBit k))) h).2)
          have q3 := set2_cells (x := .int .i64 (gstep W H X t (gfold W H X t (((holes W H X).take k).filter (fun k => p.toNat.testBit k))) h).1) (y := .int .i64 (gstep W H X t (gfold W H X t (((holes W H X).take k).filter (fun k => p.toNat.testBit k))) h).2) r0 r1
          have q4 := Nat.lt_of_lt_of_le hz hU6.size
          go_wp2
          go_roundw
          case rel => exact ⟨k + 1, by omega, by go_num, hH6, hb7, by rw [HST.out]; exact q3.1, by rw [HST.out]; exact q3.2, by simpa using r2, by simpa using r3, by simpa using q4⟩
          case measure => simp [intOf]; omega
    · obtain rfl : k = (holes W H X).length := by omega
      rw [List.take_length] at s0 s1
      have HF := Lib.hid (show (holes W H X).filter (fun k => p.toNat.testBit k) = bitsTo p.toNat 49 from holes_bits h1)
      rw [HF.out] at s0 s1
      have r3 := (hbel.cell (p := ⟨w.heap.size + 1, 0, none⟩) (by simp)).trans v1_0
      have r4 := (hbel.cell (p := ⟨w.heap.size + 1, 1, none⟩) (by simp)).trans v1_1
      have r5 := (hbel.frozen (p := ⟨w.heap.size + 1, 0, none⟩) (by simp)).trans f10
      have r6 := (hbel.frozen (p := ⟨w.heap.size + 1, 1, none⟩) (by simp)).trans f11
      have hw := v0.trans (hbel.mono (show w.heap.size ≤ w.heap.size + 1 + 1 from by omega))
      have q3 := set2_cells (x := .int .i64 (gfold W H X t (bitsTo p.toNat 49)).1) (y := .int .i64 (gfold W H X t (bitsTo p.toNat 49)).2) r3 r4
      go_wp2
      exact bodyPost_ret (v := .agg #[.int .i64 (gfold W H X t (bitsTo p.toNat 49)).1, .int .i64 (gfold W H X t (bitsTo p.toNat 49)).2]) (by simp [results, Try.results47, go_sem, q3.1, q3.2]) rfl ⟨rfl, by (repeat (first | exact Below.refl _ _ | assumption | refine below_step ?_ (by assumption) | refine below_alloc ?_ _ | refine below_drewN ?_ _ | refine Below.drew ?_ | refine Below.setCell ?_ (by first | (simp; done) | omega | (simp; omega)) _))⟩
theorem impl_GoldSum (W H X t p : Int) (w : World) (hp : p ≤ 9223372036854775807) :
    Calls Try.prog 47 #[.agg #[.int .i64 W, .int .i64 H, .int .i64 X], .int .i64 t, .int .i64 p] w fun e w' => e = .returned (.agg #[.int .i64 (goldSum W H X t p).1, .int .i64 (goldSum W H X t p).2]) ∧ Below w.heap.size w w' := by
  cases h1 : positionOk W H X p
  · exact (impl_GoldSum_no1 W H X t p w hp h1).mono fun e w' h => ⟨h.1.trans (by simp [goldSum, h1]), h.2⟩
  · cases h2 : hasHole W H X t
    · exact (impl_GoldSum_no2 W H X t p w hp h1 h2).mono fun e w' h => ⟨h.1.trans (by simp [goldSum, h2]), h.2⟩
    · exact (impl_GoldSum_yes W H X t p w hp h1 h2).mono fun e w' h => ⟨h.1.trans (by simp [goldSum, h1, h2]), h.2⟩
end Go.Proofs.Ytianfakgojmnpaa
