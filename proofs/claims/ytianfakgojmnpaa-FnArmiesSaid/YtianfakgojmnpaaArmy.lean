/- Armies: mathematics and contracts. -/
import Derived.Test.YtianfakgojmnpaaGoldX
namespace Go.Proofs.Ytianfakgojmnpaa
open Go.RowKit

def soldierOk (x y : Int) : Bool := inB x (-8) 8 && inB y 0 8
def weightA (x y l : Int) : Int := if soldierOk x y = true ∧ inB l 1 5 = true then powA (absI x + y + l) else 0
def weightB (x y l : Int) : Int := if soldierOk x y = true ∧ inB l 1 5 = true then powB (absI x + y + l) else 0
theorem soldierOk_iff {x y : Int} : soldierOk x y = true ↔ (-8 ≤ x ∧ x ≤ 8) ∧ (0 ≤ y ∧ y ≤ 8) := by simp [soldierOk, inB]

theorem bel_frozen {V w : World} (h : Below V.heap.size V w) {b o : Nat} (hb : b < V.heap.size) (hv : V.frozen? ⟨b, o, none⟩ = false) : w.frozen? ⟨b, o, none⟩ = false := by
  rw [(bcell h).2 b o hb, hv]
set_option maxHeartbeats 400000 in
theorem impl_standsOk (x y : Int) (w : World) :
    Calls Try.prog 75 #[.agg #[.int .i64 x, .int .i64 y]] w fun e w' => e = .returned (.bool (soldierOk x y)) ∧ Below w.heap.size w w' := by
  by_cases h : inB x (-8) 8 = true
  all_goals
    go_enter Try.func75, Try.ntmps75
    go_wp2_with (go_at_call 72; refine (impl_within _ _ _ _).mono ?_; rintro e w' ⟨rfl, rfl⟩)
    go_ret
    exact ⟨by simp [soldierOk, h], below_one _ _⟩
set_option maxHeartbeats 2000000 in
theorem impl_WeightTo (x y l : Int) (w : World) :
    Calls Try.prog 18 #[.agg #[.int .i64 x, .int .i64 y], .int .i64 l] w fun e w' => e = .returned (.agg #[.int .i64 (weightA x y l), .int .i64 (weightB x y l)]) ∧ Below w.heap.size w w' := by
  cases h1 : soldierOk x y
  · go_enter Try.func18, Try.ntmps18
    go_wp2_with fail
    refine (calls_is (impl_standsOk _ _ _) h1).mono ?_
    rintro e w1 ⟨rfl, hb1⟩
    obtain ⟨hc1, hf1, hs1⟩ := bcell3 hb1
    have hz1 := hb1.size
    (try simp at hz1)
    go_wp2
    exact bodyPost_ret (v := .agg #[.int .i64 (weightA x y l), .int .i64 (weightB x y l)]) (by simp [weightA, weightB, h1, results, Try.results18, go_sem, hc1, hs1]) rfl ⟨rfl, by (repeat (first | exact Below.refl _ _ | assumption | refine below_step ?_ (by assumption) | refine below_alloc ?_ _ | refine below_drewN ?_ _ | refine Below.drew ?_ | refine Below.setCell ?_ (by first | (simp; done) | omega | (simp; omega)) _))⟩
  · cases h2 : inB l 1 5
    · go_enter Try.func18, Try.ntmps18
      go_wp2_with fail
      refine (calls_is (impl_standsOk _ _ _) h1).mono ?_
      rintro e w1 ⟨rfl, hb1⟩
      obtain ⟨hc1, hf1, hs1⟩ := bcell3 hb1
      have hz1 := hb1.size
      (try simp at hz1)
      go_wp2_with fail
      refine (calls_is (impl_within _ _ _ _) h2).mono ?_
      rintro e _ ⟨rfl, rfl⟩
      go_wp2
      exact bodyPost_ret (v := .agg #[.int .i64 (weightA x y l), .int .i64 (weightB x y l)]) (by simp [weightA, weightB, h1, h2, results, Try.results18, go_sem, hc1, hs1]) rfl ⟨rfl, by (repeat (first | exact Below.refl _ _ | assumption | refine below_step ?_ (by assumption) | refine below_alloc ?_ _ | refine below_drewN ?_ _ | refine Below.drew ?_ | refine Below.setCell ?_ (by first | (simp; done) | omega | (simp; omega)) _))⟩
    · obtain ⟨⟨x1, x2⟩, y1, y2⟩ := soldierOk_iff.1 h1
      obtain ⟨l1, l2⟩ := inB_iff.1 h2
      obtain ⟨a1, a2⟩ := absI_bd (B := 8) x1 x2
      have eA : weightA x y l = powA (absI x + y + l) := by simp [weightA, h1, h2]
      have eB : weightB x y l = powB (absI x + y + l) := by simp [weightB, h1, h2]
      rw [eA, eB]
      clear eA eB
      go_enter Try.func18, Try.ntmps18
      go_wp2_with fail
      generalize hV : (w.alloc (.cells #[.int .i64 x, .int .i64 y] 37)).alloc (.cells #[.int .i64 0, .int .i64 0] 31) = V
      have v0 : Below w.heap.size w V := by subst hV; (repeat (first | exact Below.refl _ _ | assumption | refine below_step ?_ (by assumption) | refine below_alloc ?_ _ | refine below_drewN ?_ _ | refine Below.drew ?_ | refine Below.setCell ?_ (by first | (simp; done) | omega | (simp; omega)) _))
      have z0 : w.heap.size < V.heap.size := by subst hV; simp <;> omega
      have v0_0 : V.cell? ⟨w.heap.size, 0, none⟩ = some (.int .i64 x) := by subst hV; simp
      have v0_1 : V.cell? ⟨w.heap.size, 1, none⟩ = some (.int .i64 y) := by subst hV; simp
      have z1 : w.heap.size + 1 < V.heap.size := by subst hV; simp <;> omega
      have v1_0 : V.cell? ⟨w.heap.size + 1, 0, none⟩ = some (.int .i64 0) := by subst hV; simp
      have v1_1 : V.cell? ⟨w.heap.size + 1, 1, none⟩ = some (.int .i64 0) := by subst hV; simp
      have K : Hid (∀ w', Below V.heap.size V w' → Below V.heap.size V w' ∧ w'.cell? ⟨w.heap.size, 0, none⟩ = some (.int .i64 x) ∧ w'.cell? ⟨w.heap.size, 1, none⟩ = some (.int .i64 y) ∧ w'.cell? ⟨w.heap.size + 1, 0, none⟩ = some (.int .i64 0) ∧ w'.cell? ⟨w.heap.size + 1, 1, none⟩ = some (.int .i64 0)) := fun w' hB => ⟨hB, bel_cell hB z0 v0_0, bel_cell hB z0 v0_1, bel_cell hB z1 v1_0, bel_cell hB z1 v1_1⟩
      have ZV : Hid (w.heap.size + 1 + 1 = V.heap.size) := by subst hV; unfold Hid; simp
      have f0 : V.frozen? ⟨w.heap.size + 1, 0, none⟩ = false := by subst hV; simp
      have f1 : V.frozen? ⟨w.heap.size + 1, 1, none⟩ = false := by subst hV; simp
      clear hV
      refine (calls_is (impl_standsOk _ _ _) h1).mono ?_
      rintro e w1 ⟨rfl, hV⟩
      have d0 := bel_cell hV z0 v0_0
      have d1 := bel_cell hV z0 v0_1
      have d2 := bel_cell hV z1 v1_0
      have d3 := bel_cell hV z1 v1_1
      have e2 := bel_frozen hV z1 f0
      have e3 := bel_frozen hV z1 f1
      have hN := hV.mono (show w.heap.size + 1 ≤ V.heap.size from by omega)
      clear K
      have K : Hid (∀ w', Below (w.heap.size + 1) V w' → Below (w.heap.size + 1) V w' ∧ w'.cell? ⟨w.heap.size, 0, none⟩ = some (.int .i64 x) ∧ w'.cell? ⟨w.heap.size, 1, none⟩ = some (.int .i64 y)) :=
        fun w' hB => ⟨hB, (hB.cell (p := ⟨w.heap.size, 0, none⟩) (Nat.lt_succ_self _)).trans v0_0, (hB.cell (p := ⟨w.heap.size, 1, none⟩) (Nat.lt_succ_self _)).trans v0_1⟩
      go_wp2_with fail
      refine (calls_is (impl_within _ _ _ _) h2).mono ?_
      rintro e _ ⟨rfl, rfl⟩
      go_wp2_with fail
      have tok3 : True := trivial
      have tok4 : True := trivial
      go_region_held3 (fun w' => Below (w.heap.size + 1) V w' ∧ w'.cell? ⟨w.heap.size, 0, none⟩ = some (.int .i64 x) ∧ w'.cell? ⟨w.heap.size, 1, none⟩ = some (.int .i64 y))
        ((refine K.out _ ?_; (repeat (first | exact Below.refl _ _ | assumption | refine below_step ?_ (by assumption) | refine below_alloc ?_ _ | refine below_drewN ?_ _ | refine Below.drew ?_ | refine Below.setCell ?_ (by first | (simp; done) | omega | (simp; omega)) _))))
        (first | (have _t := tok3; go_at_call 73; refine (impl_PowerOf _ _).mono ?_; rintro e w3 ⟨rfl, hb3⟩; clear _t tok3; have hV3 := below_step (below_step hV (by (repeat (first | exact Below.refl _ _ | assumption | refine below_step ?_ (by assumption) | refine below_alloc ?_ _ | refine below_drewN ?_ _ | refine Below.drew ?_ | refine Below.setCell ?_ (by first | (simp; done) | omega | (simp; omega)) _)))) hb3; have hN3 := hV3.mono (show w.heap.size + 1 ≤ V.heap.size from by omega); have g0 := bel_cell hV3 z1 v1_0; have g1 := bel_cell hV3 z1 v1_1; have g2 := bel_frozen hV3 z1 f0; have g3 := bel_frozen hV3 z1 f1; obtain ⟨hc3, hf3, hs3⟩ := bcell3 hb3; have hz3 := hb3.size; (try simp at hz3)) | (have _t := tok4; go_at_call 74; refine (impl_magnitude _ _ (by omega) (by omega)).mono ?_; rintro e w4 ⟨rfl, rfl⟩; clear _t tok4))
      go_wp2
      have q1 : IntKind.i64.wrap (absI x + y) = absI x + y := by rw [IntKind.wrap_i64]; omega
      have q2 : IntKind.i64.wrap (IntKind.i64.wrap (absI x + y) + l) = absI x + y + l := by rw [q1, IntKind.wrap_i64]; omega
      have q3 := set2_cells (w := w3) (g := w.heap.size + 1) (x := .int .i64 (powA (IntKind.i64.wrap (IntKind.i64.wrap (absI x + y) + l)))) (y := .int .i64 (powB (IntKind.i64.wrap (IntKind.i64.wrap (absI x + y) + l)))) g0 g1
      exact bodyPost_ret (v := .agg #[.int .i64 (powA (IntKind.i64.wrap (IntKind.i64.wrap (absI x + y) + l))), .int .i64 (powB (IntKind.i64.wrap (IntKind.i64.wrap (absI x + y) + l)))]) (by simp [results, Try.results18, go_sem, q3.1, q3.2]) rfl ⟨by rw [q2], by (repeat (first | exact Below.refl _ _ | assumption | refine below_step ?_ (by assumption) | refine below_alloc ?_ _ | refine below_drewN ?_ _ | refine Below.drew ?_ | refine Below.setCell ?_ (by first | (simp; done) | omega | (simp; omega)) _))⟩
end Go.Proofs.Ytianfakgojmnpaa
