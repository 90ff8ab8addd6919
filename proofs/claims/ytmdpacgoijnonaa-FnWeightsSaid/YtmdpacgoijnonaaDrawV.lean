/- Drawn boards with weights. -/
import Derived.Test.YtmdpacgoijnonaaDrawW
namespace Go.Proofs.Ytmdpacgoijnonaa
open Go.RowKit
theorem CurAt.drewP {w : World} {g B : Nat} (hc : CurAt B w g) : CurAt B w.drew g := hc
set_option maxHeartbeats 4000000 in
theorem spec_DrawWeights (A : Option Addr) (n cap : Nat) (w : World) (hc : Bytes w A n) (hn : n ≤ 4294967296) :
    Calls Try.prog 21 #[.slice A n cap] w fun e w' => ∃ (W H X : Int) (D : Option Addr) (c : Nat) (ws : List Int), e = .returned (.tuple #[.agg #[.int .i64 W, .int .i64 H, .int .i64 X], .slice D ws.length c]) ∧ smallB W H X ∧
      w'.ownsRow w.heap.size 3 1 (.slice D ws.length c) ws.length (ints ws) ∧ ws.length = (W * H).toNat ∧ (∀ z, z ∈ ws → -1000 ≤ z ∧ z ≤ 1000) ∧ Below w.heap.size w w' := by
  go_enter Try.func21, Try.ntmps21
  go_wp2_with fail
  generalize hV : w.alloc (.cells #[.int .i64 0, .int .i64 0, .int .i64 0] 40) = V
  have R : Cells3 V w.heap.size 0 0 0 := by subst hV; exact new3
  have v0 : Below w.heap.size w V := by subst hV; exact below_one _ _
  have zV : w.heap.size < V.heap.size := by subst hV; simp
  clear hV
  refine (spec_l01New _ _ _ _ (hc.below v0) hn).mono ?_
  rintro e w1 ⟨g, rfl, hgV, hc1, hb1⟩
  have R1 := R.below hb1
  clear R
  go_wp2_with fail
  refine (spec_l02Small g _ _ hc1).mono ?_
  rintro e w2 ⟨W, H, X, rfl, hs, hc2, hg2⟩
  have hb2 := below_gr hb1 hb1.size hg2 hgV
  have R2 := R1.grown hg2 (by simp; omega)
  clear R1
  go_wp2_with fail
  generalize hU : w2.alloc (.cells #[.int .i64 W, .int .i64 H, .int .i64 X] 40) = U
  have Bd : Cells3 U w2.heap.size W H X := by subst hU; exact new3
  have hbU : Below V.heap.size V U := by subst hU; exact below_alloc hb2 _
  have hcU : CurAt V.heap.size U g := by subst hU; exact hc2.below (below_one _ _)
  have RU : Cells3 U w.heap.size 0 0 0 := by subst hU; exact R2.below (below_one _ _)
  have hbg : w2.heap.size ≠ g := by have := hc2.1; omega
  have hbr : w2.heap.size ≠ w.heap.size := by have := R2.1; omega
  have hrg : w.heap.size ≠ g := by omega
  clear hU R2 hc2 hg2
  have K2 : Hid (∀ (w' : World), Cells3 w' w2.heap.size W H X → Cells3 w' w2.heap.size W H X ∧ w'.cell? ⟨w2.heap.size, 0, none⟩ = some (.int .i64 W) ∧ w'.cell? ⟨w2.heap.size, 1, none⟩ = some (.int .i64 H) ∧ w'.cell? ⟨w2.heap.size, 2, none⟩ = some (.int .i64 X)) := fun w' h => ⟨h, h.2.1.1, h.2.1.2.1, h.2.1.2.2⟩
  refine wp_region_held_drew (S := (fun w' => Cells3 w' w2.heap.size W H X ∧ w'.cell? ⟨w2.heap.size, 0, none⟩ = some (.int .i64 W) ∧ w'.cell? ⟨w2.heap.size, 1, none⟩ = some (.int .i64 H) ∧ w'.cell? ⟨w2.heap.size, 2, none⟩ = some (.int .i64 X))) (by kernel_rfl) ?_ (fun hHd0 => ?_)
  · (refine K2.out _ ?_; exact Cells3.drew Bd)
  refine heldT (i := 0) rfl (by kernel_rfl) (by kernel_rfl) (by kernel_rfl) (fun _ _ _ h => h) (by rfl) (v := ?_) ?_ (by assumption) ?_
  rotate_left
  · (intro w hSw; (try dsimp only at hSw); go_simp; try (with_reducible rfl))
  (try simp only [Act.put, List.setIfInBounds_toArray, List.set_cons_zero, List.set_cons_succ])
  refine heldT (i := 1) rfl (by kernel_rfl) (by kernel_rfl) (by kernel_rfl) (fun _ _ _ h => h) (by rfl) (v := ?_) ?_ (by assumption) ?_
  rotate_left
  · (intro w hSw; (try dsimp only at hSw); go_simp; try (with_reducible rfl))
  (try simp only [Act.put, List.setIfInBounds_toArray, List.set_cons_zero, List.set_cons_succ])
  refine heldT (i := 2) rfl (by kernel_rfl) (by kernel_rfl) (by kernel_rfl) (fun _ _ _ h => h) (by rfl) (v := ?_) ?_ (by assumption) ?_
  rotate_left
  · (intro w hSw; (try dsimp only at hSw); go_simp; try (with_reducible rfl))
  (try simp only [Act.put, List.setIfInBounds_toArray, List.set_cons_zero, List.set_cons_succ])
  refine heldC (i := 3) rfl (by kernel_rfl) (fun K' hK => ?_)
  go_simp
  refine (spec_l09Weights g _ _ _ _ _ (CurAt.drewP hcU) hs.1).mono ?_; rintro e w5 ⟨D, c, ws, rfl, o5, hl, hz, hc5, hg5⟩; have HL := Lib.hid hl; clear hl; have hb5 := below_gr (Below.drew hbU) hbU.size hg5 hgV; have R5 := (Cells3.drew RU).grown hg5 (by simp; omega); have B5 := (Cells3.drew Bd).grown hg5 (by simp; omega); have hU5 : w.heap.size < U.drew.heap.size ∧ w.heap.size ≤ U.drew.heap.size := ⟨RU.1, Nat.le_of_lt RU.1⟩; obtain ⟨r9, ⟨t0, t1, t2⟩, u0, u1, u2⟩ := R5; have R5 : Cells3 w5 w.heap.size 0 0 0 := ⟨r9, ⟨t0, t1, t2⟩, u0, u1, u2⟩
  (try (go_wp2_with fail))
  refine hK.out _ _ ?_ (fun hHd1 => ?_)
  · ((try dsimp only); (refine K2.out _ ?_; exact B5))
  clear hK K' hHd0
  (try simp only [Act.put, List.setIfInBounds_toArray, List.set_cons_zero, List.set_cons_succ])
  refine heldC (i := 4) rfl (by kernel_rfl) (fun K' hK => ?_)
  go_simp
  skip
  (try (go_wp2_with fail))
  refine hK.out _ _ ?_ (fun hHd2 => ?_)
  · ((try dsimp only); (refine K2.out _ ?_; exact ((B5.other hbr).other hbr).other hbr))
  clear hK K' hHd1
  (try simp only [Act.put, List.setIfInBounds_toArray, List.set_cons_zero, List.set_cons_succ])
  refine heldT (i := 5) rfl (by kernel_rfl) (by kernel_rfl) (by kernel_rfl) (fun _ _ _ h => h) (by rfl) (v := ?_) ?_ (by assumption) ?_
  rotate_left
  · (intro w hSw; (try dsimp only at hSw); go_simp; try (with_reducible rfl))
  (try simp only [Act.put, List.setIfInBounds_toArray, List.set_cons_zero, List.set_cons_succ])
  refine wpAnyH_done (by kernel_rfl) ?_ _
  obtain ⟨_, ⟨Q0, Q1, Q2⟩, _⟩ := R5.set3 W H X
  have Q0 := Lib.hid Q0
  have Q1 := Lib.hid Q1
  have Q2 := Lib.hid Q2
  obtain ⟨s1, s2⟩ := hU5
  go_wp2
  exact bodyPost_ret (v := .tuple #[.agg #[.int .i64 W, .int .i64 H, .int .i64 X], .slice D ws.length c]) (by simp [results, Try.results21, go_sem, Q0.out, Q1.out, Q2.out]) rfl
    ⟨W, H, X, D, c, ws, rfl, hs, own_lower (own_setW (own_setW (own_setW o5 s1) s1) s1) s2, HL.out, hz, ((((below_step v0 hb5).setCell (Nat.le_refl _) _).setCell (Nat.le_refl _) _).setCell (Nat.le_refl _) _)⟩
end Go.Proofs.Ytmdpacgoijnonaa
