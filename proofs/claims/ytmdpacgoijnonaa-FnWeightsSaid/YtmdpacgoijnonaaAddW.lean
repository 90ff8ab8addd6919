/- Sums of weight lists: contracts. -/
import Derived.Test.YtmdpacgoijnonaaWeightC
import Derived.Test.YtmdpacgoijnonaaHoles
namespace Go.Proofs.Ytmdpacgoijnonaa
open Go.RowKit

theorem weights_at {W H X : Int} {ws : List Int} (h : weightsOk W H X ws = true) : boardOk W H X = true ∧ ws.length = (W * H).toNat ∧ okW ws = true := by
  simp only [weightsOk, Bool.and_eq_true, beq_iff_eq] at h
  obtain ⟨⟨h1, h2⟩, h3⟩ := h
  exact ⟨h1, by omega, h3⟩
theorem addW_len (v u : List Int) : (addW v u).length = v.length := by simp [addW, grid_len]
theorem add_step {w : World} {lo : Nat} {x : Value} {v u : List Int} {k : Nat} {a b : Int} (ha : v[k]? = some a) (hb : u[k]? = some b)
    (h : w.ownsRow lo 3 1 x (k + 1) (ints (grid k (fun k => v.getD k 0 + u.getD k 0) ++ [a + b]))) : w.ownsRow lo 3 1 x (k + 1) (ints (grid (k + 1) (fun k => v.getD k 0 + u.getD k 0))) := by
  rw [grid_succ]; simpa [List.getD, ha, hb] using h
theorem impl_WeightsOk_n (W H X : Int) (A : Option Addr) (n cap : Nat) (ws : List Int) (w : World) (hl : n = ws.length) (hA : FAt w A ws) (hn : ws.length ≤ 4294967296) :
    Calls Try.prog 28 #[.agg #[.int .i64 W, .int .i64 H, .int .i64 X], .slice A n cap] w fun e w' => e = .returned (.bool (weightsOk W H X ws)) ∧ Below w.heap.size w w' := by
  subst hl; exact impl_WeightsOk W H X A cap ws w hA hn
set_option maxHeartbeats 1000000 in
theorem impl_AddWeights_no1 (W H X : Int) (A : Option Addr) (cap : Nat) (v : List Int) (C : Option Addr) (cap2 : Nat) (u : List Int) (w : World) (hA : FAt w A v) (hn : v.length ≤ 4294967296) (hC : FAt w C u) (hm : u.length ≤ 4294967296) (h1 : weightsOk W H X v = false) :
    Calls Try.prog 27 #[.agg #[.int .i64 W, .int .i64 H, .int .i64 X], .slice A v.length cap, .slice C u.length cap2] w (RetOwnB 3 1 w 0 [] false) := by
  go_enter Try.func27, Try.ntmps27
  go_wp2_with fail
  refine (calls_is (impl_WeightsOk _ _ _ _ _ _ _ (hA.below (by (repeat (first | exact Below.refl _ _ | assumption | refine below_step ?_ (by assumption) | refine below_alloc ?_ _ | refine below_drewN ?_ _ | refine Below.drew ?_ | refine Below.setCell ?_ (by first | (simp; done) | omega | (simp; omega)) _)))) hn) h1).mono ?_
  rintro e w1 ⟨rfl, hb1⟩
  obtain ⟨hc1, hf1, hs1⟩ := bcell3 hb1
  have hz1 := hb1.size
  (try simp at hz1)
  go_wp2
  go_ret2
  exact ⟨none, 0, rfl, World.ownsRow_nil _ _ _ _, by (repeat (first | exact Below.refl _ _ | assumption | refine below_step ?_ (by assumption) | refine below_alloc ?_ _ | refine below_drewN ?_ _ | refine Below.drew ?_ | refine Below.setCell ?_ (by first | (simp; done) | omega | (simp; omega)) _))⟩

set_option maxHeartbeats 1000000 in
theorem impl_AddWeights_no2 (W H X : Int) (A : Option Addr) (cap : Nat) (v : List Int) (C : Option Addr) (cap2 : Nat) (u : List Int) (w : World) (hA : FAt w A v) (hn : v.length ≤ 4294967296) (hC : FAt w C u) (hm : u.length ≤ 4294967296) (h1 : weightsOk W H X v = true) (h2 : weightsOk W H X u = false) :
    Calls Try.prog 27 #[.agg #[.int .i64 W, .int .i64 H, .int .i64 X], .slice A v.length cap, .slice C u.length cap2] w (RetOwnB 3 1 w 0 [] false) := by
  go_enter Try.func27, Try.ntmps27
  go_wp2_with fail
  refine (calls_is (impl_WeightsOk _ _ _ _ _ _ _ (hA.below (by (repeat (first | exact Below.refl _ _ | assumption | refine below_step ?_ (by assumption) | refine below_alloc ?_ _ | refine below_drewN ?_ _ | refine Below.drew ?_ | refine Below.setCell ?_ (by first | (simp; done) | omega | (simp; omega)) _)))) hn) h1).mono ?_
  rintro e w1 ⟨rfl, hb1⟩
  obtain ⟨hc1, hf1, hs1⟩ := bcell3 hb1
  have hz1 := hb1.size
  (try simp at hz1)
  go_wp2_with fail
  refine (calls_is (impl_WeightsOk _ _ _ _ _ _ _ (hC.below (by (repeat (first | exact Below.refl _ _ | assumption | refine below_step ?_ (by assumption) | refine below_alloc ?_ _ | refine below_drewN ?_ _ | refine Below.drew ?_ | refine Below.setCell ?_ (by first | (simp; done) | omega | (simp; omega)) _)))) hm) h2).mono ?_
  rintro e w2 ⟨rfl, hb2⟩
  obtain ⟨hc2, hf2, hs2⟩ := bcell3 hb2
  have hz2 := hb2.size
  (try simp at hz2)
  have hb1_2 := below_step (below_step hb1 (by (repeat (first | exact Below.refl _ _ | assumption | refine below_step ?_ (by assumption) | refine below_alloc ?_ _ | refine below_drewN ?_ _ | refine Below.drew ?_ | refine Below.setCell ?_ (by first | (simp; done) | omega | (simp; omega)) _)))) hb2
  clear hc1 hf1 hs1
  obtain ⟨hc1_2, hf1_2, hs1_2⟩ := bcell3 hb1_2
  go_wp2
  go_ret2
  exact ⟨none, 0, rfl, World.ownsRow_nil _ _ _ _, by (repeat (first | exact Below.refl _ _ | assumption | refine below_step ?_ (by assumption) | refine below_alloc ?_ _ | refine below_drewN ?_ _ | refine Below.drew ?_ | refine Below.setCell ?_ (by first | (simp; done) | omega | (simp; omega)) _))⟩

set_option maxHeartbeats 2000000 in
theorem impl_AddWeights_yes (W H X : Int) (A : Option Addr) (cap : Nat) (v : List Int) (C : Option Addr) (cap2 : Nat) (u : List Int) (w : World) (hA : FAt w A v) (hn : v.length ≤ 4294967296) (hC : FAt w C u) (hm : u.length ≤ 4294967296) (h1 : weightsOk W H X v = true) (h2 : weightsOk W H X u = true) :
    Calls Try.prog 27 #[.agg #[.int .i64 W, .int .i64 H, .int .i64 X], .slice A v.length cap, .slice C u.length cap2] w (RetOwnB 3 1 w (addWs W H X v u).length (addWs W H X v u) (weightsOk W H X (addW v u))) := by
  obtain ⟨hb, hl, hok⟩ := weights_at h1
  obtain ⟨_, hl2, hok2⟩ := weights_at h2
  obtain ⟨m1, m2⟩ : 1 ≤ W * H ∧ W * H ≤ 49 := ⟨(boardOk_facts hb).m1, (boardOk_facts hb).m2⟩
  have q1 : v.length ≤ 49 := by omega
  have HL : Hid (u.length = v.length) := by unfold Hid; omega
  clear hl hl2 hb
  go_enter Try.func27, Try.ntmps27
  go_wp2_with fail
  refine (calls_is (impl_WeightsOk _ _ _ _ _ _ _ (hA.below (by (repeat (first | exact Below.refl _ _ | assumption | refine below_step ?_ (by assumption) | refine below_alloc ?_ _ | refine below_drewN ?_ _ | refine Below.drew ?_ | refine Below.setCell ?_ (by first | (simp; done) | omega | (simp; omega)) _)))) hn) h1).mono ?_
  rintro e w1 ⟨rfl, hb1⟩
  obtain ⟨hc1, hf1, hs1⟩ := bcell3 hb1
  have hz1 := hb1.size
  (try simp at hz1)
  go_wp2_with fail
  refine (calls_is (impl_WeightsOk _ _ _ _ _ _ _ (hC.below (by (repeat (first | exact Below.refl _ _ | assumption | refine below_step ?_ (by assumption) | refine below_alloc ?_ _ | refine below_drewN ?_ _ | refine Below.drew ?_ | refine Below.setCell ?_ (by first | (simp; done) | omega | (simp; omega)) _)))) hm) h2).mono ?_
  rintro e w2 ⟨rfl, hb2⟩
  obtain ⟨hc2, hf2, hs2⟩ := bcell3 hb2
  have hz2 := hb2.size
  (try simp at hz2)
  have hb1_2 := below_step (below_step hb1 (by (repeat (first | exact Below.refl _ _ | assumption | refine below_step ?_ (by assumption) | refine below_alloc ?_ _ | refine below_drewN ?_ _ | refine Below.drew ?_ | refine Below.setCell ?_ (by first | (simp; done) | omega | (simp; omega)) _)))) hb2
  clear hc1 hf1 hs1
  obtain ⟨hc1_2, hf1_2, hs1_2⟩ := bcell3 hb1_2
  have z0 : w.heap.size < w2.heap.size := by have := hb1.size; have := hb2.size; simp at *; omega
  have v0_0 : w2.cell? ⟨w.heap.size, 0, none⟩ = some (.int .i64 W) := by simp [hc1_2]
  have v0_1 : w2.cell? ⟨w.heap.size, 1, none⟩ = some (.int .i64 H) := by simp [hc1_2]
  have v0_2 : w2.cell? ⟨w.heap.size, 2, none⟩ = some (.int .i64 X) := by simp [hc1_2]
  have hW2 : Below w.heap.size w w2 := by (repeat (first | exact Below.refl _ _ | assumption | refine below_step ?_ (by assumption) | refine below_alloc ?_ _ | refine below_drewN ?_ _ | refine Below.drew ?_ | refine Below.setCell ?_ (by first | (simp; done) | omega | (simp; omega)) _))
  have hA2 := hA.below hW2
  have hC2 := hC.below hW2
  clear hb1 hb2 hb1_2 hc1_2 hf1_2 hs1_2 hc2 hf2 hs2 hz1 hz2
  go_wp2
  go_loopw [8, 24] (fun x i wr => ∃ k : Nat, k ≤ v.length ∧ i = .int .i64 k ∧ wr.ownsRow w2.heap.size 3 1 x k (ints (grid k (fun k => v.getD k 0 + u.getD k 0))) ∧ Below w2.heap.size w2 wr) (fun _ i _ => v.length - (intOf i).toNat)
  case atStart => exact ⟨0, Nat.zero_le _, rfl, made0 3 rfl, by (repeat (first | exact Below.refl _ _ | assumption | refine below_step ?_ (by assumption) | refine below_alloc ?_ _ | refine below_drewN ?_ _ | refine Below.drew ?_ | refine Below.setCell ?_ (by first | (simp; done) | omega | (simp; omega)) _))⟩
  case round =>
    obtain ⟨k, hk, rfl, hown, hbel⟩ := hrel
    have d0 := bel_cell hbel z0 v0_0
    have d1 := bel_cell hbel z0 v0_1
    have d2 := bel_cell hbel z0 v0_2
    by_cases hlt : k < v.length
    · obtain ⟨a, ha⟩ : ∃ z, v[k]? = some z := ⟨_, List.getElem?_eq_getElem hlt⟩
      obtain ⟨b, hb⟩ : ∃ z, u[k]? = some z := ⟨_, List.getElem?_eq_getElem (by have := HL.out; omega)⟩
      obtain ⟨p1, o1, rfl, hc1⟩ := (hA2.below hbel) k a ha
      obtain ⟨p2, o2, rfl, hc2⟩ := (hC2.below hbel) k b hb
      have k1 := okW_get hok ha
      have k2 := okW_get hok2 hb
      have g1 : (0 : Int) ≤ (k : Int) := by omega
      have g2 : (k : Int) < (v.length : Int) := by omega
      have g3 : (k : Int) < (u.length : Int) := by have := HL.out; omega
      have HA := Lib.hid ha
      have HB := Lib.hid hb
      clear ha hb
      go_wp2_with (at_builtin; refine append_int Try.underlying46 _ _ rfl _ _ rfl _ _ _ (a + b) (by rfl) hown (by rfl) (by omega) hbel ?_; intro v' w' hown' hbel')
      go_roundw
      case rel => exact ⟨k + 1, by omega, by go_num, add_step HA.out HB.out hown', hbel'⟩
      case measure => simp [intOf]; omega
    · obtain rfl : k = v.length := by omega
      obtain ⟨D, c, rfl⟩ := own_shape hown
      have hfat : FAt wr D (addW v u) := FAt_of_own hown
      cases h3 : weightsOk W H X (addW v u)
      · go_wp2_with fail
        refine (calls_is (impl_WeightsOk_n _ _ _ _ _ _ (addW v u) _ (addW_len v u).symm hfat (by rw [addW_len]; omega)) h3).mono ?_
        rintro e wz ⟨rfl, hbz⟩
        go_wp2
        go_ret2
        have e : addWs W H X v u = [] := by simp [addWs, addWOk, h3]
        rw [e, h3]
        exact ⟨none, 0, rfl, World.ownsRow_nil _ _ _ _, by (repeat (first | exact Below.refl _ _ | assumption | refine below_step ?_ (by assumption) | refine below_alloc ?_ _ | refine below_drewN ?_ _ | refine Below.drew ?_ | refine Below.setCell ?_ (by first | (simp; done) | omega | (simp; omega)) _))⟩
      · go_wp2_with fail
        refine (calls_is (impl_WeightsOk_n _ _ _ _ _ _ (addW v u) _ (addW_len v u).symm hfat (by rw [addW_len]; omega)) h3).mono ?_
        rintro e wz ⟨rfl, hbz⟩
        go_wp2
        go_ret2
        have e : addWs W H X v u = addW v u := by simp [addWs, addWOk, h1, h2, h3]
        rw [e, addW_len, h3]
        exact ⟨D, c, rfl, own_lower (own_below hown hbz) hW2.size, by (repeat (first | exact Below.refl _ _ | assumption | refine below_step ?_ (by assumption) | refine below_alloc ?_ _ | refine below_drewN ?_ _ | refine Below.drew ?_ | refine Below.setCell ?_ (by first | (simp; done) | omega | (simp; omega)) _))⟩

theorem impl_AddWeights (W H X : Int) (A : Option Addr) (cap : Nat) (v : List Int) (C : Option Addr) (cap2 : Nat) (u : List Int) (w : World) (hA : FAt w A v) (hn : v.length ≤ 4294967296) (hC : FAt w C u) (hm : u.length ≤ 4294967296) :
    Calls Try.prog 27 #[.agg #[.int .i64 W, .int .i64 H, .int .i64 X], .slice A v.length cap, .slice C u.length cap2] w (RetOwnB 3 1 w (addWs W H X v u).length (addWs W H X v u) (addWOk W H X v u)) := by
  cases h1 : weightsOk W H X v
  · have e : addWs W H X v u = [] := by simp [addWs, addWOk, h1]
    have e2 : addWOk W H X v u = false := by simp [addWOk, h1]
    rw [e, e2]; exact impl_AddWeights_no1 W H X A cap v C cap2 u w hA hn hC hm h1
  · cases h2 : weightsOk W H X u
    · have e : addWs W H X v u = [] := by simp [addWs, addWOk, h2]
      have e2 : addWOk W H X v u = false := by simp [addWOk, h2]
      rw [e, e2]; exact impl_AddWeights_no2 W H X A cap v C cap2 u w hA hn hC hm h1 h2
    · have e2 : addWOk W H X v u = weightsOk W H X (addW v u) := by simp [addWOk, h1, h2]
      rw [e2]; exact impl_AddWeights_yes W H X A cap v C cap2 u w hA hn hC hm h1 h2
end Go.Proofs.Ytmdpacgoijnonaa
