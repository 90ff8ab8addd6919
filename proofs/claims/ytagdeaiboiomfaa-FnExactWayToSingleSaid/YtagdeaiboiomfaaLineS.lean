/- Lists of lines: contracts of the laws' helpers, and TurnGame. -/
import Derived.Test.YtagdeaiboiomfaaLinesOf
import Derived.Test.YtagdeaiboiomfaaSlice
namespace Go.Proofs.Ytagdeaiboiomfaa
open Go.RowKit

theorem cellb_lt {w : World} {b o : Nat} {v : Value} (h : w.cell? ⟨b, o, none⟩ = some v) : b < w.heap.size := by
  rcases Nat.lt_or_ge b w.heap.size with h1 | h1
  · exact h1
  · simp [World.cell?, Array.getElem?_eq_none h1] at h
set_option maxHeartbeats 400000 in
theorem laws_toLine (a b c : Int) (w : World) :
    Calls Try.prog 37 #[.agg #[.int .i64 a, .int .i64 b, .int .i64 c]] w fun e w' => e = .returned (.agg #[.int .i64 a, .int .i64 b, .int .i64 c]) ∧ Below w.heap.size w w' := by
  go_enter Try.func37, Try.ntmps37
  go_wp2
  exact bodyPost_ret (v := .agg #[.int .i64 a, .int .i64 b, .int .i64 c]) (by simp [results, Try.results37, go_sem]) rfl ⟨rfl, by (repeat (first | exact Below.refl _ _ | assumption | refine below_step ?_ (by assumption) | refine below_alloc ?_ _ | refine below_drewN ?_ _ | refine Below.drew ?_ | refine Below.setCell ?_ (by first | (simp; done) | omega | (simp; omega)) _))⟩
set_option maxHeartbeats 400000 in
theorem laws_eqLine (a b c : Int) (w : World) :
    Calls Try.prog 79 #[.agg #[.int .i64 a, .int .i64 b, .int .i64 c], .agg #[.int .i64 a, .int .i64 b, .int .i64 c]] w fun e w' => e = .returned (.bool true) ∧ Below w.heap.size w w' := by
  go_enter Try.func79, Try.ntmps79
  go_wp2
  go_ret
  exact ⟨rfl, by (repeat (first | exact Below.refl _ _ | assumption | refine below_step ?_ (by assumption) | refine below_alloc ?_ _ | refine below_drewN ?_ _ | refine Below.drew ?_ | refine Below.setCell ?_ (by first | (simp; done) | omega | (simp; omega)) _))⟩
set_option maxHeartbeats 2000000 in
theorem laws_eqLineS (A B : Option Addr) (cap cap2 : Nat) (zs : List (Int × Int × Int)) (w : World) (hA : FAt w A (lflat zs)) (hB : FAt w B (lflat zs)) (hn : zs.length ≤ 4294967296) :
    Calls Try.prog 47 #[.slice A zs.length cap, .slice B zs.length cap2] w fun e w' => e = .returned (.bool true) ∧ Below w.heap.size w w' := by
  go_enter Try.func47, Try.ntmps47
  go_wp2
  go_loopw [5] (fun i wr => ∃ k : Nat, k ≤ zs.length ∧ i = .int .i64 k ∧ Below w.heap.size w wr) (fun i _ => zs.length - (intOf i).toNat)
  case atStart => exact ⟨0, Nat.zero_le _, rfl, Below.refl _ _⟩
  case round =>
    obtain ⟨k, hk, rfl, hbel⟩ := hrel
    by_cases hlt : k < zs.length
    · obtain ⟨⟨x, y, z⟩, hz⟩ : ∃ z, zs[k]? = some z := ⟨_, List.getElem?_eq_getElem hlt⟩
      obtain ⟨g1, g2, g3⟩ := lflat_get hz
      obtain ⟨b, off, rfl, hc⟩ := (hA.below hbel) _ _ g1
      obtain ⟨_, _, e2, hc2⟩ := (hA.below hbel) _ _ g2
      injection e2 with e2; injection e2 with e3 e4; subst e3 e4
      obtain ⟨_, _, e2, hc3⟩ := (hA.below hbel) _ _ g3
      injection e2 with e2; injection e2 with e3 e4; subst e3 e4
      obtain ⟨b2, off2, rfl, hd⟩ := (hB.below hbel) _ _ g1
      obtain ⟨_, _, e2, hd2⟩ := (hB.below hbel) _ _ g2
      injection e2 with e2; injection e2 with e3 e4; subst e3 e4
      obtain ⟨_, _, e2, hd3⟩ := (hB.below hbel) _ _ g3
      injection e2 with e2; injection e2 with e3 e4; subst e3 e4
      rw [← Nat.add_assoc] at hc2 hc3 hd2 hd3
      have hk1 : (0 : Int) ≤ (k : Int) := by omega
      have hk2 : (k : Int) < (zs.length : Int) := by omega
      have K : Hid (∀ w', Below wr.heap.size wr w' → Below wr.heap.size wr w' ∧ w'.cell? ⟨b, off + k * 3, none⟩ = some (.int .i64 x) ∧ w'.cell? ⟨b, off + k * 3 + 1, none⟩ = some (.int .i64 y) ∧ w'.cell? ⟨b, off + k * 3 + 2, none⟩ = some (.int .i64 z) ∧ w'.cell? ⟨b2, off2 + k * 3, none⟩ = some (.int .i64 x) ∧ w'.cell? ⟨b2, off2 + k * 3 + 1, none⟩ = some (.int .i64 y) ∧ w'.cell? ⟨b2, off2 + k * 3 + 2, none⟩ = some (.int .i64 z)) :=
        fun w' hB => ⟨hB, bel_cell hB (World.block_lt_of_cell? wr _ hc) hc, bel_cell hB (World.block_lt_of_cell? wr _ hc2) hc2, bel_cell hB (World.block_lt_of_cell? wr _ hc3) hc3, bel_cell hB (World.block_lt_of_cell? wr _ hd) hd, bel_cell hB (World.block_lt_of_cell? wr _ hd2) hd2, bel_cell hB (World.block_lt_of_cell? wr _ hd3) hd3⟩
      clear hz g1 g2 g3
      go_wp2_with fail
      go_region_held3 (fun w' => Below wr.heap.size wr w' ∧ w'.cell? ⟨b, off + k * 3, none⟩ = some (.int .i64 x) ∧ w'.cell? ⟨b, off + k * 3 + 1, none⟩ = some (.int .i64 y) ∧ w'.cell? ⟨b, off + k * 3 + 2, none⟩ = some (.int .i64 z) ∧ w'.cell? ⟨b2, off2 + k * 3, none⟩ = some (.int .i64 x) ∧ w'.cell? ⟨b2, off2 + k * 3 + 1, none⟩ = some (.int .i64 y) ∧ w'.cell? ⟨b2, off2 + k * 3 + 2, none⟩ = some (.int .i64 z))
        ((refine K.out _ ?_; (repeat (first | exact Below.refl _ _ | assumption | refine below_step ?_ (by assumption) | refine below_alloc ?_ _ | refine below_drewN ?_ _ | refine Below.drew ?_ | refine Below.setCell ?_ (by first | (simp; done) | omega | (simp; omega)) _))))
        (first | (go_at_call 79; refine (laws_eqLine _ _ _ _).mono ?_; rintro e w1 ⟨rfl, hb1⟩))
      go_wp2
      go_roundw
      case rel => exact ⟨k + 1, by omega, by go_num, by (repeat (first | exact Below.refl _ _ | assumption | refine below_step ?_ (by assumption) | refine below_alloc ?_ _ | refine below_drewN ?_ _ | refine Below.drew ?_ | refine Below.setCell ?_ (by first | (simp; done) | omega | (simp; omega)) _))⟩
      case measure => simp [intOf]; omega
    · obtain rfl : k = zs.length := by omega
      go_wp2
      go_ret
      exact ⟨rfl, hbel⟩
set_option maxHeartbeats 4000000 in
theorem laws_markLineS (A : Option Addr) (lo cap n : Nat) (xs : List Value) (m : Int) (w : World) (ho : w.ownsRow lo 38 3 (.slice A n cap) n xs) (hn : n ≤ 4294967296) (m0 : 0 ≤ m) (m1 : m ≤ 1000000000000) :
    Calls Try.prog 48 #[.slice A n cap, .int .i64 m] w fun e w' => e = .returned (.int .i64 (m + n * 3)) ∧ w'.ownsRow lo 38 3 (.slice A n cap) n (ints (marks m (n * 3))) ∧ w.grownBy w' (Value.slice A n cap).ownBlock := by
  go_enter Try.func48, Try.ntmps48
  go_wp2
  go_loopw [1, 5] (fun q i wr => ∃ k : Nat, k ≤ n ∧ i = .int .i64 k ∧ q = .int .i64 (m + k * 3) ∧ ∃ cs, wr.ownsRow lo 38 3 (.slice A n cap) n cs ∧ (∀ j, j < k * 3 → cs[j]? = (ints (marks m (n * 3)))[j]?) ∧ w.grownBy wr (Value.slice A n cap).ownBlock) (fun _ i _ => n - (intOf i).toNat)
  case atStart => exact ⟨0, Nat.zero_le _, rfl, by simp, _, ho, fun j hj => absurd hj (by omega), World.grownBy.refl _ _⟩
  case round =>
    obtain ⟨k, hk, rfl, rfl, cs, hrow, hpre, hgr⟩ := hrel
    have hlen := hrow.1
    by_cases hlt : k < n
    · obtain ⟨g, rfl⟩ : ∃ g, A = some ⟨g, 0, none⟩ := by
        rcases hrow.2 with ⟨hv, h0⟩ | ⟨g, _, _, hv, _⟩
        · omega
        · exact ⟨g, by injection hv⟩
      obtain ⟨u, hu⟩ : ∃ u, cs[k * 3]? = some u := ⟨_, List.getElem?_eq_getElem (by omega)⟩
      obtain ⟨u2, hu2⟩ : ∃ u, cs[k * 3 + 1]? = some u := ⟨_, List.getElem?_eq_getElem (by omega)⟩
      obtain ⟨u3, hu3⟩ : ∃ u, cs[k * 3 + 2]? = some u := ⟨_, List.getElem?_eq_getElem (by omega)⟩
      have hd : wr.cell? ⟨g, k * 3, none⟩ = some u := (hrow.cellAt (k * 3) (by omega)).trans hu
      have hd2 : wr.cell? ⟨g, k * 3 + 1, none⟩ = some u2 := (hrow.cellAt (k * 3 + 1) (by omega)).trans hu2
      have hd3 : wr.cell? ⟨g, k * 3 + 2, none⟩ = some u3 := (hrow.cellAt (k * 3 + 2) (by omega)).trans hu3
      have hf : wr.frozen? ⟨g, k * 3, none⟩ = false := hrow.frozenAt (k * 3)
      have hf2 : wr.frozen? ⟨g, k * 3 + 1, none⟩ = false := hrow.frozenAt (k * 3 + 1)
      have hf3 : wr.frozen? ⟨g, k * 3 + 2, none⟩ = false := hrow.frozenAt (k * 3 + 2)
      have HP := Lib.hid hpre
      have HL := Lib.hid hlen
      clear hpre hu hu2 hu3 hlen
      go_wp2
      go_roundw
      case rel =>
        have e1 := marks_get (m := m) (n := n * 3) (j := k * 3) (by omega)
        have e2 := marks_get (m := m) (n := n * 3) (j := k * 3 + 1) (by omega)
        have e3 := marks_get (m := m) (n := n * 3) (j := k * 3 + 2) (by omega)
        rw [show m + ((k * 3 : Nat) : Int) = m + k * 3 from by omega] at e1
        rw [show m + ((k * 3 + 1 : Nat) : Int) = m + k * 3 + 1 from by omega] at e2
        rw [show m + ((k * 3 + 2 : Nat) : Int) = m + k * 3 + 1 + 1 from by omega] at e3
        refine ⟨k + 1, by omega, by go_num, by go_num, _, (((hrow.stored (k * 3) _).1.stored (k * 3 + 1) _).1.stored (k * 3 + 2) _).1, ?_, ((hgr.trans (hrow.stored (k * 3) _).2).trans ((hrow.stored (k * 3) _).1.stored (k * 3 + 1) _).2).trans (((hrow.stored (k * 3) _).1.stored (k * 3 + 1) _).1.stored (k * 3 + 2) _).2⟩
        rw [show (k + 1) * 3 = k * 3 + 1 + 1 + 1 from by omega]
        exact take_set (take_set (take_set HP.out e1 (by rw [HL.out]; omega)) e2 (by rw [List.length_set, HL.out]; omega)) e3 (by rw [List.length_set, List.length_set, HL.out]; omega)
      case measure => simp [intOf]; omega
    · obtain rfl : k = n := by omega
      obtain rfl := all_set (zs := marks m (k * 3)) (by rw [marks_len]; exact hpre) (by rw [marks_len]; omega)
      clear hpre hlen
      go_wp2
      go_ret
      exact ⟨rfl, hrow, hgr⟩
set_option maxHeartbeats 2000000 in
theorem laws_heldLineS (A : Option Addr) (cap n : Nat) (m : Int) (w : World) (h : FAt w A (marks m (n * 3))) (hn : n ≤ 4294967296) (m0 : 0 ≤ m) (m1 : m ≤ 1000000000000) :
    Calls Try.prog 49 #[.slice A n cap, .int .i64 m] w fun e w' => e = .returned (.int .i64 (m + n * 3)) ∧ w = w' := by
  go_enter Try.func49, Try.ntmps49
  go_wp2
  go_loop [1, 5] (fun q i => ∃ k : Nat, k ≤ n ∧ i = .int .i64 k ∧ q = .int .i64 (m + k * 3)) (fun _ i => n - (intOf i).toNat)
  case atStart => exact ⟨0, Nat.zero_le _, rfl, by simp⟩
  case round =>
    obtain ⟨k, hk, rfl, rfl⟩ := hrel
    by_cases hlt : k < n
    · obtain ⟨b, off, rfl, hc⟩ := h (k * 3) _ (marks_get (by omega))
      obtain ⟨_, _, e2, hc2⟩ := h (k * 3 + 1) _ (marks_get (by omega))
      injection e2 with e2; injection e2 with e3 e4; subst e3 e4
      obtain ⟨_, _, e2, hc3⟩ := h (k * 3 + 2) _ (marks_get (by omega))
      injection e2 with e2; injection e2 with e3 e4; subst e3 e4
      rw [← Nat.add_assoc] at hc2 hc3
      rw [show m + ((k * 3 : Nat) : Int) = m + k * 3 from by omega] at hc
      rw [show m + ((k * 3 + 1 : Nat) : Int) = m + k * 3 + 1 from by omega] at hc2
      rw [show m + ((k * 3 + 2 : Nat) : Int) = m + k * 3 + 1 + 1 from by omega] at hc3
      go_wp2
      go_round
      case rel => exact ⟨k + 1, by omega, by go_num, by go_num⟩
      case measure => simp [intOf]; omega
    · obtain rfl : k = n := by omega
      go_wp2
      go_ret
      exact ⟨rfl, rfl⟩
end Go.Proofs.Ytagdeaiboiomfaa
