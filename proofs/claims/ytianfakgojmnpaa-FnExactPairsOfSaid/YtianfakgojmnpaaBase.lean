/- Contracts: ranges, boards, positions. -/
import Derived.Test.YtianfakgojmnpaaProg
import Derived.Test.YtianfakgojmnpaaBits
import Derived.WalkKit
import Derived.WalkSpells
import Derived.WalkLawsBesides
import Derived.Lib.Hide
import Derived.BigQuiet
import Derived.Deep.QuietTactic
import Derived.Deep.RegionHeld3
import Derived.Deep.DrawnRows
namespace Go.Proofs.Ytianfakgojmnpaa
open Go.RowKit

theorem bcell {W w1 : World} (hb : Below W.heap.size W w1) : (∀ b o, b < W.heap.size → w1.cell? ⟨b, o, none⟩ = W.cell? ⟨b, o, none⟩) ∧ (∀ b o, b < W.heap.size → w1.frozen? ⟨b, o, none⟩ = W.frozen? ⟨b, o, none⟩) :=
  ⟨fun b o h => hb.cell (p := ⟨b, o, none⟩) h, fun b o h => hb.frozen (p := ⟨b, o, none⟩) h⟩

theorem bcell3 {W w1 : World} (hb : Below W.heap.size W w1) : (∀ b o, b < W.heap.size → w1.cell? ⟨b, o, none⟩ = W.cell? ⟨b, o, none⟩) ∧ (∀ b o, b < W.heap.size → w1.frozen? ⟨b, o, none⟩ = W.frozen? ⟨b, o, none⟩) ∧ (∀ b, b < W.heap.size → b < w1.heap.size) :=
  ⟨fun b o h => hb.cell (p := ⟨b, o, none⟩) h, fun b o h => hb.frozen (p := ⟨b, o, none⟩) h, fun _ h => Nat.lt_of_lt_of_le h hb.size⟩
theorem below_one (w : World) (o : Obj) : Below w.heap.size w (w.alloc o) := (Below.refl _ _).alloc (Nat.le_refl _) _
theorem below_up {w w1 : World} {o : Obj} (h : Below (w.alloc o).heap.size (w.alloc o) w1) : Below w.heap.size w w1 := (below_one w o).trans (h.mono (by simp))
theorem below_step {W w w1 : World} (h : Below W.heap.size W w) (h1 : Below w.heap.size w w1) : Below W.heap.size W w1 := h.trans (h1.mono h.size)
theorem below_alloc {W w : World} (h : Below W.heap.size W w) (o : Obj) : Below W.heap.size W (w.alloc o) := h.alloc h.size _
theorem bel_cell {V w : World} (h : Below V.heap.size V w) {b o : Nat} {v : Value} (hb : b < V.heap.size) (hv : V.cell? ⟨b, o, none⟩ = some v) : w.cell? ⟨b, o, none⟩ = some v := (h.cell (p := ⟨b, o, none⟩) hb).trans hv
theorem below_two {w w1 : World} {o o2 : Obj} (h : Below ((w.alloc o).alloc o2).heap.size ((w.alloc o).alloc o2) w1) : Below w.heap.size w w1 := below_up (below_up h)

theorem pow_wrap {W H : Int} (m1 : 1 ≤ W * H) (m2 : W * H ≤ 49) : wrap64 (wrap64 (2 ^ (W * H).toNat) - 1) = 2 ^ (W * H).toNat - 1 := by
  obtain ⟨p1, p2⟩ := pow_bd (n := (W * H).toNat) (by omega)
  rw [IntWalk.wrap64_in (2 ^ (W * H).toNat) ⟨by omega, by omega⟩, IntWalk.wrap64_in _ ⟨by omega, by omega⟩]

theorem pow_wrap' {W H : Int} (m1 : 1 ≤ W * H) (m2 : W * H ≤ 49) : IntKind.i64.wrap (IntKind.i64.wrap (2 ^ (W * H).toNat) - 1) = 2 ^ (W * H).toNat - 1 := by
  obtain ⟨p1, p2⟩ := pow_bd (n := (W * H).toNat) (by omega)
  rw [IntWalk.i64_in (2 ^ (W * H).toNat) ⟨by omega, by omega⟩, IntWalk.i64_in _ ⟨by omega, by omega⟩]

theorem ret_bool {a b : Bool} (h : a = b) : Ending.returned (.bool a) = Ending.returned (.bool b) := by rw [h]
theorem ret_int {a b : Int} (h : a = b) : Ending.returned (.int .i64 a) = Ending.returned (.int .i64 b) := by rw [h]

theorem calls_is {P : Program} {f : FuncId} {args : Array Value} {w : World} {b r : Bool} {R : World → Prop} (h : Calls P f args w fun e w' => e = .returned (.bool b) ∧ R w') (e : b = r) :
    Calls P f args w fun e w' => e = .returned (.bool r) ∧ R w' := by subst e; exact h

set_option maxHeartbeats 400000 in
theorem impl_within (n a b : Int) (w : World) :
    Calls Try.prog 72 #[.int .i64 n, .int .i64 a, .int .i64 b] w fun e w' => e = .returned (.bool (inB n a b)) ∧ w = w' := by
  go_enter Try.func72, Try.ntmps72
  go_wp2
  all_goals (go_ret; exact ⟨by first | (simp [inB, *]; done) | (simp [inB]; omega), rfl⟩)
theorem impl_within_is {n a b : Int} {r : Bool} (h : inB n a b = r) (w : World) :
    Calls Try.prog 72 #[.int .i64 n, .int .i64 a, .int .i64 b] w fun e w' => e = .returned (.bool r) ∧ w' = w :=
  (impl_within n a b w).mono fun _ _ hh => ⟨hh.1.trans (ret_bool h), hh.2.symm⟩
set_option maxHeartbeats 400000 in
theorem spec_l01In (n a b : Int) (w : World) :
    Calls Try.prog 98 #[.int .i64 n, .int .i64 a, .int .i64 b] w fun e w' => e = .returned (.bool (inB n a b)) ∧ w = w' := by
  go_enter Try.func98, Try.ntmps98
  go_wp2
  all_goals (go_ret; exact ⟨by first | (simp [inB, *]; done) | (simp [inB]; omega), rfl⟩)
set_option maxHeartbeats 400000 in
theorem impl_magnitude (n : Int) (w : World) (h1 : -9223372036854775808 < n) (h2 : n < 9223372036854775808) :
    Calls Try.prog 74 #[.int .i64 n] w fun e w' => e = .returned (.int .i64 (absI n)) ∧ w = w' := by
  by_cases h : n < 0
  all_goals
    go_enter Try.func74, Try.ntmps74
    go_wp2
    go_ret
    exact ⟨by first | (rw [absI_neg h]; rfl) | (rw [absI_pos (by omega)]; rfl), rfl⟩

set_option maxHeartbeats 400000 in
theorem impl_BoardOk_yes (W H X : Int) (w : World) (h1 : inB W 1 7 = true) (h2 : inB H 1 7 = true) :
    Calls Try.prog 93 #[.agg #[.int .i64 W, .int .i64 H, .int .i64 X]] w fun e w' => e = .returned (.bool (boardOk W H X)) ∧ Below w.heap.size w w' := by
  obtain ⟨a1, a2⟩ := inB_iff.1 h1
  obtain ⟨a3, a4⟩ := inB_iff.1 h2
  obtain ⟨m1, m2⟩ := mul_bd a1 a2 a3 a4
  have k1 : IntKind.i64.wrap (W * H) = W * H := IntWalk.i64_in _ (by omega)
  go_enter Try.func93, Try.ntmps93
  go_wp2_with fail
  go_quiet ((go_at_call 72; exact Calls.quiet_of_same ((impl_within _ _ _ _).mono fun e w' h => ⟨h.1, h.2.symm⟩)))
  go_wp2
  go_ret
  exact ⟨ret_bool (by (first | rw [pow_wrap m1 m2] | rw [pow_wrap' m1 m2]); simp [boardOk, h1, h2]), below_drewN (below_one _ _) _⟩

set_option maxHeartbeats 400000 in
theorem impl_BoardOk_no2 (W H X : Int) (w : World) (h1 : inB W 1 7 = true) (h2 : inB H 1 7 = false) :
    Calls Try.prog 93 #[.agg #[.int .i64 W, .int .i64 H, .int .i64 X]] w fun e w' => e = .returned (.bool false) ∧ Below w.heap.size w w' := by
  go_enter Try.func93, Try.ntmps93
  go_wp2_with fail
  go_quiet ((go_at_call 72; exact Calls.quiet_of_same (impl_within_is (by assumption) _)))
  go_wp2
  go_ret
  exact ⟨rfl, below_drewN (below_one _ _) _⟩

set_option maxHeartbeats 400000 in
theorem impl_BoardOk_no1 (W H X : Int) (w : World) (h1 : inB W 1 7 = false) :
    Calls Try.prog 93 #[.agg #[.int .i64 W, .int .i64 H, .int .i64 X]] w fun e w' => e = .returned (.bool false) ∧ Below w.heap.size w w' := by
  go_enter Try.func93, Try.ntmps93
  go_wp2_with fail
  go_quiet ((go_at_call 72; exact Calls.quiet_of_same (impl_within_is h1 _)))
  go_wp2
  go_ret
  exact ⟨rfl, below_drewN (below_one _ _) _⟩

theorem impl_BoardOk (W H X : Int) (w : World) :
    Calls Try.prog 93 #[.agg #[.int .i64 W, .int .i64 H, .int .i64 X]] w fun e w' => e = .returned (.bool (boardOk W H X)) ∧ Below w.heap.size w w' := by
  cases h1 : inB W 1 7
  · exact (impl_BoardOk_no1 W H X w h1).mono fun e w' h => ⟨h.1.trans (ret_bool (by simp [boardOk, h1])), h.2⟩
  · cases h2 : inB H 1 7
    · exact (impl_BoardOk_no2 W H X w h1 h2).mono fun e w' h => ⟨h.1.trans (ret_bool (by simp [boardOk, h2])), h.2⟩
    · exact impl_BoardOk_yes W H X w h1 h2
set_option maxHeartbeats 400000 in
theorem spec_BoardOk (W H X : Int) (w : World) :
    Calls Try.prog 97 #[.agg #[.int .i64 W, .int .i64 H, .int .i64 X]] w fun e w' => e = .returned (.bool (boardOk W H X)) ∧ Below w.heap.size w w' := by
  by_cases h1 : inB W 1 7 = true
  · by_cases h2 : inB H 1 7 = true
    · obtain ⟨a1, a2⟩ := inB_iff.1 h1
      obtain ⟨a3, a4⟩ := inB_iff.1 h2
      obtain ⟨m1, m2⟩ := mul_bd a1 a2 a3 a4
      go_enter Try.func97, Try.ntmps97
      go_wp2_with (go_at_call 98; refine (spec_l01In _ _ _ _).mono ?_; rintro e w' ⟨rfl, rfl⟩)
      go_quiet ((go_at_call 98; exact Calls.quiet_of_same ((spec_l01In _ _ _ _).mono fun e w' h => ⟨h.1, h.2.symm⟩)))
      go_wp2
      go_ret
      exact ⟨ret_bool (by (first | rw [pow_wrap m1 m2] | rw [pow_wrap' m1 m2]); simp [boardOk, h1, h2]), below_drewN (below_one _ _) _⟩
    · go_enter Try.func97, Try.ntmps97
      go_wp2_with (go_at_call 98; refine (spec_l01In _ _ _ _).mono ?_; rintro e w' ⟨rfl, rfl⟩)
      go_ret
      exact ⟨by simp [boardOk, h2], below_one _ _⟩
  · go_enter Try.func97, Try.ntmps97
    go_wp2_with (go_at_call 98; refine (spec_l01In _ _ _ _).mono ?_; rintro e w' ⟨rfl, rfl⟩)
    go_ret
    exact ⟨by simp [boardOk, h1], below_one _ _⟩

set_option maxHeartbeats 400000 in
theorem impl_PositionOk (W H X p : Int) (w : World) (hp : p ≤ 9223372036854775807) :
    Calls Try.prog 104 #[.agg #[.int .i64 W, .int .i64 H, .int .i64 X], .int .i64 p] w fun e w' => e = .returned (.bool (positionOk W H X p)) ∧ Below w.heap.size w w' := by
  by_cases h1 : boardOk W H X = true
  · by_cases h2 : 0 ≤ p
    · have F := boardOk_facts h1
      have e1 : bits .andNot .i64 p X = _ := bits_andNot h2 (by omega) (by have := F.x1; omega) (by have := F.x3; omega)
      have E := Lib.hid e1
      clear e1 F
      go_enter Try.func104, Try.ntmps104
      go_wp2_with (go_at_call 93; refine (impl_BoardOk _ _ _ _).mono ?_; rintro e w1 ⟨rfl, hb⟩; obtain ⟨hc, hf⟩ := bcell hb)
      go_ret
      refine ⟨ret_bool ?_, below_up hb⟩
      rw [E.out]
      simp only [positionOk, h1, h2, decide_true, Bool.true_and]
      rw [Bool.eq_iff_iff]
      simp only [beq_iff_eq]
      constructor
      · intro h
        exact xor_zero (by omega)
      · intro h
        rw [h]; simp
    · go_enter Try.func104, Try.ntmps104
      go_wp2_with (go_at_call 93; refine (impl_BoardOk _ _ _ _).mono ?_; rintro e w1 ⟨rfl, hb⟩; obtain ⟨hc, hf⟩ := bcell hb)
      go_ret
      exact ⟨ret_bool (by simp [positionOk, h1]; omega), below_up hb⟩
  · go_enter Try.func104, Try.ntmps104
    go_wp2_with (go_at_call 93; refine (impl_BoardOk _ _ _ _).mono ?_; rintro e w1 ⟨rfl, hb⟩; obtain ⟨hc, hf⟩ := bcell hb)
    go_ret
    exact ⟨by simp [positionOk, h1], below_up hb⟩
set_option maxHeartbeats 400000 in
theorem spec_PositionOk (W H X p : Int) (w : World) (hp : p ≤ 9223372036854775807) :
    Calls Try.prog 62 #[.agg #[.int .i64 W, .int .i64 H, .int .i64 X], .int .i64 p] w fun e w' => e = .returned (.bool (positionOk W H X p)) ∧ Below w.heap.size w w' := by
  by_cases h1 : boardOk W H X = true
  · by_cases h2 : 0 ≤ p
    · have F := boardOk_facts h1
      have e1 : bits .and .i64 p X = _ := bits_and h2 (by omega) (by have := F.x1; omega) (by have := F.x3; omega)
      have E := Lib.hid e1
      clear e1 F
      go_enter Try.func62, Try.ntmps62
      go_wp2_with (go_at_call 97; refine (spec_BoardOk _ _ _ _).mono ?_; rintro e w1 ⟨rfl, hb⟩; obtain ⟨hc, hf⟩ := bcell hb)
      go_ret
      refine ⟨ret_bool ?_, below_up hb⟩
      rw [E.out]
      simp only [positionOk, h1, h2, decide_true, Bool.true_and]
      rw [Bool.eq_iff_iff]
      simp only [beq_iff_eq]
      omega
    · go_enter Try.func62, Try.ntmps62
      go_wp2_with (go_at_call 97; refine (spec_BoardOk _ _ _ _).mono ?_; rintro e w1 ⟨rfl, hb⟩; obtain ⟨hc, hf⟩ := bcell hb)
      go_ret
      exact ⟨ret_bool (by simp [positionOk, h1]; omega), below_up hb⟩
  · go_enter Try.func62, Try.ntmps62
    go_wp2_with (go_at_call 97; refine (spec_BoardOk _ _ _ _).mono ?_; rintro e w1 ⟨rfl, hb⟩; obtain ⟨hc, hf⟩ := bcell hb)
    go_ret
    exact ⟨by simp [positionOk, h1], below_up hb⟩

end Go.Proofs.Ytianfakgojmnpaa
