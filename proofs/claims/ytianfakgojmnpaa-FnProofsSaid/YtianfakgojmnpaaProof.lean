/- Proofs by weights: contracts. -/
import Derived.Test.YtianfakgojmnpaaFalling
namespace Go.Proofs.Ytianfakgojmnpaa
open Go.RowKit

def isProof (W H X : Int) (ws : List Int) (p q : Int) : Bool := isFalling W H X ws && positionOk W H X p && positionOk W H X q && decide (sumOf W H X ws p < sumOf W H X ws q)
theorem impl_BrokenLine_is (W H X : Int) (A : Option Addr) (cap : Nat) (ws : List Int) (w : World) (hA : FAt w A ws) (hn : ws.length ≤ 4294967296) {r : Bool} {a b c : Int} (hr : (brokenLine W H X ws).isSome = r) (hl : lineOr (brokenLine W H X ws) = (a, b, c)) :
    Calls Try.prog 136 #[.agg #[.int .i64 W, .int .i64 H, .int .i64 X], .slice A ws.length cap] w fun e w' => e = .returned (.tuple #[.agg #[.int .i64 a, .int .i64 b, .int .i64 c], .bool r]) ∧ Below w.heap.size w w' := by
  have h := impl_BrokenLine W H X A cap ws w hA hn
  rw [hr, hl] at h
  exact h
set_option maxHeartbeats 1000000 in
theorem impl_IsFalling (W H X : Int) (A : Option Addr) (cap : Nat) (ws : List Int) (w : World) (hA : FAt w A ws) (hn : ws.length ≤ 4294967296) :
    Calls Try.prog 117 #[.agg #[.int .i64 W, .int .i64 H, .int .i64 X], .slice A ws.length cap] w fun e w' => e = .returned (.bool (isFalling W H X ws)) ∧ Below w.heap.size w w' := by
  obtain ⟨⟨a, b, c⟩, hl⟩ : ∃ l, lineOr (brokenLine W H X ws) = l := ⟨_, rfl⟩
  cases h1 : weightsOk W H X ws <;> cases h2 : (brokenLine W H X ws).isSome
  all_goals
    go_enter Try.func117, Try.ntmps117
    go_wp2_with fail
    refine (impl_BrokenLine_is _ _ _ _ _ _ _ (hA.below (by (repeat (first | exact Below.refl _ _ | assumption | refine below_step ?_ (by assumption) | refine below_alloc ?_ _ | refine below_drewN ?_ _ | refine Below.drew ?_ | refine Below.setCell ?_ (by first | (simp; done) | omega | (simp; omega)) _)))) hn h2 hl).mono ?_
    rintro e w1 ⟨rfl, hb1⟩
    obtain ⟨hc1, hf1, hs1⟩ := bcell3 hb1
    have hz1 := hb1.size
    (try simp at hz1)
    go_wp2_with fail
    refine (calls_is (impl_WeightsOk _ _ _ _ _ _ _ (hA.below (by (repeat (first | exact Below.refl _ _ | assumption | refine below_step ?_ (by assumption) | refine below_alloc ?_ _ | refine below_drewN ?_ _ | refine Below.drew ?_ | refine Below.setCell ?_ (by first | (simp; done) | omega | (simp; omega)) _)))) hn) h1).mono ?_
    rintro e w2 ⟨rfl, hb2⟩
    obtain ⟨hc2, hf2, hs2⟩ := bcell3 hb2
    have hz2 := hb2.size
    (try simp at hz2)
    have hb1_2 := below_step (below_step hb1 (by (repeat (first | exact Below.refl _ _ | assumption | refine below_step ?_ (by assumption) | refine below_alloc ?_ _ | refine below_drewN ?_ _ | refine Below.drew ?_ | refine Below.setCell ?_ (by first | (simp; done) | omega | (simp; omega)) _)))) hb2
    clear hc1 hf1 hs1
    obtain ⟨hc1_2, hf1_2, hs1_2⟩ := bcell3 hb1_2
    go_wp2
    go_ret
    exact ⟨ret_bool (by cases hx : brokenLine W H X ws <;> simp_all [isFalling]), by (repeat (first | exact Below.refl _ _ | assumption | refine below_step ?_ (by assumption) | refine below_alloc ?_ _ | refine below_drewN ?_ _ | refine Below.drew ?_ | refine Below.setCell ?_ (by first | (simp; done) | omega | (simp; omega)) _))⟩
theorem spec_BrokenLine_is (W H X : Int) (A : Option Addr) (cap : Nat) (ws : List Int) (w : World) (hA : FAt w A ws) (hn : ws.length ≤ 4294967296) {r : Bool} {a b c : Int} (hr : (brokenLine W H X ws).isSome = r) (hl : lineOr (brokenLine W H X ws) = (a, b, c)) :
    Calls Try.prog 119 #[.agg #[.int .i64 W, .int .i64 H, .int .i64 X], .slice A ws.length cap] w fun e w' => e = .returned (.tuple #[.agg #[.int .i64 a, .int .i64 b, .int .i64 c], .bool r]) ∧ Below w.heap.size w w' := by
  have h := spec_BrokenLine W H X A cap ws w hA hn
  rw [hr, hl] at h
  exact h
set_option maxHeartbeats 1000000 in
theorem spec_IsFalling (W H X : Int) (A : Option Addr) (cap : Nat) (ws : List Int) (w : World) (hA : FAt w A ws) (hn : ws.length ≤ 4294967296) :
    Calls Try.prog 65 #[.agg #[.int .i64 W, .int .i64 H, .int .i64 X], .slice A ws.length cap] w fun e w' => e = .returned (.bool (isFalling W H X ws)) ∧ Below w.heap.size w w' := by
  obtain ⟨⟨a, b, c⟩, hl⟩ : ∃ l, lineOr (brokenLine W H X ws) = l := ⟨_, rfl⟩
  cases h1 : weightsOk W H X ws <;> cases h2 : (brokenLine W H X ws).isSome
  all_goals
    go_enter Try.func65, Try.ntmps65
    go_wp2_with fail
    refine (spec_BrokenLine_is _ _ _ _ _ _ _ (hA.below (by (repeat (first | exact Below.refl _ _ | assumption | refine below_step ?_ (by assumption) | refine below_alloc ?_ _ | refine below_drewN ?_ _ | refine Below.drew ?_ | refine Below.setCell ?_ (by first | (simp; done) | omega | (simp; omega)) _)))) hn h2 hl).mono ?_
    rintro e w1 ⟨rfl, hb1⟩
    obtain ⟨hc1, hf1, hs1⟩ := bcell3 hb1
    have hz1 := hb1.size
    (try simp at hz1)
    go_wp2_with fail
    refine (calls_is (spec_WeightsOk _ _ _ _ _ _ _ (hA.below (by (repeat (first | exact Below.refl _ _ | assumption | refine below_step ?_ (by assumption) | refine below_alloc ?_ _ | refine below_drewN ?_ _ | refine Below.drew ?_ | refine Below.setCell ?_ (by first | (simp; done) | omega | (simp; omega)) _)))) hn) h1).mono ?_
    rintro e w2 ⟨rfl, hb2⟩
    obtain ⟨hc2, hf2, hs2⟩ := bcell3 hb2
    have hz2 := hb2.size
    (try simp at hz2)
    have hb1_2 := below_step (below_step hb1 (by (repeat (first | exact Below.refl _ _ | assumption | refine below_step ?_ (by assumption) | refine below_alloc ?_ _ | refine below_drewN ?_ _ | refine Below.drew ?_ | refine Below.setCell ?_ (by first | (simp; done) | omega | (simp; omega)) _)))) hb2
    clear hc1 hf1 hs1
    obtain ⟨hc1_2, hf1_2, hs1_2⟩ := bcell3 hb1_2
    go_wp2
    go_ret
    exact ⟨ret_bool (by cases hx : brokenLine W H X ws <;> simp_all [isFalling]), by (repeat (first | exact Below.refl _ _ | assumption | refine below_step ?_ (by assumption) | refine below_alloc ?_ _ | refine below_drewN ?_ _ | refine Below.drew ?_ | refine Below.setCell ?_ (by first | (simp; done) | omega | (simp; omega)) _))⟩
end Go.Proofs.Ytianfakgojmnpaa
