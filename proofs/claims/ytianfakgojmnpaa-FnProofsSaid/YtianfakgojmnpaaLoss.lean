/- Lines of a board, losses: contracts. -/
import Derived.Test.YtianfakgojmnpaaBetween
namespace Go.Proofs.Ytianfakgojmnpaa
open Go.RowKit

def lossOf (W H X : Int) (ws : List Int) (f o t : Int) : Int := if weightsOk W H X ws = true ∧ isLine W H X f o t = true then ws.getD f.toNat 0 + ws.getD o.toNat 0 - ws.getD t.toNat 0 else 0
theorem isLine_in {W H X f o t : Int} (h : isLine W H X f o t = true) : hasHole W H X f = true ∧ hasHole W H X o = true ∧ hasHole W H X t = true :=
  linesOf_in (l := (f, o, t)) (lineBetween_some (of_decide_eq_true h)).1
set_option maxHeartbeats 2000000 in
theorem impl_isLine (W H X f o t : Int) (w : World) :
    Calls Try.prog 102 #[.agg #[.int .i64 W, .int .i64 H, .int .i64 X], .agg #[.int .i64 f, .int .i64 o, .int .i64 t]] w fun e w' => e = .returned (.bool (isLine W H X f o t)) ∧ Below w.heap.size w w' := by
  cases ho : lineBetween W H X f t with
  | none =>
    go_enter Try.func102, Try.ntmps102
    go_wp2_with fail
    refine (impl_LineBetween_is _ _ _ _ _ _ (by rw [ho]) (by rw [ho])).mono ?_
    rintro e w1 ⟨rfl, hb1⟩
    obtain ⟨hc1, hf1, hs1⟩ := bcell3 hb1
    have hz1 := hb1.size
    (try simp at hz1)
    go_wp2
    go_ret
    exact ⟨ret_bool (by simp [isLine, ho]), by (repeat (first | exact Below.refl _ _ | assumption | refine below_step ?_ (by assumption) | refine below_alloc ?_ _ | refine below_drewN ?_ _ | refine Below.drew ?_ | refine Below.setCell ?_ (by first | (simp; done) | omega | (simp; omega)) _))⟩
  | some l =>
    obtain ⟨a, b, c⟩ := l
    obtain ⟨_, h1, h2⟩ := lineBetween_some ho
    simp only at h1 h2
    subst h1 h2
    by_cases hb : b = o
    · subst hb
      go_enter Try.func102, Try.ntmps102
      go_wp2_with fail
      refine (impl_LineBetween_is _ _ _ _ _ _ (by rw [ho]) (by rw [ho])).mono ?_
      rintro e w1 ⟨rfl, hb1⟩
      obtain ⟨hc1, hf1, hs1⟩ := bcell3 hb1
      have hz1 := hb1.size
      (try simp at hz1)
      go_wp2
      go_ret
      exact ⟨ret_bool (by simp [isLine, ho]), by (repeat (first | exact Below.refl _ _ | assumption | refine below_step ?_ (by assumption) | refine below_alloc ?_ _ | refine below_drewN ?_ _ | refine Below.drew ?_ | refine Below.setCell ?_ (by first | (simp; done) | omega | (simp; omega)) _))⟩
    · go_enter Try.func102, Try.ntmps102
      go_wp2_with fail
      refine (impl_LineBetween_is _ _ _ _ _ _ (by rw [ho]) (by rw [ho])).mono ?_
      rintro e w1 ⟨rfl, hb1⟩
      obtain ⟨hc1, hf1, hs1⟩ := bcell3 hb1
      have hz1 := hb1.size
      (try simp at hz1)
      go_wp2
      go_ret
      exact ⟨ret_bool (by simp [isLine, ho, hb]), by (repeat (first | exact Below.refl _ _ | assumption | refine below_step ?_ (by assumption) | refine below_alloc ?_ _ | refine below_drewN ?_ _ | refine Below.drew ?_ | refine Below.setCell ?_ (by first | (simp; done) | omega | (simp; omega)) _))⟩
set_option maxHeartbeats 2000000 in
theorem spec_isLine (W H X f o t : Int) (w : World) :
    Calls Try.prog 130 #[.agg #[.int .i64 W, .int .i64 H, .int .i64 X], .agg #[.int .i64 f, .int .i64 o, .int .i64 t]] w fun e w' => e = .returned (.bool (isLine W H X f o t)) ∧ Below w.heap.size w w' := by
  cases ho : lineBetween W H X f t with
  | none =>
    go_enter Try.func130, Try.ntmps130
    go_wp2_with fail
    refine (spec_LineBetween_is _ _ _ _ _ _ (by rw [ho]) (by rw [ho])).mono ?_
    rintro e w1 ⟨rfl, hb1⟩
    obtain ⟨hc1, hf1, hs1⟩ := bcell3 hb1
    have hz1 := hb1.size
    (try simp at hz1)
    go_wp2
    go_ret
    exact ⟨ret_bool (by simp [isLine, ho]), by (repeat (first | exact Below.refl _ _ | assumption | refine below_step ?_ (by assumption) | refine below_alloc ?_ _ | refine below_drewN ?_ _ | refine Below.drew ?_ | refine Below.setCell ?_ (by first | (simp; done) | omega | (simp; omega)) _))⟩
  | some l =>
    obtain ⟨a, b, c⟩ := l
    obtain ⟨_, h1, h2⟩ := lineBetween_some ho
    simp only at h1 h2
    subst h1 h2
    by_cases hb : b = o
    · subst hb
      go_enter Try.func130, Try.ntmps130
      go_wp2_with fail
      refine (spec_LineBetween_is _ _ _ _ _ _ (by rw [ho]) (by rw [ho])).mono ?_
      rintro e w1 ⟨rfl, hb1⟩
      obtain ⟨hc1, hf1, hs1⟩ := bcell3 hb1
      have hz1 := hb1.size
      (try simp at hz1)
      go_wp2
      go_ret
      exact ⟨ret_bool (by simp [isLine, ho]), by (repeat (first | exact Below.refl _ _ | assumption | refine below_step ?_ (by assumption) | refine below_alloc ?_ _ | refine below_drewN ?_ _ | refine Below.drew ?_ | refine Below.setCell ?_ (by first | (simp; done) | omega | (simp; omega)) _))⟩
    · go_enter Try.func130, Try.ntmps130
      go_wp2_with fail
      refine (spec_LineBetween_is _ _ _ _ _ _ (by rw [ho]) (by rw [ho])).mono ?_
      rintro e w1 ⟨rfl, hb1⟩
      obtain ⟨hc1, hf1, hs1⟩ := bcell3 hb1
      have hz1 := hb1.size
      (try simp at hz1)
      go_wp2
      go_ret
      exact ⟨ret_bool (by simp [isLine, ho, hb]), by (repeat (first | exact Below.refl _ _ | assumption | refine below_step ?_ (by assumption) | refine below_alloc ?_ _ | refine below_drewN ?_ _ | refine Below.drew ?_ | refine Below.setCell ?_ (by first | (simp; done) | omega | (simp; omega)) _))⟩
end Go.Proofs.Ytianfakgojmnpaa
