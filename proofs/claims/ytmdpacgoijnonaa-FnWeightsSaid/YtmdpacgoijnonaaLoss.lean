/- Lines of a board, losses: contracts. -/
import Derived.Test.YtmdpacgoijnonaaBetween
namespace Go.Proofs.Ytmdpacgoijnonaa
open Go.RowKit

def lossOf (W H X : Int) (ws : List Int) (f o t : Int) : Int := if weightsOk W H X ws = true ∧ isLine W H X f o t = true then ws.getD f.toNat 0 + ws.getD o.toNat 0 - ws.getD t.toNat 0 else 0
theorem isLine_in {W H X f o t : Int} (h : isLine W H X f o t = true) : hasHole W H X f = true ∧ hasHole W H X o = true ∧ hasHole W H X t = true :=
  linesOf_in (l := (f, o, t)) (lineBetween_some (of_decide_eq_true h)).1
set_option maxHeartbeats 2000000 in
theorem impl_isLine (W H X f o t : Int) (w : World) :
    Calls Try.prog 41 #[.agg #[.int .i64 W, .int .i64 H, .int .i64 X], .agg #[.int .i64 f, .int .i64 o, .int .i64 t]] w fun e w' => e = .returned (.bool (isLine W H X f o t)) ∧ Below w.heap.size w w' := by
  cases ho : lineBetween W H X f t with
  | none =>
    go_enter Try.func41, Try.ntmps41
    go_wp2_with fail
    refine (impl_LineBetween_is _ _ _ _ _ _ (by rw [ho]) (by rw [ho])).mono ?_
    rintro e w1 ⟨rfl, hb1⟩
    obtain ⟨hc1, hf1, hs1⟩ := bcell3 hb1
    have hz1 := hb1.size
    (try simp at hz1)
    go_wp2
    go_ret
    exact ⟨ret_bool (by simp [isLine, ho]), by (repeat (first | exact Below.refl _ _ | assumption | refine below_step ?_ (by assumption) | refine below_alloc ?_ _ | refine below_drewN ?_ _ | refine Below.drew ?_ | refine Below.setCell ?_ (by first | (simp; done) | omega | (simp; omega)) _))⟩
  | some l =>
    obtain ⟨a, b, c⟩ := l
    obtain ⟨_, h1, h2⟩ := lineBetween_some ho
    simp only at h1 h2
    subst h1 h2
    by_cases hb : b = o
    · subst hb
      go_enter Try.func41, Try.ntmps41
      go_wp2_with fail
      refine (impl_LineBetween_is _ _ _ _ _ _ (by rw [ho]) (by rw [ho])).mono ?_
      rintro e w1 ⟨rfl, hb1⟩
      obtain ⟨hc1, hf1, hs1⟩ := bcell3 hb1
      have hz1 := hb1.size
      (try simp at hz1)
      go_wp2
      go_ret
      exact ⟨ret_bool (by simp [isLine, ho]), by (repeat (first | exact Below.refl _ _ | assumption | refine below_step ?_ (by assumption) | refine below_alloc ?_ _ | refine below_drewN ?_ _ | refine Below.drew ?_ | refine Below.setCell ?_ (by first | (simp; done) | omega | (simp; omega)) _))⟩
    · go_enter Try.func41, Try.ntmps41
      go_wp2_with fail
      refine (impl_LineBetween_is _ _ _ _ _ _ (by rw [ho]) (by rw [ho])).mono ?_
      rintro e w1 ⟨rfl, hb1⟩
      obtain ⟨hc1, hf1, hs1⟩ := bcell3 hb1
      have hz1 := hb1.size
      (try simp at hz1)
      go_wp2
      go_ret
      exact ⟨ret_bool (by simp [isLine, ho, hb]), by (repeat (first | exact Below.refl _ _ | assumption | refine below_step ?_ (by assumption) | refine below_alloc ?_ _ | refine below_drewN ?_ _ | refine Below.drew ?_ | refine Below.setCell ?_ (by first | (simp; done) | omega | (simp; omega)) _))⟩
set_option maxHeartbeats 2000000 in
theorem spec_isLine (W H X f o t : Int) (w : World) :
    Calls Try.prog 38 #[.agg #[.int .i64 W, .int .i64 H, .int .i64 X], .agg #[.int .i64 f, .int .i64 o, .int .i64 t]] w fun e w' => e = .returned (.bool (isLine W H X f o t)) ∧ Below w.heap.size w w' := by
  cases ho : lineBetween W H X f t with
  | none =>
    go_enter Try.func38, Try.ntmps38
    go_wp2_with fail
    refine (spec_LineBetween_is _ _ _ _ _ _ (by rw [ho]) (by rw [ho])).mono ?_
    rintro e w1 ⟨rfl, hb1⟩
    obtain ⟨hc1, hf1, hs1⟩ := bcell3 hb1
    have hz1 := hb1.size
    (try simp at hz1)
    go_wp2
    go_ret
    exact ⟨ret_bool (by simp [isLine, ho]), by (repeat (first | exact Below.refl _ _ | assumption | refine below_step ?_ (by assumption) | refine below_alloc ?_ _ | refine below_drewN ?_ _ | refine Below.drew ?_ | refine Below.setCell ?_ (by first | (simp; done) | omega | (simp; omega)) _))⟩
  | some l =>
    obtain ⟨a, b, c⟩ := l
    obtain ⟨_, h1, h2⟩ := lineBetween_some ho
    simp only at h1 h2
    subst h1 h2
    by_cases hb : b = o
    · subst hb
      go_enter Try.func38, Try.ntmps38
      go_wp2_with fail
      refine (spec_LineBetween_is _ _ _ _ _ _ (by rw [ho]) (by rw [ho])).mono ?_
      rintro e w1 ⟨rfl, hb1⟩
      obtain ⟨hc1, hf1, hs1⟩ := bcell3 hb1
      have hz1 := hb1.size
      (try simp at hz1)
      go_wp2
      go_ret
      exact ⟨ret_bool (by simp [isLine, ho]), by (repeat (first | exact Below.refl _ _ | assumption | refine below_step ?_ (by assumption) | refine below_alloc ?_ _ | refine below_drewN ?_ _ | refine Below.drew ?_ | refine Below.setCell ?_ (by first | (simp; done) | omega | (simp; omega)) _))⟩
    · go_enter Try.func38, Try.ntmps38
      go_wp2_with fail
      refine (spec_LineBetween_is _ _ _ _ _ _ (by rw [ho]) (by rw [ho])).mono ?_
      rintro e w1 ⟨rfl, hb1⟩
      obtain ⟨hc1, hf1, hs1⟩ := bcell3 hb1
      have hz1 := hb1.size
      (try simp at hz1)
      go_wp2
      go_ret
      exact ⟨ret_bool (by simp [isLine, ho, hb]), by (repeat (first | exact Below.refl _ _ | assumption | refine below_step ?_ (by assumption) | refine below_alloc ?_ _ | refine below_drewN ?_ _ | refine Below.drew ?_ | refine Below.setCell ?_ (by first | (simp; done) | omega | (simp; omega)) _))⟩
set_option maxHeartbeats 2000000 in
theorem impl_LossOf (W H X : Int) (A : Option Addr) (cap : Nat) (ws : List Int) (f o t : Int) (w : World) (hA : FAt w A ws) (hn : ws.length ≤ 4294967296) :
    Calls Try.prog 25 #[.agg #[.int .i64 W, .int .i64 H, .int .i64 X], .slice A ws.length cap, .agg #[.int .i64 f, .int .i64 o, .int .i64 t]] w fun e w' => e = .returned (.int .i64 (lossOf W H X ws f o t)) ∧ Below w.heap.size w w' := by
  cases h1 : weightsOk W H X ws
  · go_enter Try.func25, Try.ntmps25
    go_wp2_with fail
    refine (calls_is (impl_WeightsOk _ _ _ _ _ _ _ (hA.below (by (repeat (first | exact Below.refl _ _ | assumption | refine below_step ?_ (by assumption) | refine below_alloc ?_ _ | refine below_drewN ?_ _ | refine Below.drew ?_ | refine Below.setCell ?_ (by first | (simp; done) | omega | (simp; omega)) _)))) hn) h1).mono ?_
    rintro e w1 ⟨rfl, hb1⟩
    obtain ⟨hc1, hf1, hs1⟩ := bcell3 hb1
    have hz1 := hb1.size
    (try simp at hz1)
    go_wp2
    go_ret
    exact ⟨ret_int (by simp [lossOf, h1]), by (repeat (first | exact Below.refl _ _ | assumption | refine below_step ?_ (by assumption) | refine below_alloc ?_ _ | refine below_drewN ?_ _ | refine Below.drew ?_ | refine Below.setCell ?_ (by first | (simp; done) | omega | (simp; omega)) _))⟩
  cases h2 : isLine W H X f o t
  · go_enter Try.func25, Try.ntmps25
    go_wp2_with fail
    refine (calls_is (impl_WeightsOk _ _ _ _ _ _ _ (hA.below (by (repeat (first | exact Below.refl _ _ | assumption | refine below_step ?_ (by assumption) | refine below_alloc ?_ _ | refine below_drewN ?_ _ | refine Below.drew ?_ | refine Below.setCell ?_ (by first | (simp; done) | omega | (simp; omega)) _)))) hn) h1).mono ?_
    rintro e w1 ⟨rfl, hb1⟩
    obtain ⟨hc1, hf1, hs1⟩ := bcell3 hb1
    have hz1 := hb1.size
    (try simp at hz1)
    go_wp2_with fail
    refine (calls_is (impl_isLine _ _ _ _ _ _ _) h2).mono ?_
    rintro e w2 ⟨rfl, hb2⟩
    obtain ⟨hc2, hf2, hs2⟩ := bcell3 hb2
    have hz2 := hb2.size
    (try simp at hz2)
    have hb1_2 := below_step (below_step hb1 (by (repeat (first | exact Below.refl _ _ | assumption | refine below_step ?_ (by assumption) | refine below_alloc ?_ _ | refine below_drewN ?_ _ | refine Below.drew ?_ | refine Below.setCell ?_ (by first | (simp; done) | omega | (simp; omega)) _)))) hb2
    clear hc1 hf1 hs1
    obtain ⟨hc1_2, hf1_2, hs1_2⟩ := bcell3 hb1_2
    go_wp2
    go_ret
    exact ⟨ret_int (by simp [lossOf, h1, h2]), by (repeat (first | exact Below.refl _ _ | assumption | refine below_step ?_ (by assumption) | refine below_alloc ?_ _ | refine below_drewN ?_ _ | refine Below.drew ?_ | refine Below.setCell ?_ (by first | (simp; done) | omega | (simp; omega)) _))⟩
  obtain ⟨hb, hl, hok⟩ := weights_len h1
  obtain ⟨m1, m2, m3⟩ := isLine_in h2
  have q1 := hole_in m1
  have q2 := hole_in m2
  have q3 := hole_in m3
  obtain ⟨x, hx⟩ : ∃ x, ws[f.toNat]? = some x := ⟨_, List.getElem?_eq_getElem (by omega)⟩
  obtain ⟨y, hy⟩ : ∃ y, ws[o.toNat]? = some y := ⟨_, List.getElem?_eq_getElem (by omega)⟩
  obtain ⟨z, hz⟩ : ∃ z, ws[t.toNat]? = some z := ⟨_, List.getElem?_eq_getElem (by omega)⟩
  have e : lossOf W H X ws f o t = x + y - z := by simp [lossOf, h1, h2, List.getD, hx, hy, hz]
  have bx := okW_get hok hx
  have bx2 := okW_get hok hy
  have bz := okW_get hok hz
  have lf : f < ws.length := by omega
  have lo : o < ws.length := by omega
  have lt : t < ws.length := by omega
  rw [e]
  clear e m1 m2 m3 hb hl
  go_enter Try.func25, Try.ntmps25
  go_wp2_with fail
  refine (calls_is (impl_WeightsOk _ _ _ _ _ _ _ (hA.below (by (repeat (first | exact Below.refl _ _ | assumption | refine below_step ?_ (by assumption) | refine below_alloc ?_ _ | refine below_drewN ?_ _ | refine Below.drew ?_ | refine Below.setCell ?_ (by first | (simp; done) | omega | (simp; omega)) _)))) hn) h1).mono ?_
  rintro e w1 ⟨rfl, hb1⟩
  obtain ⟨hc1, hf1, hs1⟩ := bcell3 hb1
  have hz1 := hb1.size
  (try simp at hz1)
  go_wp2_with fail
  refine (calls_is (impl_isLine _ _ _ _ _ _ _) h2).mono ?_
  rintro e w2 ⟨rfl, hb2⟩
  obtain ⟨hc2, hf2, hs2⟩ := bcell3 hb2
  have hz2 := hb2.size
  (try simp at hz2)
  have hb1_2 := below_step (below_step hb1 (by (repeat (first | exact Below.refl _ _ | assumption | refine below_step ?_ (by assumption) | refine below_alloc ?_ _ | refine below_drewN ?_ _ | refine Below.drew ?_ | refine Below.setCell ?_ (by first | (simp; done) | omega | (simp; omega)) _)))) hb2
  clear hc1 hf1 hs1
  obtain ⟨hc1_2, hf1_2, hs1_2⟩ := bcell3 hb1_2
  have hA' := hA.below (show Below w.heap.size w w2 from by (repeat (first | exact Below.refl _ _ | assumption | refine below_step ?_ (by assumption) | refine below_alloc ?_ _ | refine below_drewN ?_ _ | refine Below.drew ?_ | refine Below.setCell ?_ (by first | (simp; done) | omega | (simp; omega)) _)))
  obtain ⟨g, ov, rfl, k1⟩ := hA' _ _ hx
  obtain ⟨_, _, e2, k2⟩ := hA' _ _ hy
  injection e2 with e2; injection e2 with e3 e4; subst e3 e4
  obtain ⟨_, _, e2, k3⟩ := hA' _ _ hz
  injection e2 with e2; injection e2 with e3 e4; subst e3 e4
  clear hx hy hz
  go_wp2_with fail
  try go_quiet (fail)
  go_wp2
  go_ret
  exact ⟨rfl, by (repeat (first | exact Below.refl _ _ | assumption | refine below_step ?_ (by assumption) | refine below_alloc ?_ _ | refine below_drewN ?_ _ | refine Below.drew ?_ | refine Below.setCell ?_ (by first | (simp; done) | omega | (simp; omega)) _))⟩
end Go.Proofs.Ytmdpacgoijnonaa
