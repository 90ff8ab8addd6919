/- Spoiled jumps: contracts. -/
import Derived.Test.YtianfakgojmnpaaDoJump
import Derived.Test.YtianfakgojmnpaaReachC
import Derived.Test.YtianfakgojmnpaaSpoil0
namespace Go.Proofs.Ytianfakgojmnpaa
open Go.RowKit

def isSpoiled (W H X p q f o t : Int) : Bool := doOk W H X p f o t && canReach W H X p q && !canReach W H X (doTo W H X p f o t) q

set_option maxHeartbeats 2000000 in
theorem impl_IsSpoiled (W H X p q f o t : Int) (w : World) (hp : p ≤ 9223372036854775807) (hq : q ≤ 9223372036854775807) :
    Calls Try.prog 23 #[.agg #[.int .i64 W, .int .i64 H, .int .i64 X], .int .i64 p, .int .i64 q, .agg #[.int .i64 f, .int .i64 o, .int .i64 t]] w fun e w' => e = .returned (.bool (isSpoiled W H X p q f o t)) ∧ Below w.heap.size w w' := by
  obtain ⟨z, hz⟩ : ∃ z, doTo W H X p f o t = z := ⟨_, rfl⟩
  have hzz : z ≤ 9223372036854775807 := by rw [← hz]; exact doTo_pos hp
  obtain ⟨r, hr⟩ : ∃ r, isSpoiled W H X p q f o t = r := ⟨_, rfl⟩
  rw [hr]
  unfold isSpoiled at hr
  rw [hz] at hr
  cases h1 : doOk W H X p f o t
  · skip
    go_enter Try.func23, Try.ntmps23
    go_wp2_with fail
    refine (calls_is2 (impl_DoJump _ _ _ _ _ _ _ _ hp) hz h1).mono ?_
    rintro e w1 ⟨rfl, hb1⟩
    obtain ⟨hc1, hf1, hs1⟩ := bcell3 hb1
    have hz1 := hb1.size
    (try simp at hz1)
    go_wp2
    go_ret
    exact ⟨ret_bool (by simpa [h1] using hr), by (repeat (first | exact Below.refl _ _ | assumption | refine below_step ?_ (by assumption) | refine below_alloc ?_ _ | refine below_drewN ?_ _ | refine Below.drew ?_ | refine Below.setCell ?_ (by first | (simp; done) | omega | (simp; omega)) _))⟩
  cases h2 : canReach W H X p q
  · skip
    go_enter Try.func23, Try.ntmps23
    go_wp2_with fail
    refine (calls_is2 (impl_DoJump _ _ _ _ _ _ _ _ hp) hz h1).mono ?_
    rintro e w1 ⟨rfl, hb1⟩
    obtain ⟨hc1, hf1, hs1⟩ := bcell3 hb1
    have hz1 := hb1.size
    (try simp at hz1)
    go_wp2_with fail
    refine (calls_is (impl_CanReach _ _ _ p _ _ hp hq) h2).mono ?_
    rintro e w2 ⟨rfl, hb2⟩
    obtain ⟨hc2, hf2, hs2⟩ := bcell3 hb2
    have hz2 := hb2.size
    (try simp at hz2)
    have hb1_2 := below_step (below_step hb1 (by (repeat (first | exact Below.refl _ _ | assumption | refine below_step ?_ (by assumption) | refine below_alloc ?_ _ | refine below_drewN ?_ _ | refine Below.drew ?_ | refine Below.setCell ?_ (by first | (simp; done) | omega | (simp; omega)) _)))) hb2
    clear hc1 hf1 hs1
    obtain ⟨hc1_2, hf1_2, hs1_2⟩ := bcell3 hb1_2
    go_wp2
    go_ret
    exact ⟨ret_bool (by simpa [h1, h2] using hr), by (repeat (first | exact Below.refl _ _ | assumption | refine below_step ?_ (by assumption) | refine below_alloc ?_ _ | refine below_drewN ?_ _ | refine Below.drew ?_ | refine Below.setCell ?_ (by first | (simp; done) | omega | (simp; omega)) _))⟩
  cases h3 : canReach W H X z q
  all_goals
    go_enter Try.func23, Try.ntmps23
    go_wp2_with fail
    refine (calls_is2 (impl_DoJump _ _ _ _ _ _ _ _ hp) hz h1).mono ?_
    rintro e w1 ⟨rfl, hb1⟩
    obtain ⟨hc1, hf1, hs1⟩ := bcell3 hb1
    have hz1 := hb1.size
    (try simp at hz1)
    go_wp2_with fail
    refine (calls_is (impl_CanReach _ _ _ p _ _ hp hq) h2).mono ?_
    rintro e w2 ⟨rfl, hb2⟩
    obtain ⟨hc2, hf2, hs2⟩ := bcell3 hb2
    have hz2 := hb2.size
    (try simp at hz2)
    have hb1_2 := below_step (below_step hb1 (by (repeat (first | exact Below.refl _ _ | assumption | refine below_step ?_ (by assumption) | refine below_alloc ?_ _ | refine below_drewN ?_ _ | refine Below.drew ?_ | refine Below.setCell ?_ (by first | (simp; done) | omega | (simp; omega)) _)))) hb2
    clear hc1 hf1 hs1
    obtain ⟨hc1_2, hf1_2, hs1_2⟩ := bcell3 hb1_2
    go_wp2_with fail
    refine (calls_is (impl_CanReach _ _ _ z _ _ hzz hq) h3).mono ?_
    rintro e w3 ⟨rfl, hb3⟩
    obtain ⟨hc3, hf3, hs3⟩ := bcell3 hb3
    have hz3 := hb3.size
    (try simp at hz3)
    have hb1_3 := below_step (below_step hb1_2 (by (repeat (first | exact Below.refl _ _ | assumption | refine below_step ?_ (by assumption) | refine below_alloc ?_ _ | refine below_drewN ?_ _ | refine Below.drew ?_ | refine Below.setCell ?_ (by first | (simp; done) | omega | (simp; omega)) _)))) hb3
    clear hc1_2 hf1_2 hs1_2
    obtain ⟨hc1_3, hf1_3, hs1_3⟩ := bcell3 hb1_3
    have hb2_3 := below_step (below_step hb2 (by (repeat (first | exact Below.refl _ _ | assumption | refine below_step ?_ (by assumption) | refine below_alloc ?_ _ | refine below_drewN ?_ _ | refine Below.drew ?_ | refine Below.setCell ?_ (by first | (simp; done) | omega | (simp; omega)) _)))) hb3
    clear hc2 hf2 hs2
    obtain ⟨hc2_3, hf2_3, hs2_3⟩ := bcell3 hb2_3
    go_wp2
    go_ret
    exact ⟨ret_bool (by simpa [h1, h2, h3] using hr), by (repeat (first | exact Below.refl _ _ | assumption | refine below_step ?_ (by assumption) | refine below_alloc ?_ _ | refine below_drewN ?_ _ | refine Below.drew ?_ | refine Below.setCell ?_ (by first | (simp; done) | omega | (simp; omega)) _))⟩
set_option maxHeartbeats 2000000 in
theorem spec_IsSpoiled (W H X p q f o t : Int) (w : World) (hp : p ≤ 9223372036854775807) (hq : q ≤ 9223372036854775807) :
    Calls Try.prog 20 #[.agg #[.int .i64 W, .int .i64 H, .int .i64 X], .int .i64 p, .int .i64 q, .agg #[.int .i64 f, .int .i64 o, .int .i64 t]] w fun e w' => e = .returned (.bool (isSpoiled W H X p q f o t)) ∧ Below w.heap.size w w' := by
  obtain ⟨z, hz⟩ : ∃ z, doTo W H X p f o t = z := ⟨_, rfl⟩
  have hzz : z ≤ 9223372036854775807 := by rw [← hz]; exact doTo_pos hp
  obtain ⟨r, hr⟩ : ∃ r, isSpoiled W H X p q f o t = r := ⟨_, rfl⟩
  rw [hr]
  unfold isSpoiled at hr
  rw [hz] at hr
  cases h2 : canReach W H X p q
  · skip
    go_enter Try.func20, Try.ntmps20
    go_wp2_with fail
    refine (calls_is (spec_CanReach _ _ _ p _ _ hp hq) h2).mono ?_
    rintro e w1 ⟨rfl, hb1⟩
    obtain ⟨hc1, hf1, hs1⟩ := bcell3 hb1
    have hz1 := hb1.size
    (try simp at hz1)
    go_wp2
    go_ret
    exact ⟨ret_bool (by simpa [h2] using hr), by (repeat (first | exact Below.refl _ _ | assumption | refine below_step ?_ (by assumption) | refine below_alloc ?_ _ | refine below_drewN ?_ _ | refine Below.drew ?_ | refine Below.setCell ?_ (by first | (simp; done) | omega | (simp; omega)) _))⟩
  cases h1 : doOk W H X p f o t
  · skip
    go_enter Try.func20, Try.ntmps20
    go_wp2_with fail
    refine (calls_is (spec_CanReach _ _ _ p _ _ hp hq) h2).mono ?_
    rintro e w1 ⟨rfl, hb1⟩
    obtain ⟨hc1, hf1, hs1⟩ := bcell3 hb1
    have hz1 := hb1.size
    (try simp at hz1)
    go_wp2_with fail
    refine (calls_is2 (spec_DoJump _ _ _ _ _ _ _ _ hp) hz h1).mono ?_
    rintro e w2 ⟨rfl, hb2⟩
    obtain ⟨hc2, hf2, hs2⟩ := bcell3 hb2
    have hz2 := hb2.size
    (try simp at hz2)
    have hb1_2 := below_step (below_step hb1 (by (repeat (first | exact Below.refl _ _ | assumption | refine below_step ?_ (by assumption) | refine below_alloc ?_ _ | refine below_drewN ?_ _ | refine Below.drew ?_ | refine Below.setCell ?_ (by first | (simp; done) | omega | (simp; omega)) _)))) hb2
    clear hc1 hf1 hs1
    obtain ⟨hc1_2, hf1_2, hs1_2⟩ := bcell3 hb1_2
    go_wp2
    go_ret
    exact ⟨ret_bool (by simpa [h1] using hr), by (repeat (first | exact Below.refl _ _ | assumption | refine below_step ?_ (by assumption) | refine below_alloc ?_ _ | refine below_drewN ?_ _ | refine Below.drew ?_ | refine Below.setCell ?_ (by first | (simp; done) | omega | (simp; omega)) _))⟩
  cases h3 : canReach W H X z q
  all_goals
    go_enter Try.func20, Try.ntmps20
    go_wp2_with fail
    refine (calls_is (spec_CanReach _ _ _ p _ _ hp hq) h2).mono ?_
    rintro e w1 ⟨rfl, hb1⟩
    obtain ⟨hc1, hf1, hs1⟩ := bcell3 hb1
    have hz1 := hb1.size
    (try simp at hz1)
    go_wp2_with fail
    refine (calls_is2 (spec_DoJump _ _ _ _ _ _ _ _ hp) hz h1).mono ?_
    rintro e w2 ⟨rfl, hb2⟩
    obtain ⟨hc2, hf2, hs2⟩ := bcell3 hb2
    have hz2 := hb2.size
    (try simp at hz2)
    have hb1_2 := below_step (below_step hb1 (by (repeat (first | exact Below.refl _ _ | assumption | refine below_step ?_ (by assumption) | refine below_alloc ?_ _ | refine below_drewN ?_ _ | refine Below.drew ?_ | refine Below.setCell ?_ (by first | (simp; done) | omega | (simp; omega)) _)))) hb2
    clear hc1 hf1 hs1
    obtain ⟨hc1_2, hf1_2, hs1_2⟩ := bcell3 hb1_2
    go_wp2_with fail
    refine (calls_is (spec_CanReach _ _ _ z _ _ hzz hq) h3).mono ?_
    rintro e w3 ⟨rfl, hb3⟩
    obtain ⟨hc3, hf3, hs3⟩ := bcell3 hb3
    have hz3 := hb3.size
    (try simp at hz3)
    have hb1_3 := below_step (below_step hb1_2 (by (repeat (first | exact Below.refl _ _ | assumption | refine below_step ?_ (by assumption) | refine below_alloc ?_ _ | refine below_drewN ?_ _ | refine Below.drew ?_ | refine Below.setCell ?_ (by first | (simp; done) | omega | (simp; omega)) _)))) hb3
    clear hc1_2 hf1_2 hs1_2
    obtain ⟨hc1_3, hf1_3, hs1_3⟩ := bcell3 hb1_3
    have hb2_3 := below_step (below_step hb2 (by (repeat (first | exact Below.refl _ _ | assumption | refine below_step ?_ (by assumption) | refine below_alloc ?_ _ | refine below_drewN ?_ _ | refine Below.drew ?_ | refine Below.setCell ?_ (by first | (simp; done) | omega | (simp; omega)) _)))) hb3
    clear hc2 hf2 hs2
    obtain ⟨hc2_3, hf2_3, hs2_3⟩ := bcell3 hb2_3
    go_wp2
    go_ret
    exact ⟨ret_bool (by simpa [h1, h2, h3] using hr), by (repeat (first | exact Below.refl _ _ | assumption | refine below_step ?_ (by assumption) | refine below_alloc ?_ _ | refine below_drewN ?_ _ | refine Below.drew ?_ | refine Below.setCell ?_ (by first | (simp; done) | omega | (simp; omega)) _))⟩
end Go.Proofs.Ytianfakgojmnpaa
