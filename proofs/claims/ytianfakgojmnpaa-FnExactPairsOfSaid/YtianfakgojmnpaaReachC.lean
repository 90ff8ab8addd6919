/- What is reached: contracts. -/
import Derived.Test.YtianfakgojmnpaaReach
namespace Go.Proofs.Ytianfakgojmnpaa
open Go.RowKit

def reachOf (W H X : Int) (back : Bool) (p : Int) : List Nat := idxTo (seenB W H X back p) (seenB W H X back p).length
theorem reach_len (W H X p : Int) (back : Bool) : (reachOf W H X back p).length ≤ 65536 := Nat.le_trans (idx_le _ _) (seen_len2 W H X p back)
theorem reach_none {W H X p : Int} {back : Bool} (h : ¬ (isSmall W H X = true ∧ positionOk W H X p = true)) : reachOf W H X back p = [] := by
  unfold reachOf seenB; rw [if_neg h]; rfl
theorem reach_mem {W H X p : Int} {back : Bool} {k : Nat} : k ∈ reachOf W H X back p ↔ seenHas (seenB W H X back p) k = true := by
  unfold reachOf
  rw [idx_mem, seenHas]
  simp only [Int.toNat_natCast, Bool.and_eq_true, decide_eq_true_eq]
  constructor
  · rintro ⟨_, h⟩; exact ⟨by omega, h⟩
  · rintro ⟨_, h⟩
    refine ⟨?_, h⟩
    rcases Nat.lt_or_ge k (seenB W H X back p).length with h1 | h1
    · exact h1
    · simp [List.getD, List.getElem?_eq_none h1] at h
def canReach (W H X p q : Int) : Bool := seenHas (seenB W H X false p) q
set_option maxHeartbeats 1000000 in
theorem impl_ReachOf (W H X p : Int) (w : World) (hp : p ≤ 9223372036854775807) :
    Calls Try.prog 30 #[.agg #[.int .i64 W, .int .i64 H, .int .i64 X], .int .i64 p] w (RetOwn 3 1 w (reachOf W H X false p).length (toInts (reachOf W H X false p))) := by
  go_enter Try.func30, Try.ntmps30
  go_wp2_with fail
  refine (impl_spreadOf _ _ _ _ _ _ hp).mono ?_
  rintro e w1 ⟨A1, c1, rfl, hS1, hb1⟩
  go_wp2_with fail
  refine (impl_list _ _ _ _ (BAt_of_own hS1) (seen_len2 _ _ _ _ _)).mono ?_
  rintro e w2 ⟨A2, c2, rfl, hL2, hb2⟩
  have hW : Below w.heap.size w w1 := by (repeat (first | exact Below.refl _ _ | assumption | refine below_step ?_ (by assumption) | refine below_alloc ?_ _ | refine below_drewN ?_ _ | refine Below.drew ?_ | refine Below.setCell ?_ (by first | (simp; done) | omega | (simp; omega)) _))
  go_wp2
  go_ret
  exact ⟨_, _, rfl, own_lower hL2 hW.size, by (repeat (first | exact Below.refl _ _ | assumption | refine below_step ?_ (by assumption) | refine below_alloc ?_ _ | refine below_drewN ?_ _ | refine Below.drew ?_ | refine Below.setCell ?_ (by first | (simp; done) | omega | (simp; omega)) _))⟩
set_option maxHeartbeats 1000000 in
theorem spec_ReachOf (W H X p : Int) (w : World) (hp : p ≤ 9223372036854775807) :
    Calls Try.prog 111 #[.agg #[.int .i64 W, .int .i64 H, .int .i64 X], .int .i64 p] w (RetOwn 3 1 w (reachOf W H X false p).length (toInts (reachOf W H X false p))) := by
  cases h1 : isSmall W H X
  · skip
    rw [reach_none (by simp [h1])]
    go_enter Try.func111, Try.ntmps111
    go_wp2_with fail
    refine (calls_is (spec_IsSmall _ _ _ _) h1).mono ?_
    rintro e w1 ⟨rfl, hb1⟩
    obtain ⟨hc1, hf1, hs1⟩ := bcell3 hb1
    have hz1 := hb1.size
    (try simp at hz1)
    have HV : Below w.heap.size w w1 := by (repeat (first | exact Below.refl _ _ | assumption | refine below_step ?_ (by assumption) | refine below_alloc ?_ _ | refine below_drewN ?_ _ | refine Below.drew ?_ | refine Below.setCell ?_ (by first | (simp; done) | omega | (simp; omega)) _))
    go_wp2
    go_ret
    exact ⟨_, _, rfl, own_lower (made0 3 rfl) HV.size, by (repeat (first | exact Below.refl _ _ | assumption | refine below_step ?_ (by assumption) | refine below_alloc ?_ _ | refine below_drewN ?_ _ | refine Below.drew ?_ | refine Below.setCell ?_ (by first | (simp; done) | omega | (simp; omega)) _))⟩
  cases h2 : positionOk W H X p
  · skip
    rw [reach_none (by simp [h2])]
    go_enter Try.func111, Try.ntmps111
    go_wp2_with fail
    refine (calls_is (spec_IsSmall _ _ _ _) h1).mono ?_
    rintro e w1 ⟨rfl, hb1⟩
    obtain ⟨hc1, hf1, hs1⟩ := bcell3 hb1
    have hz1 := hb1.size
    (try simp at hz1)
    go_wp2_with fail
    refine (calls_is (spec_PositionOk _ _ _ _ _ (by omega)) h2).mono ?_
    rintro e w2 ⟨rfl, hb2⟩
    obtain ⟨hc2, hf2, hs2⟩ := bcell3 hb2
    have hz2 := hb2.size
    (try simp at hz2)
    have hb1_2 := below_step (below_step hb1 (by (repeat (first | exact Below.refl _ _ | assumption | refine below_step ?_ (by assumption) | refine below_alloc ?_ _ | refine below_drewN ?_ _ | refine Below.drew ?_ | refine Below.setCell ?_ (by first | (simp; done) | omega | (simp; omega)) _)))) hb2
    clear hc1 hf1 hs1
    obtain ⟨hc1_2, hf1_2, hs1_2⟩ := bcell3 hb1_2
    have HV : Below w.heap.size w w2 := by (repeat (first | exact Below.refl _ _ | assumption | refine below_step ?_ (by assumption) | refine below_alloc ?_ _ | refine below_drewN ?_ _ | refine Below.drew ?_ | refine Below.setCell ?_ (by first | (simp; done) | omega | (simp; omega)) _))
    go_wp2
    go_ret
    exact ⟨_, _, rfl, own_lower (made0 3 rfl) HV.size, by (repeat (first | exact Below.refl _ _ | assumption | refine below_step ?_ (by assumption) | refine below_alloc ?_ _ | refine below_drewN ?_ _ | refine Below.drew ?_ | refine Below.setCell ?_ (by first | (simp; done) | omega | (simp; omega)) _))⟩
  go_enter Try.func111, Try.ntmps111
  go_wp2_with fail
  refine (calls_is (spec_IsSmall _ _ _ _) h1).mono ?_
  rintro e w1 ⟨rfl, hb1⟩
  obtain ⟨hc1, hf1, hs1⟩ := bcell3 hb1
  have hz1 := hb1.size
  (try simp at hz1)
  go_wp2_with fail
  refine (calls_is (spec_PositionOk _ _ _ _ _ (by omega)) h2).mono ?_
  rintro e w2 ⟨rfl, hb2⟩
  obtain ⟨hc2, hf2, hs2⟩ := bcell3 hb2
  have hz2 := hb2.size
  (try simp at hz2)
  have hb1_2 := below_step (below_step hb1 (by (repeat (first | exact Below.refl _ _ | assumption | refine below_step ?_ (by assumption) | refine below_alloc ?_ _ | refine below_drewN ?_ _ | refine Below.drew ?_ | refine Below.setCell ?_ (by first | (simp; done) | omega | (simp; omega)) _)))) hb2
  clear hc1 hf1 hs1
  obtain ⟨hc1_2, hf1_2, hs1_2⟩ := bcell3 hb1_2
  go_wp2_with fail
  refine (spec_l14Seen_false _ _ _ _ _ hp h1 h2).mono ?_
  rintro e w3 ⟨A3, c3, rfl, hS3, hb3⟩
  go_wp2_with fail
  refine (spec_l14List _ _ _ _ (BAt_of_own hS3) (seen_len2 _ _ _ _ _)).mono ?_
  rintro e w4 ⟨A4, c4, rfl, hL4, hb4⟩
  have hW : Below w.heap.size w w3 := by (repeat (first | exact Below.refl _ _ | assumption | refine below_step ?_ (by assumption) | refine below_alloc ?_ _ | refine below_drewN ?_ _ | refine Below.drew ?_ | refine Below.setCell ?_ (by first | (simp; done) | omega | (simp; omega)) _))
  go_wp2
  go_ret
  exact ⟨_, _, rfl, own_lower hL4 hW.size, by (repeat (first | exact Below.refl _ _ | assumption | refine below_step ?_ (by assumption) | refine below_alloc ?_ _ | refine below_drewN ?_ _ | refine Below.drew ?_ | refine Below.setCell ?_ (by first | (simp; done) | omega | (simp; omega)) _))⟩
set_option maxHeartbeats 1000000 in
theorem impl_CountReach (W H X p : Int) (w : World) (hp : p ≤ 9223372036854775807) :
    Calls Try.prog 33 #[.agg #[.int .i64 W, .int .i64 H, .int .i64 X], .int .i64 p] w fun e w' => e = .returned (.int .i64 ((reachOf W H X false p).length : Nat)) ∧ Below w.heap.size w w' := by
  go_enter Try.func33, Try.ntmps33
  go_wp2_with fail
  refine (impl_ReachOf _ _ _ _ _ hp).mono ?_
  rintro e w1 ⟨A1, c1, rfl, hS1, hb1⟩
  go_wp2
  go_ret
  exact ⟨rfl, by (repeat (first | exact Below.refl _ _ | assumption | refine below_step ?_ (by assumption) | refine below_alloc ?_ _ | refine below_drewN ?_ _ | refine Below.drew ?_ | refine Below.setCell ?_ (by first | (simp; done) | omega | (simp; omega)) _))⟩
set_option maxHeartbeats 1000000 in
theorem impl_CanReach (W H X p q : Int) (w : World) (hp : p ≤ 9223372036854775807) (_hq : q ≤ 9223372036854775807) :
    Calls Try.prog 34 #[.agg #[.int .i64 W, .int .i64 H, .int .i64 X], .int .i64 p, .int .i64 q] w fun e w' => e = .returned (.bool (canReach W H X p q)) ∧ Below w.heap.size w w' := by
  go_enter Try.func34, Try.ntmps34
  go_wp2_with fail
  refine (impl_spreadOf _ _ _ _ _ _ hp).mono ?_
  rintro e w1 ⟨A1, c1, rfl, hS1, hb1⟩
  go_wp2_with fail
  refine (impl_has _ _ _ _ _ (BAt_of_own hS1) (seen_len2 _ _ _ _ _)).mono ?_
  rintro e w2 ⟨rfl, hb2⟩
  go_wp2
  go_ret
  exact ⟨rfl, by (repeat (first | exact Below.refl _ _ | assumption | refine below_step ?_ (by assumption) | refine below_alloc ?_ _ | refine below_drewN ?_ _ | refine Below.drew ?_ | refine Below.setCell ?_ (by first | (simp; done) | omega | (simp; omega)) _))⟩
set_option maxHeartbeats 1000000 in
theorem spec_CanReach (W H X p q : Int) (w : World) (hp : p ≤ 9223372036854775807) (hq : q ≤ 9223372036854775807) :
    Calls Try.prog 53 #[.agg #[.int .i64 W, .int .i64 H, .int .i64 X], .int .i64 p, .int .i64 q] w fun e w' => e = .returned (.bool (canReach W H X p q)) ∧ Below w.heap.size w w' := by
  cases h1 : isSmall W H X
  · skip
    have e : canReach W H X p q = false := seen_none (by simp [h1])
    rw [e]
    clear e
    go_enter Try.func53, Try.ntmps53
    go_wp2_with fail
    refine (calls_is (spec_IsSmall _ _ _ _) h1).mono ?_
    rintro e w1 ⟨rfl, hb1⟩
    obtain ⟨hc1, hf1, hs1⟩ := bcell3 hb1
    have hz1 := hb1.size
    (try simp at hz1)
    go_wp2
    go_ret
    exact ⟨rfl, by (repeat (first | exact Below.refl _ _ | assumption | refine below_step ?_ (by assumption) | refine below_alloc ?_ _ | refine below_drewN ?_ _ | refine Below.drew ?_ | refine Below.setCell ?_ (by first | (simp; done) | omega | (simp; omega)) _))⟩
  cases h2 : positionOk W H X p
  · skip
    have e : canReach W H X p q = false := seen_none (by simp [h2])
    rw [e]
    clear e
    go_enter Try.func53, Try.ntmps53
    go_wp2_with fail
    refine (calls_is (spec_IsSmall _ _ _ _) h1).mono ?_
    rintro e w1 ⟨rfl, hb1⟩
    obtain ⟨hc1, hf1, hs1⟩ := bcell3 hb1
    have hz1 := hb1.size
    (try simp at hz1)
    go_wp2_with fail
    refine (calls_is (spec_PositionOk _ _ _ _ _ (by omega)) h2).mono ?_
    rintro e w2 ⟨rfl, hb2⟩
    obtain ⟨hc2, hf2, hs2⟩ := bcell3 hb2
    have hz2 := hb2.size
    (try simp at hz2)
    have hb1_2 := below_step (below_step hb1 (by (repeat (first | exact Below.refl _ _ | assumption | refine below_step ?_ (by assumption) | refine below_alloc ?_ _ | refine below_drewN ?_ _ | refine Below.drew ?_ | refine Below.setCell ?_ (by first | (simp; done) | omega | (simp; omega)) _)))) hb2
    clear hc1 hf1 hs1
    obtain ⟨hc1_2, hf1_2, hs1_2⟩ := bcell3 hb1_2
    go_wp2
    go_ret
    exact ⟨rfl, by (repeat (first | exact Below.refl _ _ | assumption | refine below_step ?_ (by assumption) | refine below_alloc ?_ _ | refine below_drewN ?_ _ | refine Below.drew ?_ | refine Below.setCell ?_ (by first | (simp; done) | omega | (simp; omega)) _))⟩
  cases h3 : positionOk W H X q
  · skip
    have e : canReach W H X p q = false := by cases hc : canReach W H X p q; rfl; exact absurd (seen_ok hc).1 (by simp [h3])
    rw [e]
    clear e
    go_enter Try.func53, Try.ntmps53
    go_wp2_with fail
    refine (calls_is (spec_IsSmall _ _ _ _) h1).mono ?_
    rintro e w1 ⟨rfl, hb1⟩
    obtain ⟨hc1, hf1, hs1⟩ := bcell3 hb1
    have hz1 := hb1.size
    (try simp at hz1)
    go_wp2_with fail
    refine (calls_is (spec_PositionOk _ _ _ _ _ (by omega)) h2).mono ?_
    rintro e w2 ⟨rfl, hb2⟩
    obtain ⟨hc2, hf2, hs2⟩ := bcell3 hb2
    have hz2 := hb2.size
    (try simp at hz2)
    have hb1_2 := below_step (below_step hb1 (by (repeat (first | exact Below.refl _ _ | assumption | refine below_step ?_ (by assumption) | refine below_alloc ?_ _ | refine below_drewN ?_ _ | refine Below.drew ?_ | refine Below.setCell ?_ (by first | (simp; done) | omega | (simp; omega)) _)))) hb2
    clear hc1 hf1 hs1
    obtain ⟨hc1_2, hf1_2, hs1_2⟩ := bcell3 hb1_2
    go_wp2_with fail
    refine (calls_is (spec_PositionOk _ _ _ _ _ (by omega)) h3).mono ?_
    rintro e w3 ⟨rfl, hb3⟩
    obtain ⟨hc3, hf3, hs3⟩ := bcell3 hb3
    have hz3 := hb3.size
    (try simp at hz3)
    have hb1_3 := below_step (below_step hb1_2 (by (repeat (first | exact Below.refl _ _ | assumption | refine below_step ?_ (by assumption) | refine below_alloc ?_ _ | refine below_drewN ?_ _ | refine Below.drew ?_ | refine Below.setCell ?_ (by first | (simp; done) | omega | (simp; omega)) _)))) hb3
    clear hc1_2 hf1_2 hs1_2
    obtain ⟨hc1_3, hf1_3, hs1_3⟩ := bcell3 hb1_3
    have hb2_3 := below_step (below_step hb2 (by (repeat (first | exact Below.refl _ _ | assumption | refine below_step ?_ (by assumption) | refine below_alloc ?_ _ | refine below_drewN ?_ _ | refine Below.drew ?_ | refine Below.setCell ?_ (by first | (simp; done) | omega | (simp; omega)) _)))) hb3
    clear hc2 hf2 hs2
    obtain ⟨hc2_3, hf2_3, hs2_3⟩ := bcell3 hb2_3
    go_wp2
    go_ret
    exact ⟨rfl, by (repeat (first | exact Below.refl _ _ | assumption | refine below_step ?_ (by assumption) | refine below_alloc ?_ _ | refine below_drewN ?_ _ | refine Below.drew ?_ | refine Below.setCell ?_ (by first | (simp; done) | omega | (simp; omega)) _))⟩
  have q0 := (positionOk_facts h3).p0
  obtain ⟨b, hbq⟩ : ∃ b, (seenB W H X false p)[q.toNat]? = some b := by
    refine ⟨_, List.getElem?_eq_getElem ?_⟩
    rw [seen_len ⟨h1, h2⟩]
    have h4 := (positionOk_facts h3).sub
    have h5 := board_lt (positionOk_facts h3).b
    have h6 : q.toNat ≤ X.toNat := by rw [← h4]; exact Nat.and_le_right
    omega
  have hl := (List.getElem?_eq_some_iff.1 hbq).1
  have hql : q < ((seenB W H X false p).length : Int) := by omega
  have hlen := seen_len2 W H X p false
  have HQ := Lib.hid (seenHas_at q0 hbq)
  have HBQ := Lib.hid hbq
  clear hbq
  unfold canReach
  rw [HQ.out]
  go_enter Try.func53, Try.ntmps53
  go_wp2_with fail
  refine (calls_is (spec_IsSmall _ _ _ _) h1).mono ?_
  rintro e w1 ⟨rfl, hb1⟩
  obtain ⟨hc1, hf1, hs1⟩ := bcell3 hb1
  have hz1 := hb1.size
  (try simp at hz1)
  go_wp2_with fail
  refine (calls_is (spec_PositionOk _ _ _ _ _ (by omega)) h2).mono ?_
  rintro e w2 ⟨rfl, hb2⟩
  obtain ⟨hc2, hf2, hs2⟩ := bcell3 hb2
  have hz2 := hb2.size
  (try simp at hz2)
  have hb1_2 := below_step (below_step hb1 (by (repeat (first | exact Below.refl _ _ | assumption | refine below_step ?_ (by assumption) | refine below_alloc ?_ _ | refine below_drewN ?_ _ | refine Below.drew ?_ | refine Below.setCell ?_ (by first | (simp; done) | omega | (simp; omega)) _)))) hb2
  clear hc1 hf1 hs1
  obtain ⟨hc1_2, hf1_2, hs1_2⟩ := bcell3 hb1_2
  go_wp2_with fail
  refine (calls_is (spec_PositionOk _ _ _ _ _ (by omega)) h3).mono ?_
  rintro e w3 ⟨rfl, hb3⟩
  obtain ⟨hc3, hf3, hs3⟩ := bcell3 hb3
  have hz3 := hb3.size
  (try simp at hz3)
  have hb1_3 := below_step (below_step hb1_2 (by (repeat (first | exact Below.refl _ _ | assumption | refine below_step ?_ (by assumption) | refine below_alloc ?_ _ | refine below_drewN ?_ _ | refine Below.drew ?_ | refine Below.setCell ?_ (by first | (simp; done) | omega | (simp; omega)) _)))) hb3
  clear hc1_2 hf1_2 hs1_2
  obtain ⟨hc1_3, hf1_3, hs1_3⟩ := bcell3 hb1_3
  have hb2_3 := below_step (below_step hb2 (by (repeat (first | exact Below.refl _ _ | assumption | refine below_step ?_ (by assumption) | refine below_alloc ?_ _ | refine below_drewN ?_ _ | refine Below.drew ?_ | refine Below.setCell ?_ (by first | (simp; done) | omega | (simp; omega)) _)))) hb3
  clear hc2 hf2 hs2
  obtain ⟨hc2_3, hf2_3, hs2_3⟩ := bcell3 hb2_3
  go_wp2_with fail
  refine (spec_l14Seen_false _ _ _ _ _ hp h1 h2).mono ?_
  rintro e w4 ⟨A4, c4, rfl, hS4, hb4⟩
  obtain ⟨g, off, rfl, hcq⟩ := BAt_of_own hS4 _ _ HBQ.out
  cases b
  all_goals
    go_wp2
    go_ret
    exact ⟨rfl, by (repeat (first | exact Below.refl _ _ | assumption | refine below_step ?_ (by assumption) | refine below_alloc ?_ _ | refine below_drewN ?_ _ | refine Below.drew ?_ | refine Below.setCell ?_ (by first | (simp; done) | omega | (simp; omega)) _))⟩
end Go.Proofs.Ytianfakgojmnpaa
