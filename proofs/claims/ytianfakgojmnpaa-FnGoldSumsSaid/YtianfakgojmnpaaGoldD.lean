/- Golden numbers: contracts of sums, products, signs. -/
import Derived.Test.YtianfakgojmnpaaGoldC
namespace Go.Proofs.Ytianfakgojmnpaa
open Go.RowKit

def addA (a b c d : Int) : Int := if goldOk a b = true ∧ goldOk c d = true ∧ goldOk (a + c) (b + d) = true then a + c else 0
def addB (a b c d : Int) : Int := if goldOk a b = true ∧ goldOk c d = true ∧ goldOk (a + c) (b + d) = true then b + d else 0
def addK (a b c d : Int) : Bool := goldOk a b && goldOk c d && goldOk (a + c) (b + d)
def mulOk (a b c d : Int) : Bool := goldOk a b && goldOk c d && goldOk (a * c + b * d) (a * d + b * c - b * d)
def mulA (a b c d : Int) : Int := if mulOk a b c d = true then a * c + b * d else 0
def mulB (a b c d : Int) : Int := if mulOk a b c d = true then a * d + b * c - b * d else 0

set_option maxHeartbeats 400000 in
theorem impl_AddGold_yes (a b c d : Int) (w : World) (h1 : goldOk a b = true) (h2 : goldOk c d = true) (h3 : goldOk (a + c) (b + d) = true) :
    Calls Try.prog 78 #[.agg #[.int .i64 a, .int .i64 b], .agg #[.int .i64 c, .int .i64 d]] w fun e w' => e = .returned (.tuple #[.agg #[.int .i64 (a + c), .int .i64 (b + d)], .bool true]) ∧ Below w.heap.size w w' := by
  obtain ⟨q1, q2⟩ := goldOk_iff.1 h1
  obtain ⟨q3, q4⟩ := goldOk_iff.1 h2
  go_enter Try.func78, Try.ntmps78
  go_wp2_with fail
  refine (calls_is (impl_GoldOk _ _ _) h1).mono ?_
  rintro e w1 ⟨rfl, hb1⟩
  obtain ⟨hc1, hf1, hs1⟩ := bcell3 hb1
  go_wp2_with fail
  refine (calls_is (impl_GoldOk _ _ _) h2).mono ?_
  rintro e w2 ⟨rfl, hb2⟩
  obtain ⟨hc2, hf2, hs2⟩ := bcell3 hb2
  have hb1_2 := below_step (below_step hb1 (by (repeat (first | exact Below.refl _ _ | assumption | refine below_step ?_ (by assumption) | refine below_alloc ?_ _ | refine below_drewN ?_ _ | refine Below.drew ?_ | refine Below.setCell ?_ (by first | (simp; done) | omega | (simp; omega)) _)))) hb2
  clear hc1 hf1 hs1
  obtain ⟨hc1_2, hf1_2, hs1_2⟩ := bcell3 hb1_2
  go_wp2_with fail
  refine (calls_is (impl_GoldOk _ _ _) h3).mono ?_
  rintro e w3 ⟨rfl, hb3⟩
  obtain ⟨hc3, hf3, hs3⟩ := bcell3 hb3
  have hb1_3 := below_step (below_step hb1_2 (by (repeat (first | exact Below.refl _ _ | assumption | refine below_step ?_ (by assumption) | refine below_alloc ?_ _ | refine below_drewN ?_ _ | refine Below.drew ?_ | refine Below.setCell ?_ (by first | (simp; done) | omega | (simp; omega)) _)))) hb3
  clear hc1_2 hf1_2 hs1_2
  obtain ⟨hc1_3, hf1_3, hs1_3⟩ := bcell3 hb1_3
  have hb2_3 := below_step (below_step hb2 (by (repeat (first | exact Below.refl _ _ | assumption | refine below_step ?_ (by assumption) | refine below_alloc ?_ _ | refine below_drewN ?_ _ | refine Below.drew ?_ | refine Below.setCell ?_ (by first | (simp; done) | omega | (simp; omega)) _)))) hb3
  clear hc2 hf2 hs2
  obtain ⟨hc2_3, hf2_3, hs2_3⟩ := bcell3 hb2_3
  go_wp2
  exact bodyPost_ret (v := .tuple #[.agg #[.int .i64 (a + c), .int .i64 (b + d)], .bool true]) (by simp [results, Try.results78, go_sem, hc1_3, hs1_3, hc2_3, hs2_3, hc3, hs3]) rfl ⟨rfl, by (repeat (first | exact Below.refl _ _ | assumption | refine below_step ?_ (by assumption) | refine below_alloc ?_ _ | refine below_drewN ?_ _ | refine Below.drew ?_ | refine Below.setCell ?_ (by first | (simp; done) | omega | (simp; omega)) _))⟩

set_option maxHeartbeats 400000 in
theorem impl_AddGold_no3 (a b c d : Int) (w : World) (h1 : goldOk a b = true) (h2 : goldOk c d = true) (h3 : goldOk (a + c) (b + d) = false) :
    Calls Try.prog 78 #[.agg #[.int .i64 a, .int .i64 b], .agg #[.int .i64 c, .int .i64 d]] w fun e w' => e = .returned (.tuple #[.agg #[.int .i64 0, .int .i64 0], .bool false]) ∧ Below w.heap.size w w' := by
  obtain ⟨q1, q2⟩ := goldOk_iff.1 h1
  obtain ⟨q3, q4⟩ := goldOk_iff.1 h2
  go_enter Try.func78, Try.ntmps78
  go_wp2_with fail
  refine (calls_is (impl_GoldOk _ _ _) h1).mono ?_
  rintro e w1 ⟨rfl, hb1⟩
  obtain ⟨hc1, hf1, hs1⟩ := bcell3 hb1
  go_wp2_with fail
  refine (calls_is (impl_GoldOk _ _ _) h2).mono ?_
  rintro e w2 ⟨rfl, hb2⟩
  obtain ⟨hc2, hf2, hs2⟩ := bcell3 hb2
  have hb1_2 := below_step (below_step hb1 (by (repeat (first | exact Below.refl _ _ | assumption | refine below_step ?_ (by assumption) | refine below_alloc ?_ _ | refine below_drewN ?_ _ | refine Below.drew ?_ | refine Below.setCell ?_ (by first | (simp; done) | omega | (simp; omega)) _)))) hb2
  clear hc1 hf1 hs1
  obtain ⟨hc1_2, hf1_2, hs1_2⟩ := bcell3 hb1_2
  go_wp2_with fail
  refine (calls_is (impl_GoldOk _ _ _) h3).mono ?_
  rintro e w3 ⟨rfl, hb3⟩
  obtain ⟨hc3, hf3, hs3⟩ := bcell3 hb3
  have hb1_3 := below_step (below_step hb1_2 (by (repeat (first | exact Below.refl _ _ | assumption | refine below_step ?_ (by assumption) | refine below_alloc ?_ _ | refine below_drewN ?_ _ | refine Below.drew ?_ | refine Below.setCell ?_ (by first | (simp; done) | omega | (simp; omega)) _)))) hb3
  clear hc1_2 hf1_2 hs1_2
  obtain ⟨hc1_3, hf1_3, hs1_3⟩ := bcell3 hb1_3
  have hb2_3 := below_step (below_step hb2 (by (repeat (first | exact Below.refl _ _ | assumption | refine below_step ?_ (by assumption) | refine below_alloc ?_ _ | refine below_drewN ?_ _ | refine Below.drew ?_ | refine Below.setCell ?_ (by first | (simp; done) | omega | (simp; omega)) _)))) hb3
  clear hc2 hf2 hs2
  obtain ⟨hc2_3, hf2_3, hs2_3⟩ := bcell3 hb2_3
  go_wp2
  exact bodyPost_ret (v := .tuple #[.agg #[.int .i64 0, .int .i64 0], .bool false]) (by simp [results, Try.results78, go_sem, hc1_3, hs1_3, hc2_3, hs2_3, hc3, hs3]) rfl ⟨rfl, by (repeat (first | exact Below.refl _ _ | assumption | refine below_step ?_ (by assumption) | refine below_alloc ?_ _ | refine below_drewN ?_ _ | refine Below.drew ?_ | refine Below.setCell ?_ (by first | (simp; done) | omega | (simp; omega)) _))⟩

set_option maxHeartbeats 400000 in
theorem impl_AddGold_no2 (a b c d : Int) (w : World) (h1 : goldOk a b = true) (h2 : goldOk c d = false) :
    Calls Try.prog 78 #[.agg #[.int .i64 a, .int .i64 b], .agg #[.int .i64 c, .int .i64 d]] w fun e w' => e = .returned (.tuple #[.agg #[.int .i64 0, .int .i64 0], .bool false]) ∧ Below w.heap.size w w' := by
  go_enter Try.func78, Try.ntmps78
  go_wp2_with fail
  refine (calls_is (impl_GoldOk _ _ _) h1).mono ?_
  rintro e w1 ⟨rfl, hb1⟩
  obtain ⟨hc1, hf1, hs1⟩ := bcell3 hb1
  go_wp2_with fail
  refine (calls_is (impl_GoldOk _ _ _) h2).mono ?_
  rintro e w2 ⟨rfl, hb2⟩
  obtain ⟨hc2, hf2, hs2⟩ := bcell3 hb2
  have hb1_2 := below_step (below_step hb1 (by (repeat (first | exact Below.refl _ _ | assumption | refine below_step ?_ (by assumption) | refine below_alloc ?_ _ | refine below_drewN ?_ _ | refine Below.drew ?_ | refine Below.setCell ?_ (by first | (simp; done) | omega | (simp; omega)) _)))) hb2
  clear hc1 hf1 hs1
  obtain ⟨hc1_2, hf1_2, hs1_2⟩ := bcell3 hb1_2
  go_wp2
  exact bodyPost_ret (v := .tuple #[.agg #[.int .i64 0, .int .i64 0], .bool false]) (by simp [results, Try.results78, go_sem, hc1_2, hs1_2, hc2, hs2]) rfl ⟨rfl, by (repeat (first | exact Below.refl _ _ | assumption | refine below_step ?_ (by assumption) | refine below_alloc ?_ _ | refine below_drewN ?_ _ | refine Below.drew ?_ | refine Below.setCell ?_ (by first | (simp; done) | omega | (simp; omega)) _))⟩

set_option maxHeartbeats 400000 in
theorem impl_AddGold_no1 (a b c d : Int) (w : World) (h1 : goldOk a b = false) :
    Calls Try.prog 78 #[.agg #[.int .i64 a, .int .i64 b], .agg #[.int .i64 c, .int .i64 d]] w fun e w' => e = .returned (.tuple #[.agg #[.int .i64 0, .int .i64 0], .bool false]) ∧ Below w.heap.size w w' := by
  go_enter Try.func78, Try.ntmps78
  go_wp2_with fail
  refine (calls_is (impl_GoldOk _ _ _) h1).mono ?_
  rintro e w1 ⟨rfl, hb1⟩
  obtain ⟨hc1, hf1, hs1⟩ := bcell3 hb1
  go_wp2
  exact bodyPost_ret (v := .tuple #[.agg #[.int .i64 0, .int .i64 0], .bool false]) (by simp [results, Try.results78, go_sem, hc1, hs1]) rfl ⟨rfl, by (repeat (first | exact Below.refl _ _ | assumption | refine below_step ?_ (by assumption) | refine below_alloc ?_ _ | refine below_drewN ?_ _ | refine Below.drew ?_ | refine Below.setCell ?_ (by first | (simp; done) | omega | (simp; omega)) _))⟩

theorem impl_AddGold (a b c d : Int) (w : World) :
    Calls Try.prog 78 #[.agg #[.int .i64 a, .int .i64 b], .agg #[.int .i64 c, .int .i64 d]] w fun e w' => e = .returned (.tuple #[.agg #[.int .i64 (addA a b c d), .int .i64 (addB a b c d)], .bool (addK a b c d)]) ∧ Below w.heap.size w w' := by
  cases h1 : goldOk a b
  · exact (impl_AddGold_no1 a b c d w h1).mono fun e w' h => ⟨h.1.trans (by simp [addA, addB, addK, h1]), h.2⟩
  · cases h2 : goldOk c d
    · exact (impl_AddGold_no2 a b c d w h1 h2).mono fun e w' h => ⟨h.1.trans (by simp [addA, addB, addK, h1, h2]), h.2⟩
    · cases h3 : goldOk (a + c) (b + d)
      · exact (impl_AddGold_no3 a b c d w h1 h2 h3).mono fun e w' h => ⟨h.1.trans (by simp [addA, addB, addK, h1, h2, h3]), h.2⟩
      · exact (impl_AddGold_yes a b c d w h1 h2 h3).mono fun e w' h => ⟨h.1.trans (by simp [addA, addB, addK, h1, h2, h3]), h.2⟩
set_option maxHeartbeats 400000 in
theorem spec_AddGold_yes (a b c d : Int) (w : World) (h1 : goldOk a b = true) (h2 : goldOk c d = true) (h3 : goldOk (a + c) (b + d) = true) :
    Calls Try.prog 17 #[.agg #[.int .i64 a, .int .i64 b], .agg #[.int .i64 c, .int .i64 d]] w fun e w' => e = .returned (.tuple #[.agg #[.int .i64 (a + c), .int .i64 (b + d)], .bool true]) ∧ Below w.heap.size w w' := by
  obtain ⟨q1, q2⟩ := goldOk_iff.1 h1
  obtain ⟨q3, q4⟩ := goldOk_iff.1 h2
  go_enter Try.func17, Try.ntmps17
  go_wp2_with fail
  refine (calls_is (spec_GoldOk _ _ _) h1).mono ?_
  rintro e w1 ⟨rfl, hb1⟩
  obtain ⟨hc1, hf1, hs1⟩ := bcell3 hb1
  go_wp2_with fail
  refine (calls_is (spec_GoldOk _ _ _) h2).mono ?_
  rintro e w2 ⟨rfl, hb2⟩
  obtain ⟨hc2, hf2, hs2⟩ := bcell3 hb2
  have hb1_2 := below_step (below_step hb1 (by (repeat (first | exact Below.refl _ _ | assumption | refine below_step ?_ (by assumption) | refine below_alloc ?_ _ | refine below_drewN ?_ _ | refine Below.drew ?_ | refine Below.setCell ?_ (by first | (simp; done) | omega | (simp; omega)) _)))) hb2
  clear hc1 hf1 hs1
  obtain ⟨hc1_2, hf1_2, hs1_2⟩ := bcell3 hb1_2
  go_wp2_with fail
  refine (calls_is (spec_GoldOk _ _ _) h3).mono ?_
  rintro e w3 ⟨rfl, hb3⟩
  obtain ⟨hc3, hf3, hs3⟩ := bcell3 hb3
  have hb1_3 := below_step (below_step hb1_2 (by (repeat (first | exact Below.refl _ _ | assumption | refine below_step ?_ (by assumption) | refine below_alloc ?_ _ | refine below_drewN ?_ _ | refine Below.drew ?_ | refine Below.setCell ?_ (by first | (simp; done) | omega | (simp; omega)) _)))) hb3
  clear hc1_2 hf1_2 hs1_2
  obtain ⟨hc1_3, hf1_3, hs1_3⟩ := bcell3 hb1_3
  have hb2_3 := below_step (below_step hb2 (by (repeat (first | exact Below.refl _ _ | assumption | refine below_step ?_ (by assumption) | refine below_alloc ?_ _ | refine below_drewN ?_ _ | refine Below.drew ?_ | refine Below.setCell ?_ (by first | (simp; done) | omega | (simp; omega)) _)))) hb3
  clear hc2 hf2 hs2
  obtain ⟨hc2_3, hf2_3, hs2_3⟩ := bcell3 hb2_3
  go_wp2
  exact bodyPost_ret (v := .tuple #[.agg #[.int .i64 (a + c), .int .i64 (b + d)], .bool true]) (by simp [results, Try.results17, go_sem, hc1_3, hs1_3, hc2_3, hs2_3, hc3, hs3]) rfl ⟨rfl, by (repeat (first | exact Below.refl _ _ | assumption | refine below_step ?_ (by assumption) | refine below_alloc ?_ _ | refine below_drewN ?_ _ | refine Below.drew ?_ | refine Below.setCell ?_ (by first | (simp; done) | omega | (simp; omega)) _))⟩

set_option maxHeartbeats 400000 in
theorem spec_AddGold_no3 (a b c d : Int) (w : World) (h1 : goldOk a b = true) (h2 : goldOk c d = true) (h3 : goldOk (a + c) (b + d) = false) :
    Calls Try.prog 17 #[.agg #[.int .i64 a, .int .i64 b], .agg #[.int .i64 c, .int .i64 d]] w fun e w' => e = .returned (.tuple #[.agg #[.int .i64 0, .int .i64 0], .bool false]) ∧ Below w.heap.size w w' := by
  obtain ⟨q1, q2⟩ := goldOk_iff.1 h1
  obtain ⟨q3, q4⟩ := goldOk_iff.1 h2
  go_enter Try.func17, Try.ntmps17
  go_wp2_with fail
  refine (calls_is (spec_GoldOk _ _ _) h1).mono ?_
  rintro e w1 ⟨rfl, hb1⟩
  obtain ⟨hc1, hf1, hs1⟩ := bcell3 hb1
  go_wp2_with fail
  refine (calls_is (spec_GoldOk _ _ _) h2).mono ?_
  rintro e w2 ⟨rfl, hb2⟩
  obtain ⟨hc2, hf2, hs2⟩ := bcell3 hb2
  have hb1_2 := below_step (below_step hb1 (by (repeat (first | exact Below.refl _ _ | assumption | refine below_step ?_ (by assumption) | refine below_alloc ?_ _ | refine below_drewN ?_ _ | refine Below.drew ?_ | refine Below.setCell ?_ (by first | (simp; done) | omega | (simp; omega)) _)))) hb2
  clear hc1 hf1 hs1
  obtain ⟨hc1_2, hf1_2, hs1_2⟩ := bcell3 hb1_2
  go_wp2_with fail
  refine (calls_is (spec_GoldOk _ _ _) h3).mono ?_
  rintro e w3 ⟨rfl, hb3⟩
  obtain ⟨hc3, hf3, hs3⟩ := bcell3 hb3
  have hb1_3 := below_step (below_step hb1_2 (by (repeat (first | exact Below.refl _ _ | assumption | refine below_step ?_ (by assumption) | refine below_alloc ?_ _ | refine below_drewN ?_ _ | refine Below.drew ?_ | refine Below.setCell ?_ (by first | (simp; done) | omega | (simp; omega)) _)))) hb3
  clear hc1_2 hf1_2 hs1_2
  obtain ⟨hc1_3, hf1_3, hs1_3⟩ := bcell3 hb1_3
  have hb2_3 := below_step (below_step hb2 (by (repeat (first | exact Below.refl _ _ | assumption | refine below_step ?_ (by assumption) | refine below_alloc ?_ _ | refine below_drewN ?_ _ | refine Below.drew ?_ | refine Below.setCell ?_ (by first | (simp; done) | omega | (simp; omega)) _)))) hb3
  clear hc2 hf2 hs2
  obtain ⟨hc2_3, hf2_3, hs2_3⟩ := bcell3 hb2_3
  go_wp2
  exact bodyPost_ret (v := .tuple #[.agg #[.int .i64 0, .int .i64 0], .bool false]) (by simp [results, Try.results17, go_sem, hc1_3, hs1_3, hc2_3, hs2_3, hc3, hs3]) rfl ⟨rfl, by (repeat (first | exact Below.refl _ _ | assumption | refine below_step ?_ (by assumption) | refine below_alloc ?_ _ | refine below_drewN ?_ _ | refine Below.drew ?_ | refine Below.setCell ?_ (by first | (simp; done) | omega | (simp; omega)) _))⟩

set_option maxHeartbeats 400000 in
theorem spec_AddGold_no2 (a b c d : Int) (w : World) (h1 : goldOk a b = true) (h2 : goldOk c d = false) :
    Calls Try.prog 17 #[.agg #[.int .i64 a, .int .i64 b], .agg #[.int .i64 c, .int .i64 d]] w fun e w' => e = .returned (.tuple #[.agg #[.int .i64 0, .int .i64 0], .bool false]) ∧ Below w.heap.size w w' := by
  go_enter Try.func17, Try.ntmps17
  go_wp2_with fail
  refine (calls_is (spec_GoldOk _ _ _) h1).mono ?_
  rintro e w1 ⟨rfl, hb1⟩
  obtain ⟨hc1, hf1, hs1⟩ := bcell3 hb1
  go_wp2_with fail
  refine (calls_is (spec_GoldOk _ _ _) h2).mono ?_
  rintro e w2 ⟨rfl, hb2⟩
  obtain ⟨hc2, hf2, hs2⟩ := bcell3 hb2
  have hb1_2 := below_step (below_step hb1 (by (repeat (first | exact Below.refl _ _ | assumption | refine below_step ?_ (by assumption) | refine below_alloc ?_ _ | refine below_drewN ?_ _ | refine Below.drew ?_ | refine Below.setCell ?_ (by first | (simp; done) | omega | (simp; omega)) _)))) hb2
  clear hc1 hf1 hs1
  obtain ⟨hc1_2, hf1_2, hs1_2⟩ := bcell3 hb1_2
  go_wp2
  exact bodyPost_ret (v := .tuple #[.agg #[.int .i64 0, .int .i64 0], .bool false]) (by simp [results, Try.results17, go_sem, hc1_2, hs1_2, hc2, hs2]) rfl ⟨rfl, by (repeat (first | exact Below.refl _ _ | assumption | refine below_step ?_ (by assumption) | refine below_alloc ?_ _ | refine below_drewN ?_ _ | refine Below.drew ?_ | refine Below.setCell ?_ (by first | (simp; done) | omega | (simp; omega)) _))⟩

set_option maxHeartbeats 400000 in
theorem spec_AddGold_no1 (a b c d : Int) (w : World) (h1 : goldOk a b = false) :
    Calls Try.prog 17 #[.agg #[.int .i64 a, .int .i64 b], .agg #[.int .i64 c, .int .i64 d]] w fun e w' => e = .returned (.tuple #[.agg #[.int .i64 0, .int .i64 0], .bool false]) ∧ Below w.heap.size w w' := by
  go_enter Try.func17, Try.ntmps17
  go_wp2_with fail
  refine (calls_is (spec_GoldOk _ _ _) h1).mono ?_
  rintro e w1 ⟨rfl, hb1⟩
  obtain ⟨hc1, hf1, hs1⟩ := bcell3 hb1
  go_wp2
  exact bodyPost_ret (v := .tuple #[.agg #[.int .i64 0, .int .i64 0], .bool false]) (by simp [results, Try.results17, go_sem, hc1, hs1]) rfl ⟨rfl, by (repeat (first | exact Below.refl _ _ | assumption | refine below_step ?_ (by assumption) | refine below_alloc ?_ _ | refine below_drewN ?_ _ | refine Below.drew ?_ | refine Below.setCell ?_ (by first | (simp; done) | omega | (simp; omega)) _))⟩

theorem spec_AddGold (a b c d : Int) (w : World) :
    Calls Try.prog 17 #[.agg #[.int .i64 a, .int .i64 b], .agg #[.int .i64 c, .int .i64 d]] w fun e w' => e = .returned (.tuple #[.agg #[.int .i64 (addA a b c d), .int .i64 (addB a b c d)], .bool (addK a b c d)]) ∧ Below w.heap.size w w' := by
  cases h1 : goldOk a b
  · exact (spec_AddGold_no1 a b c d w h1).mono fun e w' h => ⟨h.1.trans (by simp [addA, addB, addK, h1]), h.2⟩
  · cases h2 : goldOk c d
    · exact (spec_AddGold_no2 a b c d w h1 h2).mono fun e w' h => ⟨h.1.trans (by simp [addA, addB, addK, h1, h2]), h.2⟩
    · cases h3 : goldOk (a + c) (b + d)
      · exact (spec_AddGold_no3 a b c d w h1 h2 h3).mono fun e w' h => ⟨h.1.trans (by simp [addA, addB, addK, h1, h2, h3]), h.2⟩
      · exact (spec_AddGold_yes a b c d w h1 h2 h3).mono fun e w' h => ⟨h.1.trans (by simp [addA, addB, addK, h1, h2, h3]), h.2⟩
end Go.Proofs.Ytianfakgojmnpaa
