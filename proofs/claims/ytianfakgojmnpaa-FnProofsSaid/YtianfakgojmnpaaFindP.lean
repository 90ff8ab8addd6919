/- The search for a proof by weights: contracts. -/
import Derived.Test.YtianfakgojmnpaaIsProof
import Derived.Test.YtianfakgojmnpaaGridW
namespace Go.Proofs.Ytianfakgojmnpaa
open Go.RowKit

/-- the i-th of the seventeen weights -/
def proofW (W H X : Int) (i : Nat) : List Int := if i < 3 then classW W H X i else if i < 10 then colW W H X ((i : Int) - 3) else rowW W H X ((i : Int) - 10)
def findAt (W H X p q : Int) : Option Nat := (List.range 17).find? fun i => isProof W H X (proofW W H X i) p q
def findW (W H X p q : Int) : List Int := match findAt W H X p q with | some i => proofW W H X i | none => []
theorem proofW_cls {W H X : Int} {i : Nat} (h : i < 3) : proofW W H X i = classW W H X i := by unfold proofW; rw [if_pos h]
theorem proofW_col {W H X : Int} {i : Nat} (h : ¬ i < 3) (h2 : i < 10) : proofW W H X i = colW W H X ((i : Int) - 3) := by unfold proofW; rw [if_neg h, if_pos h2]
theorem proofW_row {W H X : Int} {i : Nat} (h2 : ¬ i < 10) : proofW W H X i = rowW W H X ((i : Int) - 10) := by unfold proofW; rw [if_neg (by omega), if_neg h2]
theorem find_some {W H X p q : Int} {k : Nat} (hk : k < 17) (hn : ∀ j, j < k → isProof W H X (proofW W H X j) p q = false) (hy : isProof W H X (proofW W H X k) p q = true) : findAt W H X p q = some k := by
  unfold findAt
  rw [List.find?_range_eq_some]
  exact ⟨hy, by simpa using hk, fun j hj => by simp [hn j hj]⟩
theorem find_none {W H X p q : Int} (hn : ∀ j, j < 17 → isProof W H X (proofW W H X j) p q = false) : findAt W H X p q = none := by
  unfold findAt
  rw [List.find?_range_eq_none]
  intro j hj
  simp [hn j hj]
theorem find_more {W H X p q : Int} {k : Nat} (hn : ∀ j, j < k → isProof W H X (proofW W H X j) p q = false) (hy : isProof W H X (proofW W H X k) p q = false) :
    ∀ j, j < k + 1 → isProof W H X (proofW W H X j) p q = false := fun j hj => by
  rcases Nat.lt_succ_iff_lt_or_eq.1 hj with h | rfl
  · exact hn j h
  · exact hy
theorem class_len4 (W H X a : Int) : (classW W H X a).length ≤ 4294967296 := by
  unfold classW; split
  · rename_i h; rw [grid_len]; have := (boardOk_facts h.1).m2; omega
  · simp
theorem col_len4 (W H X a : Int) : (colW W H X a).length ≤ 4294967296 := by
  unfold colW; split
  · rename_i h; rw [grid_len]; have := (boardOk_facts h.1).m2; omega
  · simp
theorem row_len4 (W H X a : Int) : (rowW W H X a).length ≤ 4294967296 := by
  unfold rowW; split
  · rename_i h; rw [grid_len]; have := (boardOk_facts h.1).m2; omega
  · simp
theorem proofW_len (W H X : Int) (i : Nat) : (proofW W H X i).length ≤ 4294967296 := by
  unfold proofW; split
  · exact class_len4 _ _ _ _
  · split
    · exact col_len4 _ _ _ _
    · exact row_len4 _ _ _ _
theorem findW_len (W H X p q : Int) : (findW W H X p q).length ≤ 4294967296 := by
  unfold findW; split
  · exact proofW_len _ _ _ _
  · simp
theorem find_ret {W H X p q : Int} {w w' : World} {A : Option Addr} {c k n : Nat} {l : List Int} (hf : findAt W H X p q = some k) (he : proofW W H X k = l) (hnn : l.length = n) (ho : w'.ownsRow w.heap.size 3 1 (.slice A n c) n (ints l)) (hb : Below w.heap.size w w') :
    RetOwnB 3 1 w (findW W H X p q).length (findW W H X p q) (findAt W H X p q).isSome (.returned (.tuple #[.slice A n c, .bool true])) w' := by
  have e : findW W H X p q = l := by unfold findW; rw [hf]; exact he
  rw [e, hf, hnn]
  exact ⟨A, c, rfl, ho, hb⟩
theorem find_nope {W H X p q : Int} {w w' : World} {A : Option Addr} {c : Nat} (hf : findAt W H X p q = none) (ho : w'.ownsRow w.heap.size 3 1 (.slice A 0 c) 0 []) (hb : Below w.heap.size w w') :
    RetOwnB 3 1 w (findW W H X p q).length (findW W H X p q) (findAt W H X p q).isSome (.returned (.tuple #[.slice A 0 c, .bool false])) w' := by
  have e : findW W H X p q = [] := by unfold findW; rw [hf]
  rw [e, hf]
  exact ⟨A, c, rfl, ho, hb⟩

set_option maxHeartbeats 4000000 in
theorem impl_FindProof (W H X p q : Int) (w : World) (hp : p ≤ 9223372036854775807) (hq : q ≤ 9223372036854775807) :
    Calls Try.prog 63 #[.agg #[.int .i64 W, .int .i64 H, .int .i64 X], .int .i64 p, .int .i64 q] w (RetOwnB 3 1 w (findW W H X p q).length (findW W H X p q) (findAt W H X p q).isSome) := by
  go_enter Try.func63, Try.ntmps63
  go_wp2
  generalize hV : w.alloc (.cells #[.int .i64 W, .int .i64 H, .int .i64 X] 44) = V
  have v0 : Below w.heap.size w V := by subst hV; (repeat (first | exact Below.refl _ _ | assumption | refine below_step ?_ (by assumption) | refine below_alloc ?_ _ | refine below_drewN ?_ _ | refine Below.drew ?_ | refine Below.setCell ?_ (by first | (simp; done) | omega | (simp; omega)) _))
  have z0 : w.heap.size < V.heap.size := by subst hV; simp <;> omega
  have v0_0 : V.cell? ⟨w.heap.size, 0, none⟩ = some (.int .i64 W) := by subst hV; simp
  have v0_1 : V.cell? ⟨w.heap.size, 1, none⟩ = some (.int .i64 H) := by subst hV; simp
  have v0_2 : V.cell? ⟨w.heap.size, 2, none⟩ = some (.int .i64 X) := by subst hV; simp
  have K : Hid (∀ w', Below V.heap.size V w' → Below V.heap.size V w' ∧ w'.cell? ⟨w.heap.size, 0, none⟩ = some (.int .i64 W) ∧ w'.cell? ⟨w.heap.size, 1, none⟩ = some (.int .i64 H) ∧ w'.cell? ⟨w.heap.size, 2, none⟩ = some (.int .i64 X)) := fun w' hB => ⟨hB, bel_cell hB z0 v0_0, bel_cell hB z0 v0_1, bel_cell hB z0 v0_2⟩
  have ZV : Hid (w.heap.size + 1 = V.heap.size) := by subst hV; unfold Hid; simp
  clear hV
  have HV : Hid (w.heap.size ≤ V.heap.size) := v0.size
  go_loopw [8, 9] (fun i _ wr => ∃ k : Nat, k ≤ 17 ∧ i = .int .i64 k ∧ (∀ j, j < k → isProof W H X (proofW W H X j) p q = false) ∧ Below V.heap.size V wr) (fun i _ _ => 17 - (intOf i).toNat)
  case atStart => exact ⟨0, Nat.zero_le _, rfl, fun j hj => absurd hj (Nat.not_lt_zero _), Below.refl _ _⟩
  case round =>
    obtain ⟨k, hk, rfl, hno, hbel⟩ := hrel
    have d0 := bel_cell hbel z0 v0_0
    have d1 := bel_cell hbel z0 v0_1
    have d2 := bel_cell hbel z0 v0_2
    have HB := Lib.hid hbel
    by_cases h17 : k < 17
    · by_cases h3 : k < 3
      · skip
        have HE := proofW_cls (W := W) (H := H) (X := X) h3
        cases hpf : isProof W H X (proofW W H X k) p q
        · have HC := Lib.hid hpf
          rw [HE] at hpf
          go_wp2_with fail
          refine (impl_ClassWeights _ _ _ _ _).mono ?_
          rintro e u1 ⟨A1, c1, rfl, o1, hb1⟩
          replace hbel := below_step hbel hb1
          have d0 := bel_cell hbel z0 v0_0
          have d1 := bel_cell hbel z0 v0_1
          have d2 := bel_cell hbel z0 v0_2
          go_wp2_with fail
          refine (calls_is (impl_IsProof _ _ _ _ _ _ _ _ _ (FAt_of_own o1) (class_len4 _ _ _ _) hp hq) hpf).mono ?_
          rintro e u2 ⟨rfl, hb2⟩
          replace hbel := below_step hbel hb2
          replace o1 := own_below o1 hb2
          go_wp2
          go_roundw
          case rel => exact ⟨k + 1, by omega, by go_num, find_more hno HC.out, hbel⟩
          case measure => simp [intOf]; omega
        · have HC := Lib.hid hpf
          rw [HE] at hpf
          go_wp2_with fail
          refine (impl_ClassWeights _ _ _ _ _).mono ?_
          rintro e u1 ⟨A1, c1, rfl, o1, hb1⟩
          replace hbel := below_step hbel hb1
          have d0 := bel_cell hbel z0 v0_0
          have d1 := bel_cell hbel z0 v0_1
          have d2 := bel_cell hbel z0 v0_2
          go_wp2_with fail
          refine (calls_is (impl_IsProof _ _ _ _ _ _ _ _ _ (FAt_of_own o1) (class_len4 _ _ _ _) hp hq) hpf).mono ?_
          rintro e u2 ⟨rfl, hb2⟩
          replace hbel := below_step hbel hb2
          replace o1 := own_below o1 hb2
          go_wp2
          exact bodyPost_ret (v := .tuple #[.slice A1 (classW W H X (k : Int)).length c1, .bool true]) (by simp [results, Try.results63, go_sem]) rfl (find_ret (find_some (by omega) hno HC.out) HE rfl (own_lower o1 (by have := HV.out; have := HB.out.size; omega)) (below_step v0 hbel))
      by_cases h10 : k < 10
      · skip
        have HE := proofW_col (W := W) (H := H) (X := X) h3 h10
        cases hpf : isProof W H X (proofW W H X k) p q
        · have HC := Lib.hid hpf
          rw [HE] at hpf
          go_wp2_with fail
          refine (impl_ColumnWeights _ _ _ _ _).mono ?_
          rintro e u1 ⟨A1, c1, rfl, o1, hb1⟩
          replace hbel := below_step hbel hb1
          have d0 := bel_cell hbel z0 v0_0
          have d1 := bel_cell hbel z0 v0_1
          have d2 := bel_cell hbel z0 v0_2
          go_wp2_with fail
          refine (calls_is (impl_IsProof _ _ _ _ _ _ _ _ _ (FAt_of_own o1) (col_len4 _ _ _ _) hp hq) hpf).mono ?_
          rintro e u2 ⟨rfl, hb2⟩
          replace hbel := below_step hbel hb2
          replace o1 := own_below o1 hb2
          go_wp2
          go_roundw
          case rel => exact ⟨k + 1, by omega, by go_num, find_more hno HC.out, hbel⟩
          case measure => simp [intOf]; omega
        · have HC := Lib.hid hpf
          rw [HE] at hpf
          go_wp2_with fail
          refine (impl_ColumnWeights _ _ _ _ _).mono ?_
          rintro e u1 ⟨A1, c1, rfl, o1, hb1⟩
          replace hbel := below_step hbel hb1
          have d0 := bel_cell hbel z0 v0_0
          have d1 := bel_cell hbel z0 v0_1
          have d2 := bel_cell hbel z0 v0_2
          go_wp2_with fail
          refine (calls_is (impl_IsProof _ _ _ _ _ _ _ _ _ (FAt_of_own o1) (col_len4 _ _ _ _) hp hq) hpf).mono ?_
          rintro e u2 ⟨rfl, hb2⟩
          replace hbel := below_step hbel hb2
          replace o1 := own_below o1 hb2
          go_wp2
          exact bodyPost_ret (v := .tuple #[.slice A1 (colW W H X ((k : Int) - 3)).length c1, .bool true]) (by simp [results, Try.results63, go_sem]) rfl (find_ret (find_some (by omega) hno HC.out) HE rfl (own_lower o1 (by have := HV.out; have := HB.out.size; omega)) (below_step v0 hbel))
      have HE := proofW_row (W := W) (H := H) (X := X) h10
      cases hpf : isProof W H X (proofW W H X k) p q
      · have HC := Lib.hid hpf
        rw [HE] at hpf
        go_wp2_with fail
        refine (impl_RowWeights _ _ _ _ _).mono ?_
        rintro e u1 ⟨A1, c1, rfl, o1, hb1⟩
        replace hbel := below_step hbel hb1
        have d0 := bel_cell hbel z0 v0_0
        have d1 := bel_cell hbel z0 v0_1
        have d2 := bel_cell hbel z0 v0_2
        go_wp2_with fail
        refine (calls_is (impl_IsProof _ _ _ _ _ _ _ _ _ (FAt_of_own o1) (row_len4 _ _ _ _) hp hq) hpf).mono ?_
        rintro e u2 ⟨rfl, hb2⟩
        replace hbel := below_step hbel hb2
        replace o1 := own_below o1 hb2
        go_wp2
        go_roundw
        case rel => exact ⟨k + 1, by omega, by go_num, find_more hno HC.out, hbel⟩
        case measure => simp [intOf]; omega
      · have HC := Lib.hid hpf
        rw [HE] at hpf
        go_wp2_with fail
        refine (impl_RowWeights _ _ _ _ _).mono ?_
        rintro e u1 ⟨A1, c1, rfl, o1, hb1⟩
        replace hbel := below_step hbel hb1
        have d0 := bel_cell hbel z0 v0_0
        have d1 := bel_cell hbel z0 v0_1
        have d2 := bel_cell hbel z0 v0_2
        go_wp2_with fail
        refine (calls_is (impl_IsProof _ _ _ _ _ _ _ _ _ (FAt_of_own o1) (row_len4 _ _ _ _) hp hq) hpf).mono ?_
        rintro e u2 ⟨rfl, hb2⟩
        replace hbel := below_step hbel hb2
        replace o1 := own_below o1 hb2
        go_wp2
        exact bodyPost_ret (v := .tuple #[.slice A1 (rowW W H X ((k : Int) - 10)).length c1, .bool true]) (by simp [results, Try.results63, go_sem]) rfl (find_ret (find_some (by omega) hno HC.out) HE rfl (own_lower o1 (by have := HV.out; have := HB.out.size; omega)) (below_step v0 hbel))
    · obtain rfl : k = 17 := by omega
      go_wp2
      exact bodyPost_ret (v := .tuple #[.slice none 0 0, .bool false]) (by simp [results, Try.results63, go_sem]) rfl (find_nope (find_none hno) (World.ownsRow_nil _ _ _ _) (below_step v0 hbel))
end Go.Proofs.Ytianfakgojmnpaa
