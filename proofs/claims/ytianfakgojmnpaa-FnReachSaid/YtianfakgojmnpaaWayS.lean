/- Ways to a single peg: contracts. -/
import Derived.Test.YtianfakgojmnpaaWayTo
namespace Go.Proofs.Ytianfakgojmnpaa
open Go.RowKit

def wayS (W H X p : Int) : List (Int × Int × Int) := match (finals W H X p)[0]? with | some k => wayTo W H X p (2 ^ k) | none => []
def okS (W H X p : Int) : Bool := match (finals W H X p)[0]? with | some k => seenHas (seenB W H X true (2 ^ k)) p | none => false
theorem wayS_len (W H X p : Int) : (wayS W H X p).length ≤ 49 := by
  unfold wayS; split
  · exact wayTo_len _ _ _ _ _
  · simp
theorem impl_FinalsOfN (W H X p : Int) (w : World) (hp : p ≤ 9223372036854775807) {N : Nat} (hN : (finals W H X p).length = N) :
    Calls Try.prog 31 #[.agg #[.int .i64 W, .int .i64 H, .int .i64 X], .int .i64 p] w (RetOwn 3 1 w N (toInts (finals W H X p))) := by
  subst hN; exact impl_FinalsOf W H X p w hp
theorem spec_FinalsOfN (W H X p : Int) (w : World) (hp : p ≤ 9223372036854775807) {N : Nat} (hN : (finals W H X p).length = N) :
    Calls Try.prog 59 #[.agg #[.int .i64 W, .int .i64 H, .int .i64 X], .int .i64 p] w (RetOwn 3 1 w N (toInts (finals W H X p))) := by
  subst hN; exact spec_FinalsOf W H X p w hp
set_option maxHeartbeats 1000000 in
theorem impl_SinglePeg (W H X : Int) (h : Nat) (w : World) (hh : hasHole W H X h = true) (h1 : (h : Int) ≤ 48) :
    Calls Try.prog 110 #[.agg #[.int .i64 W, .int .i64 H, .int .i64 X], .int .i64 h] w fun e w' => e = .returned (.int .i64 (2 ^ h)) ∧ Below w.heap.size w w' := by
  have hwp : wrap64 (2 ^ h) = 2 ^ h := by simpa using wrap_pow h1
  go_enter Try.func110, Try.ntmps110
  go_wp2_with fail
  refine (calls_is (impl_HasHole _ _ _ _ _) hh).mono ?_
  rintro e w1 ⟨rfl, hb1⟩
  obtain ⟨hc1, hf1, hs1⟩ := bcell3 hb1
  have hz1 := hb1.size
  (try simp at hz1)
  go_wp2
  go_ret
  exact ⟨ret_int (by first | rfl | exact hwp), by (repeat (first | exact Below.refl _ _ | assumption | refine below_step ?_ (by assumption) | refine below_alloc ?_ _ | refine below_drewN ?_ _ | refine Below.drew ?_ | refine Below.setCell ?_ (by first | (simp; done) | omega | (simp; omega)) _))⟩
set_option maxHeartbeats 4000000 in
theorem impl_WayToSingle (W H X p : Int) (w : World) (hp : p ≤ 9223372036854775807) :
    Calls Try.prog 58 #[.agg #[.int .i64 W, .int .i64 H, .int .i64 X], .int .i64 p] w (RetOwnB 46 3 w (wayS W H X p).length (lflat (wayS W H X p)) (okS W H X p)) := by
  have hfl := finals_len W H X p
  obtain ⟨N, hN⟩ : ∃ N, (finals W H X p).length = N := ⟨_, rfl⟩
  have HN := Lib.hid hN
  by_cases hz : N = 0
  · have hn : (finals W H X p)[0]? = none := List.getElem?_eq_none (by omega)
    have e1 : wayS W H X p = [] := by unfold wayS; rw [hn]
    have e2 : okS W H X p = false := by unfold okS; rw [hn]
    rw [e1, e2]
    clear e1 e2 hn hN hfl
    have hz2 : (N : Int) = 0 := by omega
    have hz3 : ((N : Int) == 0) = true := by rw [hz2]; rfl
    go_enter Try.func58, Try.ntmps58
    go_wp2_with fail
    generalize hV : w.alloc (.cells #[.int .i64 W, .int .i64 H, .int .i64 X] 44) = V
    have v0 : Below w.heap.size w V := by subst hV; (repeat (first | exact Below.refl _ _ | assumption | refine below_step ?_ (by assumption) | refine below_alloc ?_ _ | refine below_drewN ?_ _ | refine Below.drew ?_ | refine Below.setCell ?_ (by first | (simp; done) | omega | (simp; omega)) _))
    have z0 : w.heap.size < V.heap.size := by subst hV; simp <;> omega
    have v0_0 : V.cell? ⟨w.heap.size, 0, none⟩ = some (.int .i64 W) := by subst hV; simp
    have v0_1 : V.cell? ⟨w.heap.size, 1, none⟩ = some (.int .i64 H) := by subst hV; simp
    have v0_2 : V.cell? ⟨w.heap.size, 2, none⟩ = some (.int .i64 X) := by subst hV; simp
    have K : Hid (∀ w', Below V.heap.size V w' → Below V.heap.size V w' ∧ w'.cell? ⟨w.heap.size, 0, none⟩ = some (.int .i64 W) ∧ w'.cell? ⟨w.heap.size, 1, none⟩ = some (.int .i64 H) ∧ w'.cell? ⟨w.heap.size, 2, none⟩ = some (.int .i64 X)) := fun w' hB => ⟨hB, bel_cell hB z0 v0_0, bel_cell hB z0 v0_1, bel_cell hB z0 v0_2⟩
    have ZV : Hid (w.heap.size + 1 = V.heap.size) := by subst hV; unfold Hid; simp
    clear hV
    refine (impl_FinalsOfN _ _ _ _ _ hp HN.out).mono ?_
    rintro e w1 ⟨A, c, rfl, hF, hV⟩
    have hww := below_step v0 hV
    go_wp2
    exact bodyPost_ret (v := .tuple #[.slice none 0 0, .bool false]) (by simp [results, Try.results58, go_sem]) rfl ⟨none, 0, rfl, ⟨rfl, .inl ⟨rfl, rfl⟩⟩, by (repeat (first | exact Below.refl _ _ | assumption | refine below_step ?_ (by assumption) | refine below_alloc ?_ _ | refine below_drewN ?_ _ | refine Below.drew ?_ | refine Below.setCell ?_ (by first | (simp; done) | omega | (simp; omega)) _))⟩
  obtain ⟨h, hh⟩ : ∃ h, (finals W H X p)[0]? = some h := ⟨_, List.getElem?_eq_getElem (by omega)⟩
  have hmem : h ∈ holes W H X := by
    have := List.mem_of_getElem? hh
    unfold finals at this
    exact (List.mem_filter.1 this).1
  obtain ⟨y1, y5, y6, y7⟩ := hole_small hmem
  have hwp : wrap64 (2 ^ h) = 2 ^ h := by simpa using wrap_pow y6
  have hwp2 : IntKind.i64.wrap (2 ^ h) = 2 ^ h := by simpa using wrap_pow' y6
  have hple : (2 : Int) ^ h ≤ 9223372036854775807 := by
    have := (pow_bd (n := h) (by omega)).2
    omega
  have e1 : wayS W H X p = wayTo W H X p (2 ^ h) := by unfold wayS; rw [hh]
  have e2 : okS W H X p = seenHas (seenB W H X true (2 ^ h)) p := by unfold okS; rw [hh]
  rw [e1, e2]
  clear e1 e2 hmem hN hfl
  have hz2 : ¬ (N : Int) = 0 := by omega
  have hz3 : ((N : Int) == 0) = false := by rw [beq_eq_false_iff_ne]; exact hz2
  have hz4 : (0 : Int) < (N : Int) := by omega
  have hz5 : 0 < N := by omega
  go_enter Try.func58, Try.ntmps58
  go_wp2_with fail
  generalize hV : w.alloc (.cells #[.int .i64 W, .int .i64 H, .int .i64 X] 44) = V
  have v0 : Below w.heap.size w V := by subst hV; (repeat (first | exact Below.refl _ _ | assumption | refine below_step ?_ (by assumption) | refine below_alloc ?_ _ | refine below_drewN ?_ _ | refine Below.drew ?_ | refine Below.setCell ?_ (by first | (simp; done) | omega | (simp; omega)) _))
  have z0 : w.heap.size < V.heap.size := by subst hV; simp <;> omega
  have v0_0 : V.cell? ⟨w.heap.size, 0, none⟩ = some (.int .i64 W) := by subst hV; simp
  have v0_1 : V.cell? ⟨w.heap.size, 1, none⟩ = some (.int .i64 H) := by subst hV; simp
  have v0_2 : V.cell? ⟨w.heap.size, 2, none⟩ = some (.int .i64 X) := by subst hV; simp
  have K : Hid (∀ w', Below V.heap.size V w' → Below V.heap.size V w' ∧ w'.cell? ⟨w.heap.size, 0, none⟩ = some (.int .i64 W) ∧ w'.cell? ⟨w.heap.size, 1, none⟩ = some (.int .i64 H) ∧ w'.cell? ⟨w.heap.size, 2, none⟩ = some (.int .i64 X)) := fun w' hB => ⟨hB, bel_cell hB z0 v0_0, bel_cell hB z0 v0_1, bel_cell hB z0 v0_2⟩
  have ZV : Hid (w.heap.size + 1 = V.heap.size) := by subst hV; unfold Hid; simp
  clear hV
  refine (impl_FinalsOfN _ _ _ _ _ hp HN.out).mono ?_
  rintro e w1 ⟨A, c, rfl, hF, hV⟩
  obtain ⟨b, off, rfl, hc⟩ := FAt_of_own hF 0 (h : Int) (toInts_at hh)
  rw [Nat.add_zero] at hc
  have d0 := bel_cell hV z0 v0_0
  have d1 := bel_cell hV z0 v0_1
  have d2 := bel_cell hV z0 v0_2
  have hww := below_step v0 hV
  have K1 : Hid (∀ w', Below w1.heap.size w1 w' → Below w1.heap.size w1 w' ∧ w'.cell? ⟨w.heap.size, 0, none⟩ = some (.int .i64 W) ∧ w'.cell? ⟨w.heap.size, 1, none⟩ = some (.int .i64 H) ∧ w'.cell? ⟨w.heap.size, 2, none⟩ = some (.int .i64 X) ∧ w'.cell? ⟨b, off, none⟩ = some (.int .i64 h)) := fun w' hB => ⟨hB, bel_cell hB (cellb_lt d0) d0, bel_cell hB (cellb_lt d1) d1, bel_cell hB (cellb_lt d2) d2, bel_cell hB (cellb_lt hc) hc⟩
  go_wp2_with fail
  go_region_held3 (fun w' => Below w1.heap.size w1 w' ∧ w'.cell? ⟨w.heap.size, 0, none⟩ = some (.int .i64 W) ∧ w'.cell? ⟨w.heap.size, 1, none⟩ = some (.int .i64 H) ∧ w'.cell? ⟨w.heap.size, 2, none⟩ = some (.int .i64 X) ∧ w'.cell? ⟨b, off, none⟩ = some (.int .i64 h)) ((refine K1.out _ ?_; (repeat (first | exact Below.refl _ _ | assumption | refine below_step ?_ (by assumption) | refine below_alloc ?_ _ | refine below_drewN ?_ _ | refine Below.drew ?_ | refine Below.setCell ?_ (by first | (simp; done) | omega | (simp; omega)) _)))) (first | (go_at_call 110; refine (impl_SinglePeg _ _ _ h _ y1 y6).mono ?_; rintro e w3 ⟨rfl, hb3⟩) | (go_at_call 54; refine (impl_WayTo _ _ _ _ _ _ hp hple).mono ?_; rintro e w4 ⟨AW, cW, rfl, hW, hb4⟩))
  have hw4 : Below w1.heap.size w1 w4 := by (repeat (first | exact Below.refl _ _ | assumption | refine below_step ?_ (by assumption) | refine below_alloc ?_ _ | refine below_drewN ?_ _ | refine Below.drew ?_ | refine Below.setCell ?_ (by first | (simp; done) | omega | (simp; omega)) _))
  have hsz : w.heap.size ≤ w3.heap.size := Nat.le_trans hww.size (show Below w1.heap.size w1 w3 by (repeat (first | exact Below.refl _ _ | assumption | refine below_step ?_ (by assumption) | refine below_alloc ?_ _ | refine below_drewN ?_ _ | refine Below.drew ?_ | refine Below.setCell ?_ (by first | (simp; done) | omega | (simp; omega)) _))).size
  have hfin : Below w.heap.size w w4 := below_step hww hw4
  go_wp2
  exact bodyPost_ret (v := .tuple #[.slice AW (wayTo W H X p (2 ^ h)).length cW, .bool (seenHas (seenB W H X true (2 ^ h)) p)]) (by simp [results, Try.results58, go_sem]) rfl ⟨AW, cW, rfl, own_lower hW (by first | exact hsz | (simp; exact hsz)), hfin⟩
end Go.Proofs.Ytianfakgojmnpaa
