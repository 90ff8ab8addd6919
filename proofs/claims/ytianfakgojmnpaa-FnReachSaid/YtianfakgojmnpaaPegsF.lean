/- Fewest pegs left. -/
import Derived.Test.YtianfakgojmnpaaPegs
namespace Go.Proofs.Ytianfakgojmnpaa
open Go.RowKit

def fstep (f : Int) (q : Nat) : Int := if f < 0 ∨ pops (q : Int) < f then pops (q : Int) else f
def fewest (L : List Nat) : Int := L.foldl fstep (-1)
theorem fewest_snoc (L : List Nat) (q : Nat) : fewest (L ++ [q]) = fstep (fewest L) q := by simp [fewest]
theorem fewest_bd (L : List Nat) : -1 ≤ fewest L ∧ fewest L ≤ 49 := by
  have : ∀ (L : List Nat) (f : Int), -1 ≤ f ∧ f ≤ 49 → -1 ≤ L.foldl fstep f ∧ L.foldl fstep f ≤ 49 := by
    intro L
    induction L with
    | nil => exact fun f h => h
    | cons q L ih =>
      intro f h
      refine ih _ ?_
      have := pops_bd (q : Int)
      unfold fstep; split <;> omega
  exact this L _ (by omega)
theorem fstep_new {f : Int} {q : Nat} (h : f < 0 ∨ pops (q : Int) < f) : fstep f q = pops (q : Int) := by unfold fstep; rw [if_pos h]
theorem fstep_old {f : Int} {q : Nat} (h : ¬ (f < 0 ∨ pops (q : Int) < f)) : fstep f q = f := by unfold fstep; rw [if_neg h]
set_option maxHeartbeats 4000000 in
theorem impl_FewestLeft (W H X p : Int) (w : World) (hp : p ≤ 9223372036854775807) :
    Calls Try.prog 32 #[.agg #[.int .i64 W, .int .i64 H, .int .i64 X], .int .i64 p] w fun e w' => e = .returned (.int .i64 (fewest (reachOf W H X false p))) ∧ Below w.heap.size w w' := by
  have hRL := reach_len W H X p false
  go_enter Try.func32, Try.ntmps32
  go_wp2_with fail
  generalize hV : w.alloc (.cells #[.int .i64 W, .int .i64 H, .int .i64 X] 44) = V
  have v0 : Below w.heap.size w V := by subst hV; (repeat (first | exact Below.refl _ _ | assumption | refine below_step ?_ (by assumption) | refine below_alloc ?_ _ | refine below_drewN ?_ _ | refine Below.drew ?_ | refine Below.setCell ?_ (by first | (simp; done) | omega | (simp; omega)) _))
  have z0 : w.heap.size < V.heap.size := by subst hV; simp <;> omega
  have v0_0 : V.cell? ⟨w.heap.size, 0, none⟩ = some (.int .i64 W) := by subst hV; simp
  have v0_1 : V.cell? ⟨w.heap.size, 1, none⟩ = some (.int .i64 H) := by subst hV; simp
  have v0_2 : V.cell? ⟨w.heap.size, 2, none⟩ = some (.int .i64 X) := by subst hV; simp
  have K : Hid (∀ w', Below V.heap.size V w' → Below V.heap.size V w' ∧ w'.cell? ⟨w.heap.size, 0, none⟩ = some (.int .i64 W) ∧ w'.cell? ⟨w.heap.size, 1, none⟩ = some (.int .i64 H) ∧ w'.cell? ⟨w.heap.size, 2, none⟩ = some (.int .i64 X)) := fun w' hB => ⟨hB, bel_cell hB z0 v0_0, bel_cell hB z0 v0_1, bel_cell hB z0 v0_2⟩
  have ZV : Hid (w.heap.size + 1 = V.heap.size) := by subst hV; unfold Hid; simp
  clear hV
  refine (impl_ReachOf _ _ _ _ _ hp).mono ?_
  rintro e w1 ⟨AR, cR, rfl, hR, hV⟩
  have hF := FAt_of_own hR
  have hV1 := Below.refl w1.heap.size w1
  have hw1 := below_step v0 hV
  clear hR
  go_wp2_with fail
  go_loopw [5, 12] (fun f i wr => ∃ k : Nat, k ≤ (reachOf W H X false p).length ∧ i = .int .i64 k ∧ f = .int .i64 (fewest ((reachOf W H X false p).take k)) ∧ Below w1.heap.size w1 wr) (fun _ i _ => (reachOf W H X false p).length - (intOf i).toNat)
  case atStart => exact ⟨0, Nat.zero_le _, rfl, by simp [fewest], hV1⟩
  case round =>
    clear hV1
    obtain ⟨k, hk, rfl, rfl, hbel⟩ := hrel
    by_cases hlt : k < (reachOf W H X false p).length
    · obtain ⟨q, hq⟩ : ∃ q, (reachOf W H X false p)[k]? = some q := ⟨_, List.getElem?_eq_getElem hlt⟩
      obtain ⟨y1, y2, y3, _, _, _⟩ := seen_small (reach_mem.1 (List.mem_of_getElem? hq))
      obtain ⟨b, off, rfl, hc⟩ := (hF.below hbel) k (q : Int) (toInts_at hq)
      have hcl := cellb_lt hc
      have hstep : fewest ((reachOf W H X false p).take (k + 1)) = fstep (fewest ((reachOf W H X false p).take k)) q := by
        rw [List.take_add_one, hq, Option.toList_some, fewest_snoc]
      have HST := Lib.hid hstep
      have hb1 := fewest_bd ((reachOf W H X false p).take k)
      have hb2 := pops_bd (q : Int)
      obtain ⟨z, hz⟩ : ∃ z, pops (q : Int) = z := ⟨_, rfl⟩
      obtain ⟨f, hf⟩ : ∃ f, fewest ((reachOf W H X false p).take k) = f := ⟨_, rfl⟩
      have hz0 : (((bitsTo q 49).length : Nat) : Int) = z := by rw [← hz]; simp [pops]
      have hz1 : (((bitsTo (q : Int).toNat 49).length : Nat) : Int) = z := hz
      rw [hz] at hb2
      rw [hf] at hb1 ⊢
      have HZ := Lib.hid hz
      have HFF := Lib.hid hf
      clear hq hstep hz hf
      by_cases h0 : f < 0
      · have HN := Lib.hid (fstep_new (q := q) (Or.inl h0))
        go_wp2_with (go_at_call 92; refine (impl_pegsIn q _ (by omega)).mono ?_; rintro e _ ⟨rfl, rfl⟩; rw [hz0])
        go_roundw
        case rel => exact ⟨k + 1, by omega, by go_num, by rw [HST.out, HFF.out, HN.out, HZ.out], hbel⟩
        case measure => simp [intOf]; omega
      · by_cases h1 : z < f
        · have HN := Lib.hid (fstep_new (f := f) (q := q) (Or.inr (by rw [HZ.out]; exact h1)))
          go_wp2_with (go_at_call 92; refine (impl_pegsIn q _ (by omega)).mono ?_; rintro e _ ⟨rfl, rfl⟩; rw [hz0])
          go_roundw
          case rel => exact ⟨k + 1, by omega, by go_num, by rw [HST.out, HFF.out, HN.out, HZ.out], hbel⟩
          case measure => simp [intOf]; omega
        · have HN := Lib.hid (fstep_old (f := f) (q := q) (by rw [HZ.out]; omega))
          go_wp2_with (go_at_call 92; refine (impl_pegsIn q _ (by omega)).mono ?_; rintro e _ ⟨rfl, rfl⟩; rw [hz0])
          go_roundw
          case rel => exact ⟨k + 1, by omega, by go_num, by rw [HST.out, HFF.out, HN.out], hbel⟩
          case measure => simp [intOf]; omega
    · obtain rfl : k = (reachOf W H X false p).length := by omega
      rw [List.take_length]
      have hfin := Below.trans (B := w.heap.size) hw1 (hbel.mono hw1.size)
      go_wp2
      go_ret
      exact ⟨rfl, by (repeat (first | exact Below.refl _ _ | assumption | refine below_step ?_ (by assumption) | refine below_alloc ?_ _ | refine below_drewN ?_ _ | refine Below.drew ?_ | refine Below.setCell ?_ (by first | (simp; done) | omega | (simp; omega)) _))⟩
end Go.Proofs.Ytianfakgojmnpaa
