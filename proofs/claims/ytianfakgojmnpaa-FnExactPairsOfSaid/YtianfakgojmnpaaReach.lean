/- Spreads: what is read of them; contracts. -/
import Derived.Test.YtianfakgojmnpaaSeenR
namespace Go.Proofs.Ytianfakgojmnpaa
open Go.RowKit

theorem seen_len2 (W H X p : Int) (back : Bool) : (seenB W H X back p).length ≤ 65536 := by
  by_cases h : isSmall W H X = true ∧ positionOk W H X p = true
  · rw [seen_len h]; exact (small_cells h.1).2.2
  · unfold seenB; rw [if_neg h]; simp
theorem seenHas_at {bs : List Bool} {p : Int} {b : Bool} (h0 : 0 ≤ p) (h : bs[p.toNat]? = some b) : seenHas bs p = b := by simp [seenHas, h0, List.getD, h]
theorem seenHas_out {bs : List Bool} {p : Int} (h : (bs.length : Int) ≤ p) : seenHas bs p = false := by
  have : bs[p.toNat]? = none := List.getElem?_eq_none (by omega)
  simp [seenHas, List.getD, this]
theorem seenHas_neg {bs : List Bool} {p : Int} (h : p < 0) : seenHas bs p = false := by
  have : ¬ 0 ≤ p := by omega
  simp [seenHas, this]
theorem impl_spreadOf (W H X p : Int) (back : Bool) (w : World) (hp : p ≤ 9223372036854775807) :
    Calls Try.prog 89 #[.agg #[.int .i64 W, .int .i64 H, .int .i64 X], .int .i64 p, .bool back] w (RetSeen w (seenB W H X back p)) := by
  cases h1 : isSmall W H X
  · have e : seenB W H X back p = [] := by unfold seenB; rw [if_neg (by simp [h1])]
    rw [e]; exact impl_spreadOf_no1 W H X p back w hp h1
  · cases h2 : positionOk W H X p
    · have e : seenB W H X back p = [] := by unfold seenB; rw [if_neg (by simp [h2])]
      rw [e]; exact impl_spreadOf_no2 W H X p back w hp h1 h2
    · cases back
      · exact impl_spreadOf_false W H X p w hp h1 h2
      · exact impl_spreadOf_true W H X p w hp h1 h2
set_option maxHeartbeats 1000000 in
theorem impl_has (A : Option Addr) (cap : Nat) (bs : List Bool) (p : Int) (w : World) (hB : BAt w A bs) (_hn : bs.length ≤ 65536) :
    Calls Try.prog 91 #[.slice A bs.length cap, .int .i64 p] w fun e w' => e = .returned (.bool (seenHas bs p)) ∧ Below w.heap.size w w' := by
  by_cases h0 : p < 0
  · rw [seenHas_neg h0]
    go_enter Try.func91, Try.ntmps91
    go_wp2
    go_ret
    exact ⟨rfl, by (repeat (first | exact Below.refl _ _ | assumption | refine below_step ?_ (by assumption) | refine below_alloc ?_ _ | refine below_drewN ?_ _ | refine Below.drew ?_ | refine Below.setCell ?_ (by first | (simp; done) | omega | (simp; omega)) _))⟩
  by_cases h1 : (bs.length : Int) ≤ p
  · rw [seenHas_out h1]
    go_enter Try.func91, Try.ntmps91
    go_wp2
    go_ret
    exact ⟨rfl, by (repeat (first | exact Below.refl _ _ | assumption | refine below_step ?_ (by assumption) | refine below_alloc ?_ _ | refine below_drewN ?_ _ | refine Below.drew ?_ | refine Below.setCell ?_ (by first | (simp; done) | omega | (simp; omega)) _))⟩
  obtain ⟨b, hb⟩ : ∃ b, bs[p.toNat]? = some b := ⟨_, List.getElem?_eq_getElem (by omega)⟩
  obtain ⟨g, off, rfl, hc⟩ := hB _ _ hb
  rw [seenHas_at (by omega) hb]
  clear hb
  cases b
  all_goals
    go_enter Try.func91, Try.ntmps91
    go_wp2
    go_ret
    exact ⟨rfl, by (repeat (first | exact Below.refl _ _ | assumption | refine below_step ?_ (by assumption) | refine below_alloc ?_ _ | refine below_drewN ?_ _ | refine Below.drew ?_ | refine Below.setCell ?_ (by first | (simp; done) | omega | (simp; omega)) _))⟩
set_option maxHeartbeats 2000000 in
theorem impl_list (A : Option Addr) (cap : Nat) (bs : List Bool) (w : World) (hB : BAt w A bs) (hn : bs.length ≤ 65536) :
    Calls Try.prog 90 #[.slice A bs.length cap] w (RetOwn 3 1 w (idxTo bs bs.length).length (toInts (idxTo bs bs.length))) := by
  go_enter Try.func90, Try.ntmps90
  go_wp2
  go_loopw [3, 9] (fun v i wr => ∃ k : Nat, k ≤ bs.length ∧ i = .int .i64 k ∧ wr.ownsRow w.heap.size 3 1 v (idxTo bs k).length (ints (toInts (idxTo bs k))) ∧ Below w.heap.size w wr) (fun _ i _ => bs.length - (intOf i).toNat)
  case atStart => exact ⟨0, Nat.zero_le _, rfl, made0 3 rfl, by (repeat (first | exact Below.refl _ _ | assumption | refine below_step ?_ (by assumption) | refine below_alloc ?_ _ | refine below_drewN ?_ _ | refine Below.drew ?_ | refine Below.setCell ?_ (by first | (simp; done) | omega | (simp; omega)) _))⟩
  case round =>
    obtain ⟨k, hk, rfl, hown, hbel⟩ := hrel
    obtain ⟨A2, c2, rfl⟩ := own_shape hown
    have hl := idx_le bs k
    by_cases hlt : k < bs.length
    · obtain ⟨b, hb⟩ : ∃ b, bs[k]? = some b := ⟨_, List.getElem?_eq_getElem hlt⟩
      obtain ⟨g, off, rfl, hc⟩ := hB.below hbel _ _ hb
      cases b
      · have HB := Lib.hid (idx_no hb)
        clear hb
        go_wp2
        go_roundw
        case rel => exact ⟨k + 1, by omega, by go_num, by rw [HB.out]; exact hown, hbel⟩
        case measure => simp [intOf]; omega
      · have HB := Lib.hid (idx_yes hb)
        clear hb
        go_wp2_with (at_builtin; refine append_int Try.underlying56 _ _ rfl _ _ rfl _ _ _ (k : Int) (by rfl) hown (by rfl) (by omega) hbel ?_; intro v' w' hown' hbel')
        go_roundw
        case rel => exact ⟨k + 1, by omega, by go_num, by rw [HB.out, toInts_append, List.length_append]; exact hown', hbel'⟩
        case measure => simp [intOf]; omega
    · obtain rfl : k = bs.length := by omega
      go_wp2
      go_ret
      exact ⟨A2, c2, rfl, hown, hbel⟩
set_option maxHeartbeats 2000000 in
theorem spec_l14List (A : Option Addr) (cap : Nat) (bs : List Bool) (w : World) (hB : BAt w A bs) (hn : bs.length ≤ 65536) :
    Calls Try.prog 133 #[.slice A bs.length cap] w (RetOwn 3 1 w (idxTo bs bs.length).length (toInts (idxTo bs bs.length))) := by
  go_enter Try.func133, Try.ntmps133
  go_wp2
  go_loopw [3, 4] (fun v i wr => ∃ k : Nat, k ≤ bs.length ∧ i = .int .i64 k ∧ wr.ownsRow w.heap.size 3 1 v (idxTo bs k).length (ints (toInts (idxTo bs k))) ∧ Below w.heap.size w wr) (fun _ i _ => bs.length - (intOf i).toNat)
  case atStart => exact ⟨0, Nat.zero_le _, rfl, made0 3 rfl, by (repeat (first | exact Below.refl _ _ | assumption | refine below_step ?_ (by assumption) | refine below_alloc ?_ _ | refine below_drewN ?_ _ | refine Below.drew ?_ | refine Below.setCell ?_ (by first | (simp; done) | omega | (simp; omega)) _))⟩
  case round =>
    obtain ⟨k, hk, rfl, hown, hbel⟩ := hrel
    obtain ⟨A2, c2, rfl⟩ := own_shape hown
    have hl := idx_le bs k
    by_cases hlt : k < bs.length
    · obtain ⟨b, hb⟩ : ∃ b, bs[k]? = some b := ⟨_, List.getElem?_eq_getElem hlt⟩
      obtain ⟨g, off, rfl, hc⟩ := hB.below hbel _ _ hb
      cases b
      · have HB := Lib.hid (idx_no hb)
        clear hb
        go_wp2
        go_roundw
        case rel => exact ⟨k + 1, by omega, by go_num, by rw [HB.out]; exact hown, hbel⟩
        case measure => simp [intOf]; omega
      · have HB := Lib.hid (idx_yes hb)
        clear hb
        go_wp2_with (at_builtin; refine append_int Try.underlying56 _ _ rfl _ _ rfl _ _ _ (k : Int) (by rfl) hown (by rfl) (by omega) hbel ?_; intro v' w' hown' hbel')
        go_roundw
        case rel => exact ⟨k + 1, by omega, by go_num, by rw [HB.out, toInts_append, List.length_append]; exact hown', hbel'⟩
        case measure => simp [intOf]; omega
    · obtain rfl : k = bs.length := by omega
      go_wp2
      go_ret
      exact ⟨A2, c2, rfl, hown, hbel⟩
end Go.Proofs.Ytianfakgojmnpaa
