/- Lists of lines: contracts of the laws' helpers, and TurnGame. -/
import Derived.Test.YtmdpacgoijnonaaLinesOf
import Derived.Test.YtmdpacgoijnonaaSlice
namespace Go.Proofs.Ytmdpacgoijnonaa
open Go.RowKit

theorem cellb_lt {w : World} {b o : Nat} {v : Value} (h : w.cell? ⟨b, o, none⟩ = some v) : b < w.heap.size := by
  rcases Nat.lt_or_ge b w.heap.size with h1 | h1
  · exact h1
  · simp [World.cell?, Array.getElem?_eq_none h1] at h
set_option maxHeartbeats 400000 in
theorem laws_toLine (a b c : Int) (w : World) :
    Calls Try.prog 18 #[.agg #[.int .i64 a, .int .i64 b, .int .i64 c]] w fun e w' => e = .returned (.agg #[.int .i64 a, .int .i64 b, .int .i64 c]) ∧ Below w.heap.size w w' := by
  go_enter Try.func18, Try.ntmps18
  go_wp2
  exact bodyPost_ret (v := .agg #[.int .i64 a, .int .i64 b, .int .i64 c]) (by simp [results, Try.results18, go_sem]) rfl ⟨rfl, by (repeat (first | exact Below.refl _ _ | assumption | refine below_step ?_ (by assumption) | refine below_alloc ?_ _ | refine below_drewN ?_ _ | refine Below.drew ?_ | refine Below.setCell ?_ (by first | (simp; done) | omega | (simp; omega)) _))⟩
set_option maxHeartbeats 2000000 in
theorem laws_toLineS (A : Option Addr) (cap : Nat) (zs : List (Int × Int × Int)) (w : World) (h : FAt w A (lflat zs)) (hn : zs.length ≤ 4294967296) :
    Calls Try.prog 31 #[.slice A zs.length cap] w (RetOwn 42 3 w zs.length (lflat zs)) := by
  obtain ⟨i0, hi, hz0, hz1, hz2⟩ := info_parts line_info
  have hsl := lflat_len zs
  go_enter Try.func31, Try.ntmps31
  go_wp2_with (at_make; refine wpList_make_full _ rfl _ _ 52 rfl w.heap.size 42 i0 (.agg #[.int .i64 0, .int .i64 0, .int .i64 0]) 3 Try.underlying52 hi hz0 hz1 .i64 .i64 _ _ zs.length rfl rfl rfl rfl (by rw [hz2]; omega) (by simp only [maxLen]; omega) (Nat.le_refl _) ?_; intro w0 hown hgrow)
  go_loopw [4] (fun i wr => ∃ k : Nat, k ≤ zs.length ∧ i = .int .i64 k ∧ ∃ cs, wr.ownsRow w.heap.size 42 3 (.slice (some ⟨w.heap.size, 0, none⟩) zs.length zs.length) zs.length cs ∧ (∀ j, j < k * 3 → cs[j]? = (ints (lflat zs))[j]?) ∧ Below w.heap.size w wr) (fun i _ => zs.length - (intOf i).toNat)
  case atStart => exact ⟨0, Nat.zero_le _, rfl, _, hown, fun j hj => absurd hj (by omega), (Below.refl _ _).grown hgrow (Nat.le_refl _) (fun _ h => by cases h)⟩
  case round =>
    obtain ⟨k, hk, rfl, cs, hrow, hpre, hbel⟩ := hrel
    clear hown hgrow
    have hlen := hrow.1
    by_cases hlt : k < zs.length
    · obtain ⟨⟨x, y, z⟩, hz⟩ : ∃ z, zs[k]? = some z := ⟨_, List.getElem?_eq_getElem hlt⟩
      obtain ⟨g1, g2, g3⟩ := lflat_get hz
      obtain ⟨b, off, rfl, hc⟩ := (h.below hbel) _ _ g1
      obtain ⟨_, _, e2, hc2⟩ := (h.below hbel) _ _ g2
      injection e2 with e2; injection e2 with e3 e4; subst e3 e4
      obtain ⟨_, _, e2, hc3⟩ := (h.below hbel) _ _ g3
      injection e2 with e2; injection e2 with e3 e4; subst e3 e4
      rw [← Nat.add_assoc] at hc2 hc3
      have HG1 := Lib.hid g1
      have HG2 := Lib.hid g2
      have HG3 := Lib.hid g3
      clear g1 g2 g3 hz
      have HP := Lib.hid hpre
      have HL := Lib.hid hlen
      have HS := Lib.hid hsl
      clear hpre hlen hsl
      go_wp2_with fail
      refine (laws_toLine _ _ _ _).mono ?_
      rintro e w1 ⟨rfl, hb1⟩
      replace hbel := below_step hbel hb1
      replace hrow := own_below hrow hb1
      obtain ⟨u, hu⟩ : ∃ u, cs[k * 3]? = some u := ⟨_, List.getElem?_eq_getElem (by have := HL.out; omega)⟩
      obtain ⟨u2, hu2⟩ : ∃ u, cs[k * 3 + 1]? = some u := ⟨_, List.getElem?_eq_getElem (by have := HL.out; omega)⟩
      obtain ⟨u3, hu3⟩ : ∃ u, cs[k * 3 + 2]? = some u := ⟨_, List.getElem?_eq_getElem (by have := HL.out; omega)⟩
      have hd : w1.cell? ⟨w.heap.size, k * 3, none⟩ = some u := (hrow.cellAt (k * 3) (by omega)).trans hu
      have hd2 : w1.cell? ⟨w.heap.size, k * 3 + 1, none⟩ = some u2 := (hrow.cellAt (k * 3 + 1) (by omega)).trans hu2
      have hd3 : w1.cell? ⟨w.heap.size, k * 3 + 2, none⟩ = some u3 := (hrow.cellAt (k * 3 + 2) (by omega)).trans hu3
      have hf : w1.frozen? ⟨w.heap.size, k * 3, none⟩ = false := hrow.frozenAt (k * 3)
      have hf2 : w1.frozen? ⟨w.heap.size, k * 3 + 1, none⟩ = false := hrow.frozenAt (k * 3 + 1)
      have hf3 : w1.frozen? ⟨w.heap.size, k * 3 + 2, none⟩ = false := hrow.frozenAt (k * 3 + 2)
      clear hu hu2 hu3
      go_wp2
      go_roundw
      case rel =>
        refine ⟨k + 1, by omega, by go_num, _, (((hrow.stored (k * 3) _).1.stored (k * 3 + 1) _).1.stored (k * 3 + 2) _).1, ?_, (((hbel.setCell (Nat.le_refl _) _).setCell (Nat.le_refl _) _).setCell (Nat.le_refl _) _)⟩
        rw [show (k + 1) * 3 = k * 3 + 1 + 1 + 1 from by omega]
        exact take_set (take_set (take_set HP.out HG1.out (by rw [HL.out]; omega)) HG2.out (by rw [List.length_set, HL.out]; omega)) HG3.out (by rw [List.length_set, List.length_set, HL.out]; omega)
      case measure => simp [intOf]; omega
    · obtain rfl : k = zs.length := by omega
      obtain rfl := all_set (zs := lflat zs) (by rw [hsl]; exact hpre) (by omega)
      clear hpre hlen
      go_wp2
      go_ret
      exact ⟨_, _, rfl, hrow, hbel⟩
set_option maxHeartbeats 400000 in
theorem laws_eqLine (a b c : Int) (w : World) :
    Calls Try.prog 60 #[.agg #[.int .i64 a, .int .i64 b, .int .i64 c], .agg #[.int .i64 a, .int .i64 b, .int .i64 c]] w fun e w' => e = .returned (.bool true) ∧ Below w.heap.size w w' := by
  go_enter Try.func60, Try.ntmps60
  go_wp2
  go_ret
  exact ⟨rfl, by (repeat (first | exact Below.refl _ _ | assumption | refine below_step ?_ (by assumption) | refine below_alloc ?_ _ | refine below_drewN ?_ _ | refine Below.drew ?_ | refine Below.setCell ?_ (by first | (simp; done) | omega | (simp; omega)) _))⟩
set_option maxHeartbeats 400000 in
theorem laws_szLineS (A : Option Addr) (cap n : Nat) (left : Int) (w : World) (hn : n ≤ 9223372036854775807) (l0 : 0 ≤ left) (l1 : left ≤ 1048576) :
    Calls Try.prog 29 #[.slice A n cap, .int .i64 left] w fun e w' => e = .returned (.int .i64 (if left < n then -1 else left - n)) ∧ Below w.heap.size w w' := by
  by_cases h : left < n
  · rw [if_pos h]
    go_enter Try.func29, Try.ntmps29
    go_wp2
    go_ret
    exact ⟨rfl, by (repeat (first | exact Below.refl _ _ | assumption | refine below_step ?_ (by assumption) | refine below_alloc ?_ _ | refine below_drewN ?_ _ | refine Below.drew ?_ | refine Below.setCell ?_ (by first | (simp; done) | omega | (simp; omega)) _))⟩
  · rw [if_neg h]
    go_enter Try.func29, Try.ntmps29
    go_wp2
    go_ret
    exact ⟨rfl, by (repeat (first | exact Below.refl _ _ | assumption | refine below_step ?_ (by assumption) | refine below_alloc ?_ _ | refine below_drewN ?_ _ | refine Below.drew ?_ | refine Below.setCell ?_ (by first | (simp; done) | omega | (simp; omega)) _))⟩
theorem szL_big (A : Option Addr) (cap n : Nat) (w : World) (hn : n ≤ 9223372036854775807) (h : 1048576 < n) :
    Calls Try.prog 29 #[.slice A n cap, .int .i64 1048576] w fun e w' => e = .returned (.int .i64 (-1)) ∧ Below w.heap.size w w' := by
  have q := laws_szLineS A cap n 1048576 w hn (by omega) (by omega)
  rw [if_pos (by omega)] at q
  exact q
theorem szL_small (A : Option Addr) (cap n : Nat) (w : World) (hn : n ≤ 9223372036854775807) (h : ¬ 1048576 < n) :
    Calls Try.prog 29 #[.slice A n cap, .int .i64 1048576] w fun e w' => e = .returned (.int .i64 (1048576 - n)) ∧ Below w.heap.size w w' := by
  have q := laws_szLineS A cap n 1048576 w hn (by omega) (by omega)
  rw [if_neg (by omega)] at q
  exact q
set_option maxHeartbeats 2000000 in
theorem laws_eqLineS (A B : Option Addr) (cap cap2 : Nat) (zs : List (Int × Int × Int)) (w : World) (hA : FAt w A (lflat zs)) (hB : FAt w B (lflat zs)) (hn : zs.length ≤ 4294967296) :
    Calls Try.prog 33 #[.slice A zs.length cap, .slice B zs.length cap2] w fun e w' => e = .returned (.bool true) ∧ Below w.heap.size w w' := by
  go_enter Try.func33, Try.ntmps33
  go_wp2
  go_loopw [5] (fun i wr => ∃ k : Nat, k ≤ zs.length ∧ i = .int .i64 k ∧ Below w.heap.size w wr) (fun i _ => zs.length - (intOf i).toNat)
  case atStart => exact ⟨0, Nat.zero_le _, rfl, Below.refl _ _⟩
  case round =>
    obtain ⟨k, hk, rfl, hbel⟩ := hrel
    by_cases hlt : k < zs.length
    · obtain ⟨⟨x, y, z⟩, hz⟩ : ∃ z, zs[k]? = some z := ⟨_, List.getElem?_eq_getElem hlt⟩
      obtain ⟨g1, g2, g3⟩ := lflat_get hz
      obtain ⟨b, off, rfl, hc⟩ := (hA.below hbel) _ _ g1
      obtain ⟨_, _, e2, hc2⟩ := (hA.below hbel) _ _ g2
      injection e2 with e2; injection e2 with e3 e4; subst e3 e4
      obtain ⟨_, _, e2, hc3⟩ := (hA.below hbel) _ _ g3
      injection e2 with e2; injection e2 with e3 e4; subst e3 e4
      obtain ⟨b2, off2, rfl, hd⟩ := (hB.below hbel) _ _ g1
      obtain ⟨_, _, e2, hd2⟩ := (hB.below hbel) _ _ g2
      injection e2 with e2; injection e2 with e3 e4; subst e3 e4
      obtain ⟨_, _, e2, hd3⟩ := (hB.below hbel) _ _ g3
      injection e2 with e2; injection e2 with e3 e4; subst e3 e4
      rw [← Nat.add_assoc] at hc2 hc3 hd2 hd3
      have hk1 : (0 : Int) ≤ (k : Int) := by omega
      have hk2 : (k : Int) < (zs.length : Int) := by omega
      have K : Hid (∀ w', Below wr.heap.size wr w' → Below wr.heap.size wr w' ∧ w'.cell? ⟨b, off + k * 3, none⟩ = some (.int .i64 x) ∧ w'.cell? ⟨b, off + k * 3 + 1, none⟩ = some (.int .i64 y) ∧ w'.cell? ⟨b, off + k * 3 + 2, none⟩ = some (.int .i64 z) ∧ w'.cell? ⟨b2, off2 + k * 3, none⟩ = some (.int .i64 x) ∧ w'.cell? ⟨b2, off2 + k * 3 + 1, none⟩ = some (.int .i64 y) ∧ w'.cell? ⟨b2, off2 + k * 3 + 2, none⟩ = some (.int .i64 z)) :=
        fun w' hB => ⟨hB, bel_cell hB (World.block_lt_of_cell? wr _ hc) hc, bel_cell hB (World.block_lt_of_cell? wr _ hc2) hc2, bel_cell hB (World.block_lt_of_cell? wr _ hc3) hc3, bel_cell hB (World.block_lt_of_cell? wr _ hd) hd, bel_cell hB (World.block_lt_of_cell? wr _ hd2) hd2, bel_cell hB (World.block_lt_of_cell? wr _ hd3) hd3⟩
      clear hz g1 g2 g3
      go_wp2_with fail
      go_region_held3 (fun w' => Below wr.heap.size wr w' ∧ w'.cell? ⟨b, off + k * 3, none⟩ = some (.int .i64 x) ∧ w'.cell? ⟨b, off + k * 3 + 1, none⟩ = some (.int .i64 y) ∧ w'.cell? ⟨b, off + k * 3 + 2, none⟩ = some (.int .i64 z) ∧ w'.cell? ⟨b2, off2 + k * 3, none⟩ = some (.int .i64 x) ∧ w'.cell? ⟨b2, off2 + k * 3 + 1, none⟩ = some (.int .i64 y) ∧ w'.cell? ⟨b2, off2 + k * 3 + 2, none⟩ = some (.int .i64 z))
        ((refine K.out _ ?_; (repeat (first | exact Below.refl _ _ | assumption | refine below_step ?_ (by assumption) | refine below_alloc ?_ _ | refine below_drewN ?_ _ | refine Below.drew ?_ | refine Below.setCell ?_ (by first | (simp; done) | omega | (simp; omega)) _))))
        (first | (go_at_call 60; refine (laws_eqLine _ _ _ _).mono ?_; rintro e w1 ⟨rfl, hb1⟩))
      go_wp2
      go_roundw
      case rel => exact ⟨k + 1, by omega, by go_num, by (repeat (first | exact Below.refl _ _ | assumption | refine below_step ?_ (by assumption) | refine below_alloc ?_ _ | refine below_drewN ?_ _ | refine Below.drew ?_ | refine Below.setCell ?_ (by first | (simp; done) | omega | (simp; omega)) _))⟩
      case measure => simp [intOf]; omega
    · obtain rfl : k = zs.length := by omega
      go_wp2
      go_ret
      exact ⟨rfl, hbel⟩
set_option maxHeartbeats 4000000 in
theorem impl_TurnGame (A : Option Addr) (cap : Nat) (zs : List (Int × Int × Int)) (w : World) (hA : FAt w A (lflat zs)) (hn : zs.length ≤ 4294967296) :
    Calls Try.prog 59 #[.slice A zs.length cap] w (RetOwn 42 3 w zs.length (lflat zs.reverse)) := by
  go_enter Try.func59, Try.ntmps59
  have hown := made0s (V := w) (s := 3) 42 rfl
  have hbel : Below w.heap.size w (w.alloc (.cells #[] 42)) := by (repeat (first | exact Below.refl _ _ | assumption | refine below_step ?_ (by assumption) | refine below_alloc ?_ _ | refine below_drewN ?_ _ | refine Below.drew ?_ | refine Below.setCell ?_ (by first | (simp; done) | omega | (simp; omega)) _))
  go_wp2
  go_loopw [3, 4] (fun v i wr => ∃ k : Nat, k ≤ zs.length ∧ i = .int .i64 (zs.length - 1 - k) ∧ wr.ownsRow w.heap.size 42 3 v k (ints (lflat (zs.reverse.take k))) ∧ Below w.heap.size w wr) (fun _ i _ => (intOf i + 1).toNat)
  case atStart => exact ⟨0, Nat.zero_le _, by first | go_num | simp, (by simpa [lflat, ints] using hown), hbel⟩
  case round =>
    clear hown hbel
    obtain ⟨k, hk, rfl, hown, hbel⟩ := hrel
    by_cases hlt : k < zs.length
    · obtain ⟨⟨x, y, z⟩, hz⟩ : ∃ z, zs[zs.length - 1 - k]? = some z := ⟨_, List.getElem?_eq_getElem (by omega)⟩
      have hrev : zs.reverse.take (k + 1) = zs.reverse.take k ++ [(x, y, z)] := by
        rw [List.take_add_one, List.getElem?_reverse (by omega), hz]; rfl
      have HR := Lib.hid hrev
      obtain ⟨g1, g2, g3⟩ := lflat_get hz
      have hA' := hA.below hbel
      obtain ⟨b, off, rfl, hc⟩ := hA' _ _ g1
      obtain ⟨_, _, e2, hc2⟩ := hA' _ _ g2
      injection e2 with e2; injection e2 with e3 e4; subst e3 e4
      obtain ⟨_, _, e2, hc3⟩ := hA' _ _ g3
      injection e2 with e2; injection e2 with e3 e4; subst e3 e4
      rw [← Nat.add_assoc] at hc2 hc3
      have hkk : ((zs.length : Int) - 1 - k).toNat = zs.length - 1 - k := by omega
      have hk0 : (0 : Int) ≤ (zs.length : Int) - 1 - k := by omega
      have hk1 : (zs.length : Int) - 1 - k < zs.length := by omega
      have hbl := cellb_lt hc
      clear hz g1 g2 g3 hrev hA' 
      clear hkk
      go_wp2_with (at_builtin; refine append_line Try.underlying52 w _ rfl _ _ rfl _ _ _ x y z (by rfl) hown (by rfl) (by omega) hbel ?_; intro v' w' hown' hbel' hgrow')
      go_roundw
      case rel => exact ⟨k + 1, by omega, by go_num, by rw [HR.out]; exact hown', hbel'⟩
      case measure => simp [intOf]; omega
    · obtain rfl : k = zs.length := by omega
      go_wp2
      go_ret
      rw [List.take_of_length_le (by simp)] at hown
      obtain ⟨D, c2, rfl⟩ := own_shape hown
      exact ⟨D, c2, rfl, hown, by (repeat (first | exact Below.refl _ _ | assumption | refine below_step ?_ (by assumption) | refine below_alloc ?_ _ | refine below_drewN ?_ _ | refine Below.drew ?_ | refine Below.setCell ?_ (by first | (simp; done) | omega | (simp; omega)) _))⟩
set_option maxHeartbeats 4000000 in
theorem spec_TurnGame (A : Option Addr) (cap : Nat) (zs : List (Int × Int × Int)) (w : World) (hA : FAt w A (lflat zs)) (hn : zs.length ≤ 4294967296) :
    Calls Try.prog 55 #[.slice A zs.length cap] w (RetOwn 42 3 w zs.length (lflat zs.reverse)) := by
  go_enter Try.func55, Try.ntmps55
  have hown := made0s (V := w) (s := 3) 42 rfl
  have hbel : Below w.heap.size w (w.alloc (.cells #[] 42)) := by (repeat (first | exact Below.refl _ _ | assumption | refine below_step ?_ (by assumption) | refine below_alloc ?_ _ | refine below_drewN ?_ _ | refine Below.drew ?_ | refine Below.setCell ?_ (by first | (simp; done) | omega | (simp; omega)) _))
  go_wp2
  go_loopw [3, 4] (fun v i wr => ∃ k : Nat, k ≤ zs.length ∧ i = .int .i64 (zs.length - 1 - k) ∧ wr.ownsRow w.heap.size 42 3 v k (ints (lflat (zs.reverse.take k))) ∧ Below w.heap.size w wr) (fun _ i _ => (intOf i + 1).toNat)
  case atStart => exact ⟨0, Nat.zero_le _, by first | go_num | simp, (by simpa [lflat, ints] using hown), hbel⟩
  case round =>
    clear hown hbel
    obtain ⟨k, hk, rfl, hown, hbel⟩ := hrel
    by_cases hlt : k < zs.length
    · obtain ⟨⟨x, y, z⟩, hz⟩ : ∃ z, zs[zs.length - 1 - k]? = some z := ⟨_, List.getElem?_eq_getElem (by omega)⟩
      have hrev : zs.reverse.take (k + 1) = zs.reverse.take k ++ [(x, y, z)] := by
        rw [List.take_add_one, List.getElem?_reverse (by omega), hz]; rfl
      have HR := Lib.hid hrev
      obtain ⟨g1, g2, g3⟩ := lflat_get hz
      have hA' := hA.below hbel
      obtain ⟨b, off, rfl, hc⟩ := hA' _ _ g1
      obtain ⟨_, _, e2, hc2⟩ := hA' _ _ g2
      injection e2 with e2; injection e2 with e3 e4; subst e3 e4
      obtain ⟨_, _, e2, hc3⟩ := hA' _ _ g3
      injection e2 with e2; injection e2 with e3 e4; subst e3 e4
      rw [← Nat.add_assoc] at hc2 hc3
      have hkk : ((zs.length : Int) - 1 - k).toNat = zs.length - 1 - k := by omega
      have hk0 : (0 : Int) ≤ (zs.length : Int) - 1 - k := by omega
      have hk1 : (zs.length : Int) - 1 - k < zs.length := by omega
      have hbl := cellb_lt hc
      clear hz g1 g2 g3 hrev hA' 
      clear hkk
      go_wp2_with (at_builtin; refine append_line Try.underlying52 w _ rfl _ _ rfl _ _ _ x y z (by rfl) hown (by rfl) (by omega) hbel ?_; intro v' w' hown' hbel' hgrow')
      go_roundw
      case rel => exact ⟨k + 1, by omega, by go_num, by rw [HR.out]; exact hown', hbel'⟩
      case measure => simp [intOf]; omega
    · obtain rfl : k = zs.length := by omega
      go_wp2
      go_ret
      rw [List.take_of_length_le (by simp)] at hown
      obtain ⟨D, c2, rfl⟩ := own_shape hown
      exact ⟨D, c2, rfl, hown, by (repeat (first | exact Below.refl _ _ | assumption | refine below_step ?_ (by assumption) | refine below_alloc ?_ _ | refine below_drewN ?_ _ | refine Below.drew ?_ | refine Below.setCell ?_ (by first | (simp; done) | omega | (simp; omega)) _))⟩
end Go.Proofs.Ytmdpacgoijnonaa
