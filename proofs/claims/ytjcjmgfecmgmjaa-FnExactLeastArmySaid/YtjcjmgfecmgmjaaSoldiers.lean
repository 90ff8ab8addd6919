/- Lists of soldiers: contracts of the laws' helpers. -/
import Derived.Test.YtjcjmgfecmgmjaaArmy
import Derived.Test.YtjcjmgfecmgmjaaSlice
namespace Go.Proofs.Ytjcjmgfecmgmjaa
open Go.RowKit

def sflat (l : List (Int × Int)) : List Int := l.flatMap fun x => [x.1, x.2]
theorem sflat_append (a b : List (Int × Int)) : sflat (a ++ b) = sflat a ++ sflat b := by simp [sflat]
theorem sflat_len (a : List (Int × Int)) : (sflat a).length = a.length * 2 := by
  induction a with
  | nil => rfl
  | cons x a ih => simp only [sflat, List.flatMap_cons, List.length_append, List.length_cons, List.length_nil] at ih ⊢; omega
theorem sflat_get : ∀ {a : List (Int × Int)} {k : Nat} {x y : Int}, a[k]? = some (x, y) → (sflat a)[k * 2]? = some x ∧ (sflat a)[k * 2 + 1]? = some y := by
  intro a
  induction a with
  | nil => intro k x y h; simp at h
  | cons z a ih =>
    intro k x y h
    cases k with
    | zero =>
      simp at h; subst h
      simp [sflat]
    | succ k =>
      simp at h
      have := ih h
      rw [show (k + 1) * 2 = k * 2 + 2 from by omega]
      have e : ∀ j, (sflat (z :: a))[j + 2]? = (sflat a)[j]? := fun j => by simp [sflat]
      exact ⟨by rw [e]; exact this.1, by rw [show k * 2 + 2 + 1 = k * 2 + 1 + 2 from by omega, e]; exact this.2⟩
theorem soldier_info : (Try.prog.info? 37).map (fun i => (i.zero, i.size, i.bytes)) = some (some (.agg #[.int .i64 0, .int .i64 0]), 2, 16) := by kernel_rfl

set_option maxHeartbeats 2000000 in
theorem laws_toSoldierS (A : Option Addr) (cap : Nat) (zs : List (Int × Int)) (w : World) (h : FAt w A (sflat zs)) (hn : zs.length ≤ 4294967296) :
    Calls Try.prog 39 #[.slice A zs.length cap] w (RetOwn 37 2 w zs.length (sflat zs)) := by
  obtain ⟨i0, hi, hz0, hz1, hz2⟩ := info_parts soldier_info
  have hsl := sflat_len zs
  go_enter Try.func39, Try.ntmps39
  go_wp2_with (at_make; refine wpList_make_full _ rfl _ _ 24 rfl w.heap.size 37 i0 (.agg #[.int .i64 0, .int .i64 0]) 2 Try.underlying24 hi hz0 hz1 .i64 .i64 _ _ zs.length rfl rfl rfl rfl (by rw [hz2]; omega) (by simp only [maxLen]; omega) (Nat.le_refl _) ?_; intro w0 hown hgrow)
  go_loopw [4] (fun i wr => ∃ k : Nat, k ≤ zs.length ∧ i = .int .i64 k ∧ ∃ cs, wr.ownsRow w.heap.size 37 2 (.slice (some ⟨w.heap.size, 0, none⟩) zs.length zs.length) zs.length cs ∧ (∀ j, j < k * 2 → cs[j]? = (ints (sflat zs))[j]?) ∧ Below w.heap.size w wr) (fun i _ => zs.length - (intOf i).toNat)
  case atStart => exact ⟨0, Nat.zero_le _, rfl, _, hown, fun j hj => absurd hj (by omega), (Below.refl _ _).grown hgrow (Nat.le_refl _) (fun _ h => by cases h)⟩
  case round =>
    obtain ⟨k, hk, rfl, cs, hrow, hpre, hbel⟩ := hrel
    clear hown hgrow
    have hlen := hrow.1
    by_cases hlt : k < zs.length
    · obtain ⟨⟨x, y⟩, hz⟩ : ∃ z, zs[k]? = some z := ⟨_, List.getElem?_eq_getElem hlt⟩
      obtain ⟨g1, g2⟩ := sflat_get hz
      obtain ⟨b, off, rfl, hc⟩ := (h.below hbel) _ _ g1
      obtain ⟨_, _, e2, hc2⟩ := (h.below hbel) _ _ g2
      injection e2 with e2; injection e2 with e3 e4; subst e3 e4
      rw [← Nat.add_assoc] at hc2
      have HG1 := Lib.hid g1
      have HG2 := Lib.hid g2
      clear g1 g2 hz
      have HP := Lib.hid hpre
      have HL := Lib.hid hlen
      have HS := Lib.hid hsl
      clear hpre hlen hsl
      go_wp2_with fail
      refine (laws_toSoldier _ _ _).mono ?_
      rintro e w1 ⟨rfl, hb1⟩
      replace hbel := below_step hbel hb1
      replace hrow := own_below hrow hb1
      obtain ⟨u, hu⟩ : ∃ u, cs[k * 2]? = some u := ⟨_, List.getElem?_eq_getElem (by have := HL.out; omega)⟩
      obtain ⟨u2, hu2⟩ : ∃ u, cs[k * 2 + 1]? = some u := ⟨_, List.getElem?_eq_getElem (by have := HL.out; omega)⟩
      have hd : w1.cell? ⟨w.heap.size, k * 2, none⟩ = some u := (hrow.cellAt (k * 2) (by omega)).trans hu
      have hd2 : w1.cell? ⟨w.heap.size, k * 2 + 1, none⟩ = some u2 := (hrow.cellAt (k * 2 + 1) (by omega)).trans hu2
      have hf : w1.frozen? ⟨w.heap.size, k * 2, none⟩ = false := hrow.frozenAt (k * 2)
      have hf2 : w1.frozen? ⟨w.heap.size, k * 2 + 1, none⟩ = false := hrow.frozenAt (k * 2 + 1)
      clear hu hu2
      go_wp2
      go_roundw
      case rel =>
        refine ⟨k + 1, by omega, by go_num, _, ((hrow.stored (k * 2) _).1.stored (k * 2 + 1) _).1, ?_, ((hbel.setCell (Nat.le_refl _) _).setCell (Nat.le_refl _) _)⟩
        rw [show (k + 1) * 2 = k * 2 + 1 + 1 from by omega]
        exact take_set (take_set HP.out HG1.out (by rw [HL.out]; omega)) HG2.out (by rw [List.length_set, HL.out]; omega)
      case measure => simp [intOf]; omega
    · obtain rfl : k = zs.length := by omega
      obtain rfl := all_set (zs := sflat zs) (by rw [hsl]; exact hpre) (by omega)
      clear hpre hlen
      go_wp2
      go_ret
      exact ⟨_, _, rfl, hrow, hbel⟩
set_option maxHeartbeats 400000 in
theorem laws_eqSoldier (a b : Int) (w : World) :
    Calls Try.prog 67 #[.agg #[.int .i64 a, .int .i64 b], .agg #[.int .i64 a, .int .i64 b]] w fun e w' => e = .returned (.bool true) ∧ Below w.heap.size w w' := by
  go_enter Try.func67, Try.ntmps67
  go_wp2
  go_ret
  exact ⟨rfl, by (repeat (first | exact Below.refl _ _ | assumption | refine below_step ?_ (by assumption) | refine below_alloc ?_ _ | refine below_drewN ?_ _ | refine Below.drew ?_ | refine Below.setCell ?_ (by first | (simp; done) | omega | (simp; omega)) _))⟩
set_option maxHeartbeats 400000 in
theorem laws_szSoldierS (A : Option Addr) (cap n : Nat) (left : Int) (w : World) (hn : n ≤ 9223372036854775807) (l0 : 0 ≤ left) (l1 : left ≤ 1048576) :
    Calls Try.prog 37 #[.slice A n cap, .int .i64 left] w fun e w' => e = .returned (.int .i64 (if left < n then -1 else left - n)) ∧ Below w.heap.size w w' := by
  by_cases h : left < n
  · rw [if_pos h]
    go_enter Try.func37, Try.ntmps37
    go_wp2
    go_ret
    exact ⟨rfl, by (repeat (first | exact Below.refl _ _ | assumption | refine below_step ?_ (by assumption) | refine below_alloc ?_ _ | refine below_drewN ?_ _ | refine Below.drew ?_ | refine Below.setCell ?_ (by first | (simp; done) | omega | (simp; omega)) _))⟩
  · rw [if_neg h]
    go_enter Try.func37, Try.ntmps37
    go_wp2
    go_ret
    exact ⟨rfl, by (repeat (first | exact Below.refl _ _ | assumption | refine below_step ?_ (by assumption) | refine below_alloc ?_ _ | refine below_drewN ?_ _ | refine Below.drew ?_ | refine Below.setCell ?_ (by first | (simp; done) | omega | (simp; omega)) _))⟩
set_option maxHeartbeats 2000000 in
theorem laws_eqSoldierS (A B : Option Addr) (cap cap2 : Nat) (zs : List (Int × Int)) (w : World) (hA : FAt w A (sflat zs)) (hB : FAt w B (sflat zs)) (hn : zs.length ≤ 4294967296) :
    Calls Try.prog 40 #[.slice A zs.length cap, .slice B zs.length cap2] w fun e w' => e = .returned (.bool true) ∧ Below w.heap.size w w' := by
  go_enter Try.func40, Try.ntmps40
  go_wp2
  go_loopw [5] (fun i wr => ∃ k : Nat, k ≤ zs.length ∧ i = .int .i64 k ∧ Below w.heap.size w wr) (fun i _ => zs.length - (intOf i).toNat)
  case atStart => exact ⟨0, Nat.zero_le _, rfl, Below.refl _ _⟩
  case round =>
    obtain ⟨k, hk, rfl, hbel⟩ := hrel
    by_cases hlt : k < zs.length
    · obtain ⟨⟨x, y⟩, hz⟩ : ∃ z, zs[k]? = some z := ⟨_, List.getElem?_eq_getElem hlt⟩
      obtain ⟨g1, g2⟩ := sflat_get hz
      obtain ⟨b, off, rfl, hc⟩ := (hA.below hbel) _ _ g1
      obtain ⟨_, _, e2, hc2⟩ := (hA.below hbel) _ _ g2
      injection e2 with e2; injection e2 with e3 e4; subst e3 e4
      obtain ⟨b2, off2, rfl, hd⟩ := (hB.below hbel) _ _ g1
      obtain ⟨_, _, e2, hd2⟩ := (hB.below hbel) _ _ g2
      injection e2 with e2; injection e2 with e3 e4; subst e3 e4
      rw [← Nat.add_assoc] at hc2 hd2
      have hk1 : (0 : Int) ≤ (k : Int) := by omega
      have hk2 : (k : Int) < (zs.length : Int) := by omega
      have K : Hid (∀ w', Below wr.heap.size wr w' → Below wr.heap.size wr w' ∧ w'.cell? ⟨b, off + k * 2, none⟩ = some (.int .i64 x) ∧ w'.cell? ⟨b, off + k * 2 + 1, none⟩ = some (.int .i64 y) ∧ w'.cell? ⟨b2, off2 + k * 2, none⟩ = some (.int .i64 x) ∧ w'.cell? ⟨b2, off2 + k * 2 + 1, none⟩ = some (.int .i64 y)) :=
        fun w' hB => ⟨hB, bel_cell hB (World.block_lt_of_cell? wr _ hc) hc, bel_cell hB (World.block_lt_of_cell? wr _ hc2) hc2, bel_cell hB (World.block_lt_of_cell? wr _ hd) hd, bel_cell hB (World.block_lt_of_cell? wr _ hd2) hd2⟩
      clear hz g1 g2
      go_wp2_with fail
      go_region_held3 (fun w' => Below wr.heap.size wr w' ∧ w'.cell? ⟨b, off + k * 2, none⟩ = some (.int .i64 x) ∧ w'.cell? ⟨b, off + k * 2 + 1, none⟩ = some (.int .i64 y) ∧ w'.cell? ⟨b2, off2 + k * 2, none⟩ = some (.int .i64 x) ∧ w'.cell? ⟨b2, off2 + k * 2 + 1, none⟩ = some (.int .i64 y))
        ((refine K.out _ ?_; (repeat (first | exact Below.refl _ _ | assumption | refine below_step ?_ (by assumption) | refine below_alloc ?_ _ | refine below_drewN ?_ _ | refine Below.drew ?_ | refine Below.setCell ?_ (by first | (simp; done) | omega | (simp; omega)) _))))
        (first | (go_at_call 67; refine (laws_eqSoldier _ _ _).mono ?_; rintro e w1 ⟨rfl, hb1⟩))
      go_wp2
      go_roundw
      case rel => exact ⟨k + 1, by omega, by go_num, by (repeat (first | exact Below.refl _ _ | assumption | refine below_step ?_ (by assumption) | refine below_alloc ?_ _ | refine below_drewN ?_ _ | refine Below.drew ?_ | refine Below.setCell ?_ (by first | (simp; done) | omega | (simp; omega)) _))⟩
      case measure => simp [intOf]; omega
    · obtain rfl : k = zs.length := by omega
      go_wp2
      go_ret
      exact ⟨rfl, hbel⟩
end Go.Proofs.Ytjcjmgfecmgmjaa
