/- Sound armies: contracts. -/
import Derived.Test.YtianfakgojmnpaaSoldiers
namespace Go.Proofs.Ytianfakgojmnpaa
open Go.RowKit

def armyStep (zs : List (Int × Int)) (k : Nat) : Bool := match zs[k]? with | some z => soldierOk z.1 z.2 && !((zs.take k).contains z) | none => true
def armyTo (zs : List (Int × Int)) (k : Nat) : Bool := (List.range k).all (armyStep zs)
def armyOk (zs : List (Int × Int)) : Bool := decide (zs.length ≤ 60) && armyTo zs zs.length
theorem armyTo_succ {zs : List (Int × Int)} {k : Nat} (h : armyTo zs k = true) (h2 : armyStep zs k = true) : armyTo zs (k + 1) = true := by
  simp only [armyTo, List.range_succ, List.all_append, List.all_cons, List.all_nil, Bool.and_true, Bool.and_eq_true] at h ⊢
  exact ⟨h, h2⟩
theorem army_no {zs : List (Int × Int)} {k : Nat} (hk : k < zs.length) (h : armyStep zs k = false) : armyOk zs = false := by
  have : armyTo zs zs.length = false := by
    cases ht : armyTo zs zs.length
    · rfl
    · simp only [armyTo, List.all_eq_true, List.mem_range] at ht
      have := ht k hk
      rw [h] at this; exact this.symm
  simp [armyOk, this]
theorem step_no1 {zs : List (Int × Int)} {k : Nat} {x y : Int} (hz : zs[k]? = some (x, y)) (h : soldierOk x y = false) : armyStep zs k = false := by simp [armyStep, hz, h]
theorem step_no2 {zs : List (Int × Int)} {k i : Nat} {z : Int × Int} (hz : zs[k]? = some z) (hi : i < k) (he : zs[i]? = some z) : armyStep zs k = false := by
  have : (zs.take k).contains z = true := by
    rw [List.contains_iff_mem]
    exact List.mem_of_getElem? (i := i) (by rw [List.getElem?_take, if_pos hi]; exact he)
  simp only [armyStep, hz, this]; simp
theorem step_yes {zs : List (Int × Int)} {k : Nat} {x y : Int} (hz : zs[k]? = some (x, y)) (h : soldierOk x y = true) (hc : ∀ j, j < k → zs[j]? ≠ some (x, y)) : armyStep zs k = true := by
  have : (zs.take k).contains (x, y) = false := by
    cases hb : (zs.take k).contains (x, y)
    · rfl
    · rw [List.contains_iff_mem] at hb
      obtain ⟨j, hj⟩ := List.getElem?_of_mem hb
      rw [List.getElem?_take] at hj
      split at hj
      · exact absurd hj (hc j (by assumption))
      · cases hj
  simp only [armyStep, hz, this, h]; rfl

set_option maxHeartbeats 4000000 in
theorem impl_ArmyOk (A : Option Addr) (cap : Nat) (zs : List (Int × Int)) (w : World) (hA : FAt w A (sflat zs)) (hn : zs.length ≤ 4294967296) (hcap : zs.length ≤ cap) :
    Calls Try.prog 19 #[.slice A zs.length cap] w fun e w' => e = .returned (.bool (armyOk zs)) ∧ Below w.heap.size w w' := by
  by_cases hbig : 60 < zs.length
  · go_enter Try.func19, Try.ntmps19
    go_wp2
    go_ret
    exact ⟨ret_bool (by simp [armyOk]; omega), by (repeat (first | exact Below.refl _ _ | assumption | refine below_step ?_ (by assumption) | refine below_alloc ?_ _ | refine below_drewN ?_ _ | refine Below.drew ?_ | refine Below.setCell ?_ (by first | (simp; done) | omega | (simp; omega)) _))⟩
  go_enter Try.func19, Try.ntmps19
  go_wp2
  go_loopw [12] (fun i wr => ∃ k : Nat, k ≤ zs.length ∧ i = .int .i64 k ∧ armyTo zs k = true ∧ Below w.heap.size w wr) (fun i _ => zs.length - (intOf i).toNat)
  case atStart => exact ⟨0, Nat.zero_le _, rfl, rfl, Below.refl _ _⟩
  case round =>
    obtain ⟨k, hk, rfl, hto, hbel⟩ := hrel
    have HTO := Lib.hid hto
    clear hto
    by_cases hlt : k < zs.length
    · obtain ⟨⟨x, y⟩, hz⟩ : ∃ z, zs[k]? = some z := ⟨_, List.getElem?_eq_getElem hlt⟩
      obtain ⟨g1, g2⟩ := sflat_get hz
      have hAk := hA.below hbel
      obtain ⟨b, off, rfl, hc⟩ := hAk _ _ g1
      obtain ⟨_, _, e2, hc2⟩ := hAk _ _ g2
      injection e2 with e2; injection e2 with e3 e4; subst e3 e4
      rw [← Nat.add_assoc] at hc2
      have hbs := World.block_lt_of_cell? wr _ hc
      simp only at hbs
      have hk1 : (0 : Int) ≤ (k : Int) := by omega
      have hk2 : (k : Int) < (zs.length : Int) := by omega
      have HZ := Lib.hid hz
      clear hz g1 g2
      cases hok : soldierOk x y
      · have HN := Lib.hid (army_no hlt (step_no1 HZ.out hok))
        go_wp2_with fail
        refine (calls_is (impl_standsOk _ _ _) hok).mono ?_
        rintro e w1 ⟨rfl, hb1⟩
        have hbw := below_step hbel (below_up hb1)
        go_wp2
        go_ret
        exact ⟨ret_bool HN.out.symm, by (repeat (first | exact Below.refl _ _ | assumption | refine below_step ?_ (by assumption) | refine below_alloc ?_ _ | refine below_drewN ?_ _ | refine Below.drew ?_ | refine Below.setCell ?_ (by first | (simp; done) | omega | (simp; omega)) _))⟩
      · go_wp2_with fail
        refine (calls_is (impl_standsOk _ _ _) hok).mono ?_
        rintro e w1 ⟨rfl, hb1⟩
        have d1 : w1.cell? ⟨wr.heap.size, 0, none⟩ = some (.int .i64 x) := bel_cell hb1 (by simp) (by simp)
        have d2 : w1.cell? ⟨wr.heap.size, 1, none⟩ = some (.int .i64 y) := bel_cell hb1 (by simp) (by simp)
        have hb1' := Below.refl w1.heap.size w1
        replace hbel := below_step hbel (below_up hb1)
        go_wp2
        go_loopw [24] (fun i wr => ∃ m : Nat, m ≤ k ∧ i = .int .i64 m ∧ (∀ j, j < m → zs[j]? ≠ some (x, y)) ∧ Below w1.heap.size w1 wr) (fun i _ => k - (intOf i).toNat)
        case atStart => exact ⟨0, Nat.zero_le _, rfl, fun j hj => absurd hj (Nat.not_lt_zero _), Below.refl _ _⟩
        case round =>
          obtain ⟨m, hm, rfl, hno, hbm⟩ := hrel
          have HNO := Lib.hid hno
          clear hno
          have hbs1 := World.block_lt_of_cell? w1 _ d1
          simp only at hbs1
          have d3 := bel_cell hbm hbs1 d1
          have d4 := bel_cell hbm hbs1 d2
          by_cases hml : m < k
          · obtain ⟨⟨x', y'⟩, hz'⟩ : ∃ z, zs[m]? = some z := ⟨_, List.getElem?_eq_getElem (by omega)⟩
            obtain ⟨g1, g2⟩ := sflat_get hz'
            have hAm := hA.below (below_step hbel hbm)
            obtain ⟨_, _, e2, h5⟩ := hAm _ _ g1
            injection e2 with e2; injection e2 with e3 e4; subst e3 e4
            obtain ⟨_, _, e2, h6⟩ := hAm _ _ g2
            injection e2 with e2; injection e2 with e3 e4; subst e3 e4
            rw [← Nat.add_assoc] at h6
            have HZ' := Lib.hid hz'
            clear hz' g1 g2
            have hx5 := World.block_lt_of_cell? wr _ h5
            have hx3 := World.block_lt_of_cell? wr _ d3
            simp only at hx5 hx3
            have hm1 : (0 : Int) ≤ (m : Int) := by omega
            have hm2 : (m : Int) < (zs.length : Int) := by omega
            by_cases he : x' = x ∧ y' = y
            · obtain ⟨rfl, rfl⟩ := he
              have HN := Lib.hid (army_no hlt (step_no2 HZ.out hml HZ'.out))
              go_wp2_with fail
              try go_quiet (fail)
              go_wp2
              go_ret
              exact ⟨ret_bool HN.out.symm, by (repeat (first | exact Below.refl _ _ | assumption | refine below_step ?_ (by assumption) | refine below_alloc ?_ _ | refine below_drewN ?_ _ | refine Below.drew ?_ | refine Below.setCell ?_ (by first | (simp; done) | omega | (simp; omega)) _))⟩
            · have hnext : ∀ j, j < m + 1 → zs[j]? ≠ some (x, y) := by
                intro j hj
                by_cases hjm : j = m
                · subst hjm; rw [HZ'.out]; intro h; injection h with h; injection h with h1 h2; exact he ⟨h1, h2⟩
                · exact HNO.out j (by omega)
              have HX := Lib.hid hnext
              clear hnext
              have hne : x' = x → ¬ y' = y := fun h1 h2 => he ⟨h1, h2⟩
              by_cases hx : x' = x
              · have hy := hne hx
                clear he hne
                go_wp2_with fail
                try go_quiet (fail)
                go_wp2
                go_roundw
                case rel => exact ⟨m + 1, by omega, by go_num, HX.out, by (repeat (first | exact Below.refl _ _ | assumption | refine below_step ?_ (by assumption) | refine below_alloc ?_ _ | refine below_drewN ?_ _ | refine Below.drew ?_ | refine Below.setCell ?_ (by first | (simp; done) | omega | (simp; omega)) _))⟩
                case measure => simp [intOf]; omega
              · clear he hne
                go_wp2_with fail
                try go_quiet (fail)
                go_wp2
                go_roundw
                case rel => exact ⟨m + 1, by omega, by go_num, HX.out, by (repeat (first | exact Below.refl _ _ | assumption | refine below_step ?_ (by assumption) | refine below_alloc ?_ _ | refine below_drewN ?_ _ | refine Below.drew ?_ | refine Below.setCell ?_ (by first | (simp; done) | omega | (simp; omega)) _))⟩
                case measure => simp [intOf]; omega
          · obtain rfl : m = k := by omega
            go_wp2
            go_roundw
            case rel => exact ⟨m + 1, by omega, by go_num, armyTo_succ HTO.out (step_yes HZ.out hok HNO.out), by (repeat (first | exact Below.refl _ _ | assumption | refine below_step ?_ (by assumption) | refine below_alloc ?_ _ | refine below_drewN ?_ _ | refine Below.drew ?_ | refine Below.setCell ?_ (by first | (simp; done) | omega | (simp; omega)) _))⟩
            case measure => simp [intOf]; omega
    · obtain rfl : k = zs.length := by omega
      go_wp2
      go_ret
      exact ⟨ret_bool (by simp only [armyOk, HTO.out, Bool.and_true]; first | rfl | (congr 1; done) | (simp; done) | (by_cases h : zs.length ≤ 60 <;> simp [h] <;> omega)), by (repeat (first | exact Below.refl _ _ | assumption | refine below_step ?_ (by assumption) | refine below_alloc ?_ _ | refine below_drewN ?_ _ | refine Below.drew ?_ | refine Below.setCell ?_ (by first | (simp; done) | omega | (simp; omega)) _))⟩
end Go.Proofs.Ytianfakgojmnpaa
