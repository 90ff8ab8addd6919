/- Ways to a goal: contracts. -/
import Derived.Test.YtianfakgojmnpaaWayM
namespace Go.Proofs.Ytianfakgojmnpaa
open Go.RowKit

set_option maxHeartbeats 4000000 in
theorem impl_WayTo (W H X p q : Int) (w : World) (hp : p ≤ 9223372036854775807) (hq : q ≤ 9223372036854775807) :
    Calls Try.prog 54 #[.agg #[.int .i64 W, .int .i64 H, .int .i64 X], .int .i64 p, .int .i64 q] w (RetOwnB 46 3 w (wayTo W H X p q).length (lflat (wayTo W H X p q)) (seenHas (seenB W H X true q) p)) := by
  cases hc : seenHas (seenB W H X true q) p
  · have e : wayTo W H X p q = [] := by simp [wayTo, hc]
    rw [e]; clear e
    go_enter Try.func54, Try.ntmps54
    go_wp2_with fail
    generalize hV : w.alloc (.cells #[.int .i64 W, .int .i64 H, .int .i64 X] 44) = V
    have v0 : Below w.heap.size w V := by subst hV; (repeat (first | exact Below.refl _ _ | assumption | refine below_step ?_ (by assumption) | refine below_alloc ?_ _ | refine below_drewN ?_ _ | refine Below.drew ?_ | refine Below.setCell ?_ (by first | (simp; done) | omega | (simp; omega)) _))
    have z0 : w.heap.size < V.heap.size := by subst hV; simp <;> omega
    have v0_0 : V.cell? ⟨w.heap.size, 0, none⟩ = some (.int .i64 W) := by subst hV; simp
    have v0_1 : V.cell? ⟨w.heap.size, 1, none⟩ = some (.int .i64 H) := by subst hV; simp
    have v0_2 : V.cell? ⟨w.heap.size, 2, none⟩ = some (.int .i64 X) := by subst hV; simp
    have K : Hid (∀ w', Below V.heap.size V w' → Below V.heap.size V w' ∧ w'.cell? ⟨w.heap.size, 0, none⟩ = some (.int .i64 W) ∧ w'.cell? ⟨w.heap.size, 1, none⟩ = some (.int .i64 H) ∧ w'.cell? ⟨w.heap.size, 2, none⟩ = some (.int .i64 X)) := fun w' hB => ⟨hB, bel_cell hB z0 v0_0, bel_cell hB z0 v0_1, bel_cell hB z0 v0_2⟩
    have ZV : Hid (w.heap.size + 1 = V.heap.size) := by subst hV; unfold Hid; simp
    clear hV
    have HV : Hid (w.heap.size ≤ V.heap.size) := v0.size
    refine (impl_spreadOf _ _ _ _ _ _ hq).mono ?_
    rintro e w1 ⟨AS, cS, rfl, hS, hV⟩
    have hSl := seen_len2 W H X q true
    have d0 := bel_cell hV z0 v0_0
    have d1 := bel_cell hV z0 v0_1
    have d2 := bel_cell hV z0 v0_2
    go_wp2_with fail
    refine (calls_is (impl_has _ _ _ _ _ (BAt_of_own hS) hSl) hc).mono ?_
    rintro e w2 ⟨rfl, hb2⟩
    go_wp2
    exact bodyPost_ret (v := .tuple #[.slice none 0 0, .bool false]) (by simp [results, Try.results54, go_sem]) rfl ⟨none, 0, rfl, ⟨rfl, .inl ⟨rfl, rfl⟩⟩, by (repeat (first | exact Below.refl _ _ | assumption | refine below_step ?_ (by assumption) | refine below_alloc ?_ _ | refine below_drewN ?_ _ | refine Below.drew ?_ | refine Below.setCell ?_ (by first | (simp; done) | omega | (simp; omega)) _))⟩
  obtain ⟨y1, y2, y3, y4, y5, y6⟩ := seen_small hc
  obtain ⟨m, rfl⟩ := Int.eq_ofNat_of_zero_le y2
  obtain ⟨n, rfl⟩ := Int.eq_ofNat_of_zero_le y5
  have e : wayTo W H X m n = wayF (linesOf W H X) (seenB W H X true n) n 49 m := by simp [wayTo, hc]
  rw [e]; clear e
  have hll := linesOf_len W H X
  go_enter Try.func54, Try.ntmps54
  go_wp2_with fail
  generalize hV : w.alloc (.cells #[.int .i64 W, .int .i64 H, .int .i64 X] 44) = V
  have v0 : Below w.heap.size w V := by subst hV; (repeat (first | exact Below.refl _ _ | assumption | refine below_step ?_ (by assumption) | refine below_alloc ?_ _ | refine below_drewN ?_ _ | refine Below.drew ?_ | refine Below.setCell ?_ (by first | (simp; done) | omega | (simp; omega)) _))
  have z0 : w.heap.size < V.heap.size := by subst hV; simp <;> omega
  have v0_0 : V.cell? ⟨w.heap.size, 0, none⟩ = some (.int .i64 W) := by subst hV; simp
  have v0_1 : V.cell? ⟨w.heap.size, 1, none⟩ = some (.int .i64 H) := by subst hV; simp
  have v0_2 : V.cell? ⟨w.heap.size, 2, none⟩ = some (.int .i64 X) := by subst hV; simp
  have K : Hid (∀ w', Below V.heap.size V w' → Below V.heap.size V w' ∧ w'.cell? ⟨w.heap.size, 0, none⟩ = some (.int .i64 W) ∧ w'.cell? ⟨w.heap.size, 1, none⟩ = some (.int .i64 H) ∧ w'.cell? ⟨w.heap.size, 2, none⟩ = some (.int .i64 X)) := fun w' hB => ⟨hB, bel_cell hB z0 v0_0, bel_cell hB z0 v0_1, bel_cell hB z0 v0_2⟩
  have ZV : Hid (w.heap.size + 1 = V.heap.size) := by subst hV; unfold Hid; simp
  clear hV
  have HV : Hid (w.heap.size ≤ V.heap.size) := v0.size
  refine (impl_spreadOf _ _ _ _ _ _ hq).mono ?_
  rintro e w1 ⟨AS, cS, rfl, hS, hV⟩
  have hSl := seen_len2 W H X n true
  have d0 := bel_cell hV z0 v0_0
  have d1 := bel_cell hV z0 v0_1
  have d2 := bel_cell hV z0 v0_2
  go_wp2_with fail
  refine (calls_is (impl_has _ _ _ _ _ (BAt_of_own hS) hSl) hc).mono ?_
  rintro e w2 ⟨rfl, hb2⟩
  replace hS := own_below hS hb2
  replace hV := below_step hV hb2
  clear d0 d1 d2
  have d0 := bel_cell hV z0 v0_0
  have d1 := bel_cell hV z0 v0_1
  have d2 := bel_cell hV z0 v0_2
  go_wp2_with fail
  refine (impl_LinesOf _ _ _ _).mono ?_
  rintro e w3 ⟨D, cD, rfl, hL, hb3⟩
  replace hS := own_below hS hb3
  have hV3 := below_step hV hb3
  have hO := own_lower (lo' := V.heap.size) (made0s (V := w3) (s := 3) 46 rfl) hV3.size
  have hV4 := below_alloc hV3 (.cells #[] 46)
  have hS4 := own_lower (lo' := 0) (own_alloc hS (.cells #[] 46)) (Nat.zero_le _)
  have hL4 := own_lower (lo' := 0) (own_alloc hL (.cells #[] 46)) (Nat.zero_le _)
  have hne : apartV (.slice D (linesOf W H X).length cD) (.slice (some ⟨w3.heap.size, 0, none⟩) 0 0) := by
    unfold apartV
    cases hv : (Value.slice D (linesOf W H X).length cD).ownBlock with
    | none => exact .inl rfl
    | some k =>
      refine .inr fun e => ?_
      have h1 := (hL.lt k hv).2
      simp [Value.ownBlock] at e
      omega
  have hpb := bitsTo_le m 49
  clear hL hS hV hV3 d0 d1 d2
  go_wp2_with fail
  go_loopw [1, 10] (fun pv v wr => ∃ (x f : Nat) (done : List (Int × Int × Int)), pv = .int .i64 (x : Nat) ∧ seenHas (seenB W H X true n) (x : Int) = true ∧ (bitsTo x 49).length ≤ f ∧ f ≤ 49 ∧ done ++ wayF (linesOf W H X) (seenB W H X true n) n f x = wayF (linesOf W H X) (seenB W H X true n) n 49 m ∧ wr.ownsRow V.heap.size 46 3 v done.length (ints (lflat done)) ∧ wr.ownsRow 0 46 3 (.slice D (linesOf W H X).length cD) (linesOf W H X).length (ints (lflat (linesOf W H X))) ∧ apartV (.slice D (linesOf W H X).length cD) v ∧ Below V.heap.size V wr ∧ wr.ownsRow 0 4 1 (.slice AS (seenB W H X true n).length cS) (seenB W H X true n).length (bools (seenB W H X true n))) (fun pv _ _ => (bitsTo (intOf pv).toNat 49).length)
  case atStart => exact ⟨m, 49, [], rfl, hc, hpb, Nat.le_refl _, rfl, (by simpa [lflat, ints] using hO), hL4, hne, hV4, hS4⟩
  case round =>
    clear hO hL4 hne hV4 hS4 hpb
    obtain ⟨x, ff, done, rfl, hsx, hpf, hf49, hdone, hown, hL, hne, hbel, hS⟩ := hrel
    obtain ⟨A2, c2, rfl⟩ := own_shape hown
    obtain ⟨q1, q2, q3, _, _, _⟩ := seen_small hsx
    have hdl := congrArg List.length hdone
    rw [List.length_append] at hdl
    have hwl := wayF_len (linesOf W H X) (seenB W H X true n) n 49 m
    have hdl2 : done.length ≤ 49 := by omega
    by_cases hxn : x = n
    · subst hxn
      rw [wayF_goal, List.append_nil] at hdone
      have HD := Lib.hid hdone
      clear hdone hdl hwl
      have hww := below_step v0 hbel
      go_wp2
      exact bodyPost_ret (v := .tuple #[.slice A2 done.length c2, .bool true]) (by simp [results, Try.results54, go_sem]) rfl ⟨A2, c2, by rw [← HD.out], own_lower (by rw [← HD.out]; exact hown) HV.out, hww⟩
    · obtain ⟨l0, hl0⟩ := way_next hsx (by simpa using hxn)
      have HL0 := Lib.hid hl0
      have hxz : ¬ (x : Int) = (n : Int) := by omega
      have hxb : ((x : Int) != (n : Int)) = true := by simp only [bne_iff_ne, ne_eq]; exact hxz
      have p1 : x < 562949953421312 := by omega
      have HDN := Lib.hid hdone
      clear hl0 hdone hdl hwl
      go_wp2
      go_loopw [1, 10, 30] (fun pv v i wr => ∃ k : Nat, k ≤ (linesOf W H X).length ∧ i = .int .i64 k ∧ pv = .int .i64 (x : Nat) ∧ ((linesOf W H X).take k).find? (wstep (linesOf W H X) (seenB W H X true n) x) = none ∧ wr.ownsRow V.heap.size 46 3 v done.length (ints (lflat done)) ∧ wr.ownsRow 0 46 3 (.slice D (linesOf W H X).length cD) (linesOf W H X).length (ints (lflat (linesOf W H X))) ∧ apartV (.slice D (linesOf W H X).length cD) v ∧ Below V.heap.size V wr ∧ wr.ownsRow 0 4 1 (.slice AS (seenB W H X true n).length cS) (seenB W H X true n).length (bools (seenB W H X true n))) (fun _ _ i _ => (linesOf W H X).length - (intOf i).toNat)
      case atStart => exact ⟨0, Nat.zero_le _, rfl, rfl, rfl, hown, hL, hne, hbel, hS⟩
      case round =>
        clear hown hL hne hbel hS
        obtain ⟨k, hk, rfl, rfl, hno, hown, hL, hne, hbel, hS⟩ := hrel
        obtain ⟨A2, c2, rfl⟩ := own_shape hown
        have HNO := Lib.hid hno
        clear hno
        by_cases hlt : k < (linesOf W H X).length
        · obtain ⟨⟨f, o, t⟩, hl⟩ : ∃ l, (linesOf W H X)[k]? = some l := ⟨_, List.getElem?_eq_getElem hlt⟩
          have HF := Lib.hid (lines_facts (List.mem_of_getElem? hl)).small
          have hFL := FAt_of_own hL
          obtain ⟨q1, q2, q3⟩ := lflat_get hl
          obtain ⟨bl, offl, rfl, l1⟩ := hFL _ _ q1
          obtain ⟨_, _, e2, l2⟩ := hFL _ _ q2
          injection e2 with e2; injection e2 with e3 e4; subst e3 e4
          obtain ⟨_, _, e2, l3⟩ := hFL _ _ q3
          injection e2 with e2; injection e2 with e3 e4; subst e3 e4
          rw [← Nat.add_assoc] at l2 l3
          have hzl := cellb_lt l1
          have hk1 : (0 : Int) ≤ (k : Int) := by omega
          have hk2 : (k : Int) < ((linesOf W H X).length : Int) := by omega
          have HLL := Lib.hid hl
          clear hl q1 q2 q3 hFL
          cases hcg : canGo false x (f, o, t)
          · have HN := Lib.hid (findk_no HNO.out HLL.out (by unfold wstep; simp [hcg]))
            go_wp2_with fail
            generalize hU : wr.alloc (.cells #[.int .i64 f, .int .i64 o, .int .i64 t] 46) = U
            have bU : Below wr.heap.size wr U := by subst hU; (repeat (first | exact Below.refl _ _ | assumption | refine below_step ?_ (by assumption) | refine below_alloc ?_ _ | refine below_drewN ?_ _ | refine Below.drew ?_ | refine Below.setCell ?_ (by first | (simp; done) | omega | (simp; omega)) _))
            have zU : wr.heap.size < U.heap.size := by subst hU; simp
            have u0 : U.cell? ⟨wr.heap.size, 0, none⟩ = some (.int .i64 f) := by subst hU; simp
            have u1 : U.cell? ⟨wr.heap.size, 1, none⟩ = some (.int .i64 o) := by subst hU; simp
            have u2 : U.cell? ⟨wr.heap.size, 2, none⟩ = some (.int .i64 t) := by subst hU; simp
            clear hU
            refine (impl_jumpFrom_no _ HF.out p1 hcg).mono ?_
            rintro e w4 ⟨rfl, hb4⟩
            have d0 := bel_cell hb4 zU u0
            have d1 := bel_cell hb4 zU u1
            have d2 := bel_cell hb4 zU u2
            have zw := Nat.lt_of_lt_of_le zU hb4.size
            have hw5 : Below wr.heap.size wr w4 := by (repeat (first | exact Below.refl _ _ | assumption | refine below_step ?_ (by assumption) | refine below_alloc ?_ _ | refine below_drewN ?_ _ | refine Below.drew ?_ | refine Below.setCell ?_ (by first | (simp; done) | omega | (simp; omega)) _))
            go_wp2
            go_roundw
            case rel => exact ⟨k + 1, by omega, by go_num, rfl, HN.out, own_below hown hw5, own_below hL hw5, hne, below_step hbel hw5, own_below hS hw5⟩
            case measure => simp [intOf]; omega
          · have hgp := go_pops HF.out hcg
            have HCG := Lib.hid hcg
            go_wp2_with fail
            generalize hU : wr.alloc (.cells #[.int .i64 f, .int .i64 o, .int .i64 t] 46) = U
            have bU : Below wr.heap.size wr U := by subst hU; (repeat (first | exact Below.refl _ _ | assumption | refine below_step ?_ (by assumption) | refine below_alloc ?_ _ | refine below_drewN ?_ _ | refine Below.drew ?_ | refine Below.setCell ?_ (by first | (simp; done) | omega | (simp; omega)) _))
            have zU : wr.heap.size < U.heap.size := by subst hU; simp
            have u0 : U.cell? ⟨wr.heap.size, 0, none⟩ = some (.int .i64 f) := by subst hU; simp
            have u1 : U.cell? ⟨wr.heap.size, 1, none⟩ = some (.int .i64 o) := by subst hU; simp
            have u2 : U.cell? ⟨wr.heap.size, 2, none⟩ = some (.int .i64 t) := by subst hU; simp
            clear hU
            refine (impl_jumpFrom_yes _ HF.out p1 hcg).mono ?_
            rintro e w4 ⟨rfl, hb4⟩
            have d0 := bel_cell hb4 zU u0
            have d1 := bel_cell hb4 zU u1
            have d2 := bel_cell hb4 zU u2
            have zw := Nat.lt_of_lt_of_le zU hb4.size
            have hw4 : Below wr.heap.size wr w4 := by (repeat (first | exact Below.refl _ _ | assumption | refine below_step ?_ (by assumption) | refine below_alloc ?_ _ | refine below_drewN ?_ _ | refine Below.drew ?_ | refine Below.setCell ?_ (by first | (simp; done) | omega | (simp; omega)) _))
            cases hqq : seenHas (seenB W H X true n) ((goTo x (f, o, t) : Nat) : Int)
            · have HN := Lib.hid (findk_no HNO.out HLL.out (by unfold wstep; simp [hqq]))
              go_wp2_with fail
              refine (calls_is (impl_has _ _ _ _ _ (BAt_of_own (own_below hS hw4)) hSl) hqq).mono ?_
              rintro e w5 ⟨rfl, hb5⟩
              have hw5 : Below wr.heap.size wr w5 := below_step hw4 hb5
              go_wp2
              go_roundw
              case rel => exact ⟨k + 1, by omega, by go_num, rfl, HN.out, own_below hown hw5, own_below hL hw5, hne, below_step hbel hw5, own_below hS hw5⟩
              case measure => simp [intOf]; omega
            · have hfd := findk_yes HNO.out HLL.out (show wstep (linesOf W H X) (seenB W H X true n) x (f, o, t) = true by unfold wstep; simp [HCG.out, hqq])
              have HFD := Lib.hid hfd
              have HQQ := Lib.hid hqq
              clear hfd
              go_wp2_with fail
              refine (calls_is (impl_has _ _ _ _ _ (BAt_of_own (own_below hS hw4)) hSl) hqq).mono ?_
              rintro e w5 ⟨rfl, hb5⟩
              have hw5 : Below wr.heap.size wr w5 := below_step hw4 hb5
              replace d0 := bel_cell hb5 zw d0
              replace d1 := bel_cell hb5 zw d1
              replace d2 := bel_cell hb5 zw d2
              replace zw := Nat.lt_of_lt_of_le zw hb5.size
              replace hown := own_below hown hw5
              replace hL := own_below hL hw5
              replace hS := own_below hS hw5
              replace hbel := below_step hbel hw5
              go_wp2_with (at_builtin; refine append_lkeep Try.underlying61 V _ rfl _ _ rfl _ _ _ f o t (by rfl) hown (by rfl) (by omega) hbel ?_; intro v' w' hown' hbel' hkeep)
              obtain ⟨kL, kne⟩ := hkeep _ _ _ _ _ _ hL hne
              obtain ⟨kS, _⟩ := hkeep _ _ _ _ _ _ hS (own_types hS hown (by decide))
              obtain ⟨g, rfl⟩ : ∃ g, ff = g + 1 := ⟨ff - 1, by omega⟩
              have hdn : (done ++ [(f, o, t)]) ++ wayF (linesOf W H X) (seenB W H X true n) n g (goTo x (f, o, t)) = wayF (linesOf W H X) (seenB W H X true n) n 49 m := by
                rw [← HDN.out, wayF_step hxn HFD.out]; simp
              go_roundw
              case rel => exact ⟨goTo x (f, o, t), g, done ++ [(f, o, t)], rfl, HQQ.out, by omega, by omega, hdn, by rw [List.length_append]; exact hown', kL, kne, hbel', kS⟩
              case measure => simp [intOf]; omega
        · exfalso
          have : k = (linesOf W H X).length := by omega
          have h1 := HNO.out
          rw [this, List.take_length, HL0.out] at h1
          cases h1
theorem apart_fresh {w w' : World} {lo e e' s s' n m : Nat} {u v : Value} {c d : List Value} (hv : w.ownsRow lo e s v n c) (hu : w'.ownsRow w.heap.size e' s' u m d) : apartV u v := by
  unfold apartV
  cases hk : u.ownBlock with
  | none => exact .inl rfl
  | some k =>
    refine .inr fun e => ?_
    have h1 := (hu.lt k hk).1
    have h2 := (hv.lt k e.symm).2
    omega
theorem wayTo_flip (W H X p q : Int) (b : Bool) (h : canReach W H X p q = b) : seenHas (seenB W H X true q) p = b := by rw [← can_flip]; exact h
end Go.Proofs.Ytianfakgojmnpaa
