/- Spreads: the reference's contract. -/
import Derived.Test.YtianfakgojmnpaaSeen
namespace Go.Proofs.Ytianfakgojmnpaa
open Go.RowKit

theorem cond_false {x : Nat} {f o t : Int} {r : Bool} (h : Small3 f o t) (hx : x < 562949953421312) (hc : canGo false x (f, o, t) = r) :
    (bits .and .i64 (x : Int) ((lineBits (f, o, t) : Nat) : Int) == bits .or .i64 (wrap64 (2 ^ f.toNat)) (wrap64 (2 ^ o.toNat))) = r := by
  rw [wrap_pow h.f1, wrap_pow h.o1, bits_want h, nat_and hx (lineBits_lt h), ← hc]
  rw [Bool.eq_iff_iff]
  simp only [beq_iff_eq, canGo, decide_eq_true_eq]
  omega
theorem cond_true {x : Nat} {f o t : Int} {r : Bool} (h : Small3 f o t) (hx : x < 562949953421312) (hc : canGo true x (f, o, t) = r) :
    (bits .and .i64 (x : Int) ((lineBits (f, o, t) : Nat) : Int) == wrap64 (2 ^ t.toNat)) = r := by
  have e : ((2 : Int) ^ t.toNat) = ((lineWant true (f, o, t) : Nat) : Int) := by simp [lineWant]
  rw [wrap_pow h.t1, nat_and hx (lineBits_lt h), e, ← hc]
  rw [Bool.eq_iff_iff]
  simp only [beq_iff_eq, canGo, decide_eq_true_eq]
  omega
set_option maxRecDepth 20000 in
set_option maxHeartbeats 4000000 in
theorem spec_l14Seen_false (W H X p : Int) (w : World) (hp : p ≤ 9223372036854775807) (h1 : isSmall W H X = true) (h2 : positionOk W H X p = true) :
    Calls Try.prog 81 #[.agg #[.int .i64 W, .int .i64 H, .int .i64 X], .int .i64 p, .bool false] w (RetSeen w (seenB W H X false p)) := by
  obtain ⟨hb, n1, n2⟩ := small_cells h1
  obtain ⟨i0, hi, hz0, hz1, hz2⟩ := info_parts bool_info
  have hWH : W * H ≤ 16 := by simp only [isSmall, Bool.and_eq_true, decide_eq_true_eq] at h1; exact h1.2
  have hWH0 : 0 ≤ W * H := by have := (boardOk_facts hb).m1; omega
  have hE := wrap_cells hWH
  have hll := linesOf_len W H X
  have hp0 : 0 ≤ p := (positionOk_facts h2).p0
  have hpn : p.toNat < cells2 W H := spreadAt_lt h2 false 0 p.toNat (spreadTo_start 0)
  have hpn2 : p < (cells2 W H : Nat) := by omega
  have hps : ((p.toNat : Nat) : Int) = p := by omega
  go_enter Try.func81, Try.ntmps81
  go_wp2_with (at_make; refine Hid.out ?_)
  refine Lib.hid ?_
  generalize hV : w.alloc (.cells #[.int .i64 W, .int .i64 H, .int .i64 X] 44) = V
  have v0 : Below w.heap.size w V := by subst hV; (repeat (first | exact Below.refl _ _ | assumption | refine below_step ?_ (by assumption) | refine below_alloc ?_ _ | refine below_drewN ?_ _ | refine Below.drew ?_ | refine Below.setCell ?_ (by first | (simp; done) | omega | (simp; omega)) _))
  have z0 : w.heap.size < V.heap.size := by subst hV; simp <;> omega
  have v0_0 : V.cell? ⟨w.heap.size, 0, none⟩ = some (.int .i64 W) := by subst hV; simp
  have v0_1 : V.cell? ⟨w.heap.size, 1, none⟩ = some (.int .i64 H) := by subst hV; simp
  have v0_2 : V.cell? ⟨w.heap.size, 2, none⟩ = some (.int .i64 X) := by subst hV; simp
  have K : Hid (∀ w', Below V.heap.size V w' → Below V.heap.size V w' ∧ w'.cell? ⟨w.heap.size, 0, none⟩ = some (.int .i64 W) ∧ w'.cell? ⟨w.heap.size, 1, none⟩ = some (.int .i64 H) ∧ w'.cell? ⟨w.heap.size, 2, none⟩ = some (.int .i64 X)) := fun w' hB => ⟨hB, bel_cell hB z0 v0_0, bel_cell hB z0 v0_1, bel_cell hB z0 v0_2⟩
  have ZV : Hid (w.heap.size + 1 = V.heap.size) := by subst hV; unfold Hid; simp
  clear hV
  have HV : Hid (w.heap.size ≤ V.heap.size) := v0.size
  refine wpList_make_full _ rfl _ _ 91 rfl V.heap.size 4 i0 (.bool false) 1 Try.underlying91 hi hz0 hz1 .i64 .i64 _ _ (cells2 W H) rfl rfl hE hE (by rw [hz2]; omega) (by simp only [maxLen]; omega) (Nat.le_refl _) ?_
  intro w4 hS hg4
  rw [made_marks] at hS
  have hV := (Below.refl V.heap.size V).grown hg4 (Nat.le_refl _) (fun _ h => by cases h)
  have d0 := bel_cell hV z0 v0_0
  have d1 := bel_cell hV z0 v0_1
  have d2 := bel_cell hV z0 v0_2
  go_wp2_with fail
  refine (spec_LinesOf _ _ _ _).mono ?_
  rintro e w5 ⟨D, cD, rfl, hL, hb5⟩
  replace hS := own_below hS hb5
  replace hV := below_step hV hb5
  have hc4 := (hS.cellAt p.toNat (by omega)).trans (bools_get (marksOf_get hpn))
  have hf4 := hS.frozenAt p.toNat
  clear d0 d1 d2
  have hL5 := own_lower (lo' := 0) hL (Nat.zero_le _)
  have hS5 := (hS.stored p.toNat (.bool true)).1
  rw [marksOf_set hpn] at hS5
  have hV5 := hV.setCell (p := ⟨V.heap.size, p.toNat, none⟩) (Nat.le_refl _) (.bool true)
  have hL6' := hL5.kept (hS.stored p.toNat (.bool true)).2 (own_types hL5 hS (by decide))
  have hT0 : spreadAt W H X false p 0 = [p.toNat] := rfl
  have hO := made1 hV5 p
  have hS6 := own_alloc hS5 (.cells #[.int .i64 p] 3)
  have hL6 := own_alloc hL6' (.cells #[.int .i64 p] 3)
  have hV6 := below_alloc hV5 (.cells #[.int .i64 p] 3)
  clear hL hL5 hL6'
  go_wp2_with fail
  go_loopw [9, 10] (fun v i wr => ∃ k : Nat, i = .int .i64 k ∧ k ≤ (spreadAt W H X false p k).length ∧ wr.ownsRow V.heap.size 3 1 v (spreadAt W H X false p k).length (ints (toInts (spreadAt W H X false p k))) ∧ wr.ownsRow V.heap.size 4 1 (.slice (some ⟨V.heap.size, 0, none⟩) (cells2 W H) (cells2 W H)) (cells2 W H) (bools (marksOf (cells2 W H) (spreadAt W H X false p k))) ∧ wr.ownsRow 0 46 3 (.slice D (linesOf W H X).length cD) (linesOf W H X).length (ints (lflat (linesOf W H X))) ∧ Below V.heap.size V wr) (fun _ i _ => cells2 W H - (intOf i).toNat)
  case atStart => exact ⟨0, rfl, Nat.zero_le _, (by rw [hT0]; simpa [toInts, hps] using hO), (by rw [hT0]; exact hS6), hL6, hV6⟩
  case round =>
    clear hS5 hV5 hO hS6 hL6 hV6 hT0 hS hV hc4 hf4 hg4
    obtain ⟨k, rfl, hk, hown, hS, hL, hbel⟩ := hrel
    obtain ⟨A, cA, rfl⟩ := own_shape hown
    have hkn := spreadAt_len (back := false) h2 k
    by_cases hlt : k < (spreadAt W H X false p k).length
    · obtain ⟨x, hx⟩ : ∃ x, (spreadAt W H X false p k)[k]? = some x := ⟨_, List.getElem?_eq_getElem hlt⟩
      have HX := Lib.hid hx
      clear hx
      go_wp2
      go_loopw [9, 11] (fun v i wr => ∃ m : Nat, m ≤ (linesOf W H X).length ∧ i = .int .i64 m ∧ wr.ownsRow V.heap.size 3 1 v (stepLs false x (spreadAt W H X false p k) ((linesOf W H X).take m)).length (ints (toInts (stepLs false x (spreadAt W H X false p k) ((linesOf W H X).take m)))) ∧ wr.ownsRow V.heap.size 4 1 (.slice (some ⟨V.heap.size, 0, none⟩) (cells2 W H) (cells2 W H)) (cells2 W H) (bools (marksOf (cells2 W H) (stepLs false x (spreadAt W H X false p k) ((linesOf W H X).take m)))) ∧ wr.ownsRow 0 46 3 (.slice D (linesOf W H X).length cD) (linesOf W H X).length (ints (lflat (linesOf W H X))) ∧ Below V.heap.size V wr) (fun _ i _ => (linesOf W H X).length - (intOf i).toNat)
      case atStart => exact ⟨0, Nat.zero_le _, rfl, hown, hS, hL, hbel⟩
      case round =>
        clear hown hS hL hbel
        obtain ⟨m, hm, rfl, hown, hS, hL, hbel⟩ := hrel
        obtain ⟨A, cA, rfl⟩ := own_shape hown
        by_cases hml : m < (linesOf W H X).length
        · obtain ⟨⟨f, o, t⟩, hl⟩ : ∃ l, (linesOf W H X)[m]? = some l := ⟨_, List.getElem?_eq_getElem hml⟩
          have HF := Lib.hid (lines_facts (List.mem_of_getElem? hl)).small
          have f0 := HF.out.f0
          have f1 := HF.out.f1
          have o0 := HF.out.o0
          have o1 := HF.out.o1
          have t0 := HF.out.t0
          have t1 := HF.out.t1
          have hxc := spreadAt_lt h2 false k x (List.mem_of_getElem? HX.out)
          have hxl : x < 562949953421312 := by omega
          have hlen := part_len (m := m) h2 HX.out
          have hgl : goTo x (f, o, t) < 562949953421312 := goTo_lt HF.out hxl
          have hxo : bits .xor .i64 (x : Int) ((lineBits (f, o, t) : Nat) : Int) = ((goTo x (f, o, t) : Nat) : Int) := nat_xor hxl (lineBits_lt HF.out)
          have hkp := keep_at (back := false) ((linesOf W H X).take m) HX.out
          have hkl : k < (stepLs false x (spreadAt W H X false p k) ((linesOf W H X).take m)).length := (List.getElem?_eq_some_iff.1 hkp).1
          obtain ⟨b, off, rfl, e1⟩ := FAt_of_own hown _ _ (toInts_at hkp)
          have hFL := FAt_of_own hL
          obtain ⟨c1, c2, c3⟩ := lflat_get hl
          obtain ⟨bl, offl, rfl, l1⟩ := hFL _ _ c1
          obtain ⟨_, _, e2, l2⟩ := hFL _ _ c2
          injection e2 with e2; injection e2 with e3 e4; subst e3 e4
          obtain ⟨_, _, e2, l3⟩ := hFL _ _ c3
          injection e2 with e2; injection e2 with e3 e4; subst e3 e4
          rw [← Nat.add_assoc] at l2 l3
          have HL := Lib.hid hl
          clear hl hkp c1 c2 c3 hFL
          go_wp2_with fail
          refine (spec_l05Bits _ _ _ _ HF.out).mono ?_
          rintro e w5 ⟨rfl, hw5⟩
          have g1 := bel_cell hw5 (cellb_lt l1) l1
          have g2 := bel_cell hw5 (cellb_lt l2) l2
          have g3 := bel_cell hw5 (cellb_lt l3) l3
          have g4 := bel_cell hw5 (cellb_lt e1) e1
          clear e1 l1 l2 l3
          replace hS := own_below hS hw5
          replace hown := own_below hown hw5
          replace hL := own_below hL hw5
          replace hbel := below_step hbel hw5
          clear hw5
          cases hcg : canGo false x (f, o, t)
          · have HN := Lib.hid (foldTo_no (t := spreadAt W H X false p k) HL.out hcg)
            have hcond := cond_false HF.out hxl hcg
            clear hcg
            go_wp2_with fail
            go_quiet (fail)
            go_wp2
            go_roundw
            case rel => exact ⟨m + 1, by omega, by go_num, by rw [HN.out]; exact own_drewN hown _, by rw [HN.out]; exact own_drewN hS _, own_drewN hL _, below_drewN hbel _⟩
            case measure => simp [intOf]; omega
          · have hqn : goTo x (f, o, t) < cells2 W H := part_lt (m := m + 1) h2 HX.out _ (by rw [foldTo HL.out]; unfold stepL; rw [if_pos hcg]; exact visit_mem _ _)
            have hcond := cond_false HF.out hxl hcg
            by_cases hmem : goTo x (f, o, t) ∈ stepLs false x (spreadAt W H X false p k) ((linesOf W H X).take m)
            · have HN := Lib.hid (foldTo_old (t := spreadAt W H X false p k) HL.out hmem)
              have s1 := (hS.cellAt (goTo x (f, o, t)) (by omega)).trans (bools_get (marksOf_get hqn))
              rw [decide_eq_true hmem] at s1
              clear hcg
              go_wp2_with fail
              go_quiet (fail)
              go_wp2
              go_roundw
              case rel => exact ⟨m + 1, by omega, by go_num, by rw [HN.out]; exact own_drewN hown _, by rw [HN.out]; exact own_drewN hS _, own_drewN hL _, below_drewN hbel _⟩
              case measure => simp [intOf]; omega
            · have HN := Lib.hid (foldTo_new (t := spreadAt W H X false p k) HL.out hcg hmem)
              have s1 := (hS.cellAt (goTo x (f, o, t)) (by omega)).trans (bools_get (marksOf_get hqn))
              rw [decide_eq_false hmem] at s1
              have s2 := hS.frozenAt (goTo x (f, o, t))
              have hgS := (hS.stored (goTo x (f, o, t)) (.bool true)).2
              have hS7 := (hS.stored (goTo x (f, o, t)) (.bool true)).1
              rw [marksOf_set hqn] at hS7
              have hown7 := hown.kept hgS (own_types hown hS (by decide))
              have hL7 := hL.kept hgS (own_types hL hS (by decide))
              have HSZ : Hid ((w5.setCell ⟨V.heap.size, goTo x (f, o, t), none⟩ (.bool true)).heap.size = w5.heap.size) := by unfold Hid; simp
              have hbel7 := hbel.setCell (p := ⟨V.heap.size, goTo x (f, o, t), none⟩) (Nat.le_refl _) (.bool true)
              clear hcg
              go_wp2_with fail
              go_quiet (fail)
              have hown8 := own_drewN hown7 nq
              have hbel8 : Below V.heap.size V ((w5.drewN nq).setCell ⟨V.heap.size, goTo x (f, o, t), none⟩ (.bool true)) := below_drewN hbel7 nq
              go_wp2_with (at_builtin; refine append_intg Try.underlying56 V _ rfl _ _ rfl _ _ _ ((goTo x (f, o, t) : Nat) : Int) (by rfl) hown8 (by first | rfl | (rw [HSZ.out]; rfl) | (simp [Act.eval]; done)) (by omega) hbel8 ?_; intro v' w' hown' hbel' hgrow')
              go_roundw
              case rel => exact ⟨m + 1, by omega, by go_num, by rw [HN.out, toInts_append, List.length_append]; exact hown', by rw [HN.out]; exact (own_alloc (w := (w5.drewN nq).setCell ⟨V.heap.size, goTo x (f, o, t), none⟩ (.bool true)) hS7 _).kept hgrow' (own_types hS7 hown7 (by decide)), (own_alloc (w := (w5.drewN nq).setCell ⟨V.heap.size, goTo x (f, o, t), none⟩ (.bool true)) hL7 _).kept hgrow' (own_types hL7 hown7 (by decide)), hbel'⟩
              case measure => simp [intOf]; omega
        · obtain rfl : m = (linesOf W H X).length := by omega
          have HA := Lib.hid (part_all HX.out)
          go_wp2
          go_roundw
          case rel =>
            have hle := (spreadTo_prefix (back := false) (ls := linesOf W H X) (s := p.toNat) k).length_le
            have hlt1 : k < (spreadAt W H X false p (k + 1)).length := Nat.lt_of_lt_of_le hlt hle
            exact ⟨k + 1, by go_num, hlt1, by rw [← HA.out]; exact hown, by rw [← HA.out]; exact hS, hL, hbel⟩
          case measure => simp [intOf]; omega
    · have HFIN := Lib.hid (seen_final h1 h2 (Nat.le_of_not_lt hlt))
      have hlen := congrArg List.length HFIN.out
      rw [marksOf_len] at hlen
      rw [HFIN.out] at hS
      have HLN := Lib.hid hlen.symm
      have FIN : Hid (wr.ownsRow V.heap.size 4 1 (.slice (some ⟨V.heap.size, 0, none⟩) (seenB W H X false p).length (cells2 W H)) (seenB W H X false p).length (bools (seenB W H X false p))) := by
        show wr.ownsRow _ _ _ _ _ _
        rw [← hlen]; exact hS
      clear hlen hS
      go_wp2
      go_ret
      exact ⟨some ⟨V.heap.size, 0, none⟩, cells2 W H, by rw [HLN.out]; rfl, own_lower FIN.out HV.out, below_step v0 hbel⟩
set_option maxRecDepth 20000 in
set_option maxHeartbeats 4000000 in
theorem spec_l14Seen_true (W H X p : Int) (w : World) (hp : p ≤ 9223372036854775807) (h1 : isSmall W H X = true) (h2 : positionOk W H X p = true) :
    Calls Try.prog 81 #[.agg #[.int .i64 W, .int .i64 H, .int .i64 X], .int .i64 p, .bool true] w (RetSeen w (seenB W H X true p)) := by
  obtain ⟨hb, n1, n2⟩ := small_cells h1
  obtain ⟨i0, hi, hz0, hz1, hz2⟩ := info_parts bool_info
  have hWH : W * H ≤ 16 := by simp only [isSmall, Bool.and_eq_true, decide_eq_true_eq] at h1; exact h1.2
  have hWH0 : 0 ≤ W * H := by have := (boardOk_facts hb).m1; omega
  have hE := wrap_cells hWH
  have hll := linesOf_len W H X
  have hp0 : 0 ≤ p := (positionOk_facts h2).p0
  have hpn : p.toNat < cells2 W H := spreadAt_lt h2 true 0 p.toNat (spreadTo_start 0)
  have hpn2 : p < (cells2 W H : Nat) := by omega
  have hps : ((p.toNat : Nat) : Int) = p := by omega
  go_enter Try.func81, Try.ntmps81
  go_wp2_with (at_make; refine Hid.out ?_)
  refine Lib.hid ?_
  generalize hV : w.alloc (.cells #[.int .i64 W, .int .i64 H, .int .i64 X] 44) = V
  have v0 : Below w.heap.size w V := by subst hV; (repeat (first | exact Below.refl _ _ | assumption | refine below_step ?_ (by assumption) | refine below_alloc ?_ _ | refine below_drewN ?_ _ | refine Below.drew ?_ | refine Below.setCell ?_ (by first | (simp; done) | omega | (simp; omega)) _))
  have z0 : w.heap.size < V.heap.size := by subst hV; simp <;> omega
  have v0_0 : V.cell? ⟨w.heap.size, 0, none⟩ = some (.int .i64 W) := by subst hV; simp
  have v0_1 : V.cell? ⟨w.heap.size, 1, none⟩ = some (.int .i64 H) := by subst hV; simp
  have v0_2 : V.cell? ⟨w.heap.size, 2, none⟩ = some (.int .i64 X) := by subst hV; simp
  have K : Hid (∀ w', Below V.heap.size V w' → Below V.heap.size V w' ∧ w'.cell? ⟨w.heap.size, 0, none⟩ = some (.int .i64 W) ∧ w'.cell? ⟨w.heap.size, 1, none⟩ = some (.int .i64 H) ∧ w'.cell? ⟨w.heap.size, 2, none⟩ = some (.int .i64 X)) := fun w' hB => ⟨hB, bel_cell hB z0 v0_0, bel_cell hB z0 v0_1, bel_cell hB z0 v0_2⟩
  have ZV : Hid (w.heap.size + 1 = V.heap.size) := by subst hV; unfold Hid; simp
  clear hV
  have HV : Hid (w.heap.size ≤ V.heap.size) := v0.size
  refine wpList_make_full _ rfl _ _ 91 rfl V.heap.size 4 i0 (.bool false) 1 Try.underlying91 hi hz0 hz1 .i64 .i64 _ _ (cells2 W H) rfl rfl hE hE (by rw [hz2]; omega) (by simp only [maxLen]; omega) (Nat.le_refl _) ?_
  intro w4 hS hg4
  rw [made_marks] at hS
  have hV := (Below.refl V.heap.size V).grown hg4 (Nat.le_refl _) (fun _ h => by cases h)
  have d0 := bel_cell hV z0 v0_0
  have d1 := bel_cell hV z0 v0_1
  have d2 := bel_cell hV z0 v0_2
  go_wp2_with fail
  refine (spec_LinesOf _ _ _ _).mono ?_
  rintro e w5 ⟨D, cD, rfl, hL, hb5⟩
  replace hS := own_below hS hb5
  replace hV := below_step hV hb5
  have hc4 := (hS.cellAt p.toNat (by omega)).trans (bools_get (marksOf_get hpn))
  have hf4 := hS.frozenAt p.toNat
  clear d0 d1 d2
  have hL5 := own_lower (lo' := 0) hL (Nat.zero_le _)
  have hS5 := (hS.stored p.toNat (.bool true)).1
  rw [marksOf_set hpn] at hS5
  have hV5 := hV.setCell (p := ⟨V.heap.size, p.toNat, none⟩) (Nat.le_refl _) (.bool true)
  have hL6' := hL5.kept (hS.stored p.toNat (.bool true)).2 (own_types hL5 hS (by decide))
  have hT0 : spreadAt W H X true p 0 = [p.toNat] := rfl
  have hO := made1 hV5 p
  have hS6 := own_alloc hS5 (.cells #[.int .i64 p] 3)
  have hL6 := own_alloc hL6' (.cells #[.int .i64 p] 3)
  have hV6 := below_alloc hV5 (.cells #[.int .i64 p] 3)
  clear hL hL5 hL6'
  go_wp2_with fail
  go_loopw [9, 10] (fun v i wr => ∃ k : Nat, i = .int .i64 k ∧ k ≤ (spreadAt W H X true p k).length ∧ wr.ownsRow V.heap.size 3 1 v (spreadAt W H X true p k).length (ints (toInts (spreadAt W H X true p k))) ∧ wr.ownsRow V.heap.size 4 1 (.slice (some ⟨V.heap.size, 0, none⟩) (cells2 W H) (cells2 W H)) (cells2 W H) (bools (marksOf (cells2 W H) (spreadAt W H X true p k))) ∧ wr.ownsRow 0 46 3 (.slice D (linesOf W H X).length cD) (linesOf W H X).length (ints (lflat (linesOf W H X))) ∧ Below V.heap.size V wr) (fun _ i _ => cells2 W H - (intOf i).toNat)
  case atStart => exact ⟨0, rfl, Nat.zero_le _, (by rw [hT0]; simpa [toInts, hps] using hO), (by rw [hT0]; exact hS6), hL6, hV6⟩
  case round =>
    clear hS5 hV5 hO hS6 hL6 hV6 hT0 hS hV hc4 hf4 hg4
    obtain ⟨k, rfl, hk, hown, hS, hL, hbel⟩ := hrel
    obtain ⟨A, cA, rfl⟩ := own_shape hown
    have hkn := spreadAt_len (back := true) h2 k
    by_cases hlt : k < (spreadAt W H X true p k).length
    · obtain ⟨x, hx⟩ : ∃ x, (spreadAt W H X true p k)[k]? = some x := ⟨_, List.getElem?_eq_getElem hlt⟩
      have HX := Lib.hid hx
      clear hx
      go_wp2
      go_loopw [9, 11] (fun v i wr => ∃ m : Nat, m ≤ (linesOf W H X).length ∧ i = .int .i64 m ∧ wr.ownsRow V.heap.size 3 1 v (stepLs true x (spreadAt W H X true p k) ((linesOf W H X).take m)).length (ints (toInts (stepLs true x (spreadAt W H X true p k) ((linesOf W H X).take m)))) ∧ wr.ownsRow V.heap.size 4 1 (.slice (some ⟨V.heap.size, 0, none⟩) (cells2 W H) (cells2 W H)) (cells2 W H) (bools (marksOf (cells2 W H) (stepLs true x (spreadAt W H X true p k) ((linesOf W H X).take m)))) ∧ wr.ownsRow 0 46 3 (.slice D (linesOf W H X).length cD) (linesOf W H X).length (ints (lflat (linesOf W H X))) ∧ Below V.heap.size V wr) (fun _ i _ => (linesOf W H X).length - (intOf i).toNat)
      case atStart => exact ⟨0, Nat.zero_le _, rfl, hown, hS, hL, hbel⟩
      case round =>
        clear hown hS hL hbel
        obtain ⟨m, hm, rfl, hown, hS, hL, hbel⟩ := hrel
        obtain ⟨A, cA, rfl⟩ := own_shape hown
        by_cases hml : m < (linesOf W H X).length
        · obtain ⟨⟨f, o, t⟩, hl⟩ : ∃ l, (linesOf W H X)[m]? = some l := ⟨_, List.getElem?_eq_getElem hml⟩
          have HF := Lib.hid (lines_facts (List.mem_of_getElem? hl)).small
          have f0 := HF.out.f0
          have f1 := HF.out.f1
          have o0 := HF.out.o0
          have o1 := HF.out.o1
          have t0 := HF.out.t0
          have t1 := HF.out.t1
          have hxc := spreadAt_lt h2 true k x (List.mem_of_getElem? HX.out)
          have hxl : x < 562949953421312 := by omega
          have hlen := part_len (m := m) h2 HX.out
          have hgl : goTo x (f, o, t) < 562949953421312 := goTo_lt HF.out hxl
          have hxo : bits .xor .i64 (x : Int) ((lineBits (f, o, t) : Nat) : Int) = ((goTo x (f, o, t) : Nat) : Int) := nat_xor hxl (lineBits_lt HF.out)
          have hkp := keep_at (back := true) ((linesOf W H X).take m) HX.out
          have hkl : k < (stepLs true x (spreadAt W H X true p k) ((linesOf W H X).take m)).length := (List.getElem?_eq_some_iff.1 hkp).1
          obtain ⟨b, off, rfl, e1⟩ := FAt_of_own hown _ _ (toInts_at hkp)
          have hFL := FAt_of_own hL
          obtain ⟨c1, c2, c3⟩ := lflat_get hl
          obtain ⟨bl, offl, rfl, l1⟩ := hFL _ _ c1
          obtain ⟨_, _, e2, l2⟩ := hFL _ _ c2
          injection e2 with e2; injection e2 with e3 e4; subst e3 e4
          obtain ⟨_, _, e2, l3⟩ := hFL _ _ c3
          injection e2 with e2; injection e2 with e3 e4; subst e3 e4
          rw [← Nat.add_assoc] at l2 l3
          have HL := Lib.hid hl
          clear hl hkp c1 c2 c3 hFL
          go_wp2_with fail
          refine (spec_l05Bits _ _ _ _ HF.out).mono ?_
          rintro e w5 ⟨rfl, hw5⟩
          have g1 := bel_cell hw5 (cellb_lt l1) l1
          have g2 := bel_cell hw5 (cellb_lt l2) l2
          have g3 := bel_cell hw5 (cellb_lt l3) l3
          have g4 := bel_cell hw5 (cellb_lt e1) e1
          clear e1 l1 l2 l3
          replace hS := own_below hS hw5
          replace hown := own_below hown hw5
          replace hL := own_below hL hw5
          replace hbel := below_step hbel hw5
          clear hw5
          cases hcg : canGo true x (f, o, t)
          · have HN := Lib.hid (foldTo_no (t := spreadAt W H X true p k) HL.out hcg)
            have hcond := cond_true HF.out hxl hcg
            clear hcg
            go_wp2_with fail
            go_quiet (fail)
            go_wp2
            go_roundw
            case rel => exact ⟨m + 1, by omega, by go_num, by rw [HN.out]; exact own_drewN hown _, by rw [HN.out]; exact own_drewN hS _, own_drewN hL _, below_drewN hbel _⟩
            case measure => simp [intOf]; omega
          · have hqn : goTo x (f, o, t) < cells2 W H := part_lt (m := m + 1) h2 HX.out _ (by rw [foldTo HL.out]; unfold stepL; rw [if_pos hcg]; exact visit_mem _ _)
            have hcond := cond_true HF.out hxl hcg
            by_cases hmem : goTo x (f, o, t) ∈ stepLs true x (spreadAt W H X true p k) ((linesOf W H X).take m)
            · have HN := Lib.hid (foldTo_old (t := spreadAt W H X true p k) HL.out hmem)
              have s1 := (hS.cellAt (goTo x (f, o, t)) (by omega)).trans (bools_get (marksOf_get hqn))
              rw [decide_eq_true hmem] at s1
              clear hcg
              go_wp2_with fail
              go_quiet (fail)
              go_wp2
              go_roundw
              case rel => exact ⟨m + 1, by omega, by go_num, by rw [HN.out]; exact own_drewN hown _, by rw [HN.out]; exact own_drewN hS _, own_drewN hL _, below_drewN hbel _⟩
              case measure => simp [intOf]; omega
            · have HN := Lib.hid (foldTo_new (t := spreadAt W H X true p k) HL.out hcg hmem)
              have s1 := (hS.cellAt (goTo x (f, o, t)) (by omega)).trans (bools_get (marksOf_get hqn))
              rw [decide_eq_false hmem] at s1
              have s2 := hS.frozenAt (goTo x (f, o, t))
              have hgS := (hS.stored (goTo x (f, o, t)) (.bool true)).2
              have hS7 := (hS.stored (goTo x (f, o, t)) (.bool true)).1
              rw [marksOf_set hqn] at hS7
              have hown7 := hown.kept hgS (own_types hown hS (by decide))
              have hL7 := hL.kept hgS (own_types hL hS (by decide))
              have HSZ : Hid ((w5.setCell ⟨V.heap.size, goTo x (f, o, t), none⟩ (.bool true)).heap.size = w5.heap.size) := by unfold Hid; simp
              have hbel7 := hbel.setCell (p := ⟨V.heap.size, goTo x (f, o, t), none⟩) (Nat.le_refl _) (.bool true)
              clear hcg
              go_wp2_with fail
              go_quiet (fail)
              have hown8 := own_drewN hown7 nq
              have hbel8 : Below V.heap.size V ((w5.drewN nq).setCell ⟨V.heap.size, goTo x (f, o, t), none⟩ (.bool true)) := below_drewN hbel7 nq
              go_wp2_with (at_builtin; refine append_intg Try.underlying56 V _ rfl _ _ rfl _ _ _ ((goTo x (f, o, t) : Nat) : Int) (by rfl) hown8 (by first | rfl | (rw [HSZ.out]; rfl) | (simp [Act.eval]; done)) (by omega) hbel8 ?_; intro v' w' hown' hbel' hgrow')
              go_roundw
              case rel => exact ⟨m + 1, by omega, by go_num, by rw [HN.out, toInts_append, List.length_append]; exact hown', by rw [HN.out]; exact (own_alloc (w := (w5.drewN nq).setCell ⟨V.heap.size, goTo x (f, o, t), none⟩ (.bool true)) hS7 _).kept hgrow' (own_types hS7 hown7 (by decide)), (own_alloc (w := (w5.drewN nq).setCell ⟨V.heap.size, goTo x (f, o, t), none⟩ (.bool true)) hL7 _).kept hgrow' (own_types hL7 hown7 (by decide)), hbel'⟩
              case measure => simp [intOf]; omega
        · obtain rfl : m = (linesOf W H X).length := by omega
          have HA := Lib.hid (part_all HX.out)
          go_wp2
          go_roundw
          case rel =>
            have hle := (spreadTo_prefix (back := true) (ls := linesOf W H X) (s := p.toNat) k).length_le
            have hlt1 : k < (spreadAt W H X true p (k + 1)).length := Nat.lt_of_lt_of_le hlt hle
            exact ⟨k + 1, by go_num, hlt1, by rw [← HA.out]; exact hown, by rw [← HA.out]; exact hS, hL, hbel⟩
          case measure => simp [intOf]; omega
    · have HFIN := Lib.hid (seen_final h1 h2 (Nat.le_of_not_lt hlt))
      have hlen := congrArg List.length HFIN.out
      rw [marksOf_len] at hlen
      rw [HFIN.out] at hS
      have HLN := Lib.hid hlen.symm
      have FIN : Hid (wr.ownsRow V.heap.size 4 1 (.slice (some ⟨V.heap.size, 0, none⟩) (seenB W H X true p).length (cells2 W H)) (seenB W H X true p).length (bools (seenB W H X true p))) := by
        show wr.ownsRow _ _ _ _ _ _
        rw [← hlen]; exact hS
      clear hlen hS
      go_wp2
      go_ret
      exact ⟨some ⟨V.heap.size, 0, none⟩, cells2 W H, by rw [HLN.out]; rfl, own_lower FIN.out HV.out, below_step v0 hbel⟩
end Go.Proofs.Ytianfakgojmnpaa
