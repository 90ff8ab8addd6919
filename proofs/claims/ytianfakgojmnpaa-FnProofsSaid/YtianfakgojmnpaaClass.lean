/- Classes of holes, keys, final holes: contracts. -/
import Derived.Test.YtianfakgojmnpaaKeyQ
import Derived.Test.YtianfakgojmnpaaDrawW
import Derived.Test.YtianfakgojmnpaaHeld
import Derived.BigQuiet
import Derived.Deep.QuietTactic
namespace Go.Proofs.Ytianfakgojmnpaa
open Go.RowKit

def cnt (W : Int) (j : Nat) (l : List Nat) : Int := (l.map (clsAt W j)).sum
theorem cnt_snoc (W : Int) (j : Nat) {l : List Nat} {k h : Nat} (hk : l[k]? = some h) : cnt W j (l.take (k + 1)) = cnt W j (l.take k) + clsAt W j h := by
  unfold cnt; rw [List.take_add_one, hk]; simp
theorem clsP_cnt (W : Int) (p j : Nat) : clsP W p j = cnt W j (bitsTo p 49) % 2 := rfl
/-- one more peg: two classes change -/
theorem cls_round {W : Int} {L : List Nat} {k h c d : Nat} {zs : List Int} {y z : Int} (hk : L[k]? = some h) (hz : ∀ j, j < 6 → zs[j]? = some (cnt W j (L.take k) % 2)) (hl : zs.length = 6)
    (hc : ((h : Int) % W + (h : Int) / W) % 3 = c) (hd : ((h : Int) % W + 2 * ((h : Int) / W)) % 3 = (d : Int) - 3) (c3 : c < 3) (d3 : 3 ≤ d) (d6 : d < 6) (hy : zs[c]? = some y) (hw : zs[d]? = some z) :
    ∀ j, j < 6 → ((zs.set c (1 - y)).set d (1 - z))[j]? = some (cnt W j (L.take (k + 1)) % 2) := by
  intro j hj
  rw [cnt_snoc W j hk]
  have h0 := hz j hj
  have e1 := hz c (by omega)
  have e2 := hz d (by omega)
  rw [hy] at e1
  rw [hw] at e2
  injection e1 with e1
  injection e2 with e2
  by_cases jd : j = d
  · subst jd
    rw [List.getElem?_set_self (by simp; omega)]
    have : clsAt W j h = 1 := by unfold clsAt; rw [if_neg (by omega), if_pos hd]
    rw [this]; congr 1; omega
  · rw [List.getElem?_set_ne (fun e => jd e.symm)]
    by_cases jc : j = c
    · subst jc
      rw [List.getElem?_set_self (by omega)]
      have : clsAt W j h = 1 := by unfold clsAt; rw [if_pos c3, if_pos hc]
      rw [this]; congr 1; omega
    · rw [List.getElem?_set_ne (fun e => jc e.symm), h0]
      have : clsAt W j h = 0 := by
        unfold clsAt
        split
        · rw [if_neg (by omega)]
        · rw [if_neg (by omega)]
      rw [this, Int.add_zero]
def clsL (W : Int) (p : Nat) : List Int := [clsP W p 0, clsP W p 1, clsP W p 2, clsP W p 3, clsP W p 4, clsP W p 5]
theorem clsL_of {W : Int} {p : Nat} {zs : List Int} (hl : zs.length = 6) (hz : ∀ j, j < 6 → zs[j]? = some (cnt W j ((bitsTo p 49).take (bitsTo p 49).length) % 2)) : zs = clsL W p := by
  apply List.ext_getElem?
  intro j
  by_cases hj : j < 6
  · rw [hz j hj, List.take_length, ← clsP_cnt]
    unfold clsL
    match j, hj with
    | 0, _ => rfl
    | 1, _ => rfl
    | 2, _ => rfl
    | 3, _ => rfl
    | 4, _ => rfl
    | 5, _ => rfl
    | n + 6, h => omega
  · rw [List.getElem?_eq_none (by omega), List.getElem?_eq_none (by simp [clsL]; omega)]
theorem made_zeros (n : Nat) : (madeCells (Value.int .i64 0).cells (n * 1)).toList = ints (List.replicate n 0) := by
  apply List.ext_getElem?
  intro j
  by_cases hj : j < n
  · simp [madeCells, Value.cells, hj, Nat.mod_one, ints]
  · rw [List.getElem?_eq_none (by simp [size_madeCells]; omega), List.getElem?_eq_none (by simp [ints]; omega)]
theorem made4 {w : World} {lo : Nat} (h : lo ≤ w.heap.size) (a b c d : Int) : (w.alloc (.cells #[.int .i64 a, .int .i64 b, .int .i64 c, .int .i64 d] 3)).ownsRow lo 3 1 (.slice (some ⟨w.heap.size, 0, none⟩) 4 4) 4 (ints [a, b, c, d]) :=
  ⟨by simp [ints], .inr ⟨w.heap.size, 4, #[.int .i64 a, .int .i64 b, .int .i64 c, .int .i64 d], rfl, h, heap_alloc_new w _, Nat.le_refl _, by simp [maxLen], rfl, by simp [ints]⟩⟩
theorem beq_dec (m n : Int) : (m == n) = decide (m = n) := by by_cases h : m = n <;> simp [h]
theorem calls_isK {P : Program} {f : FuncId} {args : Array Value} {w : World} {a b : Int} {R : World → Prop} (h : Calls P f args w fun e w' => e = .returned (.int .i64 a) ∧ R w') (e1 : a = b) :
    Calls P f args w fun e w' => e = .returned (.int .i64 b) ∧ R w' := by subst e1; exact h
set_option maxHeartbeats 1000000 in
theorem laws_has (A : Option Addr) (cap : Nat) (zs : List Int) (x : Int) (w : World) (hA : FAt w A zs) (hn : zs.length ≤ 4294967296) :
    Calls Try.prog 39 #[.slice A zs.length cap, .int .i64 x] w fun e w' => e = .returned (.bool (decide (x ∈ zs))) ∧ w = w' := by
  go_enter Try.func39, Try.ntmps39
  go_wp2
  go_loopw [5] (fun i wr => ∃ k : Nat, k ≤ zs.length ∧ i = .int .i64 k ∧ x ∉ zs.take k ∧ w = wr) (fun i _ => zs.length - (intOf i).toNat)
  case atStart => exact ⟨0, Nat.zero_le _, rfl, by simp, rfl⟩
  case round =>
    obtain ⟨k, hk, rfl, hx, rfl⟩ := hrel
    by_cases hlt : k < zs.length
    · obtain ⟨z, hz⟩ : ∃ z, zs[k]? = some z := ⟨_, List.getElem?_eq_getElem hlt⟩
      obtain ⟨b, off, rfl, hc⟩ := hA _ _ hz
      have HZ := Lib.hid hz
      clear hz
      by_cases e : z = x
      · have hm : decide (x ∈ zs) = true := by rw [decide_eq_true_eq]; exact e ▸ List.mem_of_getElem? HZ.out
        have e1 : (z == x) = true := by simp [e]
        go_wp2
        go_ret
        exact ⟨ret_bool (by rw [hm]), rfl⟩
      · have e1 : (z == x) = false := by simp [e]
        go_wp2
        go_roundw
        case rel => exact ⟨k + 1, by omega, by go_num, by rw [List.take_add_one, HZ.out]; simp [hx]; exact fun h => e h.symm, by first | rfl | trivial⟩
        case measure => simp [intOf]; omega
    · obtain rfl : k = zs.length := by omega
      have hm : decide (x ∈ zs) = false := by rw [decide_eq_false_iff_not]; rw [List.take_length] at hx; exact hx
      go_wp2
      go_ret
      exact ⟨ret_bool (by rw [hm]), rfl⟩
theorem spec_l07Differ (a b : Int) (w : World) : Calls Try.prog 145 #[.int .i64 a, .int .i64 b] w fun e w' => e = .returned (.int .i64 (differ a b)) ∧ w = w' := by
  by_cases h : a = b
  · subst h
    have e : differ a a = 0 := by simp [differ]
    rw [e]
    go_enter Try.func145, Try.ntmps145
    go_wp2
    go_ret
    exact ⟨rfl, rfl⟩
  · have e : differ a b = 1 := by unfold differ; rw [if_neg h]
    rw [e]
    have e1 : (a == b) = false := by simp [h]
    go_enter Try.func145, Try.ntmps145
    go_wp2
    go_ret
    exact ⟨rfl, rfl⟩
set_option maxHeartbeats 1000000 in
theorem spec_ClassOf_no (W H X p : Int) (w : World) (hp : p ≤ 9223372036854775807) (h1 : positionOk W H X p = false) :
    Calls Try.prog 144 #[.agg #[.int .i64 W, .int .i64 H, .int .i64 X], .int .i64 p] w (RetOwn 3 1 w 0 []) := by
  go_enter Try.func144, Try.ntmps144
  go_wp2_with fail
  refine (calls_is (spec_PositionOk _ _ _ _ _ hp) h1).mono ?_
  rintro e w1 ⟨rfl, hb1⟩
  go_wp2
  exact bodyPost_ret (v := .slice (some ⟨w1.heap.size, 0, none⟩) 0 0) (by simp [results, Try.results144, go_sem]) rfl ⟨_, _, rfl, own_lower (made0s (V := w1) (s := 1) 3 rfl) (by have := hb1.size; simp at this; omega), by (repeat (first | exact Below.refl _ _ | assumption | refine below_step ?_ (by assumption) | refine below_alloc ?_ _ | refine below_drewN ?_ _ | refine Below.drew ?_ | refine Below.setCell ?_ (by first | (simp; done) | omega | (simp; omega)) _))⟩
set_option maxRecDepth 100000 in
set_option maxHeartbeats 4000000 in
theorem spec_ClassOf_yes (W H X p : Int) (w : World) (hp : p ≤ 9223372036854775807) (h1 : positionOk W H X p = true) :
    Calls Try.prog 144 #[.agg #[.int .i64 W, .int .i64 H, .int .i64 X], .int .i64 p] w (RetOwn 3 1 w 6 (clsL W p.toNat)) := by
  have F := boardOk_facts (positionOk_facts h1).b
  have hp0 := (positionOk_facts h1).p0
  have fw1 := F.w1
  have fw2 := F.w2
  go_enter Try.func144, Try.ntmps144
  go_wp2_with fail
  generalize hV : w.alloc (.cells #[.int .i64 W, .int .i64 H, .int .i64 X] 44) = V
  have Bd : Cells3 V w.heap.size W H X := by subst hV; exact new3
  have v0 : Below w.heap.size w V := by subst hV; (repeat (first | exact Below.refl _ _ | assumption | refine below_step ?_ (by assumption) | refine below_alloc ?_ _ | refine below_drewN ?_ _ | refine Below.drew ?_ | refine Below.setCell ?_ (by first | (simp; done) | omega | (simp; omega)) _))
  clear hV
  refine (calls_is (spec_PositionOk _ _ _ _ _ hp) h1).mono ?_
  rintro e w1 ⟨rfl, hb1⟩
  replace Bd := Bd.below hb1
  replace v0 := below_step v0 hb1
  clear hb1
  obtain ⟨i0, hi, hz0, hz1, hz2⟩ := info_parts int_info
  go_wp2_with (at_make; refine Hid.out ?_)
  refine Lib.hid ?_
  refine wpList_make_full _ rfl _ _ 56 rfl w1.heap.size 3 i0 (.int .i64 0) 1 Try.underlying56 hi hz0 hz1 .i64 .i64 _ _ 6 rfl rfl rfl rfl (by rw [hz2]; omega) (by simp only [maxLen]; omega) (Nat.le_refl _) ?_
  intro w2 hS hg2
  rw [made_zeros] at hS
  replace hS : w2.ownsRow w1.heap.size 3 1 (.slice (some ⟨w1.heap.size, 0, none⟩) 6 6) 6 (ints [0, 0, 0, 0, 0, 0]) := hS
  have hGs : w.heap.size < w1.heap.size := Bd.1
  have hb2 : Below w1.heap.size w1 w2 := (Below.refl w1.heap.size w1).grown hg2 (Nat.le_refl _) (fun _ h => by cases h)
  have hG2 := (hS.lt w1.heap.size rfl).2
  have hGw := v0.size
  replace Bd := Bd.below hb2
  replace v0 := below_step v0 hb2
  clear hg2 hb2 hi hz0 hz1 hz2
  go_wp2_with fail
  refine (spec_l02List p _ hp0 hp).mono ?_
  rintro e w3 ⟨A, c, rfl, oL, hb3⟩
  replace hS := own_below hS hb3
  replace Bd := Bd.below hb3
  replace v0 := below_step v0 hb3
  clear hb3
  have hln := bitsTo_le p.toNat 49
  have hlm : ∀ h, h ∈ bitsTo p.toNat 49 → h < 49 := fun h hh => (bitsTo_mem.1 hh).1
  obtain ⟨L, hL⟩ : ∃ L, bitsTo p.toNat 49 = L := ⟨_, rfl⟩
  have HL := Lib.hid hL
  rw [hL] at oL hln hlm ⊢
  clear hL
  go_wp2
  go_loopw [7] (fun s7 wr => ∃ (k : Nat) (zs : List Int), k ≤ L.length ∧ s7 = .int .i64 k ∧ zs.length = 6 ∧ (∀ j, j < 6 → zs[j]? = some (cnt W j (L.take k) % 2)) ∧ wr.ownsRow w1.heap.size 3 1 (.slice (some ⟨w1.heap.size, 0, none⟩) 6 6) 6 (ints zs) ∧ wr.ownsRow w2.heap.size 3 1 (.slice A L.length c) L.length (ints (toInts L)) ∧ Cells3 wr w.heap.size W H X ∧ Below w.heap.size w wr) (fun s7 _ => L.length - (intOf s7).toNat)
  case atStart => exact ⟨0, [0, 0, 0, 0, 0, 0], Nat.zero_le _, rfl, rfl, by intro j hj; match j, hj with | 0, _ => simp [cnt] | 1, _ => simp [cnt] | 2, _ => simp [cnt] | 3, _ => simp [cnt] | 4, _ => simp [cnt] | 5, _ => simp [cnt] | n + 6, h => omega, hS, oL, Bd, v0⟩
  case round =>
    clear hS oL Bd v0
    obtain ⟨k, zs, hk, rfl, hzl, hz, hS, oL, Bd, hbel⟩ := hrel
    by_cases hlt : k < L.length
    · obtain ⟨h, hh⟩ : ∃ h, L[k]? = some h := ⟨_, List.getElem?_eq_getElem hlt⟩
      have hh49 := hlm h (List.mem_of_getElem? hh)
      have hF := FAt_of_own oL
      obtain ⟨b, off, rfl, l1⟩ := hF _ _ (toInts_at hh)
      obtain ⟨hbs, ⟨b0, b1, b2⟩, hfz⟩ := id Bd
      obtain ⟨m1, m2⟩ := mod_bd (j := (h : Int)) fw1
      obtain ⟨m3, m4⟩ := div_bd (j := (h : Int)) fw1 (by omega)
      obtain ⟨c1, hc1⟩ : ∃ c1 : Nat, ((h : Int) % W + (h : Int) / W) % 3 = c1 := ⟨(((h : Int) % W + (h : Int) / W) % 3).toNat, by omega⟩
      obtain ⟨d1, hd1⟩ : ∃ d1 : Nat, 3 + ((h : Int) % W + 2 * ((h : Int) / W)) % 3 = d1 := ⟨(3 + ((h : Int) % W + 2 * ((h : Int) / W)) % 3).toNat, by omega⟩
      have c3 : c1 < 3 := by omega
      have d3 : 3 ≤ d1 ∧ d1 < 6 := by omega
      obtain ⟨y, hy⟩ : ∃ y, zs[c1]? = some y := ⟨_, List.getElem?_eq_getElem (by omega)⟩
      obtain ⟨z, hzd⟩ : ∃ z, zs[d1]? = some z := ⟨_, List.getElem?_eq_getElem (by omega)⟩
      have hy01 : 0 ≤ y ∧ y ≤ 1 := by have := hz c1 (by omega); rw [hy] at this; injection this with this; omega
      have hz01 : 0 ≤ z ∧ z ≤ 1 := by have := hz d1 (by omega); rw [hzd] at this; injection this with this; omega
      have HN := Lib.hid (cls_round hh hz hzl hc1 (by omega) c3 d3.1 d3.2 hy hzd)
      have k1 : wr.cell? ⟨w1.heap.size, c1, none⟩ = some (.int .i64 y) := (hS.cellAt c1 (by omega)).trans (by simp [ints, hy])
      have k2 : wr.cell? ⟨w1.heap.size, d1, none⟩ = some (.int .i64 z) := (hS.cellAt d1 (by omega)).trans (by simp [ints, hzd])
      have kf1 : wr.frozen? ⟨w1.heap.size, c1, none⟩ = false := hS.frozenAt c1
      have kf2 : wr.frozen? ⟨w1.heap.size, d1, none⟩ = false := hS.frozenAt d1
      obtain ⟨x, hx⟩ : ∃ x, (h : Int) % W = x := ⟨_, rfl⟩
      obtain ⟨v, hv⟩ : ∃ v, (h : Int) / W = v := ⟨_, rfl⟩
      rw [hx, hv] at hc1 hd1
      rw [hx] at m1 m2
      rw [hv] at m3 m4
      have hbl := World.block_lt_of_cell? wr _ l1
      clear hF hz hh hy hzd
      go_wp2_with fail
      go_quiet (fail)
      go_wp2_with fail
      go_quiet (fail)
      go_wp2
      go_roundw
      case rel =>
        rename_i n1
        have hB : Below wr.heap.size wr (wr.drewN (n1 + nq)) := by (repeat (first | exact Below.refl _ _ | assumption | refine below_step ?_ (by assumption) | refine below_alloc ?_ _ | refine below_drewN ?_ _ | refine Below.drew ?_ | refine Below.setCell ?_ (by first | (simp; done) | omega | (simp; omega)) _))
        have hS1 := (own_below hS hB).stored c1 (.int .i64 (1 - y))
        have hS2 := hS1.1.stored d1 (.int .i64 (1 - z))
        refine ⟨k + 1, (zs.set c1 (1 - y)).set d1 (1 - z), by omega, by go_num, by simp [hzl], HN.out, ?_, own_setW (own_setW (own_below oL hB) hG2) hG2, (Bd.other (by omega)).other (by omega), ?_⟩
        · rw [← ints_setW, ← ints_setW]; exact hS2.1
        · exact (Below.setCell (Below.setCell (below_step hbel hB) (by simp only; omega) _) (by simp only; omega) _)
      case measure => simp [intOf]; omega
    · obtain rfl : k = L.length := by omega
      have hzz : zs = clsL W p.toNat := clsL_of hzl (by rw [HL.out]; exact hz)
      subst hzz
      go_wp2
      exact bodyPost_ret (v := .slice (some ⟨w1.heap.size, 0, none⟩) 6 6) (by simp [results, Try.results144, go_sem]) rfl ⟨_, _, rfl, own_lower hS hGw, hbel⟩
def keyL (W : Int) (p : Nat) : List Int := [differ (clsP W p 0) (clsP W p 1), differ (clsP W p 1) (clsP W p 2), differ (clsP W p 3) (clsP W p 4), differ (clsP W p 4) (clsP W p 5)]
set_option maxHeartbeats 1000000 in
theorem spec_KeyOf_no (W H X p : Int) (w : World) (hp : p ≤ 9223372036854775807) (h1 : positionOk W H X p = false) :
    Calls Try.prog 138 #[.agg #[.int .i64 W, .int .i64 H, .int .i64 X], .int .i64 p] w (RetOwn 3 1 w 0 []) := by
  go_enter Try.func138, Try.ntmps138
  go_wp2_with fail
  refine (spec_ClassOf_no _ _ _ _ _ hp h1).mono ?_
  rintro e w1 ⟨A, c, rfl, oC, hb1⟩
  go_wp2
  exact bodyPost_ret (v := .slice (some ⟨w1.heap.size, 0, none⟩) 0 0) (by simp [results, Try.results138, go_sem]) rfl ⟨_, _, rfl, own_lower (made0s (V := w1) (s := 1) 3 rfl) (by have := hb1.size; simp at this; omega), by (repeat (first | exact Below.refl _ _ | assumption | refine below_step ?_ (by assumption) | refine below_alloc ?_ _ | refine below_drewN ?_ _ | refine Below.drew ?_ | refine Below.setCell ?_ (by first | (simp; done) | omega | (simp; omega)) _))⟩
set_option maxRecDepth 100000 in
set_option maxHeartbeats 4000000 in
theorem spec_KeyOf_yes (W H X p : Int) (w : World) (hp : p ≤ 9223372036854775807) (h1 : positionOk W H X p = true) :
    Calls Try.prog 138 #[.agg #[.int .i64 W, .int .i64 H, .int .i64 X], .int .i64 p] w (RetOwn 3 1 w 4 (keyL W p.toNat)) := by
  go_enter Try.func138, Try.ntmps138
  go_wp2_with fail
  generalize hV : w.alloc (.cells #[.int .i64 W, .int .i64 H, .int .i64 X] 44) = V
  have v0 : Below w.heap.size w V := by subst hV; (repeat (first | exact Below.refl _ _ | assumption | refine below_step ?_ (by assumption) | refine below_alloc ?_ _ | refine below_drewN ?_ _ | refine Below.drew ?_ | refine Below.setCell ?_ (by first | (simp; done) | omega | (simp; omega)) _))
  clear hV
  refine (spec_ClassOf_yes _ _ _ _ _ hp h1).mono ?_
  rintro e w1 ⟨A, c, rfl, oC, hb1⟩
  replace v0 := below_step v0 hb1
  obtain ⟨G, cap, e, _⟩ := own_formW oC (by decide)
  injection e with e1 e2 e3
  subst e1 e3
  have hGl : G < w1.heap.size := (oC.lt G rfl).2
  have E : Hid (∃ a0 a1 a2 a3 a4 a5, keyL W p.toNat = [differ a0 a1, differ a1 a2, differ a3 a4, differ a4 a5] ∧ clsL W p.toNat = [a0, a1, a2, a3, a4, a5]) := ⟨_, _, _, _, _, _, rfl, rfl⟩
  obtain ⟨a0, a1, a2, a3, a4, a5, E1, E2⟩ := E.out
  rw [E2] at oC
  have HE := Lib.hid E1
  clear E E1 E2 e2 hb1
  have g0 : w1.cell? ⟨G, 0, none⟩ = some (.int .i64 a0) := (oC.cellAt 0 (by omega)).trans rfl
  have g1 : w1.cell? ⟨G, 1, none⟩ = some (.int .i64 a1) := (oC.cellAt 1 (by omega)).trans rfl
  have g2 : w1.cell? ⟨G, 2, none⟩ = some (.int .i64 a2) := (oC.cellAt 2 (by omega)).trans rfl
  have g3 : w1.cell? ⟨G, 3, none⟩ = some (.int .i64 a3) := (oC.cellAt 3 (by omega)).trans rfl
  have g4 : w1.cell? ⟨G, 4, none⟩ = some (.int .i64 a4) := (oC.cellAt 4 (by omega)).trans rfl
  have g5 : w1.cell? ⟨G, 5, none⟩ = some (.int .i64 a5) := (oC.cellAt 5 (by omega)).trans rfl
  have K : Hid (∀ w', Below w1.heap.size w1 w' → Below w1.heap.size w1 w' ∧ w'.cell? ⟨G, 0, none⟩ = some (.int .i64 a0) ∧ w'.cell? ⟨G, 1, none⟩ = some (.int .i64 a1) ∧ w'.cell? ⟨G, 2, none⟩ = some (.int .i64 a2) ∧ w'.cell? ⟨G, 3, none⟩ = some (.int .i64 a3) ∧ w'.cell? ⟨G, 4, none⟩ = some (.int .i64 a4) ∧ w'.cell? ⟨G, 5, none⟩ = some (.int .i64 a5)) := fun w' hB => ⟨hB, bel_cell hB hGl g0, bel_cell hB hGl g1, bel_cell hB hGl g2, bel_cell hB hGl g3, bel_cell hB hGl g4, bel_cell hB hGl g5⟩
  have hB1 := Below.refl w1.heap.size w1
  clear g0 g1 g2 g3 g4 g5 oC
  go_wp2_with fail
  refine wp_region_held_drew (S := (fun w' => Below w1.heap.size w1 w' ∧ w'.cell? ⟨G, 0, none⟩ = some (.int .i64 a0) ∧ w'.cell? ⟨G, 1, none⟩ = some (.int .i64 a1) ∧ w'.cell? ⟨G, 2, none⟩ = some (.int .i64 a2) ∧ w'.cell? ⟨G, 3, none⟩ = some (.int .i64 a3) ∧ w'.cell? ⟨G, 4, none⟩ = some (.int .i64 a4) ∧ w'.cell? ⟨G, 5, none⟩ = some (.int .i64 a5))) (by kernel_rfl) ?_ (fun hHd0 => ?_)
  · (refine K.out _ ?_; (repeat (first | exact Below.refl _ _ | assumption | refine below_step ?_ (by assumption) | refine below_alloc ?_ _ | refine below_drewN ?_ _ | refine Below.drew ?_ | refine Below.setCell ?_ (by first | (simp; done) | omega | (simp; omega)) _)))
  refine heldT (i := 0) rfl (by kernel_rfl) (by kernel_rfl) (by kernel_rfl) (fun _ _ _ h => h) (by rfl) (v := ?_) ?_ (by assumption) ?_
  rotate_left
  · (intro w hSw; (try dsimp only at hSw); go_simp; try (with_reducible rfl))
  (try simp only [Act.put, List.setIfInBounds_toArray, List.set_cons_zero, List.set_cons_succ])
  refine heldT (i := 1) rfl (by kernel_rfl) (by kernel_rfl) (by kernel_rfl) (fun _ _ _ h => h) (by rfl) (v := ?_) ?_ (by assumption) ?_
  rotate_left
  · (intro w hSw; (try dsimp only at hSw); go_simp; try (with_reducible rfl))
  (try simp only [Act.put, List.setIfInBounds_toArray, List.set_cons_zero, List.set_cons_succ])
  refine heldT (i := 2) rfl (by kernel_rfl) (by kernel_rfl) (by kernel_rfl) (fun _ _ _ h => h) (by rfl) (v := ?_) ?_ (by assumption) ?_
  rotate_left
  · (intro w hSw; (try dsimp only at hSw); go_simp; try (with_reducible rfl))
  (try simp only [Act.put, List.setIfInBounds_toArray, List.set_cons_zero, List.set_cons_succ])
  refine heldT (i := 3) rfl (by kernel_rfl) (by kernel_rfl) (by kernel_rfl) (fun _ _ _ h => h) (by rfl) (v := ?_) ?_ (by assumption) ?_
  rotate_left
  · (intro w hSw; (try dsimp only at hSw); go_simp; try (with_reducible rfl))
  (try simp only [Act.put, List.setIfInBounds_toArray, List.set_cons_zero, List.set_cons_succ])
  refine heldT (i := 4) rfl (by kernel_rfl) (by kernel_rfl) (by kernel_rfl) (fun _ _ _ h => h) (by rfl) (v := ?_) ?_ (by assumption) ?_
  rotate_left
  · (intro w hSw; (try dsimp only at hSw); go_simp; try (with_reducible rfl))
  (try simp only [Act.put, List.setIfInBounds_toArray, List.set_cons_zero, List.set_cons_succ])
  refine heldT (i := 5) rfl (by kernel_rfl) (by kernel_rfl) (by kernel_rfl) (fun _ _ _ h => h) (by rfl) (v := ?_) ?_ (by assumption) ?_
  rotate_left
  · (intro w hSw; (try dsimp only at hSw); go_simp; try (with_reducible rfl))
  (try simp only [Act.put, List.setIfInBounds_toArray, List.set_cons_zero, List.set_cons_succ])
  refine heldT (i := 7) rfl (by kernel_rfl) (by kernel_rfl) (by kernel_rfl) (fun _ _ _ h => h) (by rfl) (v := ?_) ?_ (by assumption) ?_
  rotate_left
  · (intro w hSw; (try dsimp only at hSw); go_simp; try (with_reducible rfl))
  (try simp only [Act.put, List.setIfInBounds_toArray, List.set_cons_zero, List.set_cons_succ])
  refine heldT (i := 8) rfl (by kernel_rfl) (by kernel_rfl) (by kernel_rfl) (fun _ _ _ h => h) (by rfl) (v := ?_) ?_ (by assumption) ?_
  rotate_left
  · (intro w hSw; (try dsimp only at hSw); go_simp; try (with_reducible rfl))
  (try simp only [Act.put, List.setIfInBounds_toArray, List.set_cons_zero, List.set_cons_succ])
  refine heldT (i := 9) rfl (by kernel_rfl) (by kernel_rfl) (by kernel_rfl) (fun _ _ _ h => h) (by rfl) (v := ?_) ?_ (by assumption) ?_
  rotate_left
  · (intro w hSw; (try dsimp only at hSw); go_simp; try (with_reducible rfl))
  (try simp only [Act.put, List.setIfInBounds_toArray, List.set_cons_zero, List.set_cons_succ])
  refine heldT (i := 10) rfl (by kernel_rfl) (by kernel_rfl) (by kernel_rfl) (fun _ _ _ h => h) (by rfl) (v := ?_) ?_ (by assumption) ?_
  rotate_left
  · (intro w hSw; (try dsimp only at hSw); go_simp; try (with_reducible rfl))
  (try simp only [Act.put, List.setIfInBounds_toArray, List.set_cons_zero, List.set_cons_succ])
  refine heldT (i := 11) rfl (by kernel_rfl) (by kernel_rfl) (by kernel_rfl) (fun _ _ _ h => h) (by rfl) (v := ?_) ?_ (by assumption) ?_
  rotate_left
  · (intro w hSw; (try dsimp only at hSw); go_simp; try (with_reducible rfl))
  (try simp only [Act.put, List.setIfInBounds_toArray, List.set_cons_zero, List.set_cons_succ])
  refine heldT (i := 12) rfl (by kernel_rfl) (by kernel_rfl) (by kernel_rfl) (fun _ _ _ h => h) (by rfl) (v := ?_) ?_ (by assumption) ?_
  rotate_left
  · (intro w hSw; (try dsimp only at hSw); go_simp; try (with_reducible rfl))
  (try simp only [Act.put, List.setIfInBounds_toArray, List.set_cons_zero, List.set_cons_succ])
  refine heldT (i := 14) rfl (by kernel_rfl) (by kernel_rfl) (by kernel_rfl) (fun _ _ _ h => h) (by rfl) (v := ?_) ?_ (by assumption) ?_
  rotate_left
  · (intro w hSw; (try dsimp only at hSw); go_simp; try (with_reducible rfl))
  (try simp only [Act.put, List.setIfInBounds_toArray, List.set_cons_zero, List.set_cons_succ])
  refine heldT (i := 15) rfl (by kernel_rfl) (by kernel_rfl) (by kernel_rfl) (fun _ _ _ h => h) (by rfl) (v := ?_) ?_ (by assumption) ?_
  rotate_left
  · (intro w hSw; (try dsimp only at hSw); go_simp; try (with_reducible rfl))
  (try simp only [Act.put, List.setIfInBounds_toArray, List.set_cons_zero, List.set_cons_succ])
  refine heldT (i := 16) rfl (by kernel_rfl) (by kernel_rfl) (by kernel_rfl) (fun _ _ _ h => h) (by rfl) (v := ?_) ?_ (by assumption) ?_
  rotate_left
  · (intro w hSw; (try dsimp only at hSw); go_simp; try (with_reducible rfl))
  (try simp only [Act.put, List.setIfInBounds_toArray, List.set_cons_zero, List.set_cons_succ])
  refine heldT (i := 17) rfl (by kernel_rfl) (by kernel_rfl) (by kernel_rfl) (fun _ _ _ h => h) (by rfl) (v := ?_) ?_ (by assumption) ?_
  rotate_left
  · (intro w hSw; (try dsimp only at hSw); go_simp; try (with_reducible rfl))
  (try simp only [Act.put, List.setIfInBounds_toArray, List.set_cons_zero, List.set_cons_succ])
  refine heldT (i := 18) rfl (by kernel_rfl) (by kernel_rfl) (by kernel_rfl) (fun _ _ _ h => h) (by rfl) (v := ?_) ?_ (by assumption) ?_
  rotate_left
  · (intro w hSw; (try dsimp only at hSw); go_simp; try (with_reducible rfl))
  (try simp only [Act.put, List.setIfInBounds_toArray, List.set_cons_zero, List.set_cons_succ])
  refine heldT (i := 19) rfl (by kernel_rfl) (by kernel_rfl) (by kernel_rfl) (fun _ _ _ h => h) (by rfl) (v := ?_) ?_ (by assumption) ?_
  rotate_left
  · (intro w hSw; (try dsimp only at hSw); go_simp; try (with_reducible rfl))
  (try simp only [Act.put, List.setIfInBounds_toArray, List.set_cons_zero, List.set_cons_succ])
  refine heldT (i := 21) rfl (by kernel_rfl) (by kernel_rfl) (by kernel_rfl) (fun _ _ _ h => h) (by rfl) (v := ?_) ?_ (by assumption) ?_
  rotate_left
  · (intro w hSw; (try dsimp only at hSw); go_simp; try (with_reducible rfl))
  (try simp only [Act.put, List.setIfInBounds_toArray, List.set_cons_zero, List.set_cons_succ])
  refine heldT (i := 22) rfl (by kernel_rfl) (by kernel_rfl) (by kernel_rfl) (fun _ _ _ h => h) (by rfl) (v := ?_) ?_ (by assumption) ?_
  rotate_left
  · (intro w hSw; (try dsimp only at hSw); go_simp; try (with_reducible rfl))
  (try simp only [Act.put, List.setIfInBounds_toArray, List.set_cons_zero, List.set_cons_succ])
  refine heldT (i := 23) rfl (by kernel_rfl) (by kernel_rfl) (by kernel_rfl) (fun _ _ _ h => h) (by rfl) (v := ?_) ?_ (by assumption) ?_
  rotate_left
  · (intro w hSw; (try dsimp only at hSw); go_simp; try (with_reducible rfl))
  (try simp only [Act.put, List.setIfInBounds_toArray, List.set_cons_zero, List.set_cons_succ])
  refine heldT (i := 24) rfl (by kernel_rfl) (by kernel_rfl) (by kernel_rfl) (fun _ _ _ h => h) (by rfl) (v := ?_) ?_ (by assumption) ?_
  rotate_left
  · (intro w hSw; (try dsimp only at hSw); go_simp; try (with_reducible rfl))
  (try simp only [Act.put, List.setIfInBounds_toArray, List.set_cons_zero, List.set_cons_succ])
  refine heldT (i := 25) rfl (by kernel_rfl) (by kernel_rfl) (by kernel_rfl) (fun _ _ _ h => h) (by rfl) (v := ?_) ?_ (by assumption) ?_
  rotate_left
  · (intro w hSw; (try dsimp only at hSw); go_simp; try (with_reducible rfl))
  (try simp only [Act.put, List.setIfInBounds_toArray, List.set_cons_zero, List.set_cons_succ])
  refine heldT (i := 26) rfl (by kernel_rfl) (by kernel_rfl) (by kernel_rfl) (fun _ _ _ h => h) (by rfl) (v := ?_) ?_ (by assumption) ?_
  rotate_left
  · (intro w hSw; (try dsimp only at hSw); go_simp; try (with_reducible rfl))
  (try simp only [Act.put, List.setIfInBounds_toArray, List.set_cons_zero, List.set_cons_succ])
  refine heldC (i := 6) rfl (by kernel_rfl) (fun K' hK => ?_)
  go_simp
  refine (spec_l07Differ _ _ _).mono ?_; rintro e _ ⟨rfl, rfl⟩
  (try (go_wp2_with fail))
  refine hK.out _ _ ?_ (fun hHd1 => ?_)
  · ((try dsimp only); (refine K.out _ ?_; (repeat (first | exact Below.refl _ _ | assumption | refine below_step ?_ (by assumption) | refine below_alloc ?_ _ | refine below_drewN ?_ _ | refine Below.drew ?_ | refine Below.setCell ?_ (by first | (simp; done) | omega | (simp; omega)) _))))
  clear hK K' hHd0
  (try simp only [Act.put, List.setIfInBounds_toArray, List.set_cons_zero, List.set_cons_succ])
  refine heldC (i := 13) rfl (by kernel_rfl) (fun K' hK => ?_)
  go_simp
  refine (spec_l07Differ _ _ _).mono ?_; rintro e _ ⟨rfl, rfl⟩
  (try (go_wp2_with fail))
  refine hK.out _ _ ?_ (fun hHd2 => ?_)
  · ((try dsimp only); (refine K.out _ ?_; (repeat (first | exact Below.refl _ _ | assumption | refine below_step ?_ (by assumption) | refine below_alloc ?_ _ | refine below_drewN ?_ _ | refine Below.drew ?_ | refine Below.setCell ?_ (by first | (simp; done) | omega | (simp; omega)) _))))
  clear hK K' hHd1
  (try simp only [Act.put, List.setIfInBounds_toArray, List.set_cons_zero, List.set_cons_succ])
  refine heldC (i := 20) rfl (by kernel_rfl) (fun K' hK => ?_)
  go_simp
  refine (spec_l07Differ _ _ _).mono ?_; rintro e _ ⟨rfl, rfl⟩
  (try (go_wp2_with fail))
  refine hK.out _ _ ?_ (fun hHd3 => ?_)
  · ((try dsimp only); (refine K.out _ ?_; (repeat (first | exact Below.refl _ _ | assumption | refine below_step ?_ (by assumption) | refine below_alloc ?_ _ | refine below_drewN ?_ _ | refine Below.drew ?_ | refine Below.setCell ?_ (by first | (simp; done) | omega | (simp; omega)) _))))
  clear hK K' hHd2
  (try simp only [Act.put, List.setIfInBounds_toArray, List.set_cons_zero, List.set_cons_succ])
  refine heldC (i := 27) rfl (by kernel_rfl) (fun K' hK => ?_)
  go_simp
  refine (spec_l07Differ _ _ _).mono ?_; rintro e _ ⟨rfl, rfl⟩
  (try (go_wp2_with fail))
  refine hK.out _ _ ?_ (fun hHd4 => ?_)
  · ((try dsimp only); (refine K.out _ ?_; (repeat (first | exact Below.refl _ _ | assumption | refine below_step ?_ (by assumption) | refine below_alloc ?_ _ | refine below_drewN ?_ _ | refine Below.drew ?_ | refine Below.setCell ?_ (by first | (simp; done) | omega | (simp; omega)) _))))
  clear hK K' hHd3
  (try simp only [Act.put, List.setIfInBounds_toArray, List.set_cons_zero, List.set_cons_succ])
  refine heldC (i := 28) rfl (by kernel_rfl) (fun K' hK => ?_)
  go_simp
  skip
  (try (go_wp2_with fail))
  refine hK.out _ _ ?_ (fun hHd5 => ?_)
  · ((try dsimp only); (refine K.out _ ?_; (repeat (first | exact Below.refl _ _ | assumption | refine below_step ?_ (by assumption) | refine below_alloc ?_ _ | refine below_drewN ?_ _ | refine Below.drew ?_ | refine Below.setCell ?_ (by first | (simp; done) | omega | (simp; omega)) _))))
  clear hK K' hHd4
  (try simp only [Act.put, List.setIfInBounds_toArray, List.set_cons_zero, List.set_cons_succ])
  refine heldT (i := 29) rfl (by kernel_rfl) (by kernel_rfl) (by kernel_rfl) (fun _ _ _ h => h) (by rfl) (v := ?_) ?_ (by assumption) ?_
  rotate_left
  · (intro w hSw; (try dsimp only at hSw); go_simp; try (with_reducible rfl))
  (try simp only [Act.put, List.setIfInBounds_toArray, List.set_cons_zero, List.set_cons_succ])
  refine wpAnyH_done (by kernel_rfl) ?_ _
  go_wp2
  exact bodyPost_ret (v := .slice (some ⟨w1.heap.size, 0, none⟩) 4 4) (by simp [results, Try.results138, go_sem]) rfl ⟨_, _, rfl, by rw [HE.out]; exact own_below (made4 v0.size _ _ _ _) (by (repeat (first | exact Below.refl _ _ | assumption | refine below_step ?_ (by assumption) | refine below_alloc ?_ _ | refine below_drewN ?_ _ | refine Below.drew ?_ | refine Below.setCell ?_ (by first | (simp; done) | omega | (simp; omega)) _))), by (repeat (first | exact Below.refl _ _ | assumption | refine below_step ?_ (by assumption) | refine below_alloc ?_ _ | refine below_drewN ?_ _ | refine Below.drew ?_ | refine Below.setCell ?_ (by first | (simp; done) | omega | (simp; omega)) _))⟩
set_option maxHeartbeats 2000000 in
theorem spec_KeyNumber (W H X p : Int) (w : World) (hp : p ≤ 9223372036854775807) :
    Calls Try.prog 122 #[.agg #[.int .i64 W, .int .i64 H, .int .i64 X], .int .i64 p] w fun e w' => e = .returned (.int .i64 (keyNumber W H X p)) ∧ Below w.heap.size w w' := by
  cases h1 : positionOk W H X p
  · have e : keyNumber W H X p = -1 := by unfold keyNumber; rw [h1]; rfl
    rw [e]
    go_enter Try.func122, Try.ntmps122
    go_wp2_with fail
    refine (spec_KeyOf_no _ _ _ _ _ hp h1).mono ?_
    rintro e w1 ⟨A, c, rfl, oC, hb1⟩
    go_wp2
    go_ret
    exact ⟨rfl, by (repeat (first | exact Below.refl _ _ | assumption | refine below_step ?_ (by assumption) | refine below_alloc ?_ _ | refine below_drewN ?_ _ | refine Below.drew ?_ | refine Below.setCell ?_ (by first | (simp; done) | omega | (simp; omega)) _))⟩
  · obtain ⟨a, b, c, d, e1, e2, q1, q2, q3, q4⟩ : ∃ a b c d : Int, keyL W p.toNat = [a, b, c, d] ∧ keyNumber W H X p = a + 2 * b + 4 * c + 8 * d ∧ (0 ≤ a ∧ a ≤ 1) ∧ (0 ≤ b ∧ b ≤ 1) ∧ (0 ≤ c ∧ c ≤ 1) ∧ (0 ≤ d ∧ d ≤ 1) := by
      refine ⟨_, _, _, _, rfl, by unfold keyNumber; rw [h1, if_pos rfl]; rfl, ?_, ?_, ?_, ?_⟩ <;> (unfold differ; split <;> omega)
    rw [e2]
    clear e2
    have hK := spec_KeyOf_yes W H X p
    rw [e1] at hK
    clear e1
    go_enter Try.func122, Try.ntmps122
    go_wp2_with fail
    refine (hK _ hp h1).mono ?_
    rintro e w1 ⟨A, cp, rfl, oC, hb1⟩
    obtain ⟨G, cap, e, _⟩ := own_formW oC (by decide)
    injection e with e1 e2 e3
    subst e1 e3
    have g0 : w1.cell? ⟨G, 0, none⟩ = some (.int .i64 a) := (oC.cellAt 0 (by omega)).trans rfl
    have g1 : w1.cell? ⟨G, 1, none⟩ = some (.int .i64 b) := (oC.cellAt 1 (by omega)).trans rfl
    have g2 : w1.cell? ⟨G, 2, none⟩ = some (.int .i64 c) := (oC.cellAt 2 (by omega)).trans rfl
    have g3 : w1.cell? ⟨G, 3, none⟩ = some (.int .i64 d) := (oC.cellAt 3 (by omega)).trans rfl
    clear hK oC e2
    go_wp2_with fail
    go_quiet (fail)
    go_wp2
    go_ret
    exact ⟨ret_int (by simp [IntKind.wrap_i64]; try omega), by (repeat (first | exact Below.refl _ _ | assumption | refine below_step ?_ (by assumption) | refine below_alloc ?_ _ | refine below_drewN ?_ _ | refine Below.drew ?_ | refine Below.setCell ?_ (by first | (simp; done) | omega | (simp; omega)) _))⟩
set_option maxHeartbeats 1000000 in
theorem spec_SinglePeg (W H X : Int) (h : Nat) (w : World) (hh : hasHole W H X h = true) (h1 : (h : Int) ≤ 48) :
    Calls Try.prog 99 #[.agg #[.int .i64 W, .int .i64 H, .int .i64 X], .int .i64 h] w fun e w' => e = .returned (.int .i64 (2 ^ h)) ∧ Below w.heap.size w w' := by
  have hwp : wrap64 (2 ^ h) = 2 ^ h := by simpa using wrap_pow h1
  go_enter Try.func99, Try.ntmps99
  go_wp2_with fail
  refine (calls_is (spec_HasHole _ _ _ _ _) hh).mono ?_
  rintro e w1 ⟨rfl, hb1⟩
  obtain ⟨hc1, hf1, hs1⟩ := bcell3 hb1
  have hz1 := hb1.size
  (try simp at hz1)
  go_wp2
  go_ret
  exact ⟨ret_int (by first | rfl | exact hwp), by (repeat (first | exact Below.refl _ _ | assumption | refine below_step ?_ (by assumption) | refine below_alloc ?_ _ | refine below_drewN ?_ _ | refine Below.drew ?_ | refine Below.setCell ?_ (by first | (simp; done) | omega | (simp; omega)) _))⟩
set_option maxHeartbeats 4000000 in
theorem spec_SameKey (W H X p q : Int) (w : World) (hp : p ≤ 9223372036854775807) (hq : q ≤ 9223372036854775807) :
    Calls Try.prog 69 #[.agg #[.int .i64 W, .int .i64 H, .int .i64 X], .int .i64 p, .int .i64 q] w fun e w' => e = .returned (.bool (sameKey W H X p q)) ∧ Below w.heap.size w w' := by
  obtain ⟨a, ha⟩ : ∃ a, positionOk W H X p = a := ⟨_, rfl⟩
  obtain ⟨b, hb⟩ : ∃ a, positionOk W H X q = a := ⟨_, rfl⟩
  obtain ⟨m, hm⟩ : ∃ a, keyNumber W H X p = a := ⟨_, rfl⟩
  obtain ⟨n, hn⟩ : ∃ a, keyNumber W H X q = a := ⟨_, rfl⟩
  have e : sameKey W H X p q = (a && b && decide (m = n)) := by unfold sameKey; rw [ha, hb, hm, hn]
  rw [e]
  have HA := Lib.hid ha
  have HB := Lib.hid hb
  have HM := Lib.hid hm
  have HN := Lib.hid hn
  clear e ha hb hm hn
  go_enter Try.func69, Try.ntmps69
  go_wp2_with fail
  generalize hV : w.alloc (.cells #[.int .i64 W, .int .i64 H, .int .i64 X] 44) = V
  have v0 : Below w.heap.size w V := by subst hV; (repeat (first | exact Below.refl _ _ | assumption | refine below_step ?_ (by assumption) | refine below_alloc ?_ _ | refine below_drewN ?_ _ | refine Below.drew ?_ | refine Below.setCell ?_ (by first | (simp; done) | omega | (simp; omega)) _))
  have z0 : w.heap.size < V.heap.size := by subst hV; simp <;> omega
  have v0_0 : V.cell? ⟨w.heap.size, 0, none⟩ = some (.int .i64 W) := by subst hV; simp
  have v0_1 : V.cell? ⟨w.heap.size, 1, none⟩ = some (.int .i64 H) := by subst hV; simp
  have v0_2 : V.cell? ⟨w.heap.size, 2, none⟩ = some (.int .i64 X) := by subst hV; simp
  have hBV := Below.refl V.heap.size V
  have K : Hid (∀ w', Below V.heap.size V w' → Below V.heap.size V w' ∧ w'.cell? ⟨w.heap.size, 0, none⟩ = some (.int .i64 W) ∧ w'.cell? ⟨w.heap.size, 1, none⟩ = some (.int .i64 H) ∧ w'.cell? ⟨w.heap.size, 2, none⟩ = some (.int .i64 X)) := fun w' hB => ⟨hB, bel_cell hB z0 v0_0, bel_cell hB z0 v0_1, bel_cell hB z0 v0_2⟩
  clear hV
  cases a
  · skip
    go_wp2_with fail
    refine wp_region_held_drew (S := (fun w' => Below V.heap.size V w' ∧ w'.cell? ⟨w.heap.size, 0, none⟩ = some (.int .i64 W) ∧ w'.cell? ⟨w.heap.size, 1, none⟩ = some (.int .i64 H) ∧ w'.cell? ⟨w.heap.size, 2, none⟩ = some (.int .i64 X))) (by kernel_rfl) ?_ (fun hHd0 => ?_)
    · (refine K.out _ ?_; (repeat (first | exact Below.refl _ _ | assumption | refine below_step ?_ (by assumption) | refine below_alloc ?_ _ | refine below_drewN ?_ _ | refine Below.drew ?_ | refine Below.setCell ?_ (by first | (simp; done) | omega | (simp; omega)) _)))
    refine heldT (i := 0) rfl (by kernel_rfl) (by kernel_rfl) (by kernel_rfl) (fun _ _ _ h => h) (by rfl) (v := ?_) ?_ (by assumption) ?_
    rotate_left
    · (intro w hSw; (try dsimp only at hSw); go_simp; try (with_reducible rfl))
    (try simp only [Act.put, List.setIfInBounds_toArray, List.set_cons_zero, List.set_cons_succ])
    refine heldT (i := 1) rfl (by kernel_rfl) (by kernel_rfl) (by kernel_rfl) (fun _ _ _ h => h) (by rfl) (v := ?_) ?_ (by assumption) ?_
    rotate_left
    · (intro w hSw; (try dsimp only at hSw); go_simp; try (with_reducible rfl))
    (try simp only [Act.put, List.setIfInBounds_toArray, List.set_cons_zero, List.set_cons_succ])
    refine heldC (i := 2) rfl (by kernel_rfl) (fun K' hK => ?_)
    go_simp
    refine (calls_is (spec_PositionOk _ _ _ _ _ hp) HA.out).mono ?_; rintro e w2 ⟨rfl, hb2⟩
    (try (go_wp2_with fail))
    refine hK.out _ _ ?_ (fun hHd1 => ?_)
    · ((try dsimp only); (refine K.out _ ?_; (repeat (first | exact Below.refl _ _ | assumption | refine below_step ?_ (by assumption) | refine below_alloc ?_ _ | refine below_drewN ?_ _ | refine Below.drew ?_ | refine Below.setCell ?_ (by first | (simp; done) | omega | (simp; omega)) _))))
    clear hK K' hHd0
    (try simp only [Act.put, List.setIfInBounds_toArray, List.set_cons_zero, List.set_cons_succ])
    refine heldT (i := 3) rfl (by kernel_rfl) (by kernel_rfl) (by kernel_rfl) (fun _ _ _ h => h) (by rfl) (v := ?_) ?_ (by assumption) ?_
    rotate_left
    · (intro w hSw; (try dsimp only at hSw); go_simp; try (with_reducible rfl))
    (try simp only [Act.put, List.setIfInBounds_toArray, List.set_cons_zero, List.set_cons_succ])
    refine heldU (i := 4) rfl (by kernel_rfl) (by kernel_rfl) (by kernel_rfl) (fun _ _ _ h => h) (by rfl) (by assumption) ?_
    (try simp only [Act.put, List.setIfInBounds_toArray, List.set_cons_zero, List.set_cons_succ])
    refine heldU (i := 5) rfl (by kernel_rfl) (by kernel_rfl) (by kernel_rfl) (fun _ _ _ h => h) (by rfl) (by assumption) ?_
    (try simp only [Act.put, List.setIfInBounds_toArray, List.set_cons_zero, List.set_cons_succ])
    refine heldU (i := 6) rfl (by kernel_rfl) (by kernel_rfl) (by kernel_rfl) (fun _ _ _ h => h) (by rfl) (by assumption) ?_
    (try simp only [Act.put, List.setIfInBounds_toArray, List.set_cons_zero, List.set_cons_succ])
    refine heldT (i := 7) rfl (by kernel_rfl) (by kernel_rfl) (by kernel_rfl) (fun _ _ _ h => h) (by rfl) (v := ?_) ?_ (by assumption) ?_
    rotate_left
    · (intro w hSw; (try dsimp only at hSw); go_simp; try (with_reducible rfl))
    (try simp only [Act.put, List.setIfInBounds_toArray, List.set_cons_zero, List.set_cons_succ])
    refine heldT (i := 8) rfl (by kernel_rfl) (by kernel_rfl) (by kernel_rfl) (fun _ _ _ h => h) (by rfl) (v := ?_) ?_ (by assumption) ?_
    rotate_left
    · (intro w hSw; (try dsimp only at hSw); go_simp; try (with_reducible rfl))
    (try simp only [Act.put, List.setIfInBounds_toArray, List.set_cons_zero, List.set_cons_succ])
    refine heldU (i := 9) rfl (by kernel_rfl) (by kernel_rfl) (by kernel_rfl) (fun _ _ _ h => h) (by rfl) (by assumption) ?_
    (try simp only [Act.put, List.setIfInBounds_toArray, List.set_cons_zero, List.set_cons_succ])
    refine heldU (i := 10) rfl (by kernel_rfl) (by kernel_rfl) (by kernel_rfl) (fun _ _ _ h => h) (by rfl) (by assumption) ?_
    (try simp only [Act.put, List.setIfInBounds_toArray, List.set_cons_zero, List.set_cons_succ])
    refine heldU (i := 11) rfl (by kernel_rfl) (by kernel_rfl) (by kernel_rfl) (fun _ _ _ h => h) (by rfl) (by assumption) ?_
    (try simp only [Act.put, List.setIfInBounds_toArray, List.set_cons_zero, List.set_cons_succ])
    refine heldU (i := 12) rfl (by kernel_rfl) (by kernel_rfl) (by kernel_rfl) (fun _ _ _ h => h) (by rfl) (by assumption) ?_
    (try simp only [Act.put, List.setIfInBounds_toArray, List.set_cons_zero, List.set_cons_succ])
    refine heldU (i := 13) rfl (by kernel_rfl) (by kernel_rfl) (by kernel_rfl) (fun _ _ _ h => h) (by rfl) (by assumption) ?_
    (try simp only [Act.put, List.setIfInBounds_toArray, List.set_cons_zero, List.set_cons_succ])
    refine heldU (i := 14) rfl (by kernel_rfl) (by kernel_rfl) (by kernel_rfl) (fun _ _ _ h => h) (by rfl) (by assumption) ?_
    (try simp only [Act.put, List.setIfInBounds_toArray, List.set_cons_zero, List.set_cons_succ])
    refine heldU (i := 15) rfl (by kernel_rfl) (by kernel_rfl) (by kernel_rfl) (fun _ _ _ h => h) (by rfl) (by assumption) ?_
    (try simp only [Act.put, List.setIfInBounds_toArray, List.set_cons_zero, List.set_cons_succ])
    refine heldT (i := 16) rfl (by kernel_rfl) (by kernel_rfl) (by kernel_rfl) (fun _ _ _ h => h) (by rfl) (v := ?_) ?_ (by assumption) ?_
    rotate_left
    · (intro w hSw; (try dsimp only at hSw); go_simp; try (with_reducible rfl))
    (try simp only [Act.put, List.setIfInBounds_toArray, List.set_cons_zero, List.set_cons_succ])
    refine heldT (i := 17) rfl (by kernel_rfl) (by kernel_rfl) (by kernel_rfl) (fun _ _ _ h => h) (by rfl) (v := ?_) ?_ (by assumption) ?_
    rotate_left
    · (intro w hSw; (try dsimp only at hSw); go_simp; try (with_reducible rfl))
    (try simp only [Act.put, List.setIfInBounds_toArray, List.set_cons_zero, List.set_cons_succ])
    refine wpAnyH_done (by kernel_rfl) ?_ _
    go_wp2
    go_ret
    exact ⟨ret_bool (by simp), below_step v0 (by (repeat (first | exact Below.refl _ _ | assumption | refine below_step ?_ (by assumption) | refine below_alloc ?_ _ | refine below_drewN ?_ _ | refine Below.drew ?_ | refine Below.setCell ?_ (by first | (simp; done) | omega | (simp; omega)) _)))⟩
  · cases b
    · skip
      go_wp2_with fail
      refine wp_region_held_drew (S := (fun w' => Below V.heap.size V w' ∧ w'.cell? ⟨w.heap.size, 0, none⟩ = some (.int .i64 W) ∧ w'.cell? ⟨w.heap.size, 1, none⟩ = some (.int .i64 H) ∧ w'.cell? ⟨w.heap.size, 2, none⟩ = some (.int .i64 X))) (by kernel_rfl) ?_ (fun hHd0 => ?_)
      · (refine K.out _ ?_; (repeat (first | exact Below.refl _ _ | assumption | refine below_step ?_ (by assumption) | refine below_alloc ?_ _ | refine below_drewN ?_ _ | refine Below.drew ?_ | refine Below.setCell ?_ (by first | (simp; done) | omega | (simp; omega)) _)))
      refine heldT (i := 0) rfl (by kernel_rfl) (by kernel_rfl) (by kernel_rfl) (fun _ _ _ h => h) (by rfl) (v := ?_) ?_ (by assumption) ?_
      rotate_left
      · (intro w hSw; (try dsimp only at hSw); go_simp; try (with_reducible rfl))
      (try simp only [Act.put, List.setIfInBounds_toArray, List.set_cons_zero, List.set_cons_succ])
      refine heldT (i := 1) rfl (by kernel_rfl) (by kernel_rfl) (by kernel_rfl) (fun _ _ _ h => h) (by rfl) (v := ?_) ?_ (by assumption) ?_
      rotate_left
      · (intro w hSw; (try dsimp only at hSw); go_simp; try (with_reducible rfl))
      (try simp only [Act.put, List.setIfInBounds_toArray, List.set_cons_zero, List.set_cons_succ])
      refine heldC (i := 2) rfl (by kernel_rfl) (fun K' hK => ?_)
      go_simp
      refine (calls_is (spec_PositionOk _ _ _ _ _ hp) HA.out).mono ?_; rintro e w2 ⟨rfl, hb2⟩
      (try (go_wp2_with fail))
      refine hK.out _ _ ?_ (fun hHd1 => ?_)
      · ((try dsimp only); (refine K.out _ ?_; (repeat (first | exact Below.refl _ _ | assumption | refine below_step ?_ (by assumption) | refine below_alloc ?_ _ | refine below_drewN ?_ _ | refine Below.drew ?_ | refine Below.setCell ?_ (by first | (simp; done) | omega | (simp; omega)) _))))
      clear hK K' hHd0
      (try simp only [Act.put, List.setIfInBounds_toArray, List.set_cons_zero, List.set_cons_succ])
      refine heldT (i := 3) rfl (by kernel_rfl) (by kernel_rfl) (by kernel_rfl) (fun _ _ _ h => h) (by rfl) (v := ?_) ?_ (by assumption) ?_
      rotate_left
      · (intro w hSw; (try dsimp only at hSw); go_simp; try (with_reducible rfl))
      (try simp only [Act.put, List.setIfInBounds_toArray, List.set_cons_zero, List.set_cons_succ])
      refine heldT (i := 4) rfl (by kernel_rfl) (by kernel_rfl) (by kernel_rfl) (fun _ _ _ h => h) (by rfl) (v := ?_) ?_ (by assumption) ?_
      rotate_left
      · (intro w hSw; (try dsimp only at hSw); go_simp; try (with_reducible rfl))
      (try simp only [Act.put, List.setIfInBounds_toArray, List.set_cons_zero, List.set_cons_succ])
      refine heldT (i := 5) rfl (by kernel_rfl) (by kernel_rfl) (by kernel_rfl) (fun _ _ _ h => h) (by rfl) (v := ?_) ?_ (by assumption) ?_
      rotate_left
      · (intro w hSw; (try dsimp only at hSw); go_simp; try (with_reducible rfl))
      (try simp only [Act.put, List.setIfInBounds_toArray, List.set_cons_zero, List.set_cons_succ])
      refine heldC (i := 6) rfl (by kernel_rfl) (fun K' hK => ?_)
      go_simp
      refine (calls_is (spec_PositionOk _ _ _ _ _ hq) HB.out).mono ?_; rintro e w3 ⟨rfl, hb3⟩
      (try (go_wp2_with fail))
      refine hK.out _ _ ?_ (fun hHd2 => ?_)
      · ((try dsimp only); (refine K.out _ ?_; (repeat (first | exact Below.refl _ _ | assumption | refine below_step ?_ (by assumption) | refine below_alloc ?_ _ | refine below_drewN ?_ _ | refine Below.drew ?_ | refine Below.setCell ?_ (by first | (simp; done) | omega | (simp; omega)) _))))
      clear hK K' hHd1
      (try simp only [Act.put, List.setIfInBounds_toArray, List.set_cons_zero, List.set_cons_succ])
      refine heldT (i := 7) rfl (by kernel_rfl) (by kernel_rfl) (by kernel_rfl) (fun _ _ _ h => h) (by rfl) (v := ?_) ?_ (by assumption) ?_
      rotate_left
      · (intro w hSw; (try dsimp only at hSw); go_simp; try (with_reducible rfl))
      (try simp only [Act.put, List.setIfInBounds_toArray, List.set_cons_zero, List.set_cons_succ])
      refine heldT (i := 8) rfl (by kernel_rfl) (by kernel_rfl) (by kernel_rfl) (fun _ _ _ h => h) (by rfl) (v := ?_) ?_ (by assumption) ?_
      rotate_left
      · (intro w hSw; (try dsimp only at hSw); go_simp; try (with_reducible rfl))
      (try simp only [Act.put, List.setIfInBounds_toArray, List.set_cons_zero, List.set_cons_succ])
      refine heldU (i := 9) rfl (by kernel_rfl) (by kernel_rfl) (by kernel_rfl) (fun _ _ _ h => h) (by rfl) (by assumption) ?_
      (try simp only [Act.put, List.setIfInBounds_toArray, List.set_cons_zero, List.set_cons_succ])
      refine heldU (i := 10) rfl (by kernel_rfl) (by kernel_rfl) (by kernel_rfl) (fun _ _ _ h => h) (by rfl) (by assumption) ?_
      (try simp only [Act.put, List.setIfInBounds_toArray, List.set_cons_zero, List.set_cons_succ])
      refine heldU (i := 11) rfl (by kernel_rfl) (by kernel_rfl) (by kernel_rfl) (fun _ _ _ h => h) (by rfl) (by assumption) ?_
      (try simp only [Act.put, List.setIfInBounds_toArray, List.set_cons_zero, List.set_cons_succ])
      refine heldU (i := 12) rfl (by kernel_rfl) (by kernel_rfl) (by kernel_rfl) (fun _ _ _ h => h) (by rfl) (by assumption) ?_
      (try simp only [Act.put, List.setIfInBounds_toArray, List.set_cons_zero, List.set_cons_succ])
      refine heldU (i := 13) rfl (by kernel_rfl) (by kernel_rfl) (by kernel_rfl) (fun _ _ _ h => h) (by rfl) (by assumption) ?_
      (try simp only [Act.put, List.setIfInBounds_toArray, List.set_cons_zero, List.set_cons_succ])
      refine heldU (i := 14) rfl (by kernel_rfl) (by kernel_rfl) (by kernel_rfl) (fun _ _ _ h => h) (by rfl) (by assumption) ?_
      (try simp only [Act.put, List.setIfInBounds_toArray, List.set_cons_zero, List.set_cons_succ])
      refine heldU (i := 15) rfl (by kernel_rfl) (by kernel_rfl) (by kernel_rfl) (fun _ _ _ h => h) (by rfl) (by assumption) ?_
      (try simp only [Act.put, List.setIfInBounds_toArray, List.set_cons_zero, List.set_cons_succ])
      refine heldT (i := 16) rfl (by kernel_rfl) (by kernel_rfl) (by kernel_rfl) (fun _ _ _ h => h) (by rfl) (v := ?_) ?_ (by assumption) ?_
      rotate_left
      · (intro w hSw; (try dsimp only at hSw); go_simp; try (with_reducible rfl))
      (try simp only [Act.put, List.setIfInBounds_toArray, List.set_cons_zero, List.set_cons_succ])
      refine heldT (i := 17) rfl (by kernel_rfl) (by kernel_rfl) (by kernel_rfl) (fun _ _ _ h => h) (by rfl) (v := ?_) ?_ (by assumption) ?_
      rotate_left
      · (intro w hSw; (try dsimp only at hSw); go_simp; try (with_reducible rfl))
      (try simp only [Act.put, List.setIfInBounds_toArray, List.set_cons_zero, List.set_cons_succ])
      refine wpAnyH_done (by kernel_rfl) ?_ _
      go_wp2
      go_ret
      exact ⟨ret_bool (by simp), below_step v0 (by (repeat (first | exact Below.refl _ _ | assumption | refine below_step ?_ (by assumption) | refine below_alloc ?_ _ | refine below_drewN ?_ _ | refine Below.drew ?_ | refine Below.setCell ?_ (by first | (simp; done) | omega | (simp; omega)) _)))⟩
    · skip
      go_wp2_with fail
      refine wp_region_held_drew (S := (fun w' => Below V.heap.size V w' ∧ w'.cell? ⟨w.heap.size, 0, none⟩ = some (.int .i64 W) ∧ w'.cell? ⟨w.heap.size, 1, none⟩ = some (.int .i64 H) ∧ w'.cell? ⟨w.heap.size, 2, none⟩ = some (.int .i64 X))) (by kernel_rfl) ?_ (fun hHd0 => ?_)
      · (refine K.out _ ?_; (repeat (first | exact Below.refl _ _ | assumption | refine below_step ?_ (by assumption) | refine below_alloc ?_ _ | refine below_drewN ?_ _ | refine Below.drew ?_ | refine Below.setCell ?_ (by first | (simp; done) | omega | (simp; omega)) _)))
      refine heldT (i := 0) rfl (by kernel_rfl) (by kernel_rfl) (by kernel_rfl) (fun _ _ _ h => h) (by rfl) (v := ?_) ?_ (by assumption) ?_
      rotate_left
      · (intro w hSw; (try dsimp only at hSw); go_simp; try (with_reducible rfl))
      (try simp only [Act.put, List.setIfInBounds_toArray, List.set_cons_zero, List.set_cons_succ])
      refine heldT (i := 1) rfl (by kernel_rfl) (by kernel_rfl) (by kernel_rfl) (fun _ _ _ h => h) (by rfl) (v := ?_) ?_ (by assumption) ?_
      rotate_left
      · (intro w hSw; (try dsimp only at hSw); go_simp; try (with_reducible rfl))
      (try simp only [Act.put, List.setIfInBounds_toArray, List.set_cons_zero, List.set_cons_succ])
      refine heldC (i := 2) rfl (by kernel_rfl) (fun K' hK => ?_)
      go_simp
      refine (calls_is (spec_PositionOk _ _ _ _ _ hp) HA.out).mono ?_; rintro e w2 ⟨rfl, hb2⟩
      (try (go_wp2_with fail))
      refine hK.out _ _ ?_ (fun hHd1 => ?_)
      · ((try dsimp only); (refine K.out _ ?_; (repeat (first | exact Below.refl _ _ | assumption | refine below_step ?_ (by assumption) | refine below_alloc ?_ _ | refine below_drewN ?_ _ | refine Below.drew ?_ | refine Below.setCell ?_ (by first | (simp; done) | omega | (simp; omega)) _))))
      clear hK K' hHd0
      (try simp only [Act.put, List.setIfInBounds_toArray, List.set_cons_zero, List.set_cons_succ])
      refine heldT (i := 3) rfl (by kernel_rfl) (by kernel_rfl) (by kernel_rfl) (fun _ _ _ h => h) (by rfl) (v := ?_) ?_ (by assumption) ?_
      rotate_left
      · (intro w hSw; (try dsimp only at hSw); go_simp; try (with_reducible rfl))
      (try simp only [Act.put, List.setIfInBounds_toArray, List.set_cons_zero, List.set_cons_succ])
      refine heldT (i := 4) rfl (by kernel_rfl) (by kernel_rfl) (by kernel_rfl) (fun _ _ _ h => h) (by rfl) (v := ?_) ?_ (by assumption) ?_
      rotate_left
      · (intro w hSw; (try dsimp only at hSw); go_simp; try (with_reducible rfl))
      (try simp only [Act.put, List.setIfInBounds_toArray, List.set_cons_zero, List.set_cons_succ])
      refine heldT (i := 5) rfl (by kernel_rfl) (by kernel_rfl) (by kernel_rfl) (fun _ _ _ h => h) (by rfl) (v := ?_) ?_ (by assumption) ?_
      rotate_left
      · (intro w hSw; (try dsimp only at hSw); go_simp; try (with_reducible rfl))
      (try simp only [Act.put, List.setIfInBounds_toArray, List.set_cons_zero, List.set_cons_succ])
      refine heldC (i := 6) rfl (by kernel_rfl) (fun K' hK => ?_)
      go_simp
      refine (calls_is (spec_PositionOk _ _ _ _ _ hq) HB.out).mono ?_; rintro e w3 ⟨rfl, hb3⟩
      (try (go_wp2_with fail))
      refine hK.out _ _ ?_ (fun hHd2 => ?_)
      · ((try dsimp only); (refine K.out _ ?_; (repeat (first | exact Below.refl _ _ | assumption | refine below_step ?_ (by assumption) | refine below_alloc ?_ _ | refine below_drewN ?_ _ | refine Below.drew ?_ | refine Below.setCell ?_ (by first | (simp; done) | omega | (simp; omega)) _))))
      clear hK K' hHd1
      (try simp only [Act.put, List.setIfInBounds_toArray, List.set_cons_zero, List.set_cons_succ])
      refine heldT (i := 7) rfl (by kernel_rfl) (by kernel_rfl) (by kernel_rfl) (fun _ _ _ h => h) (by rfl) (v := ?_) ?_ (by assumption) ?_
      rotate_left
      · (intro w hSw; (try dsimp only at hSw); go_simp; try (with_reducible rfl))
      (try simp only [Act.put, List.setIfInBounds_toArray, List.set_cons_zero, List.set_cons_succ])
      refine heldT (i := 8) rfl (by kernel_rfl) (by kernel_rfl) (by kernel_rfl) (fun _ _ _ h => h) (by rfl) (v := ?_) ?_ (by assumption) ?_
      rotate_left
      · (intro w hSw; (try dsimp only at hSw); go_simp; try (with_reducible rfl))
      (try simp only [Act.put, List.setIfInBounds_toArray, List.set_cons_zero, List.set_cons_succ])
      refine heldT (i := 9) rfl (by kernel_rfl) (by kernel_rfl) (by kernel_rfl) (fun _ _ _ h => h) (by rfl) (v := ?_) ?_ (by assumption) ?_
      rotate_left
      · (intro w hSw; (try dsimp only at hSw); go_simp; try (with_reducible rfl))
      (try simp only [Act.put, List.setIfInBounds_toArray, List.set_cons_zero, List.set_cons_succ])
      refine heldT (i := 10) rfl (by kernel_rfl) (by kernel_rfl) (by kernel_rfl) (fun _ _ _ h => h) (by rfl) (v := ?_) ?_ (by assumption) ?_
      rotate_left
      · (intro w hSw; (try dsimp only at hSw); go_simp; try (with_reducible rfl))
      (try simp only [Act.put, List.setIfInBounds_toArray, List.set_cons_zero, List.set_cons_succ])
      refine heldT (i := 12) rfl (by kernel_rfl) (by kernel_rfl) (by kernel_rfl) (fun _ _ _ h => h) (by rfl) (v := ?_) ?_ (by assumption) ?_
      rotate_left
      · (intro w hSw; (try dsimp only at hSw); go_simp; try (with_reducible rfl))
      (try simp only [Act.put, List.setIfInBounds_toArray, List.set_cons_zero, List.set_cons_succ])
      refine heldT (i := 13) rfl (by kernel_rfl) (by kernel_rfl) (by kernel_rfl) (fun _ _ _ h => h) (by rfl) (v := ?_) ?_ (by assumption) ?_
      rotate_left
      · (intro w hSw; (try dsimp only at hSw); go_simp; try (with_reducible rfl))
      (try simp only [Act.put, List.setIfInBounds_toArray, List.set_cons_zero, List.set_cons_succ])
      refine heldC (i := 11) rfl (by kernel_rfl) (fun K' hK => ?_)
      go_simp
      refine (calls_isK (spec_KeyNumber _ _ _ _ _ hp) HM.out).mono ?_; rintro e w4 ⟨rfl, hb4⟩
      (try (go_wp2_with fail))
      refine hK.out _ _ ?_ (fun hHd3 => ?_)
      · ((try dsimp only); (refine K.out _ ?_; (repeat (first | exact Below.refl _ _ | assumption | refine below_step ?_ (by assumption) | refine below_alloc ?_ _ | refine below_drewN ?_ _ | refine Below.drew ?_ | refine Below.setCell ?_ (by first | (simp; done) | omega | (simp; omega)) _))))
      clear hK K' hHd2
      (try simp only [Act.put, List.setIfInBounds_toArray, List.set_cons_zero, List.set_cons_succ])
      refine heldC (i := 14) rfl (by kernel_rfl) (fun K' hK => ?_)
      go_simp
      refine (calls_isK (spec_KeyNumber _ _ _ _ _ hq) HN.out).mono ?_; rintro e w5 ⟨rfl, hb5⟩
      (try (go_wp2_with fail))
      refine hK.out _ _ ?_ (fun hHd4 => ?_)
      · ((try dsimp only); (refine K.out _ ?_; (repeat (first | exact Below.refl _ _ | assumption | refine below_step ?_ (by assumption) | refine below_alloc ?_ _ | refine below_drewN ?_ _ | refine Below.drew ?_ | refine Below.setCell ?_ (by first | (simp; done) | omega | (simp; omega)) _))))
      clear hK K' hHd3
      (try simp only [Act.put, List.setIfInBounds_toArray, List.set_cons_zero, List.set_cons_succ])
      refine heldT (i := 15) rfl (by kernel_rfl) (by kernel_rfl) (by kernel_rfl) (fun _ _ _ h => h) (by rfl) (v := ?_) ?_ (by assumption) ?_
      rotate_left
      · (intro w hSw; (try dsimp only at hSw); go_simp; try (with_reducible rfl))
      (try simp only [Act.put, List.setIfInBounds_toArray, List.set_cons_zero, List.set_cons_succ])
      refine heldT (i := 16) rfl (by kernel_rfl) (by kernel_rfl) (by kernel_rfl) (fun _ _ _ h => h) (by rfl) (v := ?_) ?_ (by assumption) ?_
      rotate_left
      · (intro w hSw; (try dsimp only at hSw); go_simp; try (with_reducible rfl))
      (try simp only [Act.put, List.setIfInBounds_toArray, List.set_cons_zero, List.set_cons_succ])
      refine heldT (i := 17) rfl (by kernel_rfl) (by kernel_rfl) (by kernel_rfl) (fun _ _ _ h => h) (by rfl) (v := ?_) ?_ (by assumption) ?_
      rotate_left
      · (intro w hSw; (try dsimp only at hSw); go_simp; try (with_reducible rfl))
      (try simp only [Act.put, List.setIfInBounds_toArray, List.set_cons_zero, List.set_cons_succ])
      refine wpAnyH_done (by kernel_rfl) ?_ _
      go_wp2
      go_ret
      exact ⟨ret_bool (by simp [beq_dec]), below_step v0 (by (repeat (first | exact Below.refl _ _ | assumption | refine below_step ?_ (by assumption) | refine below_alloc ?_ _ | refine below_drewN ?_ _ | refine Below.drew ?_ | refine Below.setCell ?_ (by first | (simp; done) | omega | (simp; omega)) _)))⟩
set_option maxHeartbeats 4000000 in
theorem spec_FinalHoles (W H X p : Int) (w : World) (hp : p ≤ 9223372036854775807) :
    Calls Try.prog 41 #[.agg #[.int .i64 W, .int .i64 H, .int .i64 X], .int .i64 p] w (RetOwn 3 1 w (finalHoles W H X p).length (toInts (finalHoles W H X p))) := by
  have hHL := holes_small W H X
  go_enter Try.func41, Try.ntmps41
  go_wp2_with fail
  generalize hV : w.alloc (.cells #[.int .i64 W, .int .i64 H, .int .i64 X] 44) = V
  have v0 : Below w.heap.size w V := by subst hV; (repeat (first | exact Below.refl _ _ | assumption | refine below_step ?_ (by assumption) | refine below_alloc ?_ _ | refine below_drewN ?_ _ | refine Below.drew ?_ | refine Below.setCell ?_ (by first | (simp; done) | omega | (simp; omega)) _))
  have z0 : w.heap.size < V.heap.size := by subst hV; simp <;> omega
  have v0_0 : V.cell? ⟨w.heap.size, 0, none⟩ = some (.int .i64 W) := by subst hV; simp
  have v0_1 : V.cell? ⟨w.heap.size, 1, none⟩ = some (.int .i64 H) := by subst hV; simp
  have v0_2 : V.cell? ⟨w.heap.size, 2, none⟩ = some (.int .i64 X) := by subst hV; simp
  have ZV : Hid (w.heap.size + 1 = V.heap.size) := by subst hV; unfold Hid; simp
  clear hV
  have HV : Hid (w.heap.size ≤ V.heap.size) := v0.size
  have hO := made0 3 ZV.out
  have hbel : Below V.heap.size V (V.alloc (.cells #[] 3)) := by (repeat (first | exact Below.refl _ _ | assumption | refine below_step ?_ (by assumption) | refine below_alloc ?_ _ | refine below_drewN ?_ _ | refine Below.drew ?_ | refine Below.setCell ?_ (by first | (simp; done) | omega | (simp; omega)) _))
  refine (spec_HolesOf _ _ _ _).mono ?_
  rintro e w1 ⟨A, cA, rfl, hH, hb1⟩
  have hne := apart_new (m := 0) (cap := 0) (g := w.heap.size + 1) hH (by have h2 := ZV.out; simp; omega)
  replace hO := own_below hO hb1
  replace hbel := below_step hbel hb1
  have hH0 := own_lower (lo' := 0) hH (Nat.zero_le _)
  clear hH
  go_wp2_with fail
  go_loopw [5, 7] (fun v i wr => ∃ k : Nat, k ≤ (holes W H X).length ∧ i = .int .i64 k ∧ wr.ownsRow V.heap.size 3 1 v (pick (holes W H X) (fun k => sameKey W H X p (2 ^ k)) k).length (ints (toInts (pick (holes W H X) (fun k => sameKey W H X p (2 ^ k)) k))) ∧ wr.ownsRow 0 3 1 (.slice A (holes W H X).length cA) (holes W H X).length (ints (toInts (holes W H X))) ∧ apartV (.slice A (holes W H X).length cA) v ∧ Below V.heap.size V wr) (fun _ i _ => (holes W H X).length - (intOf i).toNat)
  case atStart => exact ⟨0, Nat.zero_le _, rfl, (by simpa [pick, toInts, ints] using hO), hH0, hne, hbel⟩
  case round =>
    clear hO hH0 hne hbel
    obtain ⟨k, hk, rfl, hown, hH, hne, hbel⟩ := hrel
    obtain ⟨A2, c2, rfl⟩ := own_shape hown
    have hpl := pick_len (holes W H X) (fun k => sameKey W H X p (2 ^ k)) k
    by_cases hlt : k < (holes W H X).length
    · obtain ⟨h, hh⟩ : ∃ h, (holes W H X)[k]? = some h := ⟨_, List.getElem?_eq_getElem hlt⟩
      obtain ⟨y1, y5, y6, y7⟩ := hole_small (List.mem_of_getElem? hh)
      have hpm2 : (2 : Int) ^ h ≤ 9223372036854775807 := by have := (pow_bd (n := h) (by omega)).2; omega
      obtain ⟨b, off, rfl, hc⟩ := FAt_of_own hH k (h : Int) (toInts_at hh)
      have hcl := cellb_lt hc
      have hk1 : (0 : Int) ≤ (k : Int) := by omega
      have hk2 : (k : Int) < ((holes W H X).length : Int) := by omega
      have d0 := bel_cell hbel z0 v0_0
      have d1 := bel_cell hbel z0 v0_1
      have d2 := bel_cell hbel z0 v0_2
      have hbz := Nat.lt_of_lt_of_le z0 hbel.size
      have hBR := Below.refl wr.heap.size wr
      have K : Hid (∀ w', Below wr.heap.size wr w' → Below wr.heap.size wr w' ∧ w'.cell? ⟨w.heap.size, 0, none⟩ = some (.int .i64 W) ∧ w'.cell? ⟨w.heap.size, 1, none⟩ = some (.int .i64 H) ∧ w'.cell? ⟨w.heap.size, 2, none⟩ = some (.int .i64 X) ∧ w'.cell? ⟨b, off + k, none⟩ = some (.int .i64 (h : Int))) := fun w' hB => ⟨hB, bel_cell hB hbz d0, bel_cell hB hbz d1, bel_cell hB hbz d2, bel_cell hB hcl hc⟩
      obtain ⟨sk, hsk⟩ : ∃ sk, sameKey W H X p (2 ^ h) = sk := ⟨_, rfl⟩
      have HK := Lib.hid hsk
      have HH := Lib.hid hh
      clear hh hsk
      cases sk
      · have HN := Lib.hid (pick_no (P := (fun k => sameKey W H X p (2 ^ k))) HH.out HK.out)
        go_wp2_with fail
        refine wp_region_held_drew (S := (fun w' => Below wr.heap.size wr w' ∧ w'.cell? ⟨w.heap.size, 0, none⟩ = some (.int .i64 W) ∧ w'.cell? ⟨w.heap.size, 1, none⟩ = some (.int .i64 H) ∧ w'.cell? ⟨w.heap.size, 2, none⟩ = some (.int .i64 X) ∧ w'.cell? ⟨b, off + k, none⟩ = some (.int .i64 (h : Int)))) (by kernel_rfl) ?_ (fun hHd0 => ?_)
        · (refine K.out _ ?_; (repeat (first | exact Below.refl _ _ | assumption | refine below_step ?_ (by assumption) | refine below_alloc ?_ _ | refine below_drewN ?_ _ | refine Below.drew ?_ | refine Below.setCell ?_ (by first | (simp; done) | omega | (simp; omega)) _)))
        refine heldT (i := 0) rfl (by kernel_rfl) (by kernel_rfl) (by kernel_rfl) (fun _ _ _ h => h) (by rfl) (v := ?_) ?_ (by assumption) ?_
        rotate_left
        · (intro w hSw; (try dsimp only at hSw); go_simp; try (with_reducible rfl))
        (try simp only [Act.put, List.setIfInBounds_toArray, List.set_cons_zero, List.set_cons_succ])
        refine heldT (i := 1) rfl (by kernel_rfl) (by kernel_rfl) (by kernel_rfl) (fun _ _ _ h => h) (by rfl) (v := ?_) ?_ (by assumption) ?_
        rotate_left
        · (intro w hSw; (try dsimp only at hSw); go_simp; try (with_reducible rfl))
        (try simp only [Act.put, List.setIfInBounds_toArray, List.set_cons_zero, List.set_cons_succ])
        refine heldT (i := 2) rfl (by kernel_rfl) (by kernel_rfl) (by kernel_rfl) (fun _ _ _ h => h) (by rfl) (v := ?_) ?_ (by assumption) ?_
        rotate_left
        · (intro w hSw; (try dsimp only at hSw); go_simp; try (with_reducible rfl))
        (try simp only [Act.put, List.setIfInBounds_toArray, List.set_cons_zero, List.set_cons_succ])
        refine heldT (i := 3) rfl (by kernel_rfl) (by kernel_rfl) (by kernel_rfl) (fun _ _ _ h => h) (by rfl) (v := ?_) ?_ (by assumption) ?_
        rotate_left
        · (intro w hSw; (try dsimp only at hSw); go_simp; try (with_reducible rfl))
        (try simp only [Act.put, List.setIfInBounds_toArray, List.set_cons_zero, List.set_cons_succ])
        refine heldT (i := 4) rfl (by kernel_rfl) (by kernel_rfl) (by kernel_rfl) (fun _ _ _ h => h) (by rfl) (v := ?_) ?_ (by assumption) ?_
        rotate_left
        · (intro w hSw; (try dsimp only at hSw); go_simp; try (with_reducible rfl))
        (try simp only [Act.put, List.setIfInBounds_toArray, List.set_cons_zero, List.set_cons_succ])
        refine heldT (i := 5) rfl (by kernel_rfl) (by kernel_rfl) (by kernel_rfl) (fun _ _ _ h => h) (by rfl) (v := ?_) ?_ (by assumption) ?_
        rotate_left
        · (intro w hSw; (try dsimp only at hSw); go_simp; try (with_reducible rfl))
        (try simp only [Act.put, List.setIfInBounds_toArray, List.set_cons_zero, List.set_cons_succ])
        refine heldT (i := 6) rfl (by kernel_rfl) (by kernel_rfl) (by kernel_rfl) (fun _ _ _ h => h) (by rfl) (v := ?_) ?_ (by assumption) ?_
        rotate_left
        · (intro w hSw; (try dsimp only at hSw); go_simp; try (with_reducible rfl))
        (try simp only [Act.put, List.setIfInBounds_toArray, List.set_cons_zero, List.set_cons_succ])
        refine heldC (i := 7) rfl (by kernel_rfl) (fun K' hK => ?_)
        go_simp
        refine (spec_SinglePeg _ _ _ _ _ y1 y6).mono ?_; rintro e w2 ⟨rfl, hb2⟩
        (try (go_wp2_with fail))
        refine hK.out _ _ ?_ (fun hHd1 => ?_)
        · ((try dsimp only); (refine K.out _ ?_; (repeat (first | exact Below.refl _ _ | assumption | refine below_step ?_ (by assumption) | refine below_alloc ?_ _ | refine below_drewN ?_ _ | refine Below.drew ?_ | refine Below.setCell ?_ (by first | (simp; done) | omega | (simp; omega)) _))))
        clear hK K' hHd0
        (try simp only [Act.put, List.setIfInBounds_toArray, List.set_cons_zero, List.set_cons_succ])
        refine heldC (i := 8) rfl (by kernel_rfl) (fun K' hK => ?_)
        go_simp
        refine (calls_is (spec_SameKey _ _ _ _ _ _ hp hpm2) HK.out).mono ?_; rintro e w3 ⟨rfl, hb3⟩
        (try (go_wp2_with fail))
        refine hK.out _ _ ?_ (fun hHd2 => ?_)
        · ((try dsimp only); (refine K.out _ ?_; (repeat (first | exact Below.refl _ _ | assumption | refine below_step ?_ (by assumption) | refine below_alloc ?_ _ | refine below_drewN ?_ _ | refine Below.drew ?_ | refine Below.setCell ?_ (by first | (simp; done) | omega | (simp; omega)) _))))
        clear hK K' hHd1
        (try simp only [Act.put, List.setIfInBounds_toArray, List.set_cons_zero, List.set_cons_succ])
        refine wpAnyH_done (by kernel_rfl) ?_ _
        have hB3 : Below wr.heap.size wr w3 := by (repeat (first | exact Below.refl _ _ | assumption | refine below_step ?_ (by assumption) | refine below_alloc ?_ _ | refine below_drewN ?_ _ | refine Below.drew ?_ | refine Below.setCell ?_ (by first | (simp; done) | omega | (simp; omega)) _))
        go_wp2
        go_roundw
        case rel => exact ⟨k + 1, by omega, by go_num, by rw [HN.out]; exact own_below hown hB3, own_below hH hB3, hne, below_step hbel hB3⟩
        case measure => simp [intOf]; omega
      · go_wp2_with fail
        refine wp_region_held_drew (S := (fun w' => Below wr.heap.size wr w' ∧ w'.cell? ⟨w.heap.size, 0, none⟩ = some (.int .i64 W) ∧ w'.cell? ⟨w.heap.size, 1, none⟩ = some (.int .i64 H) ∧ w'.cell? ⟨w.heap.size, 2, none⟩ = some (.int .i64 X) ∧ w'.cell? ⟨b, off + k, none⟩ = some (.int .i64 (h : Int)))) (by kernel_rfl) ?_ (fun hHd0 => ?_)
        · (refine K.out _ ?_; (repeat (first | exact Below.refl _ _ | assumption | refine below_step ?_ (by assumption) | refine below_alloc ?_ _ | refine below_drewN ?_ _ | refine Below.drew ?_ | refine Below.setCell ?_ (by first | (simp; done) | omega | (simp; omega)) _)))
        refine heldT (i := 0) rfl (by kernel_rfl) (by kernel_rfl) (by kernel_rfl) (fun _ _ _ h => h) (by rfl) (v := ?_) ?_ (by assumption) ?_
        rotate_left
        · (intro w hSw; (try dsimp only at hSw); go_simp; try (with_reducible rfl))
        (try simp only [Act.put, List.setIfInBounds_toArray, List.set_cons_zero, List.set_cons_succ])
        refine heldT (i := 1) rfl (by kernel_rfl) (by kernel_rfl) (by kernel_rfl) (fun _ _ _ h => h) (by rfl) (v := ?_) ?_ (by assumption) ?_
        rotate_left
        · (intro w hSw; (try dsimp only at hSw); go_simp; try (with_reducible rfl))
        (try simp only [Act.put, List.setIfInBounds_toArray, List.set_cons_zero, List.set_cons_succ])
        refine heldT (i := 2) rfl (by kernel_rfl) (by kernel_rfl) (by kernel_rfl) (fun _ _ _ h => h) (by rfl) (v := ?_) ?_ (by assumption) ?_
        rotate_left
        · (intro w hSw; (try dsimp only at hSw); go_simp; try (with_reducible rfl))
        (try simp only [Act.put, List.setIfInBounds_toArray, List.set_cons_zero, List.set_cons_succ])
        refine heldT (i := 3) rfl (by kernel_rfl) (by kernel_rfl) (by kernel_rfl) (fun _ _ _ h => h) (by rfl) (v := ?_) ?_ (by assumption) ?_
        rotate_left
        · (intro w hSw; (try dsimp only at hSw); go_simp; try (with_reducible rfl))
        (try simp only [Act.put, List.setIfInBounds_toArray, List.set_cons_zero, List.set_cons_succ])
        refine heldT (i := 4) rfl (by kernel_rfl) (by kernel_rfl) (by kernel_rfl) (fun _ _ _ h => h) (by rfl) (v := ?_) ?_ (by assumption) ?_
        rotate_left
        · (intro w hSw; (try dsimp only at hSw); go_simp; try (with_reducible rfl))
        (try simp only [Act.put, List.setIfInBounds_toArray, List.set_cons_zero, List.set_cons_succ])
        refine heldT (i := 5) rfl (by kernel_rfl) (by kernel_rfl) (by kernel_rfl) (fun _ _ _ h => h) (by rfl) (v := ?_) ?_ (by assumption) ?_
        rotate_left
        · (intro w hSw; (try dsimp only at hSw); go_simp; try (with_reducible rfl))
        (try simp only [Act.put, List.setIfInBounds_toArray, List.set_cons_zero, List.set_cons_succ])
        refine heldT (i := 6) rfl (by kernel_rfl) (by kernel_rfl) (by kernel_rfl) (fun _ _ _ h => h) (by rfl) (v := ?_) ?_ (by assumption) ?_
        rotate_left
        · (intro w hSw; (try dsimp only at hSw); go_simp; try (with_reducible rfl))
        (try simp only [Act.put, List.setIfInBounds_toArray, List.set_cons_zero, List.set_cons_succ])
        refine heldC (i := 7) rfl (by kernel_rfl) (fun K' hK => ?_)
        go_simp
        refine (spec_SinglePeg _ _ _ _ _ y1 y6).mono ?_; rintro e w2 ⟨rfl, hb2⟩
        (try (go_wp2_with fail))
        refine hK.out _ _ ?_ (fun hHd1 => ?_)
        · ((try dsimp only); (refine K.out _ ?_; (repeat (first | exact Below.refl _ _ | assumption | refine below_step ?_ (by assumption) | refine below_alloc ?_ _ | refine below_drewN ?_ _ | refine Below.drew ?_ | refine Below.setCell ?_ (by first | (simp; done) | omega | (simp; omega)) _))))
        clear hK K' hHd0
        (try simp only [Act.put, List.setIfInBounds_toArray, List.set_cons_zero, List.set_cons_succ])
        refine heldC (i := 8) rfl (by kernel_rfl) (fun K' hK => ?_)
        go_simp
        refine (calls_is (spec_SameKey _ _ _ _ _ _ hp hpm2) HK.out).mono ?_; rintro e w3 ⟨rfl, hb3⟩
        (try (go_wp2_with fail))
        refine hK.out _ _ ?_ (fun hHd2 => ?_)
        · ((try dsimp only); (refine K.out _ ?_; (repeat (first | exact Below.refl _ _ | assumption | refine below_step ?_ (by assumption) | refine below_alloc ?_ _ | refine below_drewN ?_ _ | refine Below.drew ?_ | refine Below.setCell ?_ (by first | (simp; done) | omega | (simp; omega)) _))))
        clear hK K' hHd1
        (try simp only [Act.put, List.setIfInBounds_toArray, List.set_cons_zero, List.set_cons_succ])
        refine wpAnyH_done (by kernel_rfl) ?_ _
        have hB3 : Below wr.heap.size wr w3 := by (repeat (first | exact Below.refl _ _ | assumption | refine below_step ?_ (by assumption) | refine below_alloc ?_ _ | refine below_drewN ?_ _ | refine Below.drew ?_ | refine Below.setCell ?_ (by first | (simp; done) | omega | (simp; omega)) _))
        have hc3 := bel_cell hB3 hcl hc
        have hown3 := own_below hown hB3
        have hH3 := own_below hH hB3
        have hbel3 := below_step hbel hB3
        go_wp2_with (at_builtin; refine append_keep Try.underlying56 V _ rfl _ _ rfl _ _ _ (h : Int) (by rfl) hown3 (by rfl) (by omega) hbel3 ?_; intro v' w' hown' hbel' hkeep)
        obtain ⟨kH, kne⟩ := hkeep _ _ _ _ _ _ hH3 hne
        go_roundw
        case rel => exact ⟨k + 1, by omega, by go_num, pick_push HH.out HK.out hown', kH, kne, hbel'⟩
        case measure => simp [intOf]; omega
    · obtain rfl : k = (holes W H X).length := by omega
      have HPA := Lib.hid (show pick (holes W H X) (fun k => sameKey W H X p (2 ^ k)) (holes W H X).length = finalHoles W H X p from pick_all _ _)
      rw [HPA.out] at hown
      go_wp2
      go_ret
      exact ⟨A2, c2, by rw [← HPA.out]; rfl, own_lower (by rw [← HPA.out] at hown ⊢; exact hown) HV.out, below_step v0 hbel⟩
end Go.Proofs.Ytianfakgojmnpaa
