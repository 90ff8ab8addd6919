/- Jumps of a position, good jumps: contracts. -/
import Derived.Test.YtianfakgojmnpaaFinals
namespace Go.Proofs.Ytianfakgojmnpaa
open Go.RowKit

/-- one line appended; every other row stays, and stays apart -/
theorem append_lkeep {ops : Array Oper} {rest : List Oper} {o : Oper} {a : Act} {Q : Exit → Act → World → Prop} {T : TypeId} (hT : Try.prog.underlying T = some (.slice 46)) (V w : World) (hgd : o.guard = none) (s x : Operand)
    (ho : o.op = .call { callee := .builtin .append, args := #[s, x], argTypes := #[T, T] }) (v : Value) (n : Nat) (zs : List (Int × Int × Int)) (p q r : Int) (hs : a.eval s = v)
    (hown : w.ownsRow V.heap.size 46 3 v n (ints (lflat zs))) (hx : a.eval x = .slice (some ⟨w.heap.size, 0, none⟩) 1 1) (hn : n ≤ 4294967296) (hbel : Below V.heap.size V w)
    (h : ∀ v' w', w'.ownsRow V.heap.size 46 3 v' (n + 1) (ints (lflat (zs ++ [(p, q, r)]))) → Below V.heap.size V w' →
      (∀ (u : Value) (lo : Nat) (e : TypeId) (s m : Nat) (c : List Value), w.ownsRow lo e s u m c → apartV u v → w'.ownsRow lo e s u m c ∧ apartV u v') → wpList Try.prog ops Q rest (a.put o.dst v') w') :
    wpList Try.prog ops Q (o :: rest) a (w.alloc (.cells #[.int .i64 p, .int .i64 q, .int .i64 r] 46)) := by
  obtain ⟨i0, hi, hz0, hz1, hz2⟩ := info_parts line_info
  refine wpList_append_own_at _ hgd s x T ho V.heap.size 46 i0 (.agg #[.int .i64 0, .int .i64 0, .int .i64 0]) 3 24 hT hi hz0 hz1 hz2 rfl (by decide) v n (ints (lflat zs)) hs (hown.alloc _) ⟨w.heap.size, 0, none⟩ 1 1 [.int .i64 p, .int .i64 q, .int .i64 r] hx rfl ?_ ?_ ?_ ?_ ?_ ?_
  · intro j u hj
    match j, hj with
    | 0, hj => simp at hj; subst hj; simp [Addr.add]
    | 1, hj => simp at hj; subst hj; simp [Addr.add]
    | 2, hj => simp at hj; subst hj; simp [Addr.add]
  · intro u hu; simp at hu; rcases hu with rfl | rfl | rfl <;> rfl
  · simp only [maxLen]; omega
  · omega
  · have := hbel.size; simp; omega
  · intro v' w' hown' hgrow _ hat
    refine h v' w' (by rw [lflat_append, ints_append]; exact hown') ?_ ?_
    · refine ((below_alloc hbel _).grown hgrow (by have := hbel.size; simp; omega) ?_)
      intro k hk
      exact (hown.lt k hk).1
    · intro u lo e s m c hu ha
      refine ⟨(hu.alloc _).kept hgrow ha, ?_⟩
      rcases hat with h5 | h5
      · unfold apartV; rw [h5]; exact ha
      · unfold apartV
        rw [h5]
        cases hv : u.ownBlock with
        | none => exact .inl rfl
        | some k =>
          refine .inr fun e => ?_
          have := (hu.lt k hv).2
          injection e with e
          simp at e
          omega
def lpick (L : List (Int × Int × Int)) (P : Int × Int × Int → Bool) (k : Nat) : List (Int × Int × Int) := (L.take k).filter P
theorem lpick_yes {L : List (Int × Int × Int)} {P : Int × Int × Int → Bool} {k : Nat} {l : Int × Int × Int} (hh : L[k]? = some l) (hp : P l = true) : lpick L P (k + 1) = lpick L P k ++ [l] := by
  unfold lpick; rw [List.take_add_one, hh, Option.toList_some, List.filter_append]; simp [hp]
theorem lpick_no {L : List (Int × Int × Int)} {P : Int × Int × Int → Bool} {k : Nat} {l : Int × Int × Int} (hh : L[k]? = some l) (hp : P l = false) : lpick L P (k + 1) = lpick L P k := by
  unfold lpick; rw [List.take_add_one, hh, Option.toList_some, List.filter_append]; simp [hp]
theorem lpick_len (L : List (Int × Int × Int)) (P : Int × Int × Int → Bool) (k : Nat) : (lpick L P k).length ≤ L.length := Nat.le_trans (List.length_filter_le _ _) (List.length_take_le' _ _)
theorem lpick_all (L : List (Int × Int × Int)) (P : Int × Int × Int → Bool) : lpick L P L.length = L.filter P := by unfold lpick; rw [List.take_length]
theorem lpick_push {w : World} {lo : Nat} {v : Value} {L : List (Int × Int × Int)} {P : Int × Int × Int → Bool} {k : Nat} {l : Int × Int × Int} (hh : L[k]? = some l) (hp : P l = true)
    (ho : w.ownsRow lo 46 3 v ((lpick L P k).length + 1) (ints (lflat (lpick L P k ++ [l])))) : w.ownsRow lo 46 3 v (lpick L P (k + 1)).length (ints (lflat (lpick L P (k + 1)))) := by
  rw [lpick_yes hh hp, List.length_append]; exact ho
def jumpsOf (W H X p : Int) : List (Int × Int × Int) := if positionOk W H X p = true then (linesOf W H X).filter fun l => canGo false p.toNat l else []
theorem jumpsOf_len (W H X p : Int) : (jumpsOf W H X p).length ≤ 196 := by
  unfold jumpsOf; split
  · exact Nat.le_trans (List.length_filter_le _ _) (linesOf_len W H X)
  · simp
theorem jumpsOf_mem {W H X p : Int} {l : Int × Int × Int} (h : l ∈ jumpsOf W H X p) : positionOk W H X p = true ∧ l ∈ linesOf W H X ∧ canGo false p.toNat l = true := by
  unfold jumpsOf at h; split at h
  · rename_i hp; simp only [List.mem_filter] at h; exact ⟨hp, h.1, h.2⟩
  · simp at h
theorem pos_lt {W H X p : Int} (h : positionOk W H X p = true) : 0 ≤ p ∧ p.toNat < 562949953421312 := by
  have F := positionOk_facts h
  have B := boardOk_facts F.b
  have := F.le; have := B.x3; have := F.p0
  exact ⟨F.p0, by omega⟩
set_option maxHeartbeats 4000000 in
theorem impl_JumpsOf (W H X p : Int) (w : World) (hp : p ≤ 9223372036854775807) :
    Calls Try.prog 108 #[.agg #[.int .i64 W, .int .i64 H, .int .i64 X], .int .i64 p] w (RetOwn 46 3 w (jumpsOf W H X p).length (lflat (jumpsOf W H X p))) := by
  have hll := linesOf_len W H X
  cases h1 : positionOk W H X p
  · have e : jumpsOf W H X p = [] := by simp [jumpsOf, h1]
    rw [e]; clear e
    go_enter Try.func108, Try.ntmps108
    go_wp2_with fail
    generalize hV : w.alloc (.cells #[.int .i64 W, .int .i64 H, .int .i64 X] 44) = V
    have v0 : Below w.heap.size w V := by subst hV; (repeat (first | exact Below.refl _ _ | assumption | refine below_step ?_ (by assumption) | refine below_alloc ?_ _ | refine below_drewN ?_ _ | refine Below.drew ?_ | refine Below.setCell ?_ (by first | (simp; done) | omega | (simp; omega)) _))
    have z0 : w.heap.size < V.heap.size := by subst hV; simp <;> omega
    have v0_0 : V.cell? ⟨w.heap.size, 0, none⟩ = some (.int .i64 W) := by subst hV; simp
    have v0_1 : V.cell? ⟨w.heap.size, 1, none⟩ = some (.int .i64 H) := by subst hV; simp
    have v0_2 : V.cell? ⟨w.heap.size, 2, none⟩ = some (.int .i64 X) := by subst hV; simp
    have K : Hid (∀ w', Below V.heap.size V w' → Below V.heap.size V w' ∧ w'.cell? ⟨w.heap.size, 0, none⟩ = some (.int .i64 W) ∧ w'.cell? ⟨w.heap.size, 1, none⟩ = some (.int .i64 H) ∧ w'.cell? ⟨w.heap.size, 2, none⟩ = some (.int .i64 X)) := fun w' hB => ⟨hB, bel_cell hB z0 v0_0, bel_cell hB z0 v0_1, bel_cell hB z0 v0_2⟩
    have ZV : Hid (w.heap.size + 1 = V.heap.size) := by subst hV; unfold Hid; simp
    clear hV
    have HV : Hid (w.heap.size ≤ V.heap.size) := v0.size
    have hO := made0s (s := 3) 46 ZV.out
    have hbel : Below V.heap.size V (V.alloc (.cells #[] 46)) := by (repeat (first | exact Below.refl _ _ | assumption | refine below_step ?_ (by assumption) | refine below_alloc ?_ _ | refine below_drewN ?_ _ | refine Below.drew ?_ | refine Below.setCell ?_ (by first | (simp; done) | omega | (simp; omega)) _))
    refine (calls_is (impl_PositionOk _ _ _ _ _ hp) h1).mono ?_
    rintro e w1 ⟨rfl, hb1⟩
    replace hO := own_below hO hb1
    replace hbel := below_step hbel hb1
    (try clear d0 d1 d2)
    have d0 := bel_cell hbel z0 v0_0
    have d1 := bel_cell hbel z0 v0_1
    have d2 := bel_cell hbel z0 v0_2
    go_wp2
    go_ret
    exact ⟨_, _, rfl, own_lower hO HV.out, below_step v0 hbel⟩
  obtain ⟨p0, p1⟩ := pos_lt h1
  obtain ⟨m, rfl⟩ := Int.eq_ofNat_of_zero_le p0
  simp only [Int.toNat_natCast] at p1
  have e : jumpsOf W H X m = (linesOf W H X).filter (fun l => canGo false m l) := by simp [jumpsOf, h1]
  rw [e]; clear e
  go_enter Try.func108, Try.ntmps108
  go_wp2_with fail
  generalize hV : w.alloc (.cells #[.int .i64 W, .int .i64 H, .int .i64 X] 44) = V
  have v0 : Below w.heap.size w V := by subst hV; (repeat (first | exact Below.refl _ _ | assumption | refine below_step ?_ (by assumption) | refine below_alloc ?_ _ | refine below_drewN ?_ _ | refine Below.drew ?_ | refine Below.setCell ?_ (by first | (simp; done) | omega | (simp; omega)) _))
  have z0 : w.heap.size < V.heap.size := by subst hV; simp <;> omega
  have v0_0 : V.cell? ⟨w.heap.size, 0, none⟩ = some (.int .i64 W) := by subst hV; simp
  have v0_1 : V.cell? ⟨w.heap.size, 1, none⟩ = some (.int .i64 H) := by subst hV; simp
  have v0_2 : V.cell? ⟨w.heap.size, 2, none⟩ = some (.int .i64 X) := by subst hV; simp
  have K : Hid (∀ w', Below V.heap.size V w' → Below V.heap.size V w' ∧ w'.cell? ⟨w.heap.size, 0, none⟩ = some (.int .i64 W) ∧ w'.cell? ⟨w.heap.size, 1, none⟩ = some (.int .i64 H) ∧ w'.cell? ⟨w.heap.size, 2, none⟩ = some (.int .i64 X)) := fun w' hB => ⟨hB, bel_cell hB z0 v0_0, bel_cell hB z0 v0_1, bel_cell hB z0 v0_2⟩
  have ZV : Hid (w.heap.size + 1 = V.heap.size) := by subst hV; unfold Hid; simp
  clear hV
  have HV : Hid (w.heap.size ≤ V.heap.size) := v0.size
  have hO := made0s (s := 3) 46 ZV.out
  have hbel : Below V.heap.size V (V.alloc (.cells #[] 46)) := by (repeat (first | exact Below.refl _ _ | assumption | refine below_step ?_ (by assumption) | refine below_alloc ?_ _ | refine below_drewN ?_ _ | refine Below.drew ?_ | refine Below.setCell ?_ (by first | (simp; done) | omega | (simp; omega)) _))
  refine (calls_is (impl_PositionOk _ _ _ _ _ hp) h1).mono ?_
  rintro e w1 ⟨rfl, hb1⟩
  replace hO := own_below hO hb1
  replace hbel := below_step hbel hb1
  (try clear d0 d1 d2)
  have d0 := bel_cell hbel z0 v0_0
  have d1 := bel_cell hbel z0 v0_1
  have d2 := bel_cell hbel z0 v0_2
  go_wp2_with fail
  refine (impl_LinesOf _ _ _ _).mono ?_
  rintro e w2 ⟨D, cD, rfl, hL, hb2⟩
  have hne := apart_new (m := 0) (cap := 0) (g := w.heap.size + 1) hL (by have h2 := ZV.out; have h3 := hb1.size; simp at h3; omega)
  replace hO := own_below hO hb2
  replace hbel := below_step hbel hb2
  have hL0 := own_lower (lo' := 0) hL (Nat.zero_le _)
  clear hL d0 d1 d2
  go_wp2_with fail
  go_loopw [5, 19] (fun v i wr => ∃ k : Nat, k ≤ (linesOf W H X).length ∧ i = .int .i64 k ∧ wr.ownsRow V.heap.size 46 3 v (lpick (linesOf W H X) (fun l => canGo false m l) k).length (ints (lflat (lpick (linesOf W H X) (fun l => canGo false m l) k))) ∧ wr.ownsRow 0 46 3 (.slice D (linesOf W H X).length cD) (linesOf W H X).length (ints (lflat (linesOf W H X))) ∧ apartV (.slice D (linesOf W H X).length cD) v ∧ Below V.heap.size V wr) (fun _ i _ => (linesOf W H X).length - (intOf i).toNat)
  case atStart => exact ⟨0, Nat.zero_le _, rfl, (by simpa [lpick, lflat, ints] using hO), hL0, hne, hbel⟩
  case round =>
    clear hO hL0 hne hbel
    obtain ⟨k, hk, rfl, hown, hL, hne, hbel⟩ := hrel
    obtain ⟨A2, c2, rfl⟩ := own_shape hown
    have hpl := lpick_len (linesOf W H X) (fun l => canGo false m l) k
    by_cases hlt : k < (linesOf W H X).length
    · obtain ⟨⟨f, o, t⟩, hl⟩ : ∃ l, (linesOf W H X)[k]? = some l := ⟨_, List.getElem?_eq_getElem hlt⟩
      have hFL := FAt_of_own hL
      obtain ⟨q1, q2, q3⟩ := lflat_get hl
      obtain ⟨bl, offl, rfl, l1⟩ := hFL _ _ q1
      obtain ⟨_, _, e2, l2⟩ := hFL _ _ q2
      injection e2 with e2; injection e2 with e3 e4; subst e3 e4
      obtain ⟨_, _, e2, l3⟩ := hFL _ _ q3
      injection e2 with e2; injection e2 with e3 e4; subst e3 e4
      rw [← Nat.add_assoc] at l2 l3
      have hzl := cellb_lt l1
      have hk1 : (0 : Int) ≤ (k : Int) := by omega
      have hk2 : (k : Int) < ((linesOf W H X).length : Int) := by omega
      have HF := Lib.hid (lines_facts (List.mem_of_getElem? hl)).small
      have HLL := Lib.hid hl
      clear hl q1 q2 q3 hFL
      cases hcg : (fun l => canGo false m l) (f, o, t)
      · have HN := Lib.hid (lpick_no (P := fun l => canGo false m l) HLL.out hcg)
        go_wp2_with fail
        generalize hU : wr.alloc (.cells #[.int .i64 f, .int .i64 o, .int .i64 t] 46) = U
        have bU : Below wr.heap.size wr U := by subst hU; (repeat (first | exact Below.refl _ _ | assumption | refine below_step ?_ (by assumption) | refine below_alloc ?_ _ | refine below_drewN ?_ _ | refine Below.drew ?_ | refine Below.setCell ?_ (by first | (simp; done) | omega | (simp; omega)) _))
        have zU : wr.heap.size < U.heap.size := by subst hU; simp
        have u0 : U.cell? ⟨wr.heap.size, 0, none⟩ = some (.int .i64 f) := by subst hU; simp
        have u1 : U.cell? ⟨wr.heap.size, 1, none⟩ = some (.int .i64 o) := by subst hU; simp
        have u2 : U.cell? ⟨wr.heap.size, 2, none⟩ = some (.int .i64 t) := by subst hU; simp
        clear hU
        refine (impl_jumpFrom_no _ HF.out p1 hcg).mono ?_
        rintro e w4 ⟨rfl, hb4⟩
        have d0 := bel_cell hb4 zU u0
        have d1 := bel_cell hb4 zU u1
        have d2 := bel_cell hb4 zU u2
        have zw := Nat.lt_of_lt_of_le zU hb4.size
        have hw5 : Below wr.heap.size wr w4 := by (repeat (first | exact Below.refl _ _ | assumption | refine below_step ?_ (by assumption) | refine below_alloc ?_ _ | refine below_drewN ?_ _ | refine Below.drew ?_ | refine Below.setCell ?_ (by first | (simp; done) | omega | (simp; omega)) _))
        go_wp2
        go_roundw
        case rel => exact ⟨k + 1, by omega, by go_num, by rw [HN.out]; exact own_below hown hw5, own_below hL hw5, hne, below_step hbel hw5⟩
        case measure => simp [intOf]; omega
      · have HQ := Lib.hid hcg
        go_wp2_with fail
        generalize hU : wr.alloc (.cells #[.int .i64 f, .int .i64 o, .int .i64 t] 46) = U
        have bU : Below wr.heap.size wr U := by subst hU; (repeat (first | exact Below.refl _ _ | assumption | refine below_step ?_ (by assumption) | refine below_alloc ?_ _ | refine below_drewN ?_ _ | refine Below.drew ?_ | refine Below.setCell ?_ (by first | (simp; done) | omega | (simp; omega)) _))
        have zU : wr.heap.size < U.heap.size := by subst hU; simp
        have u0 : U.cell? ⟨wr.heap.size, 0, none⟩ = some (.int .i64 f) := by subst hU; simp
        have u1 : U.cell? ⟨wr.heap.size, 1, none⟩ = some (.int .i64 o) := by subst hU; simp
        have u2 : U.cell? ⟨wr.heap.size, 2, none⟩ = some (.int .i64 t) := by subst hU; simp
        clear hU
        refine (impl_jumpFrom_yes _ HF.out p1 hcg).mono ?_
        rintro e w4 ⟨rfl, hb4⟩
        have d0 := bel_cell hb4 zU u0
        have d1 := bel_cell hb4 zU u1
        have d2 := bel_cell hb4 zU u2
        have zw := Nat.lt_of_lt_of_le zU hb4.size
        have hw5 : Below wr.heap.size wr w4 := by (repeat (first | exact Below.refl _ _ | assumption | refine below_step ?_ (by assumption) | refine below_alloc ?_ _ | refine below_drewN ?_ _ | refine Below.drew ?_ | refine Below.setCell ?_ (by first | (simp; done) | omega | (simp; omega)) _))
        replace hown := own_below hown hw5
        replace hL := own_below hL hw5
        replace hbel := below_step hbel hw5
        go_wp2_with (at_builtin; refine append_lkeep Try.underlying61 V _ rfl _ _ rfl _ _ _ f o t (by rfl) hown (by rfl) (by omega) hbel ?_; intro v' w' hown' hbel' hkeep)
        obtain ⟨kL, kne⟩ := hkeep _ _ _ _ _ _ hL hne
        go_roundw
        case rel => exact ⟨k + 1, by omega, by go_num, lpick_push HLL.out HQ.out hown', kL, kne, hbel'⟩
        case measure => simp [intOf]; omega
    · obtain rfl : k = (linesOf W H X).length := by omega
      have HPA := Lib.hid (show lpick (linesOf W H X) (fun l => canGo false m l) (linesOf W H X).length = (linesOf W H X).filter (fun l => canGo false m l) from lpick_all _ _)
      rw [HPA.out] at hown
      go_wp2
      go_ret
      exact ⟨A2, c2, by rw [← HPA.out]; rfl, own_lower (by rw [← HPA.out] at hown ⊢; exact hown) HV.out, below_step v0 hbel⟩
set_option maxHeartbeats 4000000 in
theorem spec_JumpsOf (W H X p : Int) (w : World) (hp : p ≤ 9223372036854775807) :
    Calls Try.prog 37 #[.agg #[.int .i64 W, .int .i64 H, .int .i64 X], .int .i64 p] w (RetOwn 46 3 w (jumpsOf W H X p).length (lflat (jumpsOf W H X p))) := by
  have hll := linesOf_len W H X
  cases h1 : positionOk W H X p
  · have e : jumpsOf W H X p = [] := by simp [jumpsOf, h1]
    rw [e]; clear e
    go_enter Try.func37, Try.ntmps37
    go_wp2_with fail
    generalize hV : w.alloc (.cells #[.int .i64 W, .int .i64 H, .int .i64 X] 44) = V
    have v0 : Below w.heap.size w V := by subst hV; (repeat (first | exact Below.refl _ _ | assumption | refine below_step ?_ (by assumption) | refine below_alloc ?_ _ | refine below_drewN ?_ _ | refine Below.drew ?_ | refine Below.setCell ?_ (by first | (simp; done) | omega | (simp; omega)) _))
    have z0 : w.heap.size < V.heap.size := by subst hV; simp <;> omega
    have v0_0 : V.cell? ⟨w.heap.size, 0, none⟩ = some (.int .i64 W) := by subst hV; simp
    have v0_1 : V.cell? ⟨w.heap.size, 1, none⟩ = some (.int .i64 H) := by subst hV; simp
    have v0_2 : V.cell? ⟨w.heap.size, 2, none⟩ = some (.int .i64 X) := by subst hV; simp
    have K : Hid (∀ w', Below V.heap.size V w' → Below V.heap.size V w' ∧ w'.cell? ⟨w.heap.size, 0, none⟩ = some (.int .i64 W) ∧ w'.cell? ⟨w.heap.size, 1, none⟩ = some (.int .i64 H) ∧ w'.cell? ⟨w.heap.size, 2, none⟩ = some (.int .i64 X)) := fun w' hB => ⟨hB, bel_cell hB z0 v0_0, bel_cell hB z0 v0_1, bel_cell hB z0 v0_2⟩
    have ZV : Hid (w.heap.size + 1 = V.heap.size) := by subst hV; unfold Hid; simp
    clear hV
    have HV : Hid (w.heap.size ≤ V.heap.size) := v0.size
    have hO := made0s (s := 3) 46 ZV.out
    have hbel : Below V.heap.size V (V.alloc (.cells #[] 46)) := by (repeat (first | exact Below.refl _ _ | assumption | refine below_step ?_ (by assumption) | refine below_alloc ?_ _ | refine below_drewN ?_ _ | refine Below.drew ?_ | refine Below.setCell ?_ (by first | (simp; done) | omega | (simp; omega)) _))
    refine (spec_LinesOf _ _ _ _).mono ?_
    rintro e w2 ⟨D, cD, rfl, hL, hb2⟩
    have hne := apart_new (m := 0) (cap := 0) (g := w.heap.size + 1) hL (by have h2 := ZV.out; simp; omega)
    replace hO := own_below hO hb2
    replace hbel := below_step hbel hb2
    have hL0 := own_lower (lo' := 0) hL (Nat.zero_le _)
    clear hL
    have d0 := bel_cell hbel z0 v0_0
    have d1 := bel_cell hbel z0 v0_1
    have d2 := bel_cell hbel z0 v0_2
    go_wp2_with fail
    go_loopw [5, 7] (fun v i wr => v = .slice (some ⟨w.heap.size + 1, 0, none⟩) 0 0 ∧ i = .int .i64 0 ∧ wr = w2) (fun _ _ _ => 0)
    case atStart => exact ⟨rfl, rfl, rfl⟩
    case round =>
      obtain ⟨rfl, rfl, rfl⟩ := hrel
      by_cases hlt : 0 < (linesOf W H X).length
      · go_wp2_with fail
        refine (calls_is (spec_PositionOk _ _ _ _ _ hp) h1).mono ?_
        rintro e w3 ⟨rfl, hb3⟩
        replace hO := own_below hO hb3
        replace hbel := below_step hbel hb3
        go_wp2
        go_ret
        exact ⟨_, _, rfl, own_lower hO HV.out, below_step v0 hbel⟩
      · go_wp2
        go_ret
        exact ⟨_, _, rfl, own_lower hO HV.out, below_step v0 hbel⟩
  obtain ⟨p0, p1⟩ := pos_lt h1
  obtain ⟨m, rfl⟩ := Int.eq_ofNat_of_zero_le p0
  simp only [Int.toNat_natCast] at p1
  have e : jumpsOf W H X m = (linesOf W H X).filter (fun l => canGo false m l) := by simp [jumpsOf, h1]
  rw [e]; clear e
  go_enter Try.func37, Try.ntmps37
  go_wp2_with fail
  generalize hV : w.alloc (.cells #[.int .i64 W, .int .i64 H, .int .i64 X] 44) = V
  have v0 : Below w.heap.size w V := by subst hV; (repeat (first | exact Below.refl _ _ | assumption | refine below_step ?_ (by assumption) | refine below_alloc ?_ _ | refine below_drewN ?_ _ | refine Below.drew ?_ | refine Below.setCell ?_ (by first | (simp; done) | omega | (simp; omega)) _))
  have z0 : w.heap.size < V.heap.size := by subst hV; simp <;> omega
  have v0_0 : V.cell? ⟨w.heap.size, 0, none⟩ = some (.int .i64 W) := by subst hV; simp
  have v0_1 : V.cell? ⟨w.heap.size, 1, none⟩ = some (.int .i64 H) := by subst hV; simp
  have v0_2 : V.cell? ⟨w.heap.size, 2, none⟩ = some (.int .i64 X) := by subst hV; simp
  have K : Hid (∀ w', Below V.heap.size V w' → Below V.heap.size V w' ∧ w'.cell? ⟨w.heap.size, 0, none⟩ = some (.int .i64 W) ∧ w'.cell? ⟨w.heap.size, 1, none⟩ = some (.int .i64 H) ∧ w'.cell? ⟨w.heap.size, 2, none⟩ = some (.int .i64 X)) := fun w' hB => ⟨hB, bel_cell hB z0 v0_0, bel_cell hB z0 v0_1, bel_cell hB z0 v0_2⟩
  have ZV : Hid (w.heap.size + 1 = V.heap.size) := by subst hV; unfold Hid; simp
  clear hV
  have HV : Hid (w.heap.size ≤ V.heap.size) := v0.size
  have hO := made0s (s := 3) 46 ZV.out
  have hbel : Below V.heap.size V (V.alloc (.cells #[] 46)) := by (repeat (first | exact Below.refl _ _ | assumption | refine below_step ?_ (by assumption) | refine below_alloc ?_ _ | refine below_drewN ?_ _ | refine Below.drew ?_ | refine Below.setCell ?_ (by first | (simp; done) | omega | (simp; omega)) _))
  refine (spec_LinesOf _ _ _ _).mono ?_
  rintro e w2 ⟨D, cD, rfl, hL, hb2⟩
  have hne := apart_new (m := 0) (cap := 0) (g := w.heap.size + 1) hL (by have h2 := ZV.out; simp; omega)
  replace hO := own_below hO hb2
  replace hbel := below_step hbel hb2
  have hL0 := own_lower (lo' := 0) hL (Nat.zero_le _)
  clear hL
  go_wp2_with fail
  go_loopw [5, 7] (fun v i wr => ∃ k : Nat, k ≤ (linesOf W H X).length ∧ i = .int .i64 k ∧ wr.ownsRow V.heap.size 46 3 v (lpick (linesOf W H X) (fun l => canGo false m l) k).length (ints (lflat (lpick (linesOf W H X) (fun l => canGo false m l) k))) ∧ wr.ownsRow 0 46 3 (.slice D (linesOf W H X).length cD) (linesOf W H X).length (ints (lflat (linesOf W H X))) ∧ apartV (.slice D (linesOf W H X).length cD) v ∧ Below V.heap.size V wr) (fun _ i _ => (linesOf W H X).length - (intOf i).toNat)
  case atStart => exact ⟨0, Nat.zero_le _, rfl, (by simpa [lpick, lflat, ints] using hO), hL0, hne, hbel⟩
  case round =>
    clear hO hL0 hne hbel
    obtain ⟨k, hk, rfl, hown, hL, hne, hbel⟩ := hrel
    obtain ⟨A2, c2, rfl⟩ := own_shape hown
    have hpl := lpick_len (linesOf W H X) (fun l => canGo false m l) k
    by_cases hlt : k < (linesOf W H X).length
    · obtain ⟨⟨f, o, t⟩, hl⟩ : ∃ l, (linesOf W H X)[k]? = some l := ⟨_, List.getElem?_eq_getElem hlt⟩
      have hFL := FAt_of_own hL
      obtain ⟨q1, q2, q3⟩ := lflat_get hl
      obtain ⟨bl, offl, rfl, l1⟩ := hFL _ _ q1
      obtain ⟨_, _, e2, l2⟩ := hFL _ _ q2
      injection e2 with e2; injection e2 with e3 e4; subst e3 e4
      obtain ⟨_, _, e2, l3⟩ := hFL _ _ q3
      injection e2 with e2; injection e2 with e3 e4; subst e3 e4
      rw [← Nat.add_assoc] at l2 l3
      have hzl := cellb_lt l1
      have hk1 : (0 : Int) ≤ (k : Int) := by omega
      have hk2 : (k : Int) < ((linesOf W H X).length : Int) := by omega
      have HF := Lib.hid (lines_facts (List.mem_of_getElem? hl)).small
      have HLL := Lib.hid hl
      clear hl q1 q2 q3 hFL
      cases hcg : (fun l => canGo false m l) (f, o, t)
      · have HN := Lib.hid (lpick_no (P := fun l => canGo false m l) HLL.out hcg)
        have l1x := l1
        have l2x := l2
        have l3x := l3
        have f0 := HF.out.f0
        have f1 := HF.out.f1
        have o0 := HF.out.o0
        have o1 := HF.out.o1
        have t0 := HF.out.t0
        have t1 := HF.out.t1
        have hcond := cond_false HF.out p1 hcg
        have hcond2 := hcond
        rw [wrap_pow f1, wrap_pow o1, ← wrap_pow' f1, ← wrap_pow' o1] at hcond2
        have d0 := bel_cell hbel z0 v0_0
        have d1 := bel_cell hbel z0 v0_1
        have d2 := bel_cell hbel z0 v0_2
        clear hcg
        go_wp2_with fail
        refine (calls_is (spec_PositionOk _ _ _ _ _ hp) h1).mono ?_
        rintro e w3 ⟨rfl, hb3⟩
        replace l1 := bel_cell hb3 hzl l1
        replace l2 := bel_cell hb3 hzl l2
        replace l3 := bel_cell hb3 hzl l3
        have hzl3 := cellb_lt l1
        clear d0 d1 d2
        have K3 : Hid (∀ w', Below w3.heap.size w3 w' → Below w3.heap.size w3 w' ∧ w'.cell? ⟨bl, offl + k * 3, none⟩ = some (.int .i64 f) ∧ w'.cell? ⟨bl, offl + k * 3 + 1, none⟩ = some (.int .i64 o) ∧ w'.cell? ⟨bl, offl + k * 3 + 2, none⟩ = some (.int .i64 t)) := fun w' hB => ⟨hB, bel_cell hB hzl3 l1, bel_cell hB hzl3 l2, bel_cell hB hzl3 l3⟩
        go_wp2_with fail
        go_region_held3 (fun w' => Below w3.heap.size w3 w' ∧ w'.cell? ⟨bl, offl + k * 3, none⟩ = some (.int .i64 f) ∧ w'.cell? ⟨bl, offl + k * 3 + 1, none⟩ = some (.int .i64 o) ∧ w'.cell? ⟨bl, offl + k * 3 + 2, none⟩ = some (.int .i64 t)) ((refine K3.out _ ?_; (repeat (first | exact Below.refl _ _ | assumption | refine below_step ?_ (by assumption) | refine below_alloc ?_ _ | refine below_drewN ?_ _ | refine Below.drew ?_ | refine Below.setCell ?_ (by first | (simp; done) | omega | (simp; omega)) _)))) (first | (go_at_call 95; refine (spec_l05Bits _ _ _ _ HF.out).mono ?_; rintro e w4 ⟨rfl, hb4⟩))
        have hw5 : Below wr.heap.size wr w4 := by (repeat (first | exact Below.refl _ _ | assumption | refine below_step ?_ (by assumption) | refine below_alloc ?_ _ | refine below_drewN ?_ _ | refine Below.drew ?_ | refine Below.setCell ?_ (by first | (simp; done) | omega | (simp; omega)) _))
        have g1 := bel_cell hw5 hzl l1x
        have g2 := bel_cell hw5 hzl l2x
        have g3 := bel_cell hw5 hzl l3x
        have zw := cellb_lt g1
        go_wp2
        go_roundw
        case rel => exact ⟨k + 1, by omega, by go_num, by rw [HN.out]; exact own_below hown hw5, own_below hL hw5, hne, below_step hbel hw5⟩
        case measure => simp [intOf]; omega
      · have HQ := Lib.hid hcg
        have l1x := l1
        have l2x := l2
        have l3x := l3
        have f0 := HF.out.f0
        have f1 := HF.out.f1
        have o0 := HF.out.o0
        have o1 := HF.out.o1
        have t0 := HF.out.t0
        have t1 := HF.out.t1
        have hcond := cond_false HF.out p1 hcg
        have hcond2 := hcond
        rw [wrap_pow f1, wrap_pow o1, ← wrap_pow' f1, ← wrap_pow' o1] at hcond2
        have d0 := bel_cell hbel z0 v0_0
        have d1 := bel_cell hbel z0 v0_1
        have d2 := bel_cell hbel z0 v0_2
        clear hcg
        go_wp2_with fail
        refine (calls_is (spec_PositionOk _ _ _ _ _ hp) h1).mono ?_
        rintro e w3 ⟨rfl, hb3⟩
        replace l1 := bel_cell hb3 hzl l1
        replace l2 := bel_cell hb3 hzl l2
        replace l3 := bel_cell hb3 hzl l3
        have hzl3 := cellb_lt l1
        clear d0 d1 d2
        have K3 : Hid (∀ w', Below w3.heap.size w3 w' → Below w3.heap.size w3 w' ∧ w'.cell? ⟨bl, offl + k * 3, none⟩ = some (.int .i64 f) ∧ w'.cell? ⟨bl, offl + k * 3 + 1, none⟩ = some (.int .i64 o) ∧ w'.cell? ⟨bl, offl + k * 3 + 2, none⟩ = some (.int .i64 t)) := fun w' hB => ⟨hB, bel_cell hB hzl3 l1, bel_cell hB hzl3 l2, bel_cell hB hzl3 l3⟩
        go_wp2_with fail
        go_region_held3 (fun w' => Below w3.heap.size w3 w' ∧ w'.cell? ⟨bl, offl + k * 3, none⟩ = some (.int .i64 f) ∧ w'.cell? ⟨bl, offl + k * 3 + 1, none⟩ = some (.int .i64 o) ∧ w'.cell? ⟨bl, offl + k * 3 + 2, none⟩ = some (.int .i64 t)) ((refine K3.out _ ?_; (repeat (first | exact Below.refl _ _ | assumption | refine below_step ?_ (by assumption) | refine below_alloc ?_ _ | refine below_drewN ?_ _ | refine Below.drew ?_ | refine Below.setCell ?_ (by first | (simp; done) | omega | (simp; omega)) _)))) (first | (go_at_call 95; refine (spec_l05Bits _ _ _ _ HF.out).mono ?_; rintro e w4 ⟨rfl, hb4⟩))
        have hw5 : Below wr.heap.size wr w4 := by (repeat (first | exact Below.refl _ _ | assumption | refine below_step ?_ (by assumption) | refine below_alloc ?_ _ | refine below_drewN ?_ _ | refine Below.drew ?_ | refine Below.setCell ?_ (by first | (simp; done) | omega | (simp; omega)) _))
        have g1 := bel_cell hw5 hzl l1x
        have g2 := bel_cell hw5 hzl l2x
        have g3 := bel_cell hw5 hzl l3x
        have zw := cellb_lt g1
        replace hown := own_below hown hw5
        replace hL := own_below hL hw5
        replace hbel := below_step hbel hw5
        go_wp2_with (at_builtin; refine append_lkeep Try.underlying61 V _ rfl _ _ rfl _ _ _ f o t (by rfl) hown (by rfl) (by omega) hbel ?_; intro v' w' hown' hbel' hkeep)
        obtain ⟨kL, kne⟩ := hkeep _ _ _ _ _ _ hL hne
        go_roundw
        case rel => exact ⟨k + 1, by omega, by go_num, lpick_push HLL.out HQ.out hown', kL, kne, hbel'⟩
        case measure => simp [intOf]; omega
    · obtain rfl : k = (linesOf W H X).length := by omega
      have HPA := Lib.hid (show lpick (linesOf W H X) (fun l => canGo false m l) (linesOf W H X).length = (linesOf W H X).filter (fun l => canGo false m l) from lpick_all _ _)
      rw [HPA.out] at hown
      go_wp2
      go_ret
      exact ⟨A2, c2, by rw [← HPA.out]; rfl, own_lower (by rw [← HPA.out] at hown ⊢; exact hown) HV.out, below_step v0 hbel⟩
theorem jumpFrom_int {p f o t : Int} (w : World) (hs : Small3 f o t) (p0 : 0 ≤ p) (p1 : p.toNat < 562949953421312) (hc : canGo false p.toNat (f, o, t) = true) :
    Calls Try.prog 107 #[.int .i64 p, .agg #[.int .i64 f, .int .i64 o, .int .i64 t]] w fun e w' => e = .returned (.tuple #[.int .i64 (goTo p.toNat (f, o, t) : Nat), .bool true]) ∧ Below w.heap.size w w' := by
  obtain ⟨m, rfl⟩ := Int.eq_ofNat_of_zero_le p0
  exact impl_jumpFrom_yes w hs p1 hc
theorem xor_int {p f o t : Int} (hs : Small3 f o t) (p0 : 0 ≤ p) (p1 : p.toNat < 562949953421312) : bits .xor .i64 p ((lineBits (f, o, t) : Nat) : Int) = ((goTo p.toNat (f, o, t) : Nat) : Int) := by
  obtain ⟨m, rfl⟩ := Int.eq_ofNat_of_zero_le p0
  exact nat_xor p1 (lineBits_lt hs)
def goodJumps (W H X p q : Int) : List (Int × Int × Int) := (jumpsOf W H X p).filter fun l => seenHas (seenB W H X true q) ((goTo p.toNat l : Nat) : Int)
theorem goodJumps_len (W H X p q : Int) : (goodJumps W H X p q).length ≤ 196 := Nat.le_trans (List.length_filter_le _ _) (jumpsOf_len W H X p)
theorem goodJumps_no1 {W H X p q : Int} (h : ¬ (isSmall W H X = true ∧ positionOk W H X q = true)) : goodJumps W H X p q = [] := by
  unfold goodJumps
  rw [List.filter_eq_nil_iff]
  intro l _
  rw [seen_none h]; simp
theorem goodJumps_no2 {W H X p q : Int} (h : positionOk W H X p = false) : goodJumps W H X p q = [] := by
  unfold goodJumps jumpsOf; rw [if_neg (by simp [h])]; rfl
theorem goTo_ok {W H X p : Int} {l : Int × Int × Int} (h : l ∈ jumpsOf W H X p) : goTo p.toNat l < cells2 W H ∧ goTo p.toNat l &&& X.toNat = goTo p.toNat l := by
  obtain ⟨h1, h2, _⟩ := jumpsOf_mem h
  have h3 := goTo_sub (positionOk_facts h1).sub (lines_facts h2).sub
  have h4 : goTo p.toNat l ≤ X.toNat := by rw [← h3]; exact Nat.and_le_right
  exact ⟨Nat.lt_of_le_of_lt h4 (board_lt (positionOk_facts h1).b), h3⟩
set_option maxHeartbeats 4000000 in
theorem impl_GoodJumps (W H X p q : Int) (w : World) (hp : p ≤ 9223372036854775807) (hq : q ≤ 9223372036854775807) :
    Calls Try.prog 56 #[.agg #[.int .i64 W, .int .i64 H, .int .i64 X], .int .i64 p, .int .i64 q] w (RetOwn 46 3 w (goodJumps W H X p q).length (lflat (goodJumps W H X p q))) := by
  have hll := jumpsOf_len W H X p
  go_enter Try.func56, Try.ntmps56
  go_wp2_with fail
  generalize hV : w.alloc (.cells #[.int .i64 W, .int .i64 H, .int .i64 X] 44) = V
  have v0 : Below w.heap.size w V := by subst hV; (repeat (first | exact Below.refl _ _ | assumption | refine below_step ?_ (by assumption) | refine below_alloc ?_ _ | refine below_drewN ?_ _ | refine Below.drew ?_ | refine Below.setCell ?_ (by first | (simp; done) | omega | (simp; omega)) _))
  have z0 : w.heap.size < V.heap.size := by subst hV; simp <;> omega
  have v0_0 : V.cell? ⟨w.heap.size, 0, none⟩ = some (.int .i64 W) := by subst hV; simp
  have v0_1 : V.cell? ⟨w.heap.size, 1, none⟩ = some (.int .i64 H) := by subst hV; simp
  have v0_2 : V.cell? ⟨w.heap.size, 2, none⟩ = some (.int .i64 X) := by subst hV; simp
  have K : Hid (∀ w', Below V.heap.size V w' → Below V.heap.size V w' ∧ w'.cell? ⟨w.heap.size, 0, none⟩ = some (.int .i64 W) ∧ w'.cell? ⟨w.heap.size, 1, none⟩ = some (.int .i64 H) ∧ w'.cell? ⟨w.heap.size, 2, none⟩ = some (.int .i64 X)) := fun w' hB => ⟨hB, bel_cell hB z0 v0_0, bel_cell hB z0 v0_1, bel_cell hB z0 v0_2⟩
  have ZV : Hid (w.heap.size + 1 = V.heap.size) := by subst hV; unfold Hid; simp
  clear hV
  have HV : Hid (w.heap.size ≤ V.heap.size) := v0.size
  refine (impl_spreadOf _ _ _ _ _ _ hq).mono ?_
  rintro e w1 ⟨AS, cS, rfl, hS, hV⟩
  have hSl := seen_len2 W H X q true
  have d0 := bel_cell hV z0 v0_0
  have d1 := bel_cell hV z0 v0_1
  have d2 := bel_cell hV z0 v0_2
  have hz1 := Nat.lt_of_lt_of_le z0 hV.size
  have hO := own_lower (lo' := V.heap.size) (made0s (V := w1) (s := 3) 46 rfl) hV.size
  have hV1 := below_alloc hV (.cells #[] 46)
  have hS1 := own_alloc hS (.cells #[] 46)
  go_wp2_with fail
  refine (impl_JumpsOf _ _ _ _ _ hp).mono ?_
  rintro e w2 ⟨D, cD, rfl, hL, hb2⟩
  have hne := apart_new (m := 0) (cap := 0) (g := w1.heap.size) hL (by simp)
  replace hO := own_below hO hb2
  have hS0 := own_lower (lo' := 0) (own_below hS1 hb2) (Nat.zero_le _)
  have hbel := below_step hV1 hb2
  have hL0 := own_lower (lo' := 0) hL (Nat.zero_le _)
  clear hL d0 d1 d2 hV1 hV hz1 hS hS1
  go_wp2_with fail
  go_loopw [8, 21] (fun v i wr => ∃ k : Nat, k ≤ (jumpsOf W H X p).length ∧ i = .int .i64 k ∧ wr.ownsRow V.heap.size 46 3 v (lpick (jumpsOf W H X p) (fun l => seenHas (seenB W H X true q) ((goTo p.toNat l : Nat) : Int)) k).length (ints (lflat (lpick (jumpsOf W H X p) (fun l => seenHas (seenB W H X true q) ((goTo p.toNat l : Nat) : Int)) k))) ∧ wr.ownsRow 0 46 3 (.slice D (jumpsOf W H X p).length cD) (jumpsOf W H X p).length (ints (lflat (jumpsOf W H X p))) ∧ apartV (.slice D (jumpsOf W H X p).length cD) v ∧ Below V.heap.size V wr ∧ wr.ownsRow 0 4 1 (.slice AS (seenB W H X true q).length cS) (seenB W H X true q).length (bools (seenB W H X true q))) (fun _ i _ => (jumpsOf W H X p).length - (intOf i).toNat)
  case atStart => exact ⟨0, Nat.zero_le _, rfl, (by simpa [lpick, lflat, ints] using hO), hL0, hne, hbel, hS0⟩
  case round =>
    clear hO hL0 hne hbel
    obtain ⟨k, hk, rfl, hown, hL, hne, hbel, hS⟩ := hrel
    obtain ⟨A2, c2, rfl⟩ := own_shape hown
    have hpl := lpick_len (jumpsOf W H X p) (fun l => seenHas (seenB W H X true q) ((goTo p.toNat l : Nat) : Int)) k
    by_cases hlt : k < (jumpsOf W H X p).length
    · obtain ⟨⟨f, o, t⟩, hl⟩ : ∃ l, (jumpsOf W H X p)[k]? = some l := ⟨_, List.getElem?_eq_getElem hlt⟩
      have hFL := FAt_of_own hL
      obtain ⟨q1, q2, q3⟩ := lflat_get hl
      obtain ⟨bl, offl, rfl, l1⟩ := hFL _ _ q1
      obtain ⟨_, _, e2, l2⟩ := hFL _ _ q2
      injection e2 with e2; injection e2 with e3 e4; subst e3 e4
      obtain ⟨_, _, e2, l3⟩ := hFL _ _ q3
      injection e2 with e2; injection e2 with e3 e4; subst e3 e4
      rw [← Nat.add_assoc] at l2 l3
      have hzl := cellb_lt l1
      have hk1 : (0 : Int) ≤ (k : Int) := by omega
      have hk2 : (k : Int) < ((jumpsOf W H X p).length : Int) := by omega
      have hjm := jumpsOf_mem (List.mem_of_getElem? hl)
      have HF := Lib.hid (lines_facts hjm.2.1).small
      have HG := Lib.hid hjm.2.2
      obtain ⟨p0, p1⟩ := pos_lt hjm.1
      have hgo := (goTo_ok (List.mem_of_getElem? hl)).1
      clear hjm
      have HLL := Lib.hid hl
      clear hl q1 q2 q3 hFL
      cases hcg : (fun l => seenHas (seenB W H X true q) ((goTo p.toNat l : Nat) : Int)) (f, o, t)
      · have HN := Lib.hid (lpick_no (P := fun l => seenHas (seenB W H X true q) ((goTo p.toNat l : Nat) : Int)) HLL.out hcg)
        go_wp2_with fail
        generalize hU : wr.alloc (.cells #[.int .i64 f, .int .i64 o, .int .i64 t] 46) = U
        have bU : Below wr.heap.size wr U := by subst hU; (repeat (first | exact Below.refl _ _ | assumption | refine below_step ?_ (by assumption) | refine below_alloc ?_ _ | refine below_drewN ?_ _ | refine Below.drew ?_ | refine Below.setCell ?_ (by first | (simp; done) | omega | (simp; omega)) _))
        have zU : wr.heap.size < U.heap.size := by subst hU; simp
        have u0 : U.cell? ⟨wr.heap.size, 0, none⟩ = some (.int .i64 f) := by subst hU; simp
        have u1 : U.cell? ⟨wr.heap.size, 1, none⟩ = some (.int .i64 o) := by subst hU; simp
        have u2 : U.cell? ⟨wr.heap.size, 2, none⟩ = some (.int .i64 t) := by subst hU; simp
        clear hU
        refine (jumpFrom_int _ HF.out p0 p1 HG.out).mono ?_
        rintro e w4 ⟨rfl, hb4⟩
        have d0 := bel_cell hb4 zU u0
        have d1 := bel_cell hb4 zU u1
        have d2 := bel_cell hb4 zU u2
        have zw := Nat.lt_of_lt_of_le zU hb4.size
        have hw4 : Below wr.heap.size wr w4 := by (repeat (first | exact Below.refl _ _ | assumption | refine below_step ?_ (by assumption) | refine below_alloc ?_ _ | refine below_drewN ?_ _ | refine Below.drew ?_ | refine Below.setCell ?_ (by first | (simp; done) | omega | (simp; omega)) _))
        go_wp2_with fail
        refine (calls_is (impl_has _ _ _ _ _ (BAt_of_own (own_below hS hw4)) hSl) hcg).mono ?_
        rintro e w5 ⟨rfl, hb5⟩
        replace d0 := bel_cell hb5 zw d0
        replace d1 := bel_cell hb5 zw d1
        replace d2 := bel_cell hb5 zw d2
        replace zw := Nat.lt_of_lt_of_le zw hb5.size
        have hw5 : Below wr.heap.size wr w5 := below_step hw4 hb5
        go_wp2
        go_roundw
        case rel => exact ⟨k + 1, by omega, by go_num, by rw [HN.out]; exact own_below hown hw5, own_below hL hw5, hne, below_step hbel hw5, own_below hS hw5⟩
        case measure => simp [intOf]; omega
      · have HQ := Lib.hid hcg
        go_wp2_with fail
        generalize hU : wr.alloc (.cells #[.int .i64 f, .int .i64 o, .int .i64 t] 46) = U
        have bU : Below wr.heap.size wr U := by subst hU; (repeat (first | exact Below.refl _ _ | assumption | refine below_step ?_ (by assumption) | refine below_alloc ?_ _ | refine below_drewN ?_ _ | refine Below.drew ?_ | refine Below.setCell ?_ (by first | (simp; done) | omega | (simp; omega)) _))
        have zU : wr.heap.size < U.heap.size := by subst hU; simp
        have u0 : U.cell? ⟨wr.heap.size, 0, none⟩ = some (.int .i64 f) := by subst hU; simp
        have u1 : U.cell? ⟨wr.heap.size, 1, none⟩ = some (.int .i64 o) := by subst hU; simp
        have u2 : U.cell? ⟨wr.heap.size, 2, none⟩ = some (.int .i64 t) := by subst hU; simp
        clear hU
        refine (jumpFrom_int _ HF.out p0 p1 HG.out).mono ?_
        rintro e w4 ⟨rfl, hb4⟩
        have d0 := bel_cell hb4 zU u0
        have d1 := bel_cell hb4 zU u1
        have d2 := bel_cell hb4 zU u2
        have zw := Nat.lt_of_lt_of_le zU hb4.size
        have hw4 : Below wr.heap.size wr w4 := by (repeat (first | exact Below.refl _ _ | assumption | refine below_step ?_ (by assumption) | refine below_alloc ?_ _ | refine below_drewN ?_ _ | refine Below.drew ?_ | refine Below.setCell ?_ (by first | (simp; done) | omega | (simp; omega)) _))
        go_wp2_with fail
        refine (calls_is (impl_has _ _ _ _ _ (BAt_of_own (own_below hS hw4)) hSl) hcg).mono ?_
        rintro e w5 ⟨rfl, hb5⟩
        replace d0 := bel_cell hb5 zw d0
        replace d1 := bel_cell hb5 zw d1
        replace d2 := bel_cell hb5 zw d2
        replace zw := Nat.lt_of_lt_of_le zw hb5.size
        have hw5 : Below wr.heap.size wr w5 := below_step hw4 hb5
        replace hown := own_below hown hw5
        replace hL := own_below hL hw5
        replace hbel := below_step hbel hw5
        go_wp2_with (at_builtin; refine append_lkeep Try.underlying61 V _ rfl _ _ rfl _ _ _ f o t (by rfl) hown (by rfl) (by omega) hbel ?_; intro v' w' hown' hbel' hkeep)
        obtain ⟨kL, kne⟩ := hkeep _ _ _ _ _ _ hL hne
        obtain ⟨kS, _⟩ := hkeep _ _ _ _ _ _ (own_below hS hw5) (own_types (own_below hS hw5) hown (by decide))
        go_roundw
        case rel => exact ⟨k + 1, by omega, by go_num, lpick_push HLL.out HQ.out hown', kL, kne, hbel', kS⟩
        case measure => simp [intOf]; omega
    · obtain rfl : k = (jumpsOf W H X p).length := by omega
      have HPA := Lib.hid (show lpick (jumpsOf W H X p) (fun l => seenHas (seenB W H X true q) ((goTo p.toNat l : Nat) : Int)) (jumpsOf W H X p).length = goodJumps W H X p q from lpick_all _ _)
      rw [HPA.out] at hown
      go_wp2
      go_ret
      exact ⟨A2, c2, by rw [← HPA.out]; rfl, own_lower (by rw [← HPA.out] at hown ⊢; exact hown) HV.out, below_step v0 hbel⟩
end Go.Proofs.Ytianfakgojmnpaa
