/- Finals, starts, solvable holes: contracts. -/
import Derived.Test.YtianfakgojmnpaaReachC
import Derived.Maps.AppendAt
namespace Go.Proofs.Ytianfakgojmnpaa
open Go.RowKit

def apartV (u v : Value) : Prop := u.ownBlock = none ∨ u.ownBlock ≠ v.ownBlock
/-- one number appended; every other row stays, and stays apart -/
theorem append_keep {ops : Array Oper} {rest : List Oper} {o : Oper} {a : Act} {Q : Exit → Act → World → Prop} {T : TypeId} (hT : Try.prog.underlying T = some (.slice 3)) (V w : World) (hgd : o.guard = none) (s x : Operand)
    (ho : o.op = .call { callee := .builtin .append, args := #[s, x], argTypes := #[T, T] }) (v : Value) (n : Nat) (zs : List Int) (z : Int) (hs : a.eval s = v)
    (hown : w.ownsRow V.heap.size 3 1 v n (ints zs)) (hx : a.eval x = .slice (some ⟨w.heap.size, 0, none⟩) 1 1) (hn : n ≤ 4294967296) (hbel : Below V.heap.size V w)
    (h : ∀ v' w', w'.ownsRow V.heap.size 3 1 v' (n + 1) (ints (zs ++ [z])) → Below V.heap.size V w' →
      (∀ (u : Value) (lo : Nat) (e : TypeId) (s m : Nat) (c : List Value), w.ownsRow lo e s u m c → apartV u v → w'.ownsRow lo e s u m c ∧ apartV u v') → wpList Try.prog ops Q rest (a.put o.dst v') w') :
    wpList Try.prog ops Q (o :: rest) a (w.alloc (.cells #[.int .i64 z] 3)) := by
  obtain ⟨i0, hi, hz0, hz1, hz2⟩ := info_parts int_info
  refine wpList_append_own_at _ hgd s x T ho V.heap.size 3 i0 (.int .i64 0) 1 8 hT hi hz0 hz1 hz2 rfl (by decide) v n (ints zs) hs (hown.alloc _) ⟨w.heap.size, 0, none⟩ 1 1 [.int .i64 z] hx rfl ?_ ?_ ?_ ?_ ?_ ?_
  · intro j u hj
    match j, hj with
    | 0, hj => simp at hj; subst hj; simp [Addr.add]
  · intro u hu; simp at hu; subst hu; rfl
  · simp only [maxLen]; omega
  · omega
  · have := hbel.size; simp; omega
  · intro v' w' hown' hgrow _ hat
    refine h v' w' (by rw [ints_append]; exact hown') ?_ ?_
    · refine ((below_alloc hbel _).grown hgrow (by have := hbel.size; simp; omega) ?_)
      intro k hk
      exact (hown.lt k hk).1
    · intro u lo e s m c hu ha
      refine ⟨(hu.alloc _).kept hgrow ha, ?_⟩
      rcases hat with h5 | h5
      · unfold apartV; rw [h5]; exact ha
      · unfold apartV
        rw [h5]
        cases hv : u.ownBlock with
        | none => exact .inl rfl
        | some k =>
          refine .inr fun e => ?_
          have := (hu.lt k hv).2
          injection e with e
          simp at e
          omega

/-- the holes of which P holds, among the first k -/
def pick (hs : List Nat) (P : Nat → Bool) (k : Nat) : List Nat := (hs.take k).filter P
theorem pick_yes {hs : List Nat} {P : Nat → Bool} {k h : Nat} (hh : hs[k]? = some h) (hp : P h = true) : pick hs P (k + 1) = pick hs P k ++ [h] := by
  unfold pick; rw [List.take_add_one, hh, Option.toList_some, List.filter_append]; simp [hp]
theorem pick_no {hs : List Nat} {P : Nat → Bool} {k h : Nat} (hh : hs[k]? = some h) (hp : P h = false) : pick hs P (k + 1) = pick hs P k := by
  unfold pick; rw [List.take_add_one, hh, Option.toList_some, List.filter_append]; simp [hp]
theorem pick_len (hs : List Nat) (P : Nat → Bool) (k : Nat) : (pick hs P k).length ≤ hs.length := Nat.le_trans (List.length_filter_le _ _) (List.length_take_le' _ _)
theorem pick_all (hs : List Nat) (P : Nat → Bool) : pick hs P hs.length = hs.filter P := by unfold pick; rw [List.take_length]
theorem pick_push {w : World} {lo : Nat} {v : Value} {hs : List Nat} {P : Nat → Bool} {k h : Nat} (hh : hs[k]? = some h) (hp : P h = true) (ho : w.ownsRow lo 3 1 v ((pick hs P k).length + 1) (ints (toInts (pick hs P k) ++ [(h : Int)]))) :
    w.ownsRow lo 3 1 v (pick hs P (k + 1)).length (ints (toInts (pick hs P (k + 1)))) := by
  rw [pick_yes hh hp, toInts_append, List.length_append]; exact ho
theorem hole_small {W H X : Int} {h : Nat} (hh : h ∈ holes W H X) : hasHole W H X h = true ∧ (h : Int) ≤ W * H - 1 ∧ (h : Int) ≤ 48 ∧ X.toNat.testBit h = true := by
  obtain ⟨q1, q2, q3⟩ := holes_hole hh
  obtain ⟨q4, q5⟩ := inB_iff.1 q2
  have m2 := (boardOk_facts q3).m2
  obtain ⟨_, _, q6⟩ := hole_bit q1
  exact ⟨q1, q5, by omega, by simpa using q6⟩
def finals (W H X p : Int) : List Nat := (holes W H X).filter fun k => seenHas (seenB W H X false p) (2 ^ k)
theorem finals_len (W H X p : Int) : (finals W H X p).length ≤ 49 := Nat.le_trans (List.length_filter_le _ _) (holes_small W H X)
set_option maxHeartbeats 4000000 in
theorem impl_FinalsOf (W H X p : Int) (w : World) (hp : p ≤ 9223372036854775807) :
    Calls Try.prog 31 #[.agg #[.int .i64 W, .int .i64 H, .int .i64 X], .int .i64 p] w (RetOwn 3 1 w (finals W H X p).length (toInts (finals W H X p))) := by
  have hHL := holes_small W H X
  go_enter Try.func31, Try.ntmps31
  go_wp2_with fail
  generalize hV : w.alloc (.cells #[.int .i64 W, .int .i64 H, .int .i64 X] 44) = V
  have v0 : Below w.heap.size w V := by subst hV; (repeat (first | exact Below.refl _ _ | assumption | refine below_step ?_ (by assumption) | refine below_alloc ?_ _ | refine below_drewN ?_ _ | refine Below.drew ?_ | refine Below.setCell ?_ (by first | (simp; done) | omega | (simp; omega)) _))
  have z0 : w.heap.size < V.heap.size := by subst hV; simp <;> omega
  have v0_0 : V.cell? ⟨w.heap.size, 0, none⟩ = some (.int .i64 W) := by subst hV; simp
  have v0_1 : V.cell? ⟨w.heap.size, 1, none⟩ = some (.int .i64 H) := by subst hV; simp
  have v0_2 : V.cell? ⟨w.heap.size, 2, none⟩ = some (.int .i64 X) := by subst hV; simp
  have K : Hid (∀ w', Below V.heap.size V w' → Below V.heap.size V w' ∧ w'.cell? ⟨w.heap.size, 0, none⟩ = some (.int .i64 W) ∧ w'.cell? ⟨w.heap.size, 1, none⟩ = some (.int .i64 H) ∧ w'.cell? ⟨w.heap.size, 2, none⟩ = some (.int .i64 X)) := fun w' hB => ⟨hB, bel_cell hB z0 v0_0, bel_cell hB z0 v0_1, bel_cell hB z0 v0_2⟩
  have ZV : Hid (w.heap.size + 1 = V.heap.size) := by subst hV; unfold Hid; simp
  clear hV
  have HV : Hid (w.heap.size ≤ V.heap.size) := v0.size
  refine (impl_spreadOf _ _ _ _ _ _ hp).mono ?_
  rintro e w1 ⟨AS, cS, rfl, hS, hV⟩
  have hSl := seen_len2 W H X p false
  have d0 := bel_cell hV z0 v0_0
  have d1 := bel_cell hV z0 v0_1
  have d2 := bel_cell hV z0 v0_2
  have hz1 := Nat.lt_of_lt_of_le z0 hV.size
  have hO := made0 (V := w1) 3 rfl
  have hO1 := own_lower (lo' := V.heap.size) hO hV.size
  have hV1 := below_alloc hV (.cells #[] 3)
  have hS1 := own_alloc hS (.cells #[] 3)
  go_wp2_with fail
  refine (impl_HolesOf _ _ _ _).mono ?_
  rintro e w2 ⟨A, cA, rfl, hH, hb2⟩
  replace hO1 := own_below hO1 hb2
  replace hS1 := own_below hS1 hb2
  have hne : apartV (.slice A (holes W H X).length cA) (.slice (some ⟨w1.heap.size, 0, none⟩) 0 0) := by
    unfold apartV
    cases hv : (Value.slice A (holes W H X).length cA).ownBlock with
    | none => exact .inl rfl
    | some k =>
      refine .inr fun e => ?_
      have := (hH.lt k hv).1
      simp [Value.ownBlock] at e
      simp at this
      omega
  have hH0 := own_lower (lo' := 0) hH (Nat.zero_le _)
  have hV2 := below_step hV1 hb2
  have hS2 := own_lower (lo' := 0) hS1 (Nat.zero_le _)
  clear hO hV1 hS d0 d1 d2 hH
  go_wp2_with fail
  go_loopw [6, 16] (fun v i wr => ∃ k : Nat, k ≤ (holes W H X).length ∧ i = .int .i64 k ∧ wr.ownsRow V.heap.size 3 1 v (pick (holes W H X) (fun k => seenHas (seenB W H X false p) (2 ^ k)) k).length (ints (toInts (pick (holes W H X) (fun k => seenHas (seenB W H X false p) (2 ^ k)) k))) ∧ wr.ownsRow 0 3 1 (.slice A (holes W H X).length cA) (holes W H X).length (ints (toInts (holes W H X))) ∧ apartV (.slice A (holes W H X).length cA) v ∧ Below V.heap.size V wr ∧ wr.ownsRow 0 4 1 (.slice AS (seenB W H X false p).length cS) (seenB W H X false p).length (bools (seenB W H X false p))) (fun _ i _ => (holes W H X).length - (intOf i).toNat)
  case atStart => exact ⟨0, Nat.zero_le _, rfl, (by simpa [pick, toInts, ints] using hO1), hH0, hne, hV2, hS2⟩
  case round =>
    clear hO1 hV2 hS1 hS2 hH0 hne hz1
    obtain ⟨k, hk, rfl, hown, hH, hne, hbel, hS⟩ := hrel
    obtain ⟨A2, c2, rfl⟩ := own_shape hown
    have hpl := pick_len (holes W H X) (fun k => seenHas (seenB W H X false p) (2 ^ k)) k
    by_cases hlt : k < (holes W H X).length
    · obtain ⟨h, hh⟩ : ∃ h, (holes W H X)[k]? = some h := ⟨_, List.getElem?_eq_getElem hlt⟩
      obtain ⟨y1, y5, y6, y7⟩ := hole_small (List.mem_of_getElem? hh)
      have hwp : wrap64 (2 ^ h) = 2 ^ h := by simpa using wrap_pow y6
      obtain ⟨b, off, rfl, hc⟩ := FAt_of_own hH k (h : Int) (toInts_at hh)
      have hcl := cellb_lt hc
      cases hq : seenHas (seenB W H X false p) (2 ^ h)
      · have HN := Lib.hid (pick_no (P := (fun k => seenHas (seenB W H X false p) (2 ^ k))) hh hq)
        have HH := Lib.hid hh
        clear hh
        go_wp2_with fail
        refine (calls_is (impl_has _ _ _ _ _ (BAt_of_own hS) hSl) hq).mono ?_
        rintro e w3 ⟨rfl, hw3⟩
        go_wp2
        go_roundw
        case rel => exact ⟨k + 1, by omega, by go_num, by rw [HN.out]; exact own_below hown hw3, own_below hH hw3, hne, below_step hbel hw3, own_below hS hw3⟩
        case measure => simp [intOf]; omega
      · have HH := Lib.hid hh
        have HQ := Lib.hid hq
        clear hh
        go_wp2_with fail
        refine (calls_is (impl_has _ _ _ _ _ (BAt_of_own hS) hSl) hq).mono ?_
        rintro e w3 ⟨rfl, hw3⟩
        replace hown := own_below hown hw3
        replace hH := own_below hH hw3
        replace hS := own_below hS hw3
        replace hbel := below_step hbel hw3
        go_wp2_with (at_builtin; refine append_keep Try.underlying56 V _ rfl _ _ rfl _ _ _ (h : Int) (by rfl) hown (by rfl) (by omega) hbel ?_; intro v' w' hown' hbel' hkeep)
        obtain ⟨kH, kne⟩ := hkeep _ _ _ _ _ _ hH hne
        obtain ⟨kS, _⟩ := hkeep _ _ _ _ _ _ hS (own_types hS hown (by decide))
        go_roundw
        case rel => exact ⟨k + 1, by omega, by go_num, pick_push HH.out HQ.out hown', kH, kne, hbel', kS⟩
        case measure => simp [intOf]; omega
    · obtain rfl : k = (holes W H X).length := by omega
      have HPA := Lib.hid (show pick (holes W H X) (fun k => seenHas (seenB W H X false p) (2 ^ k)) (holes W H X).length = finals W H X p from pick_all _ _)
      rw [HPA.out] at hown
      go_wp2
      go_ret
      exact ⟨A2, c2, by rw [← HPA.out]; rfl, own_lower (by rw [← HPA.out] at hown ⊢; exact hown) HV.out, below_step v0 hbel⟩
theorem full_val {X : Int} {h : Nat} (x0 : 0 ≤ X) (x1 : X < 562949953421312) (h1 : (h : Int) ≤ 48) (hb : X.toNat.testBit h = true) : bits .andNot .i64 X (2 ^ h) = X - 2 ^ h ∧ (2 : Int) ^ h ≤ X := by
  have a1 : (2 : Nat) ^ h < 562949953421312 := by have := pow2_lt h1; simpa using this
  obtain ⟨m, rfl⟩ := Int.eq_ofNat_of_zero_le x0
  simp only [Int.toNat_natCast] at hb
  have hs : 2 ^ h &&& m = 2 ^ h := pow_sub hb
  have hle : 2 ^ h ≤ m := Nat.ge_two_pow_of_testBit hb
  have e : ((2 : Int) ^ h) = ((2 ^ h : Nat) : Int) := by simp
  rw [e, nat_andNot (by omega) a1, Nat.and_comm, hs, ← sub_eq_xor hs]
  constructor <;> omega
set_option maxHeartbeats 1000000 in
theorem impl_FullBut (W H X : Int) (h : Nat) (w : World) (hh : hasHole W H X h = true) (h1 : (h : Int) ≤ 48) :
    Calls Try.prog 84 #[.agg #[.int .i64 W, .int .i64 H, .int .i64 X], .int .i64 h] w fun e w' => e = .returned (.int .i64 (X - 2 ^ h)) ∧ Below w.heap.size w w' := by
  have hB : boardOk W H X = true := by simp only [hasHole, Bool.and_eq_true] at hh; exact hh.1.1
  have F := boardOk_facts hB
  obtain ⟨_, _, q6⟩ := hole_bit hh
  have HF := Lib.hid (full_val (by have := F.x1; omega) F.x3 h1 (by simpa using q6)).1
  have hwp : wrap64 (2 ^ h) = 2 ^ h := by simpa using wrap_pow h1
  clear F q6
  go_enter Try.func84, Try.ntmps84
  go_wp2_with fail
  refine (calls_is (impl_HasHole _ _ _ _ _) hh).mono ?_
  rintro e w1 ⟨rfl, hb1⟩
  obtain ⟨hc1, hf1, hs1⟩ := bcell3 hb1
  go_wp2_with fail
  try go_quiet (fail)
  go_wp2
  go_ret
  exact ⟨ret_int (by first | exact HF.out | (rw [hwp]; exact HF.out)), by (repeat (first | exact Below.refl _ _ | assumption | refine below_step ?_ (by assumption) | refine below_alloc ?_ _ | refine below_drewN ?_ _ | refine Below.drew ?_ | refine Below.setCell ?_ (by first | (simp; done) | omega | (simp; omega)) _))⟩
def starts (W H X q : Int) : List Nat := (holes W H X).filter fun k => seenHas (seenB W H X true q) (X - 2 ^ k)
theorem starts_len (W H X q : Int) : (starts W H X q).length ≤ 49 := Nat.le_trans (List.length_filter_le _ _) (holes_small W H X)
def solvable (W H X : Int) : List Nat := if isSmall W H X = true then (holes W H X).filter fun k => decide (0 < (finals W H X (X - 2 ^ k)).length) else []
theorem solvable_len (W H X : Int) : (solvable W H X).length ≤ 49 := by
  unfold solvable; split
  · exact Nat.le_trans (List.length_filter_le _ _) (holes_small W H X)
  · simp
theorem apart_new {w : World} {lo : Nat} {e : TypeId} {s n g m cap : Nat} {u : Value} {cs : List Value} (h : w.ownsRow lo e s u n cs) (hg : g < lo) : apartV u (.slice (some ⟨g, 0, none⟩) m cap) := by
  unfold apartV
  cases hv : u.ownBlock with
  | none => exact .inl rfl
  | some k =>
    refine .inr fun e => ?_
    have h1 := (h.lt k hv).1
    simp [Value.ownBlock] at e
    omega
theorem reach_nodup (W H X p : Int) (b : Bool) : (reachOf W H X b p).Nodup := by
  unfold reachOf idxTo; exact List.Pairwise.filter _ List.nodup_range
def inn (base R : List Nat) (h m : Nat) : List Nat := base ++ (if 2 ^ h ∈ R.take m then [h] else [])
theorem inn_zero (base R : List Nat) (h : Nat) : inn base R h 0 = base := by simp [inn]
theorem inn_no {base R : List Nat} {h m r : Nat} (hr : R[m]? = some r) (hne : r ≠ 2 ^ h) : inn base R h (m + 1) = inn base R h m := by
  unfold inn; rw [List.take_add_one, hr, Option.toList_some]
  have : ¬ 2 ^ h = r := fun e => hne e.symm
  simp [this]
theorem inn_yes {base R : List Nat} {h m r : Nat} (hn : R.Nodup) (hr : R[m]? = some r) (he : r = 2 ^ h) : inn base R h (m + 1) = inn base R h m ++ [h] := by
  subst he
  have h1 : 2 ^ h ∉ R.take m := by
    intro hm
    obtain ⟨j, hj⟩ := List.getElem?_of_mem hm
    rw [List.getElem?_take] at hj
    split at hj
    · have := (List.getElem?_inj (List.getElem?_eq_some_iff.1 hj).1 hn).1 (hj.trans hr.symm)
      omega
    · cases hj
  unfold inn; rw [List.take_add_one, hr, Option.toList_some]
  simp [h1]
theorem inn_len (base R : List Nat) (h m : Nat) : (inn base R h m).length ≤ base.length + 1 := by
  unfold inn; split <;> simp
theorem inn_end {W H X p : Int} {hs : List Nat} {k h : Nat} (hh : hs[k]? = some h) : inn (pick hs (fun k => seenHas (seenB W H X false p) (2 ^ k)) k) (reachOf W H X false p) h (reachOf W H X false p).length = pick hs (fun k => seenHas (seenB W H X false p) (2 ^ k)) (k + 1) := by
  unfold inn
  rw [List.take_length]
  have e : ((2 ^ h : Nat) : Int) = 2 ^ h := by simp
  by_cases hq : seenHas (seenB W H X false p) (2 ^ h) = true
  · rw [pick_yes hh hq, if_pos (reach_mem.2 (by rw [e]; exact hq))]
  · have hq2 : seenHas (seenB W H X false p) (2 ^ h) = false := by simpa using hq
    rw [pick_no hh hq2, if_neg (fun hm => hq (by rw [← e]; exact reach_mem.1 hm))]; simp
set_option maxHeartbeats 4000000 in
theorem spec_FinalsOf (W H X p : Int) (w : World) (hp : p ≤ 9223372036854775807) :
    Calls Try.prog 59 #[.agg #[.int .i64 W, .int .i64 H, .int .i64 X], .int .i64 p] w (RetOwn 3 1 w (finals W H X p).length (toInts (finals W H X p))) := by
  have hHL := holes_small W H X
  have hRL := reach_len W H X p false
  go_enter Try.func59, Try.ntmps59
  go_wp2_with fail
  generalize hV : w.alloc (.cells #[.int .i64 W, .int .i64 H, .int .i64 X] 44) = V
  have v0 : Below w.heap.size w V := by subst hV; (repeat (first | exact Below.refl _ _ | assumption | refine below_step ?_ (by assumption) | refine below_alloc ?_ _ | refine below_drewN ?_ _ | refine Below.drew ?_ | refine Below.setCell ?_ (by first | (simp; done) | omega | (simp; omega)) _))
  have z0 : w.heap.size < V.heap.size := by subst hV; simp <;> omega
  have v0_0 : V.cell? ⟨w.heap.size, 0, none⟩ = some (.int .i64 W) := by subst hV; simp
  have v0_1 : V.cell? ⟨w.heap.size, 1, none⟩ = some (.int .i64 H) := by subst hV; simp
  have v0_2 : V.cell? ⟨w.heap.size, 2, none⟩ = some (.int .i64 X) := by subst hV; simp
  have K : Hid (∀ w', Below V.heap.size V w' → Below V.heap.size V w' ∧ w'.cell? ⟨w.heap.size, 0, none⟩ = some (.int .i64 W) ∧ w'.cell? ⟨w.heap.size, 1, none⟩ = some (.int .i64 H) ∧ w'.cell? ⟨w.heap.size, 2, none⟩ = some (.int .i64 X)) := fun w' hB => ⟨hB, bel_cell hB z0 v0_0, bel_cell hB z0 v0_1, bel_cell hB z0 v0_2⟩
  have ZV : Hid (w.heap.size + 1 = V.heap.size) := by subst hV; unfold Hid; simp
  clear hV
  have HV : Hid (w.heap.size ≤ V.heap.size) := v0.size
  have hO := made0 3 ZV.out
  have hbel : Below V.heap.size V (V.alloc (.cells #[] 3)) := by (repeat (first | exact Below.refl _ _ | assumption | refine below_step ?_ (by assumption) | refine below_alloc ?_ _ | refine below_drewN ?_ _ | refine Below.drew ?_ | refine Below.setCell ?_ (by first | (simp; done) | omega | (simp; omega)) _))
  refine (spec_ReachOf _ _ _ _ _ hp).mono ?_
  rintro e w1 ⟨AR, cR, rfl, hR, hb1⟩
  replace hO := own_below hO hb1
  replace hbel := below_step hbel hb1
  have d0 := bel_cell hbel z0 v0_0
  have d1 := bel_cell hbel z0 v0_1
  have d2 := bel_cell hbel z0 v0_2
  have hnR : apartV (.slice AR (reachOf W H X false p).length cR) (.slice (some ⟨w.heap.size + 1, 0, none⟩) 0 0) := apart_new hR (by have := ZV.out; simp; omega)
  go_wp2_with fail
  refine (spec_HolesOf _ _ _ _).mono ?_
  rintro e w2 ⟨A, cA, rfl, hH, hb2⟩
  replace hO := own_below hO hb2
  replace hR := own_below hR hb2
  have hnH : apartV (.slice A (holes W H X).length cA) (.slice (some ⟨w.heap.size + 1, 0, none⟩) 0 0) := apart_new hH (by have h2 := ZV.out; have h3 := hb1.size; simp at h3; omega)
  replace hbel := below_step hbel hb2
  have hH0 := own_lower (lo' := 0) hH (Nat.zero_le _)
  have hR0 := own_lower (lo' := 0) hR (Nat.zero_le _)
  clear d0 d1 d2 hH hR
  go_wp2_with fail
  go_loopw [5, 8] (fun v i wr => ∃ k : Nat, k ≤ (holes W H X).length ∧ i = .int .i64 k ∧ wr.ownsRow V.heap.size 3 1 v (pick (holes W H X) (fun k => seenHas (seenB W H X false p) (2 ^ k)) k).length (ints (toInts (pick (holes W H X) (fun k => seenHas (seenB W H X false p) (2 ^ k)) k))) ∧ wr.ownsRow 0 3 1 (.slice A (holes W H X).length cA) (holes W H X).length (ints (toInts (holes W H X))) ∧ wr.ownsRow 0 3 1 (.slice AR (reachOf W H X false p).length cR) (reachOf W H X false p).length (ints (toInts (reachOf W H X false p))) ∧ apartV (.slice A (holes W H X).length cA) v ∧ apartV (.slice AR (reachOf W H X false p).length cR) v ∧ Below V.heap.size V wr) (fun _ i _ => (holes W H X).length - (intOf i).toNat)
  case atStart => exact ⟨0, Nat.zero_le _, rfl, (by simpa [pick, toInts, ints] using hO), hH0, hR0, hnH, hnR, hbel⟩
  case round =>
    clear hO hH0 hR0 hnH hnR hbel
    obtain ⟨k, hk, rfl, hown, hH, hR, hnH, hnR, hbel⟩ := hrel
    obtain ⟨A2, c2, rfl⟩ := own_shape hown
    have hpl := pick_len (holes W H X) (fun k => seenHas (seenB W H X false p) (2 ^ k)) k
    by_cases hlt : k < (holes W H X).length
    · obtain ⟨h, hh⟩ : ∃ h, (holes W H X)[k]? = some h := ⟨_, List.getElem?_eq_getElem hlt⟩
      obtain ⟨y1, y5, y6, y7⟩ := hole_small (List.mem_of_getElem? hh)
      have hwp : wrap64 (2 ^ h) = 2 ^ h := by simpa using wrap_pow y6
      have HIE := Lib.hid (inn_end (p := p) (X := X) (W := W) (H := H) hh)
      obtain ⟨b, off, rfl, _⟩ := FAt_of_own hH k (h : Int) (toInts_at hh)
      have HH := Lib.hid hh
      clear hh
      go_wp2
      go_loopw [5, 9] (fun v i wr => ∃ m : Nat, m ≤ (reachOf W H X false p).length ∧ i = .int .i64 m ∧ wr.ownsRow V.heap.size 3 1 v (inn (pick (holes W H X) (fun k => seenHas (seenB W H X false p) (2 ^ k)) k) (reachOf W H X false p) h m).length (ints (toInts (inn (pick (holes W H X) (fun k => seenHas (seenB W H X false p) (2 ^ k)) k) (reachOf W H X false p) h m))) ∧ wr.ownsRow 0 3 1 (.slice (some ⟨b, off, none⟩) (holes W H X).length cA) (holes W H X).length (ints (toInts (holes W H X))) ∧ wr.ownsRow 0 3 1 (.slice AR (reachOf W H X false p).length cR) (reachOf W H X false p).length (ints (toInts (reachOf W H X false p))) ∧ apartV (.slice (some ⟨b, off, none⟩) (holes W H X).length cA) v ∧ apartV (.slice AR (reachOf W H X false p).length cR) v ∧ Below V.heap.size V wr) (fun _ i _ => (reachOf W H X false p).length - (intOf i).toNat)
      case atStart => exact ⟨0, Nat.zero_le _, rfl, (by rw [inn_zero]; exact hown), hH, hR, hnH, hnR, hbel⟩
      case round =>
        clear hown hH hR hnH hnR hbel
        obtain ⟨m, hm, rfl, hown, hH, hR, hnH, hnR, hbel⟩ := hrel
        obtain ⟨A3, c3, rfl⟩ := own_shape hown
        have hil := inn_len (pick (holes W H X) (fun k => seenHas (seenB W H X false p) (2 ^ k)) k) (reachOf W H X false p) h m
        by_cases hml : m < (reachOf W H X false p).length
        · obtain ⟨r, hr⟩ : ∃ r, (reachOf W H X false p)[m]? = some r := ⟨_, List.getElem?_eq_getElem hml⟩
          obtain ⟨b1, o1, e1, hc⟩ := FAt_of_own hH k (h : Int) (toInts_at HH.out)
          injection e1 with e1; injection e1 with e3 e4; subst e3 e4
          obtain ⟨b2, o2, rfl, hc2⟩ := FAt_of_own hR m (r : Int) (toInts_at hr)
          have hcl := cellb_lt hc
          have hk1 : (0 : Int) ≤ (k : Int) := by omega
          have hk2 : (k : Int) < ((holes W H X).length : Int) := by omega
          have hm1 : (0 : Int) ≤ (m : Int) := by omega
          have hm2 : (m : Int) < ((reachOf W H X false p).length : Int) := by omega
          by_cases hre : r = 2 ^ h
          · have HN := Lib.hid (inn_yes (base := pick (holes W H X) (fun k => seenHas (seenB W H X false p) (2 ^ k)) k) (reach_nodup W H X p false) hr hre)
            have hcd : (((r : Nat) : Int) == 2 ^ h) = true := by rw [hre]; simp
            have hcd2 : (((r : Nat) : Int) == wrap64 (2 ^ h)) = true := by rw [hwp]; exact hcd
            clear hr hre
            go_wp2_with fail
            try go_quiet (fail)
            go_wp2_with (at_builtin; refine append_keep Try.underlying56 V _ rfl _ _ rfl _ _ _ (h : Int) (by rfl) (by first | exact hown | exact own_drewN hown _) (by rfl) (by omega) (by first | exact hbel | exact below_drewN hbel _) ?_; intro v' w' hown' hbel' hkeep)
            obtain ⟨kH, knH⟩ := hkeep _ _ _ _ _ _ (by first | exact hH | exact own_drewN hH _) hnH
            obtain ⟨kR, knR⟩ := hkeep _ _ _ _ _ _ (by first | exact hR | exact own_drewN hR _) hnR
            go_roundw
            case rel => exact ⟨m + 1, by omega, by go_num, by rw [HN.out, toInts_append, List.length_append]; exact hown', kH, kR, knH, knR, hbel'⟩
            case measure => simp [intOf]; omega
          · have HN := Lib.hid (inn_no (base := pick (holes W H X) (fun k => seenHas (seenB W H X false p) (2 ^ k)) k) hr hre)
            have hcd : (((r : Nat) : Int) == 2 ^ h) = false := by
              rw [beq_eq_false_iff_ne]; intro e; apply hre
              have : ((r : Nat) : Int) = ((2 ^ h : Nat) : Int) := by rw [e]; simp
              omega
            have hcd2 : (((r : Nat) : Int) == wrap64 (2 ^ h)) = false := by rw [hwp]; exact hcd
            clear hr hre
            go_wp2_with fail
            try go_quiet (fail)
            go_wp2
            go_roundw
            case rel => exact ⟨m + 1, by omega, by go_num, by rw [HN.out]; first | exact hown | exact own_drewN hown _, by first | exact hH | exact own_drewN hH _, by first | exact hR | exact own_drewN hR _, hnH, hnR, by first | exact hbel | exact below_drewN hbel _⟩
            case measure => simp [intOf]; omega
        · obtain rfl : m = (reachOf W H X false p).length := by omega
          go_wp2
          go_roundw
          case rel => exact ⟨k + 1, by omega, by go_num, by rw [← HIE.out]; exact hown, hH, hR, hnH, hnR, hbel⟩
          case measure => simp [intOf]; omega
    · obtain rfl : k = (holes W H X).length := by omega
      have HPA := Lib.hid (show pick (holes W H X) (fun k => seenHas (seenB W H X false p) (2 ^ k)) (holes W H X).length = finals W H X p from pick_all _ _)
      rw [HPA.out] at hown
      go_wp2
      go_ret
      exact ⟨A2, c2, by rw [← HPA.out]; rfl, own_lower (by rw [← HPA.out] at hown ⊢; exact hown) HV.out, below_step v0 hbel⟩
theorem starts_none {W H X p : Int} (h : ¬ (isSmall W H X = true ∧ positionOk W H X p = true)) : starts W H X p = [] := by
  unfold starts
  rw [List.filter_eq_nil_iff]
  intro k _
  rw [seen_none h]; simp
end Go.Proofs.Ytianfakgojmnpaa
