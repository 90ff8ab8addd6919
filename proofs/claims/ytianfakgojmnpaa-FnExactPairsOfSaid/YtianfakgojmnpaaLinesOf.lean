/- The lines of a board: mathematics and contracts. -/
import Derived.Test.YtianfakgojmnpaaLines
namespace Go.Proofs.Ytianfakgojmnpaa
open Go.RowKit

def lflat (l : List (Int × Int × Int)) : List Int := l.flatMap fun x => [x.1, x.2.1, x.2.2]
theorem lflat_append (a b : List (Int × Int × Int)) : lflat (a ++ b) = lflat a ++ lflat b := by simp [lflat]
theorem lflat_len (a : List (Int × Int × Int)) : (lflat a).length = a.length * 3 := by
  induction a with
  | nil => rfl
  | cons x a ih => simp only [lflat, List.flatMap_cons, List.length_append, List.length_cons, List.length_nil] at ih ⊢; omega
theorem lflat_get : ∀ {a : List (Int × Int × Int)} {k : Nat} {f o t : Int}, a[k]? = some (f, o, t) → (lflat a)[k * 3]? = some f ∧ (lflat a)[k * 3 + 1]? = some o ∧ (lflat a)[k * 3 + 2]? = some t := by
  intro a
  induction a with
  | nil => intro k f o t h; simp at h
  | cons x a ih =>
    intro k f o t h
    cases k with
    | zero =>
      simp at h; subst h
      simp [lflat]
    | succ k =>
      simp at h
      have := ih h
      rw [show (k + 1) * 3 = k * 3 + 3 from by omega]
      have e : ∀ j, (lflat (x :: a))[j + 3]? = (lflat a)[j]? := fun j => by simp [lflat]
      exact ⟨by rw [e]; exact this.1, by rw [show k * 3 + 3 + 1 = k * 3 + 1 + 3 from by omega, e]; exact this.2.1, by rw [show k * 3 + 3 + 2 = k * 3 + 2 + 3 from by omega, e]; exact this.2.2⟩

def lineAt (W H X k : Int) (way : Nat) : List (Int × Int × Int) :=
  if 0 ≤ stepAt W H X (stepAt W H X k way) way then [(k, stepAt W H X k way, stepAt W H X (stepAt W H X k way) way)] else []
def linesFrom (W H X k : Int) (m : Nat) : List (Int × Int × Int) := (List.range m).flatMap (lineAt W H X k)
def linesTo (W H X : Int) (hs : List Nat) : List (Int × Int × Int) := hs.flatMap fun (k : Nat) => linesFrom W H X (k : Int) 4
def linesOf (W H X : Int) : List (Int × Int × Int) := linesTo W H X (holes W H X)

theorem linesFrom_succ (W H X k : Int) (m : Nat) : linesFrom W H X k (m + 1) = linesFrom W H X k m ++ lineAt W H X k m := by simp [linesFrom, List.range_succ]
theorem linesTo_snoc (W H X : Int) (hs : List Nat) (k : Nat) : linesTo W H X (hs ++ [k]) = linesTo W H X hs ++ linesFrom W H X (k : Int) 4 := by simp [linesTo]
theorem lineAt_len (W H X k : Int) (way : Nat) : (lineAt W H X k way).length ≤ 1 := by unfold lineAt; split <;> simp
theorem linesFrom_len (W H X k : Int) (m : Nat) : (linesFrom W H X k m).length ≤ m := by
  induction m with
  | zero => simp [linesFrom]
  | succ m ih => rw [linesFrom_succ, List.length_append]; have := lineAt_len W H X k m; omega
theorem linesTo_len (W H X : Int) (hs : List Nat) : (linesTo W H X hs).length ≤ hs.length * 4 := by
  induction hs with
  | nil => simp [linesTo]
  | cons k hs ih => simp only [linesTo, List.flatMap_cons, List.length_append, List.length_cons] at ih ⊢; have := linesFrom_len W H X (k : Int) 4; omega
theorem linesOf_len (W H X : Int) : (linesOf W H X).length ≤ 196 := by
  have := linesTo_len W H X (holes W H X); have := holes_small W H X; unfold linesOf; omega

theorem stepTo_hole {W H X x y : Int} (hb : boardOk W H X = true) (h : 0 ≤ stepTo W H X x y) : hasHole W H X (stepTo W H X x y) = true := by
  have F := boardOk_facts hb
  unfold stepTo at h ⊢
  split at h
  · rename_i hh
    rw [if_pos hh]
    obtain ⟨r1, r2, r3, r4⟩ := row_bd F.w1 F.w2 F.h2 hh.1 hh.2.1
    simp [hasHole, hb, inB_iff, hh.2.2, r3, r4]
  · omega
theorem holes_hole {W H X : Int} {j : Nat} (h : j ∈ holes W H X) : hasHole W H X j = true ∧ inB (j : Int) 0 (W * H - 1) = true ∧ boardOk W H X = true := by
  unfold holes at h
  split at h
  · rename_i hb
    obtain ⟨h1, h2⟩ := bitsTo_mem.1 h
    have h3 : inB (j : Int) 0 (W * H - 1) = true := inB_iff.2 ⟨by omega, by omega⟩
    exact ⟨by simp [hasHole, hb, h3, bitI, h2], h3, hb⟩
  · simp at h
theorem stepAt_none (W H X way : Int) : stepAt W H X (-1) way = -1 := by
  have : hasHole W H X (-1) = false := by simp [hasHole, inB]
  simp [stepAt, this]
theorem stepAt_ge (W H X k way : Int) : -1 ≤ stepAt W H X k way := by
  unfold stepAt stepIn stepTo
  split
  · split
    · rename_i h1 h2
      have h3 : boardOk W H X = true := by simp only [hasHole, Bool.and_eq_true] at h1; exact h1.1.1
      have F := boardOk_facts h3
      have := row_bd F.w1 F.w2 F.h2 h2.1 h2.2.1
      omega
    · omega
  · omega

theorem stepAt_hole {W H X k way : Int} (h : 0 ≤ stepAt W H X k way) : hasHole W H X (stepAt W H X k way) = true := by
  unfold stepAt at h ⊢
  split at h
  · rename_i h1
    rw [if_pos h1]
    have h3 : boardOk W H X = true := by simp only [hasHole, Bool.and_eq_true] at h1; exact h1.1.1
    unfold stepIn at h ⊢
    exact stepTo_hole h3 h
  · omega

theorem spec_stepAt (W H X k way : Int) (w : World) (h : hasHole W H X k = true) (hw : way = 0 ∨ way = 1 ∨ way = 2 ∨ way = 3) :
    Calls Try.prog 101 #[.agg #[.int .i64 W, .int .i64 H, .int .i64 X], .int .i64 k, .int .i64 way] w fun e w' => e = .returned (.int .i64 (stepAt W H X k way)) ∧ Below w.heap.size w w' := by
  have e : stepAt W H X k way = stepIn W H X k way := by simp [stepAt, h]
  rw [e]
  simp only [hasHole, Bool.and_eq_true] at h
  exact spec_l03Step W H X k way w h.1.1 h.1.2 hw
theorem line_info : (Try.prog.info? 46).map (fun i => (i.zero, i.size, i.bytes)) = some (some (.agg #[.int .i64 0, .int .i64 0, .int .i64 0]), 3, 24) := by kernel_rfl

theorem own_types {w : World} {lo1 lo2 e1 e2 s1 s2 n1 n2 : Nat} {v1 v2 : Value} {c1 c2 : List Value} (h1 : w.ownsRow lo1 e1 s1 v1 n1 c1) (h2 : w.ownsRow lo2 e2 s2 v2 n2 c2) (hne : e1 ≠ e2) :
    v1.ownBlock = none ∨ v1.ownBlock ≠ v2.ownBlock := by
  rcases h1.2 with ⟨rfl, _⟩ | ⟨g, cap, cur, rfl, _, hg, _⟩
  · exact .inl rfl
  · refine .inr fun e => ?_
    rcases h2.2 with ⟨rfl, _⟩ | ⟨g', cap', cur', rfl, _, hg', _⟩
    · simp [Value.ownBlock] at e
    · simp [Value.ownBlock] at e
      subst e
      rw [hg] at hg'
      injection hg' with hg'
      injection hg' with _ ht
      exact hne ht

/-- one line more, appended to a slice of the call's own; what other slices hold stays -/
theorem append_line {ops : Array Oper} {rest : List Oper} {o : Oper} {a : Act} {Q : Exit → Act → World → Prop} {T : TypeId} (hT : Try.prog.underlying T = some (.slice 46)) (V w : World) (hgd : o.guard = none) (s x : Operand)
    (ho : o.op = .call { callee := .builtin .append, args := #[s, x], argTypes := #[T, T] }) (v : Value) (n : Nat) (zs : List (Int × Int × Int)) (p q r : Int) (hs : a.eval s = v)
    (hown : w.ownsRow V.heap.size 46 3 v n (ints (lflat zs))) (hx : a.eval x = .slice (some ⟨w.heap.size, 0, none⟩) 1 1) (hn : n ≤ 4294967296) (hbel : Below V.heap.size V w)
    (h : ∀ v' w', w'.ownsRow V.heap.size 46 3 v' (n + 1) (ints (lflat (zs ++ [(p, q, r)]))) → Below V.heap.size V w' → (w.alloc (.cells #[.int .i64 p, .int .i64 q, .int .i64 r] 46)).grownBy w' v.ownBlock → wpList Try.prog ops Q rest (a.put o.dst v') w') :
    wpList Try.prog ops Q (o :: rest) a (w.alloc (.cells #[.int .i64 p, .int .i64 q, .int .i64 r] 46)) := by
  obtain ⟨i0, hi, hz0, hz1, hz2⟩ := info_parts line_info
  refine wpList_append_own _ hgd s x T ho V.heap.size 46 i0 (.agg #[.int .i64 0, .int .i64 0, .int .i64 0]) 3 24 hT hi hz0 hz1 hz2 rfl (by decide) v n (ints (lflat zs)) hs (hown.alloc _) ⟨w.heap.size, 0, none⟩ 1 1 [.int .i64 p, .int .i64 q, .int .i64 r] hx rfl ?_ ?_ ?_ ?_ ?_ ?_
  · intro j u hj
    match j, hj with
    | 0, hj => simp at hj; subst hj; simp [Addr.add]
    | 1, hj => simp at hj; subst hj; simp [Addr.add]
    | 2, hj => simp at hj; subst hj; simp [Addr.add]
  · intro u hu; simp at hu; rcases hu with rfl | rfl | rfl <;> rfl
  · simp only [maxLen]; omega
  · omega
  · have := hbel.size; simp; omega
  · intro v' w' hown' hgrow _
    refine h v' w' (by rw [lflat_append, ints_append]; exact hown') ?_ hgrow
    refine ((below_alloc hbel _).grown hgrow (by have := hbel.size; simp; omega) ?_)
    intro k hk
    exact (hown.lt k hk).1

set_option maxHeartbeats 4000000 in
theorem impl_LinesOf (W H X : Int) (w : World) :
    Calls Try.prog 106 #[.agg #[.int .i64 W, .int .i64 H, .int .i64 X]] w (RetOwn 46 3 w (linesOf W H X).length (lflat (linesOf W H X))) := by
  have hHL := holes_small W H X
  go_enter Try.func106, Try.ntmps106
  go_wp2_with fail
  generalize hV : w.alloc (.cells #[.int .i64 W, .int .i64 H, .int .i64 X] 44) = V
  have v0 : Below w.heap.size w V := by subst hV; (repeat (first | exact Below.refl _ _ | assumption | refine below_step ?_ (by assumption) | refine below_alloc ?_ _ | refine below_drewN ?_ _ | refine Below.drew ?_ | refine Below.setCell ?_ (by first | (simp; done) | omega | (simp; omega)) _))
  have z0 : w.heap.size < V.heap.size := by subst hV; simp <;> omega
  have v0_0 : V.cell? ⟨w.heap.size, 0, none⟩ = some (.int .i64 W) := by subst hV; simp
  have v0_1 : V.cell? ⟨w.heap.size, 1, none⟩ = some (.int .i64 H) := by subst hV; simp
  have v0_2 : V.cell? ⟨w.heap.size, 2, none⟩ = some (.int .i64 X) := by subst hV; simp
  have K : Hid (∀ w', Below V.heap.size V w' → Below V.heap.size V w' ∧ w'.cell? ⟨w.heap.size, 0, none⟩ = some (.int .i64 W) ∧ w'.cell? ⟨w.heap.size, 1, none⟩ = some (.int .i64 H) ∧ w'.cell? ⟨w.heap.size, 2, none⟩ = some (.int .i64 X)) := fun w' hB => ⟨hB, bel_cell hB z0 v0_0, bel_cell hB z0 v0_1, bel_cell hB z0 v0_2⟩
  have ZV : Hid (w.heap.size + 1 = V.heap.size) := by subst hV; unfold Hid; simp
  clear hV
  have HV : Hid (w.heap.size ≤ V.heap.size) := v0.size
  have hown := made0s (s := 3) 46 ZV.out
  have hbel : Below V.heap.size V (V.alloc (.cells #[] 46)) := by (repeat (first | exact Below.refl _ _ | assumption | refine below_step ?_ (by assumption) | refine below_alloc ?_ _ | refine below_drewN ?_ _ | refine Below.drew ?_ | refine Below.setCell ?_ (by first | (simp; done) | omega | (simp; omega)) _))
  refine (impl_HolesOf _ _ _ _).mono ?_
  rintro e wa ⟨A, c, rfl, hH, hba⟩
  replace hown := own_below hown hba
  replace hbel := below_step hbel hba
  have LA : Hid (V.heap.size + 1 ≤ V.heap.size + 1) := Nat.le_refl _
  replace hH := own_lower (lo' := 0) hH (Nat.zero_le _)
  go_wp2
  go_loopw [3, 13] (fun v i wr => ∃ k : Nat, k ≤ (holes W H X).length ∧ i = .int .i64 k ∧ wr.ownsRow V.heap.size 46 3 v (linesTo W H X ((holes W H X).take k)).length (ints (lflat (linesTo W H X ((holes W H X).take k)))) ∧ wr.ownsRow 0 3 1 (.slice A (holes W H X).length c) (holes W H X).length (ints (toInts (holes W H X))) ∧ Below V.heap.size V wr) (fun _ i _ => (holes W H X).length - (intOf i).toNat)
  case atStart => exact ⟨0, Nat.zero_le _, rfl, (by simpa [linesTo, lflat, ints] using hown), hH, hbel⟩
  case round =>
    clear hown hH hbel hba
    obtain ⟨k, hk, rfl, hown, hH, hbel⟩ := hrel
    obtain ⟨wo, rfl⟩ : ∃ wo : World, wo = wr := ⟨_, rfl⟩
    by_cases hlt : k < (holes W H X).length
    · obtain ⟨h, hh⟩ : ∃ h, (holes W H X)[k]? = some h := ⟨_, List.getElem?_eq_getElem hlt⟩
      obtain ⟨b, off, hA, hc⟩ := FAt_of_own hH k (h : Int) (by simp [toInts, hh])
      have HA := Lib.hid hA
      have HH := Lib.hid hh
      clear hh
      subst hA
      have htake : (holes W H X).take (k + 1) = (holes W H X).take k ++ [h] := by rw [List.take_add_one, HH.out, Option.toList_some]
      have HT := Lib.hid htake
      clear htake
      have hl1 := linesTo_len W H X ((holes W H X).take k)
      have hl2 : ((holes W H X).take k).length ≤ k := List.length_take_le _ _
      go_wp2
      go_loopw [3, 6] (fun v i wr => ∃ m : Nat, m ≤ 4 ∧ i = .int .i64 m ∧ wr.ownsRow V.heap.size 46 3 v (linesTo W H X ((holes W H X).take k) ++ linesFrom W H X h m).length (ints (lflat (linesTo W H X ((holes W H X).take k) ++ linesFrom W H X h m))) ∧ wr.ownsRow 0 3 1 (.slice (some ⟨b, off, none⟩) (holes W H X).length c) (holes W H X).length (ints (toInts (holes W H X))) ∧ Below V.heap.size V wr) (fun _ i _ => 4 - (intOf i).toNat)
      case atStart => exact ⟨0, Nat.zero_le _, rfl, (by simpa [linesFrom] using hown), hH, hbel⟩
      case round =>
        clear hown hH hbel hc
        obtain ⟨m, hm, rfl, hown, hH, hbel⟩ := hrel
        have hl3 := linesFrom_len W H X h m
        have hl4 : (linesTo W H X ((holes W H X).take k) ++ linesFrom W H X h m).length ≤ 400 := by rw [List.length_append]; omega
        have d0 := bel_cell hbel z0 v0_0
        have d1 := bel_cell hbel z0 v0_1
        have d2 := bel_cell hbel z0 v0_2
        by_cases hm4 : m < 4
        · have hway : (m : Int) = 0 ∨ (m : Int) = 1 ∨ (m : Int) = 2 ∨ (m : Int) = 3 := by omega
          have g1 := stepAt_ge W H X (stepAt W H X h m) m
          have HW := Lib.hid hway
          clear hway
          go_wp2_with fail
          refine (impl_beside _ _ _ _ _ _ HW.out).mono ?_
          rintro e wb ⟨rfl, hbb⟩
          replace hown := own_below hown hbb
          replace hH := own_below hH hbb
          replace hbel := below_step hbel hbb
          clear d0 d1 d2
          have d0 := bel_cell hbel z0 v0_0
          have d1 := bel_cell hbel z0 v0_1
          have d2 := bel_cell hbel z0 v0_2
          go_wp2_with fail
          refine (impl_beside _ _ _ _ _ _ HW.out).mono ?_
          rintro e wb ⟨rfl, hbb⟩
          replace hown := own_below hown hbb
          replace hH := own_below hH hbb
          replace hbel := below_step hbel hbb
          clear d0 d1 d2
          have d0 := bel_cell hbel z0 v0_0
          have d1 := bel_cell hbel z0 v0_1
          have d2 := bel_cell hbel z0 v0_2
          by_cases ht : 0 ≤ stepAt W H X (stepAt W H X h m) m
          · have e1 : linesFrom W H X h (m + 1) = linesFrom W H X h m ++ [((h : Int), stepAt W H X h m, stepAt W H X (stepAt W H X h m) m)] := by rw [linesFrom_succ]; unfold lineAt; rw [if_pos ht]
            have E1 := Lib.hid e1
            clear e1
            go_wp2_with (at_builtin; refine append_line Try.underlying61 V _ rfl _ _ rfl _ _ _ (h : Int) (stepAt W H X h m) (stepAt W H X (stepAt W H X h m) m) (by rfl) hown (by rfl) (by omega) hbel ?_; intro v' w' hown' hbel' hgrow')
            have hH' := (hH.alloc _).kept hgrow' (own_types hH hown (by decide))
            go_roundw
            case rel => exact ⟨m + 1, by omega, by go_num, by rw [E1.out, ← List.append_assoc, List.length_append]; exact hown', hH', hbel'⟩
            case measure => simp [intOf]; omega
          · have e1 : linesFrom W H X h (m + 1) = linesFrom W H X h m := by rw [linesFrom_succ]; unfold lineAt; rw [if_neg ht]; simp
            have E1 := Lib.hid e1
            clear e1
            go_wp2
            go_roundw
            case rel => exact ⟨m + 1, by omega, by go_num, by rw [E1.out]; exact hown, hH, hbel⟩
            case measure => simp [intOf]; omega
        · obtain rfl : m = 4 := by omega
          go_wp2
          go_roundw
          case rel => exact ⟨k + 1, by omega, by go_num, by rw [HT.out, linesTo_snoc]; exact hown, hH, hbel⟩
          case measure => simp [intOf]; omega
    · obtain rfl : k = (holes W H X).length := by omega
      go_wp2
      go_ret
      rw [List.take_length] at hown
      obtain ⟨D, c2, rfl⟩ := own_shape hown
      exact ⟨D, c2, rfl, own_lower hown (by have := HV.out; omega), by (repeat (first | exact Below.refl _ _ | assumption | refine below_step ?_ (by assumption) | refine below_alloc ?_ _ | refine below_drewN ?_ _ | refine Below.drew ?_ | refine Below.setCell ?_ (by first | (simp; done) | omega | (simp; omega)) _))⟩
set_option maxRecDepth 20000 in
set_option maxHeartbeats 4000000 in
theorem spec_LinesOf (W H X : Int) (w : World) :
    Calls Try.prog 44 #[.agg #[.int .i64 W, .int .i64 H, .int .i64 X]] w (RetOwn 46 3 w (linesOf W H X).length (lflat (linesOf W H X))) := by
  have hHL := holes_small W H X
  go_enter Try.func44, Try.ntmps44
  go_wp2_with fail
  generalize hV : w.alloc (.cells #[.int .i64 W, .int .i64 H, .int .i64 X] 44) = V
  have v0 : Below w.heap.size w V := by subst hV; (repeat (first | exact Below.refl _ _ | assumption | refine below_step ?_ (by assumption) | refine below_alloc ?_ _ | refine below_drewN ?_ _ | refine Below.drew ?_ | refine Below.setCell ?_ (by first | (simp; done) | omega | (simp; omega)) _))
  have z0 : w.heap.size < V.heap.size := by subst hV; simp <;> omega
  have v0_0 : V.cell? ⟨w.heap.size, 0, none⟩ = some (.int .i64 W) := by subst hV; simp
  have v0_1 : V.cell? ⟨w.heap.size, 1, none⟩ = some (.int .i64 H) := by subst hV; simp
  have v0_2 : V.cell? ⟨w.heap.size, 2, none⟩ = some (.int .i64 X) := by subst hV; simp
  have K : Hid (∀ w', Below V.heap.size V w' → Below V.heap.size V w' ∧ w'.cell? ⟨w.heap.size, 0, none⟩ = some (.int .i64 W) ∧ w'.cell? ⟨w.heap.size, 1, none⟩ = some (.int .i64 H) ∧ w'.cell? ⟨w.heap.size, 2, none⟩ = some (.int .i64 X)) := fun w' hB => ⟨hB, bel_cell hB z0 v0_0, bel_cell hB z0 v0_1, bel_cell hB z0 v0_2⟩
  have ZV : Hid (w.heap.size + 1 = V.heap.size) := by subst hV; unfold Hid; simp
  clear hV
  have HV : Hid (w.heap.size ≤ V.heap.size) := v0.size
  have hown := made0s (s := 3) 46 ZV.out
  have hbel : Below V.heap.size V (V.alloc (.cells #[] 46)) := by (repeat (first | exact Below.refl _ _ | assumption | refine below_step ?_ (by assumption) | refine below_alloc ?_ _ | refine below_drewN ?_ _ | refine Below.drew ?_ | refine Below.setCell ?_ (by first | (simp; done) | omega | (simp; omega)) _))
  refine (spec_HolesOf _ _ _ _).mono ?_
  rintro e wa ⟨A, c, rfl, hH, hba⟩
  replace hown := own_below hown hba
  replace hbel := below_step hbel hba
  replace hH := own_lower (lo' := 0) hH (Nat.zero_le _)
  go_wp2
  go_loopw [3, 5] (fun v i wr => ∃ k : Nat, k ≤ (holes W H X).length ∧ i = .int .i64 k ∧ wr.ownsRow V.heap.size 46 3 v (linesTo W H X ((holes W H X).take k)).length (ints (lflat (linesTo W H X ((holes W H X).take k)))) ∧ wr.ownsRow 0 3 1 (.slice A (holes W H X).length c) (holes W H X).length (ints (toInts (holes W H X))) ∧ Below V.heap.size V wr) (fun _ i _ => (holes W H X).length - (intOf i).toNat)
  case atStart => exact ⟨0, Nat.zero_le _, rfl, (by simpa [linesTo, lflat, ints] using hown), hH, hbel⟩
  case round =>
    clear hown hH hbel hba
    obtain ⟨k, hk, rfl, hown, hH, hbel⟩ := hrel
    obtain ⟨wo, rfl⟩ : ∃ wo : World, wo = wr := ⟨_, rfl⟩
    by_cases hlt : k < (holes W H X).length
    · obtain ⟨h, hh⟩ : ∃ h, (holes W H X)[k]? = some h := ⟨_, List.getElem?_eq_getElem hlt⟩
      obtain ⟨f1, f2, f3⟩ := holes_hole (List.mem_of_getElem? hh)
      have hA : ∃ b off, A = some ⟨b, off, none⟩ := by
        obtain ⟨b, off, hA, _⟩ := FAt_of_own hH k (h : Int) (by simp [toInts, hh])
        exact ⟨b, off, hA⟩
      obtain ⟨b, off, rfl⟩ := hA
      have HG : Hid (∀ wx : World, wx.ownsRow 0 3 1 (.slice (some ⟨b, off, none⟩) (holes W H X).length c) (holes W H X).length (ints (toInts (holes W H X))) → wx.cell? ⟨b, off + k, none⟩ = some (.int .i64 h) ∧ b < wx.heap.size) := by
        intro wx hx
        obtain ⟨b2, off2, e2, hc⟩ := FAt_of_own hx k (h : Int) (by simp [toInts, hh])
        injection e2 with e2; injection e2 with e3 e4
        subst e3 e4
        exact ⟨hc, (hx.lt b rfl).2⟩
      have HH := Lib.hid hh
      clear hh
      have htake : (holes W H X).take (k + 1) = (holes W H X).take k ++ [h] := by rw [List.take_add_one, HH.out, Option.toList_some]
      have HT := Lib.hid htake
      clear htake
      have hl1 := linesTo_len W H X ((holes W H X).take k)
      have hl2 : ((holes W H X).take k).length ≤ k := List.length_take_le _ _
      go_wp2
      go_loopw [3, 6] (fun v i wr => ∃ m : Nat, m ≤ 4 ∧ i = .int .i64 m ∧ wr.ownsRow V.heap.size 46 3 v (linesTo W H X ((holes W H X).take k) ++ linesFrom W H X h m).length (ints (lflat (linesTo W H X ((holes W H X).take k) ++ linesFrom W H X h m))) ∧ wr.ownsRow 0 3 1 (.slice (some ⟨b, off, none⟩) (holes W H X).length c) (holes W H X).length (ints (toInts (holes W H X))) ∧ Below V.heap.size V wr) (fun _ i _ => 4 - (intOf i).toNat)
      case atStart => exact ⟨0, Nat.zero_le _, rfl, (by simpa [linesFrom] using hown), hH, hbel⟩
      case round =>
        clear hown hH hbel
        obtain ⟨m, hm, rfl, hown, hH, hbel⟩ := hrel
        have hl3 := linesFrom_len W H X h m
        have hl4 : (linesTo W H X ((holes W H X).take k) ++ linesFrom W H X h m).length ≤ 400 := by rw [List.length_append]; omega
        have d0 := bel_cell hbel z0 v0_0
        have d1 := bel_cell hbel z0 v0_1
        have d2 := bel_cell hbel z0 v0_2
        by_cases hm4 : m < 4
        · have hway : (m : Int) = 0 ∨ (m : Int) = 1 ∨ (m : Int) = 2 ∨ (m : Int) = 3 := by omega
          have HW := Lib.hid hway
          clear hway
          obtain ⟨d3, hb3⟩ := HG.out _ hH
          have K2 : Hid (∀ w', Below wr.heap.size wr w' → Below wr.heap.size wr w' ∧ w'.cell? ⟨w.heap.size, 0, none⟩ = some (.int .i64 W) ∧ w'.cell? ⟨w.heap.size, 1, none⟩ = some (.int .i64 H) ∧ w'.cell? ⟨w.heap.size, 2, none⟩ = some (.int .i64 X) ∧ w'.cell? ⟨b, off + k, none⟩ = some (.int .i64 h)) :=
            fun w' hB => ⟨hB, bel_cell (below_step hbel hB) z0 v0_0, bel_cell (below_step hbel hB) z0 v0_1, bel_cell (below_step hbel hB) z0 v0_2, bel_cell hB hb3 d3⟩
          go_wp2_with fail
          go_region_held3 (fun w' => Below wr.heap.size wr w' ∧ w'.cell? ⟨w.heap.size, 0, none⟩ = some (.int .i64 W) ∧ w'.cell? ⟨w.heap.size, 1, none⟩ = some (.int .i64 H) ∧ w'.cell? ⟨w.heap.size, 2, none⟩ = some (.int .i64 X) ∧ w'.cell? ⟨b, off + k, none⟩ = some (.int .i64 h))
            ((refine K2.out _ ?_; (repeat (first | exact Below.refl _ _ | assumption | refine below_step ?_ (by assumption) | refine below_alloc ?_ _ | refine below_drewN ?_ _ | refine Below.drew ?_ | refine Below.setCell ?_ (by first | (simp; done) | omega | (simp; omega)) _))))
            (first | (go_at_call 101; refine (spec_stepAt _ _ _ _ _ _ f1 HW.out).mono ?_; rintro e wb ⟨rfl, hbb⟩))
          replace hown := own_below hown (show Below wr.heap.size wr wb from by (repeat (first | exact Below.refl _ _ | assumption | refine below_step ?_ (by assumption) | refine below_alloc ?_ _ | refine below_drewN ?_ _ | refine Below.drew ?_ | refine Below.setCell ?_ (by first | (simp; done) | omega | (simp; omega)) _)))
          replace hH := own_below hH (show Below wr.heap.size wr wb from by (repeat (first | exact Below.refl _ _ | assumption | refine below_step ?_ (by assumption) | refine below_alloc ?_ _ | refine below_drewN ?_ _ | refine Below.drew ?_ | refine Below.setCell ?_ (by first | (simp; done) | omega | (simp; omega)) _)))
          replace hbel := below_step hbel (show Below wr.heap.size wr wb from by (repeat (first | exact Below.refl _ _ | assumption | refine below_step ?_ (by assumption) | refine below_alloc ?_ _ | refine below_drewN ?_ _ | refine Below.drew ?_ | refine Below.setCell ?_ (by first | (simp; done) | omega | (simp; omega)) _)))
          have g1 := stepAt_ge W H X h m
          have g2 := stepAt_ge W H X (stepAt W H X h m) m
          clear K2 d0 d1 d2 d3
          have d0 := bel_cell hbel z0 v0_0
          have d1 := bel_cell hbel z0 v0_1
          have d2 := bel_cell hbel z0 v0_2
          obtain ⟨d3, hb3⟩ := HG.out _ hH
          by_cases ho : stepAt W H X h m < 0
          · have e1 : linesFrom W H X h (m + 1) = linesFrom W H X h m := by
              have e2 : stepAt W H X h m = -1 := by omega
              rw [linesFrom_succ]; unfold lineAt; rw [if_neg (by rw [e2, stepAt_none]; omega)]; simp
            have E1 := Lib.hid e1
            clear e1
            go_wp2
            go_roundw
            case rel => exact ⟨m + 1, by omega, by go_num, by rw [E1.out]; exact hown, hH, hbel⟩
            case measure => simp [intOf]; omega
          · have f4 := stepAt_hole (W := W) (H := H) (X := X) (k := h) (way := m) (by omega)
            go_wp2_with fail
            refine (spec_stepAt _ _ _ _ _ _ f4 HW.out).mono ?_
            rintro e wd ⟨rfl, hbd⟩
            replace hown := own_below hown hbd
            replace hH := own_below hH hbd
            replace hbel := below_step hbel hbd
            clear d0 d1 d2 d3
            have d0 := bel_cell hbel z0 v0_0
            have d1 := bel_cell hbel z0 v0_1
            have d2 := bel_cell hbel z0 v0_2
            obtain ⟨d3, hb3⟩ := HG.out _ hH
            by_cases ht : 0 ≤ stepAt W H X (stepAt W H X h m) m
            · have e1 : linesFrom W H X h (m + 1) = linesFrom W H X h m ++ [((h : Int), stepAt W H X h m, stepAt W H X (stepAt W H X h m) m)] := by rw [linesFrom_succ]; unfold lineAt; rw [if_pos ht]
              have E1 := Lib.hid e1
              clear e1
              go_wp2_with (at_builtin; refine append_line Try.underlying61 V _ rfl _ _ rfl _ _ _ (h : Int) (stepAt W H X h m) (stepAt W H X (stepAt W H X h m) m) (by rfl) hown (by rfl) (by omega) hbel ?_; intro v' w' hown' hbel' hgrow')
              have hH' := (hH.alloc _).kept hgrow' (own_types hH hown (by decide))
              go_roundw
              case rel => exact ⟨m + 1, by omega, by go_num, by rw [E1.out, ← List.append_assoc, List.length_append]; exact hown', hH', hbel'⟩
              case measure => simp [intOf]; omega
            · have e1 : linesFrom W H X h (m + 1) = linesFrom W H X h m := by rw [linesFrom_succ]; unfold lineAt; rw [if_neg ht]; simp
              have E1 := Lib.hid e1
              clear e1
              go_wp2
              go_roundw
              case rel => exact ⟨m + 1, by omega, by go_num, by rw [E1.out]; exact hown, hH, hbel⟩
              case measure => simp [intOf]; omega
        · obtain rfl : m = 4 := by omega
          go_wp2
          go_roundw
          case rel => exact ⟨k + 1, by omega, by go_num, by rw [HT.out, linesTo_snoc]; exact hown, hH, hbel⟩
          case measure => simp [intOf]; omega
    · obtain rfl : k = (holes W H X).length := by omega
      go_wp2
      go_ret
      rw [List.take_length] at hown
      obtain ⟨D, c2, rfl⟩ := own_shape hown
      exact ⟨D, c2, rfl, own_lower hown (by have := HV.out; omega), by (repeat (first | exact Below.refl _ _ | assumption | refine below_step ?_ (by assumption) | refine below_alloc ?_ _ | refine below_drewN ?_ _ | refine Below.drew ?_ | refine Below.setCell ?_ (by first | (simp; done) | omega | (simp; omega)) _))⟩
end Go.Proofs.Ytianfakgojmnpaa
