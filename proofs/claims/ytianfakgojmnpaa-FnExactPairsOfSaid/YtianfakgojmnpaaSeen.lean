/- Spreads: contracts. -/
import Derived.Test.YtianfakgojmnpaaJump
import Derived.Test.YtianfakgojmnpaaLineS
namespace Go.Proofs.Ytianfakgojmnpaa
open Go.RowKit

/-- the truths bs lie, one behind the other, at A -/
def BAt (w : World) (A : Option Addr) (bs : List Bool) : Prop :=
  ∀ j z, bs[j]? = some z → ∃ b off, A = some ⟨b, off, none⟩ ∧ w.cell? ⟨b, off + j, none⟩ = some (.bool z)
def bools (bs : List Bool) : List Value := bs.map Value.bool
theorem bools_get {zs : List Bool} {j : Nat} {z : Bool} (h : zs[j]? = some z) : (bools zs)[j]? = some (.bool z) := by simp [bools, h]
theorem bools_len (zs : List Bool) : (bools zs).length = zs.length := by simp [bools]
theorem BAt.below {w w' : World} {A : Option Addr} {zs : List Bool} (h : BAt w A zs) (hb : Below w.heap.size w w') : BAt w' A zs := by
  intro j z hz
  obtain ⟨b, off, hA, hc⟩ := h j z hz
  exact ⟨b, off, hA, (hb.cell (p := ⟨b, off + j, none⟩) (World.block_lt_of_cell? w _ hc)).trans hc⟩
theorem BAt_of_own {w : World} {lo : Nat} {e : TypeId} {s : Nat} {A : Option Addr} {n cap : Nat} {zs : List Bool} (h : w.ownsRow lo e s (.slice A n cap) n (bools zs)) : BAt w A zs := by
  intro j z hz
  rcases h.2 with ⟨hv, hn⟩ | ⟨g, cap', cur, hv, _⟩
  · have h1 := h.1
    rw [bools_len, hn] at h1
    have := (List.getElem?_eq_some_iff.1 hz).1
    omega
  · have hA : A = some ⟨g, 0, none⟩ := by injection hv
    refine ⟨g, 0, hA, ?_⟩
    have := h.cells (g := g) (by rw [hA]; rfl) j _ (bools_get hz)
    have ha : (⟨g, 0, none⟩ : Addr).add j = ⟨g, 0 + j, none⟩ := by unfold Addr.add; split <;> simp_all
    rwa [ha] at this
/-- what a call that makes marks hands back -/
def RetSeen (w : World) (bs : List Bool) (e : Ending) (w' : World) : Prop :=
  ∃ A cap, e = .returned (.slice A bs.length cap) ∧ w'.ownsRow w.heap.size 4 1 (.slice A bs.length cap) bs.length (bools bs) ∧ Below w.heap.size w w'
theorem bool_info : (Try.prog.info? 4).map (fun i => (i.zero, i.size, i.bytes)) = some (some (.bool false), 1, 1) := by kernel_rfl

/-- the marks of a list of positions -/
def marksOf (n : Nat) (t : List Nat) : List Bool := (List.range n).map fun k => decide (k ∈ t)
theorem marksOf_len (n : Nat) (t : List Nat) : (marksOf n t).length = n := by simp [marksOf]
theorem marksOf_get {n k : Nat} {t : List Nat} (h : k < n) : (marksOf n t)[k]? = some (decide (k ∈ t)) := by simp [marksOf, h]
theorem marksOf_set {n q : Nat} {t : List Nat} (h : q < n) : (bools (marksOf n t)).set q (.bool true) = bools (marksOf n (t ++ [q])) := by
  apply List.ext_getElem?
  intro j
  by_cases hj : j < n
  · rw [bools_get (marksOf_get hj)]
    by_cases e : j = q
    · subst e
      rw [List.getElem?_set_self (by rw [bools_len, marksOf_len]; exact hj)]; simp
    · rw [List.getElem?_set_ne (by omega), bools_get (marksOf_get hj)]; simp [e]
  · rw [List.getElem?_eq_none (by rw [List.length_set, bools_len, marksOf_len]; omega), List.getElem?_eq_none (by rw [bools_len, marksOf_len]; omega)]
theorem made_marks (n : Nat) : (madeCells (Value.bool false).cells (n * 1)).toList = bools (marksOf n []) := by
  apply List.ext_getElem?
  intro j
  by_cases hj : j < n
  · rw [bools_get (marksOf_get hj)]
    simp [madeCells, Value.cells, hj, Nat.mod_one]
  · rw [List.getElem?_eq_none (by simp [size_madeCells]; omega), List.getElem?_eq_none (by rw [bools_len, marksOf_len]; omega)]
theorem made1 {V w : World} (h : Below V.heap.size V w) (z : Int) : (w.alloc (.cells #[.int .i64 z] 3)).ownsRow V.heap.size 3 1 (.slice (some ⟨w.heap.size, 0, none⟩) 1 1) 1 (ints [z]) :=
  ⟨by simp [ints], .inr ⟨w.heap.size, 1, #[.int .i64 z], rfl, h.size, heap_alloc_new w _, Nat.le_refl _, by simp [maxLen], rfl, by simp [ints]⟩⟩
theorem own_alloc {w : World} {lo e s n : Nat} {v : Value} {c : List Value} (h : w.ownsRow lo e s v n c) (o : Obj) : (w.alloc o).ownsRow lo e s v n c := h.alloc o

theorem toInts_at {t : List Nat} {k x : Nat} (h : t[k]? = some x) : (toInts t)[k]? = some (x : Int) := by simp [toInts, h]
theorem foldTo {back : Bool} {p : Nat} {t : List Nat} {ls : List (Int × Int × Int)} {m : Nat} {l : Int × Int × Int} (h : ls[m]? = some l) : stepLs back p t (ls.take (m + 1)) = stepL back p (stepLs back p t (ls.take m)) l := by
  rw [List.take_add_one, h, Option.toList_some, stepLs_snoc]
theorem keep_at {back : Bool} {p k : Nat} {t : List Nat} (ls : List (Int × Int × Int)) (h : t[k]? = some p) : (stepLs back p t ls)[k]? = some p := by
  obtain ⟨r, hr⟩ := stepLs_prefix back p ls t
  rw [← hr, List.getElem?_append_left (List.getElem?_eq_some_iff.1 h).1]; exact h
theorem foldTo_no {back : Bool} {p : Nat} {t : List Nat} {ls : List (Int × Int × Int)} {m : Nat} {l : Int × Int × Int} (h : ls[m]? = some l) (hc : canGo back p l = false) : stepLs back p t (ls.take (m + 1)) = stepLs back p t (ls.take m) := by
  rw [foldTo h]; unfold stepL; rw [if_neg (by simp [hc])]
theorem foldTo_old {back : Bool} {p : Nat} {t : List Nat} {ls : List (Int × Int × Int)} {m : Nat} {l : Int × Int × Int} (h : ls[m]? = some l) (hm : goTo p l ∈ stepLs back p t (ls.take m)) : stepLs back p t (ls.take (m + 1)) = stepLs back p t (ls.take m) := by
  rw [foldTo h]; unfold stepL visit; rw [if_pos hm]; split <;> rfl
theorem foldTo_new {back : Bool} {p : Nat} {t : List Nat} {ls : List (Int × Int × Int)} {m : Nat} {l : Int × Int × Int} (h : ls[m]? = some l) (hc : canGo back p l = true) (hm : goTo p l ∉ stepLs back p t (ls.take m)) : stepLs back p t (ls.take (m + 1)) = stepLs back p t (ls.take m) ++ [goTo p l] := by
  rw [foldTo h]; unfold stepL visit; rw [if_pos hc, if_neg hm]
/-- what lies in the search's list is small, before and behind each line -/
theorem part_lt {W H X p : Int} {back : Bool} (hp : positionOk W H X p = true) {k x m : Nat} (hx : (spreadAt W H X back p k)[k]? = some x) : ∀ y ∈ stepLs back x (spreadAt W H X back p k) ((linesOf W H X).take m), y < cells2 W H := by
  intro y hy
  have hf : ∀ y, y &&& X.toNat = y → y < cells2 W H := fun y h => Nat.lt_of_le_of_lt (by rw [← h]; exact Nat.and_le_right) (board_lt (positionOk_facts hp).b)
  rcases stepLs_or hy with h | ⟨l, hl, _, rfl⟩
  · exact spreadAt_lt hp back k y h
  · exact hf _ (goTo_sub (spreadAt_sub hp back k x (List.mem_of_getElem? hx)) (lines_facts (List.mem_of_mem_take hl)).sub)
theorem part_len {W H X p : Int} {back : Bool} (hp : positionOk W H X p = true) {k x m : Nat} (hx : (spreadAt W H X back p k)[k]? = some x) : (stepLs back x (spreadAt W H X back p k) ((linesOf W H X).take m)).length ≤ cells2 W H :=
  nodup_len (stepLs_nodup (spreadTo_nodup k)) (part_lt hp hx)
theorem part_all {W H X p : Int} {back : Bool} {k x : Nat} (hx : (spreadAt W H X back p k)[k]? = some x) : stepLs back x (spreadAt W H X back p k) ((linesOf W H X).take (linesOf W H X).length) = spreadAt W H X back p (k + 1) := by
  rw [List.take_length]; exact (spreadTo_next hx).symm
theorem spreadAt_len {W H X p : Int} {back : Bool} (hp : positionOk W H X p = true) (k : Nat) : (spreadAt W H X back p k).length ≤ cells2 W H := spreadTo_len (spreadAt_lt hp back) k
theorem seen_final {W H X p : Int} {back : Bool} (h1 : isSmall W H X = true) (hp : positionOk W H X p = true) {k : Nat} (hk : (spreadAt W H X back p k).length ≤ k) : marksOf (cells2 W H) (spreadAt W H X back p k) = seenB W H X back p := by
  unfold seenB spread
  rw [if_pos ⟨h1, hp⟩, spreadTo_final (spreadAt_lt hp back) hk]; rfl
theorem wrap_cells {W H : Int} (h : W * H ≤ 16) : wrap64 (2 ^ (W * H).toNat) = ((cells2 W H : Nat) : Int) := by
  obtain ⟨h1, h2⟩ := pow_bd (n := (W * H).toNat) (by omega)
  rw [IntWalk.wrap64_in _ ⟨by omega, by omega⟩]; unfold cells2; simp
theorem append_intg {ops : Array Oper} {rest : List Oper} {o : Oper} {a : Act} {Q : Exit → Act → World → Prop} {T : TypeId} (hT : Try.prog.underlying T = some (.slice 3)) (V w : World) (hgd : o.guard = none) (s x : Operand)
    (ho : o.op = .call { callee := .builtin .append, args := #[s, x], argTypes := #[T, T] }) (v : Value) (n : Nat) (zs : List Int) (z : Int) (hs : a.eval s = v)
    (hown : w.ownsRow V.heap.size 3 1 v n (ints zs)) (hx : a.eval x = .slice (some ⟨w.heap.size, 0, none⟩) 1 1) (hn : n ≤ 4294967296) (hbel : Below V.heap.size V w)
    (h : ∀ v' w', w'.ownsRow V.heap.size 3 1 v' (n + 1) (ints (zs ++ [z])) → Below V.heap.size V w' → (w.alloc (.cells #[.int .i64 z] 3)).grownBy w' v.ownBlock → wpList Try.prog ops Q rest (a.put o.dst v') w') :
    wpList Try.prog ops Q (o :: rest) a (w.alloc (.cells #[.int .i64 z] 3)) := by
  obtain ⟨i0, hi, hz0, hz1, hz2⟩ := info_parts int_info
  refine wpList_append_own _ hgd s x T ho V.heap.size 3 i0 (.int .i64 0) 1 8 hT hi hz0 hz1 hz2 rfl (by decide) v n (ints zs) hs (hown.alloc _) ⟨w.heap.size, 0, none⟩ 1 1 [.int .i64 z] hx rfl ?_ ?_ ?_ ?_ ?_ ?_
  · intro j u hj
    match j, hj with
    | 0, hj => simp at hj; subst hj; simp [Addr.add]
  · intro u hu; simp at hu; subst hu; rfl
  · simp only [maxLen]; omega
  · omega
  · have := hbel.size; simp; omega
  · intro v' w' hown' hgrow _
    refine h v' w' (by rw [ints_append]; exact hown') ?_ hgrow
    refine ((below_alloc hbel _).grown hgrow (by have := hbel.size; simp; omega) ?_)
    intro k hk
    exact (hown.lt k hk).1

theorem impl_jumpFrom_any {p : Nat} {f o t : Int} (w : World) (hs : Small3 f o t) (hp : p < 562949953421312) :
    Calls Try.prog 107 #[.int .i64 p, .agg #[.int .i64 f, .int .i64 o, .int .i64 t]] w fun e w' => ∃ q r, e = .returned (.tuple #[.int .i64 q, .bool r]) ∧ Below w.heap.size w w' :=
  (impl_jumpFrom p f o t w hs hp).mono fun _ _ h => ⟨_, _, h.1, h.2⟩
theorem impl_jumpFrom_yes {p : Nat} {f o t : Int} (w : World) (hs : Small3 f o t) (hp : p < 562949953421312) (hc : canGo false p (f, o, t) = true) :
    Calls Try.prog 107 #[.int .i64 p, .agg #[.int .i64 f, .int .i64 o, .int .i64 t]] w fun e w' => e = .returned (.tuple #[.int .i64 (goTo p (f, o, t) : Nat), .bool true]) ∧ Below w.heap.size w w' := by
  have h := impl_jumpFrom p f o t w hs hp
  rw [hc] at h
  exact h
theorem impl_jumpFrom_no {p : Nat} {f o t : Int} (w : World) (hs : Small3 f o t) (hp : p < 562949953421312) (hc : canGo false p (f, o, t) = false) :
    Calls Try.prog 107 #[.int .i64 p, .agg #[.int .i64 f, .int .i64 o, .int .i64 t]] w fun e w' => e = .returned (.tuple #[.int .i64 p, .bool false]) ∧ Below w.heap.size w w' := by
  have h := impl_jumpFrom p f o t w hs hp
  rw [hc] at h
  exact h
theorem impl_undoFrom_any {p : Nat} {f o t : Int} (w : World) (hs : Small3 f o t) (hp : p < 562949953421312) :
    Calls Try.prog 129 #[.int .i64 p, .agg #[.int .i64 f, .int .i64 o, .int .i64 t]] w fun e w' => ∃ q r, e = .returned (.tuple #[.int .i64 q, .bool r]) ∧ Below w.heap.size w w' :=
  (impl_undoFrom p f o t w hs hp).mono fun _ _ h => ⟨_, _, h.1, h.2⟩
theorem impl_undoFrom_yes {p : Nat} {f o t : Int} (w : World) (hs : Small3 f o t) (hp : p < 562949953421312) (hc : canGo true p (f, o, t) = true) :
    Calls Try.prog 129 #[.int .i64 p, .agg #[.int .i64 f, .int .i64 o, .int .i64 t]] w fun e w' => e = .returned (.tuple #[.int .i64 (goTo p (f, o, t) : Nat), .bool true]) ∧ Below w.heap.size w w' := by
  have h := impl_undoFrom p f o t w hs hp
  rw [hc] at h
  exact h
theorem impl_undoFrom_no {p : Nat} {f o t : Int} (w : World) (hs : Small3 f o t) (hp : p < 562949953421312) (hc : canGo true p (f, o, t) = false) :
    Calls Try.prog 129 #[.int .i64 p, .agg #[.int .i64 f, .int .i64 o, .int .i64 t]] w fun e w' => e = .returned (.tuple #[.int .i64 p, .bool false]) ∧ Below w.heap.size w w' := by
  have h := impl_undoFrom p f o t w hs hp
  rw [hc] at h
  exact h
set_option maxHeartbeats 1000000 in
theorem impl_spreadOf_no1 (W H X p : Int) (back : Bool) (w : World) (_hp : p ≤ 9223372036854775807) (h1 : isSmall W H X = false) :
    Calls Try.prog 89 #[.agg #[.int .i64 W, .int .i64 H, .int .i64 X], .int .i64 p, .bool back] w (RetSeen w []) := by
  go_enter Try.func89, Try.ntmps89
  go_wp2_with fail
  refine (calls_is (impl_IsSmall _ _ _ _) h1).mono ?_
  rintro e w1 ⟨rfl, hb1⟩
  obtain ⟨hc1, hf1, hs1⟩ := bcell3 hb1
  have hz1 := hb1.size
  (try simp at hz1)
  go_wp2
  go_ret
  exact ⟨none, 0, rfl, ⟨rfl, .inl ⟨rfl, rfl⟩⟩, by (repeat (first | exact Below.refl _ _ | assumption | refine below_step ?_ (by assumption) | refine below_alloc ?_ _ | refine below_drewN ?_ _ | refine Below.drew ?_ | refine Below.setCell ?_ (by first | (simp; done) | omega | (simp; omega)) _))⟩
set_option maxHeartbeats 1000000 in
theorem impl_spreadOf_no2 (W H X p : Int) (back : Bool) (w : World) (hp : p ≤ 9223372036854775807) (h1 : isSmall W H X = true) (h2 : positionOk W H X p = false) :
    Calls Try.prog 89 #[.agg #[.int .i64 W, .int .i64 H, .int .i64 X], .int .i64 p, .bool back] w (RetSeen w []) := by
  go_enter Try.func89, Try.ntmps89
  go_wp2_with fail
  refine (calls_is (impl_IsSmall _ _ _ _) h1).mono ?_
  rintro e w1 ⟨rfl, hb1⟩
  obtain ⟨hc1, hf1, hs1⟩ := bcell3 hb1
  have hz1 := hb1.size
  (try simp at hz1)
  go_wp2_with fail
  refine (calls_is (impl_PositionOk _ _ _ _ _ (by omega)) h2).mono ?_
  rintro e w2 ⟨rfl, hb2⟩
  obtain ⟨hc2, hf2, hs2⟩ := bcell3 hb2
  have hz2 := hb2.size
  (try simp at hz2)
  have hb1_2 := below_step (below_step hb1 (by (repeat (first | exact Below.refl _ _ | assumption | refine below_step ?_ (by assumption) | refine below_alloc ?_ _ | refine below_drewN ?_ _ | refine Below.drew ?_ | refine Below.setCell ?_ (by first | (simp; done) | omega | (simp; omega)) _)))) hb2
  clear hc1 hf1 hs1
  obtain ⟨hc1_2, hf1_2, hs1_2⟩ := bcell3 hb1_2
  go_wp2
  go_ret
  exact ⟨none, 0, rfl, ⟨rfl, .inl ⟨rfl, rfl⟩⟩, by (repeat (first | exact Below.refl _ _ | assumption | refine below_step ?_ (by assumption) | refine below_alloc ?_ _ | refine below_drewN ?_ _ | refine Below.drew ?_ | refine Below.setCell ?_ (by first | (simp; done) | omega | (simp; omega)) _))⟩
set_option maxHeartbeats 4000000 in
theorem impl_spreadOf_false (W H X p : Int) (w : World) (hp : p ≤ 9223372036854775807) (h1 : isSmall W H X = true) (h2 : positionOk W H X p = true) :
    Calls Try.prog 89 #[.agg #[.int .i64 W, .int .i64 H, .int .i64 X], .int .i64 p, .bool false] w (RetSeen w (seenB W H X false p)) := by
  obtain ⟨hb, n1, n2⟩ := small_cells h1
  obtain ⟨i0, hi, hz0, hz1, hz2⟩ := info_parts bool_info
  have hWH : W * H ≤ 16 := by simp only [isSmall, Bool.and_eq_true, decide_eq_true_eq] at h1; exact h1.2
  have hWH0 : 0 ≤ W * H := by have := (boardOk_facts hb).m1; omega
  go_enter Try.func89, Try.ntmps89
  go_wp2_with fail
  generalize hV : w.alloc (.cells #[.int .i64 W, .int .i64 H, .int .i64 X] 44) = V
  have v0 : Below w.heap.size w V := by subst hV; (repeat (first | exact Below.refl _ _ | assumption | refine below_step ?_ (by assumption) | refine below_alloc ?_ _ | refine below_drewN ?_ _ | refine Below.drew ?_ | refine Below.setCell ?_ (by first | (simp; done) | omega | (simp; omega)) _))
  have z0 : w.heap.size < V.heap.size := by subst hV; simp <;> omega
  have v0_0 : V.cell? ⟨w.heap.size, 0, none⟩ = some (.int .i64 W) := by subst hV; simp
  have v0_1 : V.cell? ⟨w.heap.size, 1, none⟩ = some (.int .i64 H) := by subst hV; simp
  have v0_2 : V.cell? ⟨w.heap.size, 2, none⟩ = some (.int .i64 X) := by subst hV; simp
  have K : Hid (∀ w', Below V.heap.size V w' → Below V.heap.size V w' ∧ w'.cell? ⟨w.heap.size, 0, none⟩ = some (.int .i64 W) ∧ w'.cell? ⟨w.heap.size, 1, none⟩ = some (.int .i64 H) ∧ w'.cell? ⟨w.heap.size, 2, none⟩ = some (.int .i64 X)) := fun w' hB => ⟨hB, bel_cell hB z0 v0_0, bel_cell hB z0 v0_1, bel_cell hB z0 v0_2⟩
  have ZV : Hid (w.heap.size + 1 = V.heap.size) := by subst hV; unfold Hid; simp
  clear hV
  have HV : Hid (w.heap.size ≤ V.heap.size) := v0.size
  refine (calls_is (impl_IsSmall _ _ _ _) h1).mono ?_
  rintro e w1 ⟨rfl, hV⟩
  have d0 := bel_cell hV z0 v0_0
  have d1 := bel_cell hV z0 v0_1
  have d2 := bel_cell hV z0 v0_2
  go_wp2_with fail
  refine (calls_is (impl_PositionOk _ _ _ _ _ (by omega)) h2).mono ?_
  rintro e w2 ⟨rfl, hb2⟩
  replace hV := below_step hV hb2
  clear d0 d1 d2
  have d0 := bel_cell hV z0 v0_0
  have d1 := bel_cell hV z0 v0_1
  have d2 := bel_cell hV z0 v0_2
  go_wp2_with fail
  refine (impl_LinesOf _ _ _ _).mono ?_
  rintro e w3 ⟨D, cD, rfl, hL, hb3⟩
  replace hV := below_step hV hb3
  clear d0 d1 d2
  have d0 := bel_cell hV z0 v0_0
  have d1 := bel_cell hV z0 v0_1
  have d2 := bel_cell hV z0 v0_2
  have hE := wrap_cells hWH
  have hll := linesOf_len W H X
  have hp0 : 0 ≤ p := (positionOk_facts h2).p0
  have hpn : p.toNat < cells2 W H := spreadAt_lt h2 false 0 p.toNat (spreadTo_start 0)
  have hpn2 : p < (cells2 W H : Nat) := by omega
  have SLO : Hid (V.heap.size ≤ w3.heap.size) := hV.size
  have hps : ((p.toNat : Nat) : Int) = p := by omega
  go_wp2_with (at_make; refine wpList_make_full _ rfl _ _ 97 rfl V.heap.size 4 i0 (.bool false) 1 Try.underlying97 hi hz0 hz1 .i64 .i64 _ _ (cells2 W H) rfl rfl hE hE (by rw [hz2]; omega) (by simp only [maxLen]; omega) hV.size ?_; intro w4 hS hg4; rw [made_marks] at hS; have hc4 := (hS.cellAt p.toNat (by omega)).trans (bools_get (marksOf_get hpn)); have hf4 := hS.frozenAt p.toNat; clear d0 d1 d2)
  have hV4 := hV.grown hg4 hV.size (fun _ h => by cases h)
  have hL4 := own_lower (lo' := 0) (hL.kept hg4 (by cases hv : (Value.slice D (linesOf W H X).length cD).ownBlock <;> simp)) (Nat.zero_le _)
  have hS5 := (hS.stored p.toNat (.bool true)).1
  rw [marksOf_set hpn] at hS5
  have hV5 := hV4.setCell (p := ⟨w3.heap.size, p.toNat, none⟩) hV.size (.bool true)
  have hL5 := hL4.kept (hS.stored p.toNat (.bool true)).2 (own_types hL4 hS (by decide))
  clear hL4 hS hg4 hc4 hf4 hL
  have hT0 : spreadAt W H X false p 0 = [p.toNat] := rfl
  have hO := made1 hV5 p
  have hS6 := own_alloc hS5 (.cells #[.int .i64 p] 3)
  have hL6 := own_alloc hL5 (.cells #[.int .i64 p] 3)
  have hV6 := below_alloc hV5 (.cells #[.int .i64 p] 3)
  go_loopw [9, 10] (fun v i wr => ∃ k : Nat, i = .int .i64 k ∧ k ≤ (spreadAt W H X false p k).length ∧ wr.ownsRow V.heap.size 3 1 v (spreadAt W H X false p k).length (ints (toInts (spreadAt W H X false p k))) ∧ wr.ownsRow V.heap.size 4 1 (.slice (some ⟨w3.heap.size, 0, none⟩) (cells2 W H) (cells2 W H)) (cells2 W H) (bools (marksOf (cells2 W H) (spreadAt W H X false p k))) ∧ wr.ownsRow 0 46 3 (.slice D (linesOf W H X).length cD) (linesOf W H X).length (ints (lflat (linesOf W H X))) ∧ Below V.heap.size V wr) (fun _ i _ => cells2 W H - (intOf i).toNat)
  case atStart => exact ⟨0, rfl, Nat.zero_le _, (by rw [hT0]; simpa [toInts, hps] using hO), (by rw [hT0]; exact hS6), hL6, hV6⟩
  case round =>
    clear hS5 hL5 hV5 hO hS6 hL6 hV6 hT0 hV4
    obtain ⟨k, rfl, hk, hown, hS, hL, hbel⟩ := hrel
    obtain ⟨A, cA, rfl⟩ := own_shape hown
    have hkn := spreadAt_len (back := false) h2 k
    by_cases hlt : k < (spreadAt W H X false p k).length
    · obtain ⟨x, hx⟩ : ∃ x, (spreadAt W H X false p k)[k]? = some x := ⟨_, List.getElem?_eq_getElem hlt⟩
      have HX := Lib.hid hx
      clear hx
      go_wp2
      go_loopw [9, 46] (fun v i wr => ∃ m : Nat, m ≤ (linesOf W H X).length ∧ i = .int .i64 m ∧ wr.ownsRow V.heap.size 3 1 v (stepLs false x (spreadAt W H X false p k) ((linesOf W H X).take m)).length (ints (toInts (stepLs false x (spreadAt W H X false p k) ((linesOf W H X).take m)))) ∧ wr.ownsRow V.heap.size 4 1 (.slice (some ⟨w3.heap.size, 0, none⟩) (cells2 W H) (cells2 W H)) (cells2 W H) (bools (marksOf (cells2 W H) (stepLs false x (spreadAt W H X false p k) ((linesOf W H X).take m)))) ∧ wr.ownsRow 0 46 3 (.slice D (linesOf W H X).length cD) (linesOf W H X).length (ints (lflat (linesOf W H X))) ∧ Below V.heap.size V wr) (fun _ i _ => (linesOf W H X).length - (intOf i).toNat)
      case atStart => exact ⟨0, Nat.zero_le _, rfl, hown, hS, hL, hbel⟩
      case round =>
        clear hown hS hL hbel
        obtain ⟨m, hm, rfl, hown, hS, hL, hbel⟩ := hrel
        by_cases hml : m < (linesOf W H X).length
        · obtain ⟨⟨f, o, t⟩, hl⟩ : ∃ l, (linesOf W H X)[m]? = some l := ⟨_, List.getElem?_eq_getElem hml⟩
          have HF := Lib.hid (lines_facts (List.mem_of_getElem? hl)).small
          have hxl : x < 562949953421312 := by have := spreadAt_lt h2 false k x (List.mem_of_getElem? HX.out); omega
          have hlen := part_len (m := m) h2 HX.out
          have hgl : goTo x (f, o, t) < 562949953421312 := goTo_lt HF.out hxl
          have hkp := keep_at (back := false) ((linesOf W H X).take m) HX.out
          have hkl : k < (stepLs false x (spreadAt W H X false p k) ((linesOf W H X).take m)).length := (List.getElem?_eq_some_iff.1 hkp).1
          obtain ⟨A, cA, rfl⟩ := own_shape hown
          obtain ⟨b, off, rfl, e1⟩ := FAt_of_own hown _ _ (toInts_at hkp)
          have hFL := FAt_of_own hL
          obtain ⟨c1, c2, c3⟩ := lflat_get hl
          obtain ⟨bl, offl, rfl, l1⟩ := hFL _ _ c1
          obtain ⟨_, _, e2, l2⟩ := hFL _ _ c2
          injection e2 with e2; injection e2 with e3 e4; subst e3 e4
          obtain ⟨_, _, e2, l3⟩ := hFL _ _ c3
          injection e2 with e2; injection e2 with e3 e4; subst e3 e4
          rw [← Nat.add_assoc] at l2 l3
          have hzb := cellb_lt e1
          have HL := Lib.hid hl
          clear hl hkp c1 c2 c3 hFL
          go_wp2_with fail
          generalize hU : wr.alloc (.cells #[.int .i64 f, .int .i64 o, .int .i64 t] 46) = U
          have bU : Below wr.heap.size wr U := by subst hU; (repeat (first | exact Below.refl _ _ | assumption | refine below_step ?_ (by assumption) | refine below_alloc ?_ _ | refine below_drewN ?_ _ | refine Below.drew ?_ | refine Below.setCell ?_ (by first | (simp; done) | omega | (simp; omega)) _))
          have zU : wr.heap.size < U.heap.size := by subst hU; simp
          have u0 : U.cell? ⟨wr.heap.size, 0, none⟩ = some (.int .i64 f) := by subst hU; simp
          have u1 : U.cell? ⟨wr.heap.size, 1, none⟩ = some (.int .i64 o) := by subst hU; simp
          have u2 : U.cell? ⟨wr.heap.size, 2, none⟩ = some (.int .i64 t) := by subst hU; simp
          have zb : b < U.heap.size := Nat.lt_of_lt_of_le hzb bU.size
          have u3 := bel_cell bU hzb e1
          have KU : Hid (∀ w', Below U.heap.size U w' → Below U.heap.size U w' ∧ w'.cell? ⟨wr.heap.size, 0, none⟩ = some (.int .i64 f) ∧ w'.cell? ⟨wr.heap.size, 1, none⟩ = some (.int .i64 o) ∧ w'.cell? ⟨wr.heap.size, 2, none⟩ = some (.int .i64 t) ∧ w'.cell? ⟨b, off + k, none⟩ = some (.int .i64 (x : Nat))) :=
            fun w' hB => ⟨hB, bel_cell hB zU u0, bel_cell hB zU u1, bel_cell hB zU u2, bel_cell hB zb u3⟩
          clear hU e1 l1 l2 l3
          cases hcg : canGo false x (f, o, t)
          · have HN := Lib.hid (foldTo_no (t := spreadAt W H X false p k) HL.out hcg)
            go_region_held3 (fun w' => Below U.heap.size U w' ∧ w'.cell? ⟨wr.heap.size, 0, none⟩ = some (.int .i64 f) ∧ w'.cell? ⟨wr.heap.size, 1, none⟩ = some (.int .i64 o) ∧ w'.cell? ⟨wr.heap.size, 2, none⟩ = some (.int .i64 t) ∧ w'.cell? ⟨b, off + k, none⟩ = some (.int .i64 (x : Nat)))
              ((refine KU.out _ ?_; (repeat (first | exact Below.refl _ _ | assumption | refine below_step ?_ (by assumption) | refine below_alloc ?_ _ | refine below_drewN ?_ _ | refine Below.drew ?_ | refine Below.setCell ?_ (by first | (simp; done) | omega | (simp; omega)) _))))
              (first | (go_at_call 107; refine (impl_jumpFrom_no _ HF.out hxl hcg).mono ?_; rintro e w5 ⟨rfl, hw5⟩))
            have hw5 : Below wr.heap.size wr w5 := by (repeat (first | exact Below.refl _ _ | assumption | refine below_step ?_ (by assumption) | refine below_alloc ?_ _ | refine below_drewN ?_ _ | refine Below.drew ?_ | refine Below.setCell ?_ (by first | (simp; done) | omega | (simp; omega)) _))
            go_wp2
            go_roundw
            case rel => exact ⟨m + 1, by omega, by go_num, by rw [HN.out]; exact own_below hown hw5, by rw [HN.out]; exact own_below hS hw5, own_below hL hw5, by (repeat (first | exact Below.refl _ _ | assumption | refine below_step ?_ (by assumption) | refine below_alloc ?_ _ | refine below_drewN ?_ _ | refine Below.drew ?_ | refine Below.setCell ?_ (by first | (simp; done) | omega | (simp; omega)) _))⟩
            case measure => simp [intOf]; omega
          · have hqn : goTo x (f, o, t) < cells2 W H := part_lt (m := m + 1) h2 HX.out _ (by rw [foldTo HL.out]; unfold stepL; rw [if_pos hcg]; exact visit_mem _ _)
            by_cases hmem : goTo x (f, o, t) ∈ stepLs false x (spreadAt W H X false p k) ((linesOf W H X).take m)
            · have HN := Lib.hid (foldTo_old (t := spreadAt W H X false p k) HL.out hmem)
              go_region_held3 (fun w' => Below U.heap.size U w' ∧ w'.cell? ⟨wr.heap.size, 0, none⟩ = some (.int .i64 f) ∧ w'.cell? ⟨wr.heap.size, 1, none⟩ = some (.int .i64 o) ∧ w'.cell? ⟨wr.heap.size, 2, none⟩ = some (.int .i64 t) ∧ w'.cell? ⟨b, off + k, none⟩ = some (.int .i64 (x : Nat)))
                ((refine KU.out _ ?_; (repeat (first | exact Below.refl _ _ | assumption | refine below_step ?_ (by assumption) | refine below_alloc ?_ _ | refine below_drewN ?_ _ | refine Below.drew ?_ | refine Below.setCell ?_ (by first | (simp; done) | omega | (simp; omega)) _))))
                (first | (go_at_call 107; refine (impl_jumpFrom_yes _ HF.out hxl hcg).mono ?_; rintro e w5 ⟨rfl, hw5⟩))
              have hw5 : Below wr.heap.size wr w5 := by (repeat (first | exact Below.refl _ _ | assumption | refine below_step ?_ (by assumption) | refine below_alloc ?_ _ | refine below_drewN ?_ _ | refine Below.drew ?_ | refine Below.setCell ?_ (by first | (simp; done) | omega | (simp; omega)) _))
              replace hS := own_below hS hw5
              have s1 := (hS.cellAt (goTo x (f, o, t)) (by omega)).trans (bools_get (marksOf_get hqn))
              rw [decide_eq_true hmem] at s1
              go_wp2
              go_roundw
              case rel => exact ⟨m + 1, by omega, by go_num, by rw [HN.out]; exact own_below hown hw5, by rw [HN.out]; exact hS, own_below hL hw5, by (repeat (first | exact Below.refl _ _ | assumption | refine below_step ?_ (by assumption) | refine below_alloc ?_ _ | refine below_drewN ?_ _ | refine Below.drew ?_ | refine Below.setCell ?_ (by first | (simp; done) | omega | (simp; omega)) _))⟩
              case measure => simp [intOf]; omega
            · have HN := Lib.hid (foldTo_new (t := spreadAt W H X false p k) HL.out hcg hmem)
              go_region_held3 (fun w' => Below U.heap.size U w' ∧ w'.cell? ⟨wr.heap.size, 0, none⟩ = some (.int .i64 f) ∧ w'.cell? ⟨wr.heap.size, 1, none⟩ = some (.int .i64 o) ∧ w'.cell? ⟨wr.heap.size, 2, none⟩ = some (.int .i64 t) ∧ w'.cell? ⟨b, off + k, none⟩ = some (.int .i64 (x : Nat)))
                ((refine KU.out _ ?_; (repeat (first | exact Below.refl _ _ | assumption | refine below_step ?_ (by assumption) | refine below_alloc ?_ _ | refine below_drewN ?_ _ | refine Below.drew ?_ | refine Below.setCell ?_ (by first | (simp; done) | omega | (simp; omega)) _))))
                (first | (go_at_call 107; refine (impl_jumpFrom_yes _ HF.out hxl hcg).mono ?_; rintro e w5 ⟨rfl, hw5⟩))
              have hw5 : Below wr.heap.size wr w5 := by (repeat (first | exact Below.refl _ _ | assumption | refine below_step ?_ (by assumption) | refine below_alloc ?_ _ | refine below_drewN ?_ _ | refine Below.drew ?_ | refine Below.setCell ?_ (by first | (simp; done) | omega | (simp; omega)) _))
              replace hS := own_below hS hw5
              replace hown := own_below hown hw5
              replace hL := own_below hL hw5
              replace hbel := below_step hbel hw5
              have s1 := (hS.cellAt (goTo x (f, o, t)) (by omega)).trans (bools_get (marksOf_get hqn))
              rw [decide_eq_false hmem] at s1
              have s2 := hS.frozenAt (goTo x (f, o, t))
              have hgS := (hS.stored (goTo x (f, o, t)) (.bool true)).2
              have hS7 := (hS.stored (goTo x (f, o, t)) (.bool true)).1
              rw [marksOf_set hqn] at hS7
              have hown7 := hown.kept hgS (own_types hown hS (by decide))
              have hL7 := hL.kept hgS (own_types hL hS (by decide))
              have HSZ : Hid ((w5.setCell ⟨w3.heap.size, goTo x (f, o, t), none⟩ (.bool true)).heap.size = w5.heap.size) := by unfold Hid; simp
              have hbel7 := hbel.setCell (p := ⟨w3.heap.size, goTo x (f, o, t), none⟩) SLO.out (.bool true)
              go_wp2_with (at_builtin; refine append_intg Try.underlying56 V _ rfl _ _ rfl _ _ _ ((goTo x (f, o, t) : Nat) : Int) (by rfl) hown7 (by rw [HSZ.out]; rfl) (by omega) hbel7 ?_; intro v' w' hown' hbel' hgrow')
              go_roundw
              case rel => exact ⟨m + 1, by omega, by go_num, by rw [HN.out, toInts_append, List.length_append]; exact hown', by rw [HN.out]; exact (own_alloc hS7 _).kept hgrow' (own_types hS7 hown7 (by decide)), (own_alloc hL7 _).kept hgrow' (own_types hL7 hown7 (by decide)), hbel'⟩
              case measure => simp [intOf]; omega
        · obtain rfl : m = (linesOf W H X).length := by omega
          have HA := Lib.hid (part_all HX.out)
          go_wp2
          go_roundw
          case rel =>
            rw [HA.out] at hown hS
            have hle := (spreadTo_prefix (back := false) (ls := linesOf W H X) (s := p.toNat) k).length_le
            have hlt1 : k < (spreadAt W H X false p (k + 1)).length := Nat.lt_of_lt_of_le hlt hle
            exact ⟨k + 1, by go_num, hlt1, hown, hS, hL, hbel⟩
          case measure => simp [intOf]; omega
    · have HFIN := Lib.hid (seen_final h1 h2 (Nat.le_of_not_lt hlt))
      have hlen := congrArg List.length HFIN.out
      rw [marksOf_len] at hlen
      rw [HFIN.out] at hS
      have HLN := Lib.hid hlen.symm
      have FIN : Hid (wr.ownsRow V.heap.size 4 1 (.slice (some ⟨w3.heap.size, 0, none⟩) (seenB W H X false p).length (cells2 W H)) (seenB W H X false p).length (bools (seenB W H X false p))) := by
        show wr.ownsRow _ _ _ _ _ _
        rw [← hlen]; exact hS
      clear hlen hS
      go_wp2
      go_ret
      exact ⟨some ⟨w3.heap.size, 0, none⟩, cells2 W H, by rw [HLN.out]; rfl, own_lower FIN.out HV.out, below_step v0 hbel⟩
set_option maxHeartbeats 4000000 in
theorem impl_spreadOf_true (W H X p : Int) (w : World) (hp : p ≤ 9223372036854775807) (h1 : isSmall W H X = true) (h2 : positionOk W H X p = true) :
    Calls Try.prog 89 #[.agg #[.int .i64 W, .int .i64 H, .int .i64 X], .int .i64 p, .bool true] w (RetSeen w (seenB W H X true p)) := by
  obtain ⟨hb, n1, n2⟩ := small_cells h1
  obtain ⟨i0, hi, hz0, hz1, hz2⟩ := info_parts bool_info
  have hWH : W * H ≤ 16 := by simp only [isSmall, Bool.and_eq_true, decide_eq_true_eq] at h1; exact h1.2
  have hWH0 : 0 ≤ W * H := by have := (boardOk_facts hb).m1; omega
  go_enter Try.func89, Try.ntmps89
  go_wp2_with fail
  generalize hV : w.alloc (.cells #[.int .i64 W, .int .i64 H, .int .i64 X] 44) = V
  have v0 : Below w.heap.size w V := by subst hV; (repeat (first | exact Below.refl _ _ | assumption | refine below_step ?_ (by assumption) | refine below_alloc ?_ _ | refine below_drewN ?_ _ | refine Below.drew ?_ | refine Below.setCell ?_ (by first | (simp; done) | omega | (simp; omega)) _))
  have z0 : w.heap.size < V.heap.size := by subst hV; simp <;> omega
  have v0_0 : V.cell? ⟨w.heap.size, 0, none⟩ = some (.int .i64 W) := by subst hV; simp
  have v0_1 : V.cell? ⟨w.heap.size, 1, none⟩ = some (.int .i64 H) := by subst hV; simp
  have v0_2 : V.cell? ⟨w.heap.size, 2, none⟩ = some (.int .i64 X) := by subst hV; simp
  have K : Hid (∀ w', Below V.heap.size V w' → Below V.heap.size V w' ∧ w'.cell? ⟨w.heap.size, 0, none⟩ = some (.int .i64 W) ∧ w'.cell? ⟨w.heap.size, 1, none⟩ = some (.int .i64 H) ∧ w'.cell? ⟨w.heap.size, 2, none⟩ = some (.int .i64 X)) := fun w' hB => ⟨hB, bel_cell hB z0 v0_0, bel_cell hB z0 v0_1, bel_cell hB z0 v0_2⟩
  have ZV : Hid (w.heap.size + 1 = V.heap.size) := by subst hV; unfold Hid; simp
  clear hV
  have HV : Hid (w.heap.size ≤ V.heap.size) := v0.size
  refine (calls_is (impl_IsSmall _ _ _ _) h1).mono ?_
  rintro e w1 ⟨rfl, hV⟩
  have d0 := bel_cell hV z0 v0_0
  have d1 := bel_cell hV z0 v0_1
  have d2 := bel_cell hV z0 v0_2
  go_wp2_with fail
  refine (calls_is (impl_PositionOk _ _ _ _ _ (by omega)) h2).mono ?_
  rintro e w2 ⟨rfl, hb2⟩
  replace hV := below_step hV hb2
  clear d0 d1 d2
  have d0 := bel_cell hV z0 v0_0
  have d1 := bel_cell hV z0 v0_1
  have d2 := bel_cell hV z0 v0_2
  go_wp2_with fail
  refine (impl_LinesOf _ _ _ _).mono ?_
  rintro e w3 ⟨D, cD, rfl, hL, hb3⟩
  replace hV := below_step hV hb3
  clear d0 d1 d2
  have d0 := bel_cell hV z0 v0_0
  have d1 := bel_cell hV z0 v0_1
  have d2 := bel_cell hV z0 v0_2
  have hE := wrap_cells hWH
  have hll := linesOf_len W H X
  have hp0 : 0 ≤ p := (positionOk_facts h2).p0
  have hpn : p.toNat < cells2 W H := spreadAt_lt h2 true 0 p.toNat (spreadTo_start 0)
  have hpn2 : p < (cells2 W H : Nat) := by omega
  have SLO : Hid (V.heap.size ≤ w3.heap.size) := hV.size
  have hps : ((p.toNat : Nat) : Int) = p := by omega
  go_wp2_with (at_make; refine wpList_make_full _ rfl _ _ 97 rfl V.heap.size 4 i0 (.bool false) 1 Try.underlying97 hi hz0 hz1 .i64 .i64 _ _ (cells2 W H) rfl rfl hE hE (by rw [hz2]; omega) (by simp only [maxLen]; omega) hV.size ?_; intro w4 hS hg4; rw [made_marks] at hS; have hc4 := (hS.cellAt p.toNat (by omega)).trans (bools_get (marksOf_get hpn)); have hf4 := hS.frozenAt p.toNat; clear d0 d1 d2)
  have hV4 := hV.grown hg4 hV.size (fun _ h => by cases h)
  have hL4 := own_lower (lo' := 0) (hL.kept hg4 (by cases hv : (Value.slice D (linesOf W H X).length cD).ownBlock <;> simp)) (Nat.zero_le _)
  have hS5 := (hS.stored p.toNat (.bool true)).1
  rw [marksOf_set hpn] at hS5
  have hV5 := hV4.setCell (p := ⟨w3.heap.size, p.toNat, none⟩) hV.size (.bool true)
  have hL5 := hL4.kept (hS.stored p.toNat (.bool true)).2 (own_types hL4 hS (by decide))
  clear hL4 hS hg4 hc4 hf4 hL
  have hT0 : spreadAt W H X true p 0 = [p.toNat] := rfl
  have hO := made1 hV5 p
  have hS6 := own_alloc hS5 (.cells #[.int .i64 p] 3)
  have hL6 := own_alloc hL5 (.cells #[.int .i64 p] 3)
  have hV6 := below_alloc hV5 (.cells #[.int .i64 p] 3)
  go_loopw [9, 10] (fun v i wr => ∃ k : Nat, i = .int .i64 k ∧ k ≤ (spreadAt W H X true p k).length ∧ wr.ownsRow V.heap.size 3 1 v (spreadAt W H X true p k).length (ints (toInts (spreadAt W H X true p k))) ∧ wr.ownsRow V.heap.size 4 1 (.slice (some ⟨w3.heap.size, 0, none⟩) (cells2 W H) (cells2 W H)) (cells2 W H) (bools (marksOf (cells2 W H) (spreadAt W H X true p k))) ∧ wr.ownsRow 0 46 3 (.slice D (linesOf W H X).length cD) (linesOf W H X).length (ints (lflat (linesOf W H X))) ∧ Below V.heap.size V wr) (fun _ i _ => cells2 W H - (intOf i).toNat)
  case atStart => exact ⟨0, rfl, Nat.zero_le _, (by rw [hT0]; simpa [toInts, hps] using hO), (by rw [hT0]; exact hS6), hL6, hV6⟩
  case round =>
    clear hS5 hL5 hV5 hO hS6 hL6 hV6 hT0 hV4
    obtain ⟨k, rfl, hk, hown, hS, hL, hbel⟩ := hrel
    obtain ⟨A, cA, rfl⟩ := own_shape hown
    have hkn := spreadAt_len (back := true) h2 k
    by_cases hlt : k < (spreadAt W H X true p k).length
    · obtain ⟨x, hx⟩ : ∃ x, (spreadAt W H X true p k)[k]? = some x := ⟨_, List.getElem?_eq_getElem hlt⟩
      have HX := Lib.hid hx
      clear hx
      go_wp2
      go_loopw [9, 46] (fun v i wr => ∃ m : Nat, m ≤ (linesOf W H X).length ∧ i = .int .i64 m ∧ wr.ownsRow V.heap.size 3 1 v (stepLs true x (spreadAt W H X true p k) ((linesOf W H X).take m)).length (ints (toInts (stepLs true x (spreadAt W H X true p k) ((linesOf W H X).take m)))) ∧ wr.ownsRow V.heap.size 4 1 (.slice (some ⟨w3.heap.size, 0, none⟩) (cells2 W H) (cells2 W H)) (cells2 W H) (bools (marksOf (cells2 W H) (stepLs true x (spreadAt W H X true p k) ((linesOf W H X).take m)))) ∧ wr.ownsRow 0 46 3 (.slice D (linesOf W H X).length cD) (linesOf W H X).length (ints (lflat (linesOf W H X))) ∧ Below V.heap.size V wr) (fun _ i _ => (linesOf W H X).length - (intOf i).toNat)
      case atStart => exact ⟨0, Nat.zero_le _, rfl, hown, hS, hL, hbel⟩
      case round =>
        clear hown hS hL hbel
        obtain ⟨m, hm, rfl, hown, hS, hL, hbel⟩ := hrel
        by_cases hml : m < (linesOf W H X).length
        · obtain ⟨⟨f, o, t⟩, hl⟩ : ∃ l, (linesOf W H X)[m]? = some l := ⟨_, List.getElem?_eq_getElem hml⟩
          have HF := Lib.hid (lines_facts (List.mem_of_getElem? hl)).small
          have hxl : x < 562949953421312 := by have := spreadAt_lt h2 true k x (List.mem_of_getElem? HX.out); omega
          have hlen := part_len (m := m) h2 HX.out
          have hgl : goTo x (f, o, t) < 562949953421312 := goTo_lt HF.out hxl
          have hkp := keep_at (back := true) ((linesOf W H X).take m) HX.out
          have hkl : k < (stepLs true x (spreadAt W H X true p k) ((linesOf W H X).take m)).length := (List.getElem?_eq_some_iff.1 hkp).1
          obtain ⟨A, cA, rfl⟩ := own_shape hown
          obtain ⟨b, off, rfl, e1⟩ := FAt_of_own hown _ _ (toInts_at hkp)
          have hFL := FAt_of_own hL
          obtain ⟨c1, c2, c3⟩ := lflat_get hl
          obtain ⟨bl, offl, rfl, l1⟩ := hFL _ _ c1
          obtain ⟨_, _, e2, l2⟩ := hFL _ _ c2
          injection e2 with e2; injection e2 with e3 e4; subst e3 e4
          obtain ⟨_, _, e2, l3⟩ := hFL _ _ c3
          injection e2 with e2; injection e2 with e3 e4; subst e3 e4
          rw [← Nat.add_assoc] at l2 l3
          have hzb := cellb_lt e1
          have HL := Lib.hid hl
          clear hl hkp c1 c2 c3 hFL
          go_wp2_with fail
          generalize hU : wr.alloc (.cells #[.int .i64 f, .int .i64 o, .int .i64 t] 46) = U
          have bU : Below wr.heap.size wr U := by subst hU; (repeat (first | exact Below.refl _ _ | assumption | refine below_step ?_ (by assumption) | refine below_alloc ?_ _ | refine below_drewN ?_ _ | refine Below.drew ?_ | refine Below.setCell ?_ (by first | (simp; done) | omega | (simp; omega)) _))
          have zU : wr.heap.size < U.heap.size := by subst hU; simp
          have u0 : U.cell? ⟨wr.heap.size, 0, none⟩ = some (.int .i64 f) := by subst hU; simp
          have u1 : U.cell? ⟨wr.heap.size, 1, none⟩ = some (.int .i64 o) := by subst hU; simp
          have u2 : U.cell? ⟨wr.heap.size, 2, none⟩ = some (.int .i64 t) := by subst hU; simp
          have zb : b < U.heap.size := Nat.lt_of_lt_of_le hzb bU.size
          have u3 := bel_cell bU hzb e1
          have KU : Hid (∀ w', Below U.heap.size U w' → Below U.heap.size U w' ∧ w'.cell? ⟨wr.heap.size, 0, none⟩ = some (.int .i64 f) ∧ w'.cell? ⟨wr.heap.size, 1, none⟩ = some (.int .i64 o) ∧ w'.cell? ⟨wr.heap.size, 2, none⟩ = some (.int .i64 t) ∧ w'.cell? ⟨b, off + k, none⟩ = some (.int .i64 (x : Nat))) :=
            fun w' hB => ⟨hB, bel_cell hB zU u0, bel_cell hB zU u1, bel_cell hB zU u2, bel_cell hB zb u3⟩
          clear hU e1 l1 l2 l3
          cases hcg : canGo true x (f, o, t)
          · have HN := Lib.hid (foldTo_no (t := spreadAt W H X true p k) HL.out hcg)
            go_region_held3 (fun w' => Below U.heap.size U w' ∧ w'.cell? ⟨wr.heap.size, 0, none⟩ = some (.int .i64 f) ∧ w'.cell? ⟨wr.heap.size, 1, none⟩ = some (.int .i64 o) ∧ w'.cell? ⟨wr.heap.size, 2, none⟩ = some (.int .i64 t) ∧ w'.cell? ⟨b, off + k, none⟩ = some (.int .i64 (x : Nat)))
              ((refine KU.out _ ?_; (repeat (first | exact Below.refl _ _ | assumption | refine below_step ?_ (by assumption) | refine below_alloc ?_ _ | refine below_drewN ?_ _ | refine Below.drew ?_ | refine Below.setCell ?_ (by first | (simp; done) | omega | (simp; omega)) _))))
              (first | (go_at_call 107; refine (impl_jumpFrom_any _ HF.out hxl).mono ?_; rintro e w5 ⟨q5, r5, rfl, hw5⟩))
            go_wp2_with fail
            go_region_held3 (fun w' => Below U.heap.size U w' ∧ w'.cell? ⟨wr.heap.size, 0, none⟩ = some (.int .i64 f) ∧ w'.cell? ⟨wr.heap.size, 1, none⟩ = some (.int .i64 o) ∧ w'.cell? ⟨wr.heap.size, 2, none⟩ = some (.int .i64 t) ∧ w'.cell? ⟨b, off + k, none⟩ = some (.int .i64 (x : Nat)))
              ((refine KU.out _ ?_; (repeat (first | exact Below.refl _ _ | assumption | refine below_step ?_ (by assumption) | refine below_alloc ?_ _ | refine below_drewN ?_ _ | refine Below.drew ?_ | refine Below.setCell ?_ (by first | (simp; done) | omega | (simp; omega)) _))))
              (first | (go_at_call 129; refine (impl_undoFrom_no _ HF.out hxl hcg).mono ?_; rintro e w6 ⟨rfl, hw6⟩))
            have hw5 : Below wr.heap.size wr w6 := by (repeat (first | exact Below.refl _ _ | assumption | refine below_step ?_ (by assumption) | refine below_alloc ?_ _ | refine below_drewN ?_ _ | refine Below.drew ?_ | refine Below.setCell ?_ (by first | (simp; done) | omega | (simp; omega)) _))
            go_wp2
            go_roundw
            case rel => exact ⟨m + 1, by omega, by go_num, by rw [HN.out]; exact own_below hown hw5, by rw [HN.out]; exact own_below hS hw5, own_below hL hw5, by (repeat (first | exact Below.refl _ _ | assumption | refine below_step ?_ (by assumption) | refine below_alloc ?_ _ | refine below_drewN ?_ _ | refine Below.drew ?_ | refine Below.setCell ?_ (by first | (simp; done) | omega | (simp; omega)) _))⟩
            case measure => simp [intOf]; omega
          · have hqn : goTo x (f, o, t) < cells2 W H := part_lt (m := m + 1) h2 HX.out _ (by rw [foldTo HL.out]; unfold stepL; rw [if_pos hcg]; exact visit_mem _ _)
            by_cases hmem : goTo x (f, o, t) ∈ stepLs true x (spreadAt W H X true p k) ((linesOf W H X).take m)
            · have HN := Lib.hid (foldTo_old (t := spreadAt W H X true p k) HL.out hmem)
              go_region_held3 (fun w' => Below U.heap.size U w' ∧ w'.cell? ⟨wr.heap.size, 0, none⟩ = some (.int .i64 f) ∧ w'.cell? ⟨wr.heap.size, 1, none⟩ = some (.int .i64 o) ∧ w'.cell? ⟨wr.heap.size, 2, none⟩ = some (.int .i64 t) ∧ w'.cell? ⟨b, off + k, none⟩ = some (.int .i64 (x : Nat)))
                ((refine KU.out _ ?_; (repeat (first | exact Below.refl _ _ | assumption | refine below_step ?_ (by assumption) | refine below_alloc ?_ _ | refine below_drewN ?_ _ | refine Below.drew ?_ | refine Below.setCell ?_ (by first | (simp; done) | omega | (simp; omega)) _))))
                (first | (go_at_call 107; refine (impl_jumpFrom_any _ HF.out hxl).mono ?_; rintro e w5 ⟨q5, r5, rfl, hw5⟩))
              go_wp2_with fail
              go_region_held3 (fun w' => Below U.heap.size U w' ∧ w'.cell? ⟨wr.heap.size, 0, none⟩ = some (.int .i64 f) ∧ w'.cell? ⟨wr.heap.size, 1, none⟩ = some (.int .i64 o) ∧ w'.cell? ⟨wr.heap.size, 2, none⟩ = some (.int .i64 t) ∧ w'.cell? ⟨b, off + k, none⟩ = some (.int .i64 (x : Nat)))
                ((refine KU.out _ ?_; (repeat (first | exact Below.refl _ _ | assumption | refine below_step ?_ (by assumption) | refine below_alloc ?_ _ | refine below_drewN ?_ _ | refine Below.drew ?_ | refine Below.setCell ?_ (by first | (simp; done) | omega | (simp; omega)) _))))
                (first | (go_at_call 129; refine (impl_undoFrom_yes _ HF.out hxl hcg).mono ?_; rintro e w6 ⟨rfl, hw6⟩))
              have hw5 : Below wr.heap.size wr w6 := by (repeat (first | exact Below.refl _ _ | assumption | refine below_step ?_ (by assumption) | refine below_alloc ?_ _ | refine below_drewN ?_ _ | refine Below.drew ?_ | refine Below.setCell ?_ (by first | (simp; done) | omega | (simp; omega)) _))
              replace hS := own_below hS hw5
              have s1 := (hS.cellAt (goTo x (f, o, t)) (by omega)).trans (bools_get (marksOf_get hqn))
              rw [decide_eq_true hmem] at s1
              go_wp2
              go_roundw
              case rel => exact ⟨m + 1, by omega, by go_num, by rw [HN.out]; exact own_below hown hw5, by rw [HN.out]; exact hS, own_below hL hw5, by (repeat (first | exact Below.refl _ _ | assumption | refine below_step ?_ (by assumption) | refine below_alloc ?_ _ | refine below_drewN ?_ _ | refine Below.drew ?_ | refine Below.setCell ?_ (by first | (simp; done) | omega | (simp; omega)) _))⟩
              case measure => simp [intOf]; omega
            · have HN := Lib.hid (foldTo_new (t := spreadAt W H X true p k) HL.out hcg hmem)
              go_region_held3 (fun w' => Below U.heap.size U w' ∧ w'.cell? ⟨wr.heap.size, 0, none⟩ = some (.int .i64 f) ∧ w'.cell? ⟨wr.heap.size, 1, none⟩ = some (.int .i64 o) ∧ w'.cell? ⟨wr.heap.size, 2, none⟩ = some (.int .i64 t) ∧ w'.cell? ⟨b, off + k, none⟩ = some (.int .i64 (x : Nat)))
                ((refine KU.out _ ?_; (repeat (first | exact Below.refl _ _ | assumption | refine below_step ?_ (by assumption) | refine below_alloc ?_ _ | refine below_drewN ?_ _ | refine Below.drew ?_ | refine Below.setCell ?_ (by first | (simp; done) | omega | (simp; omega)) _))))
                (first | (go_at_call 107; refine (impl_jumpFrom_any _ HF.out hxl).mono ?_; rintro e w5 ⟨q5, r5, rfl, hw5⟩))
              go_wp2_with fail
              go_region_held3 (fun w' => Below U.heap.size U w' ∧ w'.cell? ⟨wr.heap.size, 0, none⟩ = some (.int .i64 f) ∧ w'.cell? ⟨wr.heap.size, 1, none⟩ = some (.int .i64 o) ∧ w'.cell? ⟨wr.heap.size, 2, none⟩ = some (.int .i64 t) ∧ w'.cell? ⟨b, off + k, none⟩ = some (.int .i64 (x : Nat)))
                ((refine KU.out _ ?_; (repeat (first | exact Below.refl _ _ | assumption | refine below_step ?_ (by assumption) | refine below_alloc ?_ _ | refine below_drewN ?_ _ | refine Below.drew ?_ | refine Below.setCell ?_ (by first | (simp; done) | omega | (simp; omega)) _))))
                (first | (go_at_call 129; refine (impl_undoFrom_yes _ HF.out hxl hcg).mono ?_; rintro e w6 ⟨rfl, hw6⟩))
              have hw5 : Below wr.heap.size wr w6 := by (repeat (first | exact Below.refl _ _ | assumption | refine below_step ?_ (by assumption) | refine below_alloc ?_ _ | refine below_drewN ?_ _ | refine Below.drew ?_ | refine Below.setCell ?_ (by first | (simp; done) | omega | (simp; omega)) _))
              replace hS := own_below hS hw5
              replace hown := own_below hown hw5
              replace hL := own_below hL hw5
              replace hbel := below_step hbel hw5
              have s1 := (hS.cellAt (goTo x (f, o, t)) (by omega)).trans (bools_get (marksOf_get hqn))
              rw [decide_eq_false hmem] at s1
              have s2 := hS.frozenAt (goTo x (f, o, t))
              have hgS := (hS.stored (goTo x (f, o, t)) (.bool true)).2
              have hS7 := (hS.stored (goTo x (f, o, t)) (.bool true)).1
              rw [marksOf_set hqn] at hS7
              have hown7 := hown.kept hgS (own_types hown hS (by decide))
              have hL7 := hL.kept hgS (own_types hL hS (by decide))
              have HSZ : Hid ((w6.setCell ⟨w3.heap.size, goTo x (f, o, t), none⟩ (.bool true)).heap.size = w6.heap.size) := by unfold Hid; simp
              have hbel7 := hbel.setCell (p := ⟨w3.heap.size, goTo x (f, o, t), none⟩) SLO.out (.bool true)
              go_wp2_with (at_builtin; refine append_intg Try.underlying56 V _ rfl _ _ rfl _ _ _ ((goTo x (f, o, t) : Nat) : Int) (by rfl) hown7 (by rw [HSZ.out]; rfl) (by omega) hbel7 ?_; intro v' w' hown' hbel' hgrow')
              go_roundw
              case rel => exact ⟨m + 1, by omega, by go_num, by rw [HN.out, toInts_append, List.length_append]; exact hown', by rw [HN.out]; exact (own_alloc hS7 _).kept hgrow' (own_types hS7 hown7 (by decide)), (own_alloc hL7 _).kept hgrow' (own_types hL7 hown7 (by decide)), hbel'⟩
              case measure => simp [intOf]; omega
        · obtain rfl : m = (linesOf W H X).length := by omega
          have HA := Lib.hid (part_all HX.out)
          go_wp2
          go_roundw
          case rel =>
            rw [HA.out] at hown hS
            have hle := (spreadTo_prefix (back := true) (ls := linesOf W H X) (s := p.toNat) k).length_le
            have hlt1 : k < (spreadAt W H X true p (k + 1)).length := Nat.lt_of_lt_of_le hlt hle
            exact ⟨k + 1, by go_num, hlt1, hown, hS, hL, hbel⟩
          case measure => simp [intOf]; omega
    · have HFIN := Lib.hid (seen_final h1 h2 (Nat.le_of_not_lt hlt))
      have hlen := congrArg List.length HFIN.out
      rw [marksOf_len] at hlen
      rw [HFIN.out] at hS
      have HLN := Lib.hid hlen.symm
      have FIN : Hid (wr.ownsRow V.heap.size 4 1 (.slice (some ⟨w3.heap.size, 0, none⟩) (seenB W H X true p).length (cells2 W H)) (seenB W H X true p).length (bools (seenB W H X true p))) := by
        show wr.ownsRow _ _ _ _ _ _
        rw [← hlen]; exact hS
      clear hlen hS
      go_wp2
      go_ret
      exact ⟨some ⟨w3.heap.size, 0, none⟩, cells2 W H, by rw [HLN.out]; rfl, own_lower FIN.out HV.out, below_step v0 hbel⟩
end Go.Proofs.Ytianfakgojmnpaa
