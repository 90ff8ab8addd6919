/- Drawn games and aims. -/
import Derived.Test.YtianfakgojmnpaaDrawQ
import Derived.Test.YtianfakgojmnpaaPlay
import Derived.Test.YtianfakgojmnpaaJumps
namespace Go.Proofs.Ytianfakgojmnpaa
open Go.RowKit
theorem gr_ownR {a b c : World} {g : Nat} {row : Option Nat} (h : a.grownBy b (some g)) (k : b.grownBy c row) (hr : ∀ j, row = some j → a.heap.size ≤ j) : a.grownBy c (some g) :=
  ⟨k.os.trans h.os, k.tape.trans h.tape, k.output.trans h.output, Nat.le_trans h.size k.size, fun i hi hne => (k.block i (Nat.lt_of_lt_of_le hi h.size) (fun e => by have := hr i e.symm; omega)).trans (h.block i hi hne)⟩
theorem madeR {V : World} {s : Nat} (e : TypeId) : (V.alloc (.cells #[] e)).ownsRow V.heap.size e s (.slice (some ⟨V.heap.size, 0, none⟩) 0 0) 0 [] :=
  World.ownsRow_made _ _ _ (Nat.le_refl _) (by simp [maxLen]) (by simp)
theorem doTo_ok {W H X p f o t : Int} (hp : positionOk W H X p = true) : positionOk W H X (doTo W H X p f o t) = true := by
  unfold doTo
  split
  · rename_i h
    simp only [doOk, Bool.and_eq_true] at h
    have F := positionOk_facts hp
    have LF := lines_facts (lineBetween_some (of_decide_eq_true h.1.2)).1
    refine positionOk_mk F.b (by omega) ?_
    rw [Int.toNat_natCast]
    exact goTo_sub F.sub LF.sub
  · exact hp
theorem playFrom_ok {W H X : Int} : ∀ {ls : List (Int × Int × Int)} {p q : Int}, positionOk W H X p = true → playFrom W H X p ls = some q → positionOk W H X q = true := by
  intro ls
  induction ls with
  | nil => intro p q hp h; simp [playFrom] at h; subst h; exact hp
  | cons l ls ih =>
    intro p q hp h
    simp only [playFrom] at h
    split at h
    · exact ih (doTo_ok hp) h
    · cases h
theorem playTo_ok {W H X p : Int} {ls : List (Int × Int × Int)} (hp : positionOk W H X p = true) : positionOk W H X (playTo W H X p ls) = true := by
  unfold playTo
  cases h : playAll W H X p ls with
  | none => exact hp
  | some q =>
    unfold playAll at h
    split at h
    · exact playFrom_ok hp h
    · cases h
theorem pos_max {W H X p : Int} (hp : positionOk W H X p = true) : 0 ≤ p ∧ p ≤ 9223372036854775807 := by
  have F := positionOk_facts hp
  have := (boardOk_facts F.b).x3
  have := F.le
  exact ⟨F.p0, by omega⟩
theorem append_lineR {ops : Array Oper} {rest : List Oper} {o : Oper} {a : Act} {Q : Exit → Act → World → Prop} {T : TypeId} (hT : Try.prog.underlying T = some (.slice 46)) (lo : Nat) (w : World) (hgd : o.guard = none) (s x : Operand)
    (ho : o.op = .call { callee := .builtin .append, args := #[s, x], argTypes := #[T, T] }) (v : Value) (n : Nat) (zs : List (Int × Int × Int)) (p q r : Int) (hs : a.eval s = v)
    (hown : w.ownsRow lo 46 3 v n (ints (lflat zs))) (hx : a.eval x = .slice (some ⟨w.heap.size, 0, none⟩) 1 1) (hn : n ≤ 4294967296) (hlo : lo ≤ w.heap.size)
    (h : ∀ v' w', w'.ownsRow lo 46 3 v' (n + 1) (ints (lflat (zs ++ [(p, q, r)]))) → (w.alloc (.cells #[.int .i64 p, .int .i64 q, .int .i64 r] 46)).grownBy w' v.ownBlock → wpList Try.prog ops Q rest (a.put o.dst v') w') :
    wpList Try.prog ops Q (o :: rest) a (w.alloc (.cells #[.int .i64 p, .int .i64 q, .int .i64 r] 46)) := by
  obtain ⟨i0, hi, hz0, hz1, hz2⟩ := info_parts line_info
  refine wpList_append_own _ hgd s x T ho lo 46 i0 (.agg #[.int .i64 0, .int .i64 0, .int .i64 0]) 3 24 hT hi hz0 hz1 hz2 rfl (by decide) v n (ints (lflat zs)) hs (hown.alloc _) ⟨w.heap.size, 0, none⟩ 1 1 [.int .i64 p, .int .i64 q, .int .i64 r] hx rfl ?_ ?_ ?_ ?_ ?_ ?_
  · intro j u hj
    match j, hj with
    | 0, hj => simp at hj; subst hj; simp [Addr.add]
    | 1, hj => simp at hj; subst hj; simp [Addr.add]
    | 2, hj => simp at hj; subst hj; simp [Addr.add]
  · intro u hu; simp at hu; rcases hu with rfl | rfl | rfl <;> rfl
  · simp only [maxLen]; omega
  · omega
  · simp; omega
  · intro v' w' hown' hgrow _
    exact h v' w' (by rw [lflat_append, ints_append]; exact hown') hgrow

set_option maxHeartbeats 4000000 in
theorem spec_DrawStart (A : Option Addr) (n cap : Nat) (w : World) (hc : Bytes w A n) (hn : n ≤ 4294967296) :
    Calls Try.prog 29 #[.slice A n cap] w fun e w' => ∃ W H X p : Int, e = .returned (.tuple #[.agg #[.int .i64 W, .int .i64 H, .int .i64 X], .int .i64 p]) ∧ smallB W H X ∧ positionOk W H X p = true ∧ Below w.heap.size w w' := by
  go_enter Try.func29, Try.ntmps29
  go_wp2_with fail
  generalize hV : w.alloc (.cells #[.int .i64 0, .int .i64 0, .int .i64 0] 44) = V
  have R : Cells3 V w.heap.size 0 0 0 := by subst hV; exact new3
  have v0 : Below w.heap.size w V := by subst hV; exact below_one _ _
  have zV : w.heap.size < V.heap.size := by subst hV; simp
  clear hV
  refine (spec_l01New _ _ _ _ (hc.below v0) hn).mono ?_
  rintro e w1 ⟨g, rfl, hgV, hc1, hb1⟩
  go_wp2_with fail
  refine (spec_l14Start g _ _ hc1).mono ?_
  rintro e w2 ⟨W, H, X, p, rfl, hs, hp, hc2, hg2⟩
  have hb2 := below_gr hb1 hb1.size hg2 hgV
  have R2 := (R.below hb2).below (below_one w2 (.cells #[.int .i64 W, .int .i64 H, .int .i64 X] 44))
  have hz2 : w.heap.size < w2.heap.size := Nat.lt_of_lt_of_le zV hb2.size
  have R3 := R.below hb2
  obtain ⟨r9, ⟨t0, t1, t2⟩, u0, u1, u2⟩ := R3
  obtain ⟨_, ⟨Q0, Q1, Q2⟩, _⟩ := (R.below hb2).set3 W H X
  have QA : Hid (∀ ob : Obj, _) := fun ob => (World.cell?_alloc_past (w := ((w2.setCell ⟨w.heap.size, 0, none⟩ (.int .i64 W)).setCell ⟨w.heap.size, 1, none⟩ (.int .i64 H)).setCell ⟨w.heap.size, 2, none⟩ (.int .i64 X)) ob w.heap.size 0 (by simpa using hz2)).trans Q0
  have QB : Hid (∀ ob : Obj, _) := fun ob => (World.cell?_alloc_past (w := ((w2.setCell ⟨w.heap.size, 0, none⟩ (.int .i64 W)).setCell ⟨w.heap.size, 1, none⟩ (.int .i64 H)).setCell ⟨w.heap.size, 2, none⟩ (.int .i64 X)) ob w.heap.size 1 (by simpa using hz2)).trans Q1
  have QC : Hid (∀ ob : Obj, _) := fun ob => (World.cell?_alloc_past (w := ((w2.setCell ⟨w.heap.size, 0, none⟩ (.int .i64 W)).setCell ⟨w.heap.size, 1, none⟩ (.int .i64 H)).setCell ⟨w.heap.size, 2, none⟩ (.int .i64 X)) ob w.heap.size 2 (by simpa using hz2)).trans Q2
  clear R R2 Q0 Q1 Q2
  go_wp2
  exact bodyPost_ret (v := .tuple #[.agg #[.int .i64 W, .int .i64 H, .int .i64 X], .int .i64 p]) (by simp [results, Try.results29, go_sem, QA.out, QB.out, QC.out]) rfl ⟨W, H, X, p, rfl, hs, hp, by have := below_step v0 hb2; (repeat (first | exact Below.refl _ _ | assumption | refine below_step ?_ (by assumption) | refine below_alloc ?_ _ | refine below_drewN ?_ _ | refine Below.drew ?_ | refine Below.setCell ?_ (by first | (simp; done) | omega | (simp; omega)) _))⟩
set_option maxHeartbeats 4000000 in
theorem spec_l06Play (g B : Nat) (W H X p n : Int) (w : World) (hc : CurAt B w g) (hp : positionOk W H X p = true) (n0 : 0 ≤ n) (n1 : n ≤ 20) :
    Calls Try.prog 113 #[.pointer (some ⟨g, 0, none⟩), .agg #[.int .i64 W, .int .i64 H, .int .i64 X], .int .i64 p, .int .i64 n] w fun e w' => ∃ (A : Option Addr) (cap : Nat) (ls : List (Int × Int × Int)), e = .returned (.slice A ls.length cap) ∧
      w'.ownsRow w.heap.size 46 3 (.slice A ls.length cap) ls.length (ints (lflat ls)) ∧ ls.length ≤ 20 ∧ CurAt B w' g ∧ w.grownBy w' (some g) := by
  have hg := hc.1
  have hgB := hc.2.1
  go_enter Try.func113, Try.ntmps113
  go_wp2_with fail
  generalize hV : w.alloc (.cells #[.int .i64 W, .int .i64 H, .int .i64 X] 44) = V
  have Bd : Cells3 V w.heap.size W H X := by subst hV; exact new3
  have hcV : CurAt B V g := by subst hV; exact hc.below (below_one _ _)
  have hgV : w.grownBy V (some g) := by subst hV; exact gr_alloc (gr_refl _ _) _
  have hVs : V.heap.size = w.heap.size + 1 := by subst hV; simp
  clear hV hc
  have hown := madeR (V := V) (s := 3) 46
  rw [hVs] at hown
  replace Bd := Bd.below (below_one V (.cells #[] 46))
  replace hcV := hcV.below (below_one V (.cells #[] 46))
  replace hgV := gr_alloc hgV (.cells #[] 46)
  have hbg : w.heap.size ≠ g := by omega
  have hgl : g < w.heap.size + 1 := by omega
  go_loopw [2, 9, 10] (fun s2 v s10 wr => ∃ (q : Int) (k : Nat) (ls : List (Int × Int × Int)), s2 = .int .i64 q ∧ positionOk W H X q = true ∧ s10 = .int .i64 k ∧ (k : Int) ≤ n ∧ wr.ownsRow (w.heap.size + 1) 46 3 v ls.length (ints (lflat ls)) ∧ ls.length ≤ k ∧ CurAt B wr g ∧ w.grownBy wr (some g) ∧ Cells3 wr w.heap.size W H X) (fun _ _ s10 _ => (n - intOf s10).toNat)
  case atStart => exact ⟨p, 0, [], rfl, hp, rfl, by omega, by simpa [lflat, ints] using hown, by simp, hcV, hgV, Bd⟩
  case round =>
    clear hown hcV hgV Bd
    obtain ⟨q, k, ls, rfl, hq, rfl, hk, hown, hll, hc, hgr, Bd⟩ := hrel
    obtain ⟨A, cap, rfl⟩ := own_shape hown
    have hqm := (pos_max hq).2
    have hq2 := Bd
    obtain ⟨hbs, ⟨b0, b1, b2⟩, _⟩ := hq2
    have HQ := Lib.hid hq
    clear hq
    by_cases hkn : (k : Int) < n
    · have hjl := jumpsOf_len W H X q
      obtain ⟨J, hJ⟩ : ∃ J, jumpsOf W H X q = J := ⟨_, rfl⟩
      have hJO := spec_JumpsOf W H X q wr hqm
      rw [hJ] at hJO hjl
      go_wp2_with fail
      refine hJO.mono ?_
      rintro e w2 ⟨AJ, cJ, rfl, oJ, hb2⟩
      clear hJO hJ b0 b1 b2
      replace hown := own_below hown hb2
      replace hc := hc.below hb2
      replace hgr := gr_below hgr hb2
      replace Bd := Bd.below hb2
      clear hb2
      by_cases hJ0 : J.length = 0
      · have hJe : J = [] := List.length_eq_zero_iff.1 hJ0
        subst hJe
        go_wp2
        go_ret
        exact ⟨A, cap, ls, rfl, own_lower hown (by omega), by omega, hc, hgr⟩
      · have hJn : J ≠ [] := fun e => hJ0 (by rw [e]; rfl)
        have hJb : (((J.length : Nat) : Int) == 0) = false := by simp [hJn]
        go_wp2_with fail
        refine (spec_l01Below g B _ _ hc (by omega) (by omega)).mono ?_
        rintro e w3 ⟨i, rfl, i0, i1, hc3, hg3⟩
        have ho3 := hown.kept hg3 (own_notgP hown hgl)
        have oJ3 := oJ.kept hg3 (own_notgP oJ (by have := hgr.size; omega))
        have hgr3 := gr_trans hgr hg3
        have Bd3 := Bd.grown hg3 (by simp; omega)
        clear hown hc hgr Bd oJ hg3
        obtain ⟨i, rfl⟩ : ∃ n : Nat, i = (n : Int) := ⟨i.toNat, by omega⟩
        obtain ⟨⟨f, o, t⟩, hl⟩ : ∃ l, J[i]? = some l := ⟨_, List.getElem?_eq_getElem (by omega)⟩
        obtain ⟨c1, c2, c3⟩ := lflat_get hl
        have hF := FAt_of_own oJ3
        obtain ⟨b, off, rfl, l1⟩ := hF _ _ c1
        obtain ⟨_, _, e2, l2⟩ := hF _ _ c2
        injection e2 with e2; injection e2 with e3 e4; subst e3 e4
        obtain ⟨_, _, e2, l3⟩ := hF _ _ c3
        injection e2 with e2; injection e2 with e3 e4; subst e3 e4
        rw [← Nat.add_assoc] at l2 l3
        clear hl c1 c2 c3 hF oJ3
        have hq3 := Bd3
        obtain ⟨hbs3, ⟨b0, b1, b2⟩, _⟩ := hq3
        have hbl := World.block_lt_of_cell? w3 _ l1
        obtain ⟨y, hy⟩ : ∃ y, doTo W H X q f o t = y := ⟨_, rfl⟩
        obtain ⟨yo, hyo⟩ : ∃ yo, doOk W H X q f o t = yo := ⟨_, rfl⟩
        have HY := Lib.hid (show positionOk W H X y = true by rw [← hy]; exact doTo_ok HQ.out)
        go_wp2_with fail
        refine (calls_is2 (spec_DoJump _ _ _ _ _ _ _ _ hqm) hy hyo).mono ?_
        rintro e w4 ⟨rfl, hb4⟩
        have Ln := (new3 (w := w3) (a := f) (b := o) (c := t) (ty := 46)).below hb4
        have ho4 := own_below (ho3.alloc (.cells #[.int .i64 f, .int .i64 o, .int .i64 t] 46)) hb4
        have hc4 := (hc3.below (below_one _ _)).below hb4
        have hgr4 := gr_below (gr_alloc hgr3 _) hb4
        have Bd4 := (Bd3.below (below_one _ _)).below hb4
        obtain ⟨hls, ⟨d0, d1, d2⟩, _⟩ := Ln
        clear b0 b1 b2 l1 l2 l3 ho3 hc3 hgr3 Bd3 hb4
        go_wp2_with (at_builtin; refine append_lineR Try.underlying61 (w.heap.size + 1) _ rfl _ _ rfl _ ls.length ls f o t (by rfl) ho4 (by rfl) (by omega) (by have := Bd4.1; omega) ?_; intro v' w' hown' hgrow')
        go_roundw
        case rel => exact ⟨y, k + 1, ls ++ [(f, o, t)], rfl, HY.out, by go_num, by omega, by rw [List.length_append]; exact hown', by simp; omega, (hc4.below (below_one _ _)).grown hgrow' (fun i hi => by have := (ho4.lt i hi).1; omega), gr_ownR (gr_alloc hgr4 _) hgrow' (fun i hi => by have := (ho4.lt i hi).1; omega), (Bd4.below (below_one _ _)).grown hgrow' (fun e => by have := (ho4.lt _ e.symm).1; omega)⟩
        case measure => simp [intOf]; omega
    · go_wp2
      go_ret
      exact ⟨A, cap, ls, rfl, own_lower hown (by omega), by omega, hc, hgr⟩
end Go.Proofs.Ytianfakgojmnpaa
