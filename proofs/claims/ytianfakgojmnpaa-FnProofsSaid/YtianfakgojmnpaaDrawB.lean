/- Drawn boards: small and sound. -/
import Derived.Test.YtianfakgojmnpaaDraw
import Derived.Test.YtianfakgojmnpaaHoles
import Derived.Test.YtianfakgojmnpaaHeld
namespace Go.Proofs.Ytianfakgojmnpaa
open Go.RowKit

/-! ### a block of three cells -/
def Cells3 (w : World) (r : Nat) (a b c : Int) : Prop := r < w.heap.size ∧ (w.cell? ⟨r, 0, none⟩ = some (.int .i64 a) ∧ w.cell? ⟨r, 1, none⟩ = some (.int .i64 b) ∧ w.cell? ⟨r, 2, none⟩ = some (.int .i64 c)) ∧ w.frozen? ⟨r, 0, none⟩ = false ∧ w.frozen? ⟨r, 1, none⟩ = false ∧ w.frozen? ⟨r, 2, none⟩ = false
theorem Cells3.kept {w w' : World} {r : Nat} {a b c : Int} (h : Cells3 w r a b c) (hs : w.heap.size ≤ w'.heap.size) (e : w'.heap[r]? = w.heap[r]?) : Cells3 w' r a b c := by
  obtain ⟨hr, ⟨h0, h1, h2⟩, f0, f1, f2⟩ := h
  exact ⟨Nat.lt_of_lt_of_le hr hs, ⟨(World.cell?_of_block e).trans h0, (World.cell?_of_block e).trans h1, (World.cell?_of_block e).trans h2⟩, (World.frozen?_of_block e).trans f0, (World.frozen?_of_block e).trans f1, (World.frozen?_of_block e).trans f2⟩
theorem Cells3.below {w w' : World} {r : Nat} {a b c : Int} (h : Cells3 w r a b c) (hb : Below w.heap.size w w') : Cells3 w' r a b c := h.kept hb.size (hb.block r h.1)
theorem Cells3.grown {w w' : World} {r : Nat} {a b c : Int} {row : Option Nat} (h : Cells3 w r a b c) (hg : w.grownBy w' row) (hne : some r ≠ row) : Cells3 w' r a b c := h.kept hg.size (hg.block r h.1 hne)
theorem Cells3.drewN {w : World} {r : Nat} {a b c : Int} (h : Cells3 w r a b c) (k : Nat) : Cells3 (w.drewN k) r a b c := h
theorem Cells3.drew {w : World} {r : Nat} {a b c : Int} (h : Cells3 w r a b c) : Cells3 w.drew r a b c := h
theorem Cells3.other {w : World} {r k j : Nat} {a b c : Int} {v : Value} (h : Cells3 w r a b c) (hne : r ≠ k) : Cells3 (w.setCell ⟨k, j, none⟩ v) r a b c :=
  h.kept (by simp) (heap_setCell_other w ⟨k, j, none⟩ r v (fun e => hne (by simpa using e)))
theorem Cells3.set2 {w : World} {r : Nat} {a b c : Int} (h : Cells3 w r a b c) (x : Int) : Cells3 (w.setCell ⟨r, 2, none⟩ (.int .i64 x)) r a b x := by
  obtain ⟨hr, ⟨h0, h1, h2⟩, f0, f1, f2⟩ := h
  refine ⟨by simpa using hr, ⟨?_, ?_, World.cell?_setCell_same _ _ _ h2⟩, by simpa using f0, by simpa using f1, by simpa using f2⟩
  · rw [World.cell?_setCell_other _ _ _ _ (by simp)]; exact h0
  · rw [World.cell?_setCell_other _ _ _ _ (by simp)]; exact h1
theorem Cells3.set3 {w : World} {r : Nat} {a b c : Int} (h : Cells3 w r a b c) (x y z : Int) : Cells3 (((w.setCell ⟨r, 0, none⟩ (.int .i64 x)).setCell ⟨r, 1, none⟩ (.int .i64 y)).setCell ⟨r, 2, none⟩ (.int .i64 z)) r x y z := by
  obtain ⟨hr, ⟨h0, h1, h2⟩, f0, f1, f2⟩ := h
  have e1 : (w.setCell ⟨r, 0, none⟩ (.int .i64 x)).cell? ⟨r, 1, none⟩ = some (.int .i64 b) := by rw [World.cell?_setCell_other _ _ _ _ (by simp)]; exact h1
  have e2 : (w.setCell ⟨r, 0, none⟩ (.int .i64 x)).cell? ⟨r, 2, none⟩ = some (.int .i64 c) := by rw [World.cell?_setCell_other _ _ _ _ (by simp)]; exact h2
  have e3 : ((w.setCell ⟨r, 0, none⟩ (.int .i64 x)).setCell ⟨r, 1, none⟩ (.int .i64 y)).cell? ⟨r, 2, none⟩ = some (.int .i64 c) := by rw [World.cell?_setCell_other _ _ _ _ (by simp)]; exact e2
  refine ⟨by simpa using hr, ⟨?_, ?_, World.cell?_setCell_same _ _ _ e3⟩, by simpa using f0, by simpa using f1, by simpa using f2⟩
  · rw [World.cell?_setCell_other _ _ _ _ (by simp), World.cell?_setCell_other _ _ _ _ (by simp)]; exact World.cell?_setCell_same _ _ _ h0
  · rw [World.cell?_setCell_other _ _ _ _ (by simp)]; exact World.cell?_setCell_same _ _ _ e1
theorem new3 {w : World} {a b c : Int} {ty : TypeId} : Cells3 (w.alloc (.cells #[.int .i64 a, .int .i64 b, .int .i64 c] ty)) w.heap.size a b c :=
  ⟨by simp, ⟨by simp, by simp, by simp⟩, by simp, by simp, by simp⟩
theorem gr_set3 {a w : World} {row : Option Nat} {n : Nat} (h : a.grownBy w row) (hn : a.heap.size ≤ n) (j : Nat) (v : Value) : a.grownBy (w.setCell ⟨n, j, none⟩ v) row := by
  refine ⟨h.os, h.tape, h.output, by simpa using h.size, fun i hi hne => ?_⟩
  rw [heap_setCell_other w ⟨n, j, none⟩ i v (fun e => by simp at e; omega)]
  exact h.block i hi hne
theorem CurAt.drewQ {w : World} {g B : Nat} (hc : CurAt B w g) : CurAt B w.drew g := hc

set_option maxHeartbeats 1000000 in
theorem spec_CountHoles (W H X : Int) (w : World) :
    Calls Try.prog 126 #[.agg #[.int .i64 W, .int .i64 H, .int .i64 X]] w fun e w' => e = .returned (.int .i64 ((holes W H X).length : Nat)) ∧ Below w.heap.size w w' := by
  go_enter Try.func126, Try.ntmps126
  go_wp2_with fail
  refine (spec_HolesOf _ _ _ _).mono ?_
  rintro e w1 ⟨A, c, rfl, ho, hb1⟩
  go_wp2
  go_ret
  exact ⟨rfl, below_step (below_one _ _) hb1⟩
set_option maxHeartbeats 1000000 in
theorem spec_Rectangle (W H : Int) (w : World) (w1 : 1 ≤ W) (w2 : W ≤ 7) (h1 : 1 ≤ H) (h2 : H ≤ 7) :
    Calls Try.prog 127 #[.int .i64 W, .int .i64 H] w fun e w' => e = .returned (.agg #[.int .i64 W, .int .i64 H, .int .i64 (2 ^ (W * H).toNat - 1)]) ∧ Below w.heap.size w w' := by
  obtain ⟨m1, m2⟩ := mul_bd w1 w2 h1 h2
  have i1 : inB W 1 7 = true := inB_iff.2 ⟨w1, w2⟩
  have i2 : inB H 1 7 = true := inB_iff.2 ⟨h1, h2⟩
  go_enter Try.func127, Try.ntmps127
  go_wp2_with fail
  refine (calls_is (spec_l01In _ _ _ _) i1).mono ?_
  rintro e _ ⟨rfl, rfl⟩
  go_wp2_with fail
  refine (calls_is (spec_l01In _ _ _ _) i2).mono ?_
  rintro e _ ⟨rfl, rfl⟩
  go_wp2
  exact bodyPost_ret (v := .agg #[.int .i64 W, .int .i64 H, .int .i64 (2 ^ (W * H).toNat - 1)]) (by simp [results, Try.results127, go_sem, pow_wrap m1 m2, pow_wrap' m1 m2]) rfl ⟨rfl, by (repeat (first | exact Below.refl _ _ | assumption | refine below_step ?_ (by assumption) | refine below_alloc ?_ _ | refine below_drewN ?_ _ | refine Below.drew ?_ | refine Below.setCell ?_ (by first | (simp; done) | omega | (simp; omega)) _))⟩

/-! ### bits struck out of a board -/
theorem bitsTo_pow (i : Nat) : ∀ n, (bitsTo (2 ^ i) n).length ≤ 1 ∧ (n ≤ i → (bitsTo (2 ^ i) n).length = 0) := by
  intro n
  induction n with
  | zero => simp [bitsTo]
  | succ n ih =>
    have e : (bitsTo (2 ^ i) (n + 1)).length = (bitsTo (2 ^ i) n).length + (if i = n then 1 else 0) := by
      simp only [bitsTo, List.range_succ, List.filter_append, List.length_append, List.filter_cons, List.filter_nil, Nat.testBit_two_pow]
      split <;> simp_all
    rw [e]
    split <;> omega
theorem struck {W H X : Int} {i : Nat} (h : boardOk W H X = true) (hb : X.toNat.testBit i = true) (hl : 5 < (holes W H X).length) : boardOk W H (X - 2 ^ i) = true := by
  have F := boardOk_facts h
  have hge : 2 ^ i ≤ X.toNat := Nat.ge_two_pow_of_testBit hb
  have e : ((2 ^ i : Nat) : Int) = (2 : Int) ^ i := by simp
  have hne : X.toNat ≠ 2 ^ i := by
    intro hx
    have : (holes W H X).length ≤ 1 := by
      unfold holes; rw [if_pos h, hx]; exact (bitsTo_pow i _).1
    omega
  have x1 := F.x1
  refine boardOk_mk F.w1 F.w2 F.h1 F.h2 (by omega) ?_
  have := F.x2
  have := Int.pow_pos (n := 2) (m := i) (by decide)
  omega
def smallB (W H X : Int) : Prop := boardOk W H X = true ∧ W ≤ 5 ∧ H ≤ 4 ∧ W * H ≤ 16
theorem prod16 {W H : Int} (w1 : 1 ≤ W) (w2 : W ≤ 5) (h1 : 1 ≤ H) (h2 : H ≤ 4) (h3 : W = 5 → H ≤ 3) : 1 ≤ W * H ∧ W * H ≤ 16 := by
  have : W = 1 ∨ W = 2 ∨ W = 3 ∨ W = 4 ∨ W = 5 := by omega
  rcases this with rfl | rfl | rfl | rfl | rfl <;> omega
theorem rect_ok {W H : Int} (w1 : 1 ≤ W) (w2 : W ≤ 7) (h1 : 1 ≤ H) (h2 : H ≤ 7) : boardOk W H (2 ^ (W * H).toNat - 1) = true := by
  obtain ⟨m1, m2⟩ := mul_bd w1 w2 h1 h2
  refine boardOk_mk w1 w2 h1 h2 ?_ (Int.le_refl _)
  have : 2 ^ 1 ≤ 2 ^ (W * H).toNat := Nat.pow_le_pow_right (n := 2) (by decide) (by omega)
  have e : ((2 ^ (W * H).toNat : Nat) : Int) = (2 : Int) ^ (W * H).toNat := by simp
  omega
set_option maxHeartbeats 4000000 in
theorem spec_l02Small (g B : Nat) (w : World) (hc : CurAt B w g) :
    Calls Try.prog 125 #[.pointer (some ⟨g, 0, none⟩)] w fun e w' => ∃ W H X : Int, e = .returned (.agg #[.int .i64 W, .int .i64 H, .int .i64 X]) ∧ smallB W H X ∧ CurAt B w' g ∧ w.grownBy w' (some g) := by
  have hg := hc.1
  have hgB := hc.2.1
  go_enter Try.func125, Try.ntmps125
  go_wp2_with fail
  have R := new3 (w := w) (a := 0) (b := 0) (c := 0) (ty := 44)
  have hgr : w.grownBy (w.alloc (.cells #[.int .i64 0, .int .i64 0, .int .i64 0] 44)) (some g) := gr_alloc (gr_refl _ _) _
  replace hc := hc.below (below_one w (.cells #[.int .i64 0, .int .i64 0, .int .i64 0] 44))
  have hrg : w.heap.size ≠ g := by omega
  refine (spec_l01Below g B _ _ hc (by omega) (by omega)).mono ?_
  rintro e w1 ⟨a, rfl, a0, a1, hc1, hg1⟩
  replace R := R.grown hg1 (by simp; omega)
  replace hgr := gr_trans hgr hg1
  obtain ⟨W, hW⟩ : ∃ W, 1 + a = W := ⟨_, rfl⟩
  have w1' : 1 ≤ W := by omega
  have w2' : W ≤ 5 := by omega
  have hWW : (W ≤ 4 ∧ 16 / W ≥ 4) ∨ (W = 5 ∧ 16 / W = 3) := by
    have : W = 1 ∨ W = 2 ∨ W = 3 ∨ W = 4 ∨ W = 5 := by omega
    rcases this with h | h | h | h | h <;> subst h <;> decide
  clear hc hg1
  by_cases q3 : W < 3
  · have q2 : 16 / W ≥ 4 := by omega
    go_wp2_with fail
    refine (spec_l01Below g B _ _ hc1 (by omega) (by omega)).mono ?_
    rintro e w2 ⟨b, rfl, b0, b1, hc2, hg2⟩
    replace R := R.grown hg2 (by simp; omega)
    replace hgr := gr_trans hgr hg2
    obtain ⟨H, hH⟩ : ∃ H, 1 + b = H := ⟨_, rfl⟩
    clear hc1 hg2
    by_cases q4 : H < 3
    · skip
      go_wp2_with fail
      refine (spec_Rectangle W 3 _ w1' (by omega) (by omega) (by omega)).mono ?_
      rintro e w3 ⟨rfl, hb3⟩
      replace R := R.below hb3
      replace hgr := gr_below hgr hb3
      have hc3 := hc2.below hb3
      clear hc2 hb3
      obtain ⟨m1, m2⟩ := prod16 w1' w2' (H := 3) (by omega) (by omega) (by omega)
      have hok := rect_ok (W := W) (H := 3) w1' (by omega) (by omega) (by omega)
      obtain ⟨X0, hX0⟩ : ∃ X0, (2 : Int) ^ (W * 3).toNat - 1 = X0 := ⟨_, rfl⟩
      rw [hX0] at hok ⊢
      clear hX0
      go_wp2_with fail
      have Bd := new3 (w := w3) (a := W) (b := 3) (c := X0) (ty := 44)
      have hgr4 : w.grownBy (w3.alloc (.cells #[.int .i64 W, .int .i64 (3), .int .i64 X0] 44)) (some g) := gr_alloc hgr _
      have hc4 := hc3.below (below_one w3 (.cells #[.int .i64 W, .int .i64 (3), .int .i64 X0] 44))
      have R4 := R.below (below_one w3 (.cells #[.int .i64 W, .int .i64 (3), .int .i64 X0] 44))
      have hbg : w3.heap.size ≠ g := by have := hc3.1; omega
      have hbr : w3.heap.size ≠ w.heap.size := by have := R.1; omega
      have hbB : w.heap.size ≤ w3.heap.size := hgr.size
      clear hgr hc3 R
      refine (spec_l01Below g B _ _ hc4 (by omega) (by omega)).mono ?_
      rintro e w5 ⟨kk, rfl, k0, k1, hc5, hg5⟩
      have R5 := R4.grown hg5 (by simp; omega)
      have Bd5 := Bd.grown hg5 (by simp; omega)
      have hgr5 := gr_trans hgr4 hg5
      clear hc4 R4 Bd hgr4 hg5
      go_wp2
      go_loopw [6] (fun s6 wr => ∃ (k : Int) (X : Int), s6 = .int .i64 k ∧ 0 ≤ k ∧ k < 3 ∧ boardOk W 3 X = true ∧ CurAt B wr g ∧ w.grownBy wr (some g) ∧ Cells3 wr w.heap.size 0 0 0 ∧ Cells3 wr w3.heap.size W 3 X) (fun s6 _ => (intOf s6).toNat)
      case atStart => exact ⟨kk, X0, rfl, k0, k1, hok, hc5, hgr5, R5, Bd5⟩
      case round =>
        clear hc5 hgr5 R5 Bd5 hok
        obtain ⟨k, X, rfl, k0, k1, hok, hc, hgr, R, Bd⟩ := hrel
        have F := boardOk_facts hok
        have x0 := F.x1
        have x3 := F.x3
        obtain ⟨hbs, ⟨b0, b1, b2⟩, f0, f1, f2⟩ := Bd
        have Bd : Cells3 wr w3.heap.size W 3 X := ⟨hbs, ⟨b0, b1, b2⟩, f0, f1, f2⟩
        by_cases hk : 0 < k
        · by_cases hl : 5 < (holes W 3 X).length
          · go_wp2_with fail
            refine (spec_CountHoles _ _ _ _).mono ?_
            rintro e w6 ⟨rfl, hb6⟩
            have hc6 := hc.below hb6
            have hgr6 := gr_below hgr hb6
            have R6 := R.below hb6
            have Bd6 := Bd.below hb6
            clear b0 b1 b2 f0 f1 f2 hc hgr R Bd hb6
            go_wp2_with fail
            refine (spec_l01Below g B _ _ hc6 (by omega) (by omega)).mono ?_
            rintro e w7 ⟨i, rfl, i0, i1, hc7, hg7⟩
            have hgr7 := gr_trans hgr6 hg7
            have R7 := R6.grown hg7 (by simp; omega)
            have Bd7 := Bd6.grown hg7 (by simp; omega)
            clear hc6 hgr6 R6 Bd6 hg7
            obtain ⟨hbs, ⟨b0, b1, b2⟩, f0, f1, f2⟩ := Bd7
            have Bd7 : Cells3 w7 w3.heap.size W 3 X := ⟨hbs, ⟨b0, b1, b2⟩, f0, f1, f2⟩
            obtain ⟨i, rfl⟩ : ∃ n : Nat, i = (n : Int) := ⟨i.toNat, by omega⟩
            have hq := beq_shr_one (p := X) (k := (i : Int)) (by omega) (by omega)
            cases hbit : bitI X (i : Int)
            · rw [hbit] at hq
              have hq2 : (bits .and .i64 (X / 2 ^ i) 1 == 1) = false := by simpa using hq
              clear hq
              go_wp2
              go_roundw
              case rel => exact ⟨k - 1, X, by go_num, by omega, by omega, hok, hc7, hgr7, R7, Bd7⟩
              case measure => simp [intOf]; omega
            · rw [hbit] at hq
              have hq2 : (bits .and .i64 (X / 2 ^ i) 1 == 1) = true := by simpa using hq
              have hst := struck hok (by simpa [bitI] using hbit) hl
              have F2 := boardOk_facts hst
              have y1 := F2.x1
              have hp2 := pow_bd (n := i) (by omega)
              obtain ⟨p1, p2⟩ := hp2
              have hw1 : IntKind.i64.wrap (2 ^ i) = 2 ^ i := by rw [IntKind.wrap_i64]; omega
              have hw2 : IntKind.i64.wrap (X - 2 ^ i) = X - 2 ^ i := by rw [IntKind.wrap_i64]; omega
              clear hq
              go_wp2_with fail
              refine wp_region_held_drew (S := (fun _ => True)) (by kernel_rfl) ?_ (fun hHd0 => ?_)
              · (exact trivial)
              refine heldT (i := 0) rfl (by kernel_rfl) (by kernel_rfl) (by kernel_rfl) (fun _ _ _ h => h) (by rfl) (v := ?_) ?_ (by assumption) ?_
              rotate_left
              · (intro w hSw; (try dsimp only at hSw); go_simp; try (with_reducible rfl))
              (try simp only [Act.put, List.setIfInBounds_toArray, List.set_cons_zero, List.set_cons_succ])
              refine heldT (i := 2) rfl (by kernel_rfl) (by kernel_rfl) (by kernel_rfl) (fun _ _ _ h => h) (by rfl) (v := ?_) ?_ (by assumption) ?_
              rotate_left
              · (intro w hSw; (try dsimp only at hSw); go_simp; try (with_reducible rfl))
              (try simp only [Act.put, List.setIfInBounds_toArray, List.set_cons_zero, List.set_cons_succ])
              refine heldT (i := 3) rfl (by kernel_rfl) (by kernel_rfl) (by kernel_rfl) (fun _ _ _ h => h) (by rfl) (v := ?_) ?_ (by assumption) ?_
              rotate_left
              · (intro w hSw; (try dsimp only at hSw); go_simp; try (with_reducible rfl))
              (try simp only [Act.put, List.setIfInBounds_toArray, List.set_cons_zero, List.set_cons_succ])
              refine heldC (i := 1) rfl (by kernel_rfl) (fun K' hK => ?_)
              go_simp
              skip
              (try (go_wp2_with fail))
              refine hK.out _ _ ?_ (fun hHd1 => ?_)
              · (exact trivial)
              clear hK K' hHd0
              (try simp only [Act.put, List.setIfInBounds_toArray, List.set_cons_zero, List.set_cons_succ])
              refine heldT (i := 4) rfl (by kernel_rfl) (by kernel_rfl) (by kernel_rfl) (fun _ _ _ h => h) (by rfl) (v := ?_) ?_ (by assumption) ?_
              rotate_left
              · (intro w hSw; (try dsimp only at hSw); go_simp; try (with_reducible rfl))
              (try simp only [Act.put, List.setIfInBounds_toArray, List.set_cons_zero, List.set_cons_succ])
              refine heldT (i := 5) rfl (by kernel_rfl) (by kernel_rfl) (by kernel_rfl) (fun _ _ _ h => h) (by rfl) (v := ?_) ?_ (by assumption) ?_
              rotate_left
              · (intro w hSw; (try dsimp only at hSw); go_simp; try (with_reducible rfl))
              (try simp only [Act.put, List.setIfInBounds_toArray, List.set_cons_zero, List.set_cons_succ])
              refine heldC (i := 6) rfl (by kernel_rfl) (fun K' hK => ?_)
              go_simp
              skip
              (try (go_wp2_with fail))
              refine hK.out _ _ ?_ (fun hHd2 => ?_)
              · (exact trivial)
              clear hK K' hHd1
              (try simp only [Act.put, List.setIfInBounds_toArray, List.set_cons_zero, List.set_cons_succ])
              refine wpAnyH_done (by kernel_rfl) ?_ _
              go_wp2
              go_roundw
              case rel => exact ⟨k - 1, X - 2 ^ i, by go_num, by omega, by omega, hst, (CurAt.drewQ hc7).set (by omega) hbg, gr_set3 (gr_drew hgr7) hbB _ _, (Cells3.drew R7).other (fun e => hbr e.symm), (Cells3.drew Bd7).set2 _⟩
              case measure => simp [intOf]; omega
          · go_wp2_with fail
            refine (spec_CountHoles _ _ _ _).mono ?_
            rintro e w6 ⟨rfl, hb6⟩
            have hc6 := hc.below hb6
            have hgr6 := gr_below hgr hb6
            have R6 := R.below hb6
            have Bd6 := Bd.below hb6
            clear b0 b1 b2 f0 f1 f2 hc hgr R Bd hb6
            obtain ⟨hbs, ⟨b0, b1, b2⟩, f0, f1, f2⟩ := Bd6
            obtain ⟨hrs, ⟨r0, r1, r2⟩, e0, e1, e2⟩ := R6
            have R6 : Cells3 _ w.heap.size 0 0 0 := ⟨hrs, ⟨r0, r1, r2⟩, e0, e1, e2⟩
            have Q := R6.set3 W (3) X
            obtain ⟨_, ⟨Q0, Q1, Q2⟩, _⟩ := Q
            have Q0 := Lib.hid Q0
            have Q1 := Lib.hid Q1
            have Q2 := Lib.hid Q2
            go_wp2
            exact bodyPost_ret (v := .agg #[.int .i64 W, .int .i64 (3), .int .i64 X]) (by simp [results, Try.results125, go_sem, Q0.out, Q1.out, Q2.out]) rfl
              ⟨W, 3, X, rfl, ⟨hok, by omega, by omega, by omega⟩, ((hc6.set (by omega) hrg).set (by omega) hrg).set (by omega) hrg, gr_set3 (gr_set3 (gr_set3 hgr6 (Nat.le_refl _) _ _) (Nat.le_refl _) _ _) (Nat.le_refl _) _ _⟩
        · have R6 := R
          have hc6 := hc
          have hgr6 := hgr
          have Bd6 := Bd
          clear b0 b1 b2 f0 f1 f2 hc hgr R Bd
          obtain ⟨hbs, ⟨b0, b1, b2⟩, f0, f1, f2⟩ := Bd6
          obtain ⟨hrs, ⟨r0, r1, r2⟩, e0, e1, e2⟩ := R6
          have R6 : Cells3 _ w.heap.size 0 0 0 := ⟨hrs, ⟨r0, r1, r2⟩, e0, e1, e2⟩
          have Q := R6.set3 W (3) X
          obtain ⟨_, ⟨Q0, Q1, Q2⟩, _⟩ := Q
          have Q0 := Lib.hid Q0
          have Q1 := Lib.hid Q1
          have Q2 := Lib.hid Q2
          go_wp2
          exact bodyPost_ret (v := .agg #[.int .i64 W, .int .i64 (3), .int .i64 X]) (by simp [results, Try.results125, go_sem, Q0.out, Q1.out, Q2.out]) rfl
            ⟨W, 3, X, rfl, ⟨hok, by omega, by omega, by omega⟩, ((hc6.set (by omega) hrg).set (by omega) hrg).set (by omega) hrg, gr_set3 (gr_set3 (gr_set3 hgr6 (Nat.le_refl _) _ _) (Nat.le_refl _) _ _) (Nat.le_refl _) _ _⟩
    · skip
      go_wp2_with fail
      refine (spec_Rectangle W H _ w1' (by omega) (by omega) (by omega)).mono ?_
      rintro e w3 ⟨rfl, hb3⟩
      replace R := R.below hb3
      replace hgr := gr_below hgr hb3
      have hc3 := hc2.below hb3
      clear hc2 hb3
      obtain ⟨m1, m2⟩ := prod16 w1' w2' (H := H) (by omega) (by omega) (by omega)
      have hok := rect_ok (W := W) (H := H) w1' (by omega) (by omega) (by omega)
      obtain ⟨X0, hX0⟩ : ∃ X0, (2 : Int) ^ (W * H).toNat - 1 = X0 := ⟨_, rfl⟩
      rw [hX0] at hok ⊢
      clear hX0
      go_wp2_with fail
      have Bd := new3 (w := w3) (a := W) (b := H) (c := X0) (ty := 44)
      have hgr4 : w.grownBy (w3.alloc (.cells #[.int .i64 W, .int .i64 (H), .int .i64 X0] 44)) (some g) := gr_alloc hgr _
      have hc4 := hc3.below (below_one w3 (.cells #[.int .i64 W, .int .i64 (H), .int .i64 X0] 44))
      have R4 := R.below (below_one w3 (.cells #[.int .i64 W, .int .i64 (H), .int .i64 X0] 44))
      have hbg : w3.heap.size ≠ g := by have := hc3.1; omega
      have hbr : w3.heap.size ≠ w.heap.size := by have := R.1; omega
      have hbB : w.heap.size ≤ w3.heap.size := hgr.size
      clear hgr hc3 R
      refine (spec_l01Below g B _ _ hc4 (by omega) (by omega)).mono ?_
      rintro e w5 ⟨kk, rfl, k0, k1, hc5, hg5⟩
      have R5 := R4.grown hg5 (by simp; omega)
      have Bd5 := Bd.grown hg5 (by simp; omega)
      have hgr5 := gr_trans hgr4 hg5
      clear hc4 R4 Bd hgr4 hg5
      go_wp2
      go_loopw [6] (fun s6 wr => ∃ (k : Int) (X : Int), s6 = .int .i64 k ∧ 0 ≤ k ∧ k < 3 ∧ boardOk W H X = true ∧ CurAt B wr g ∧ w.grownBy wr (some g) ∧ Cells3 wr w.heap.size 0 0 0 ∧ Cells3 wr w3.heap.size W H X) (fun s6 _ => (intOf s6).toNat)
      case atStart => exact ⟨kk, X0, rfl, k0, k1, hok, hc5, hgr5, R5, Bd5⟩
      case round =>
        clear hc5 hgr5 R5 Bd5 hok
        obtain ⟨k, X, rfl, k0, k1, hok, hc, hgr, R, Bd⟩ := hrel
        have F := boardOk_facts hok
        have x0 := F.x1
        have x3 := F.x3
        obtain ⟨hbs, ⟨b0, b1, b2⟩, f0, f1, f2⟩ := Bd
        have Bd : Cells3 wr w3.heap.size W H X := ⟨hbs, ⟨b0, b1, b2⟩, f0, f1, f2⟩
        by_cases hk : 0 < k
        · by_cases hl : 5 < (holes W H X).length
          · go_wp2_with fail
            refine (spec_CountHoles _ _ _ _).mono ?_
            rintro e w6 ⟨rfl, hb6⟩
            have hc6 := hc.below hb6
            have hgr6 := gr_below hgr hb6
            have R6 := R.below hb6
            have Bd6 := Bd.below hb6
            clear b0 b1 b2 f0 f1 f2 hc hgr R Bd hb6
            go_wp2_with fail
            refine (spec_l01Below g B _ _ hc6 (by omega) (by omega)).mono ?_
            rintro e w7 ⟨i, rfl, i0, i1, hc7, hg7⟩
            have hgr7 := gr_trans hgr6 hg7
            have R7 := R6.grown hg7 (by simp; omega)
            have Bd7 := Bd6.grown hg7 (by simp; omega)
            clear hc6 hgr6 R6 Bd6 hg7
            obtain ⟨hbs, ⟨b0, b1, b2⟩, f0, f1, f2⟩ := Bd7
            have Bd7 : Cells3 w7 w3.heap.size W H X := ⟨hbs, ⟨b0, b1, b2⟩, f0, f1, f2⟩
            obtain ⟨i, rfl⟩ : ∃ n : Nat, i = (n : Int) := ⟨i.toNat, by omega⟩
            have hq := beq_shr_one (p := X) (k := (i : Int)) (by omega) (by omega)
            cases hbit : bitI X (i : Int)
            · rw [hbit] at hq
              have hq2 : (bits .and .i64 (X / 2 ^ i) 1 == 1) = false := by simpa using hq
              clear hq
              go_wp2
              go_roundw
              case rel => exact ⟨k - 1, X, by go_num, by omega, by omega, hok, hc7, hgr7, R7, Bd7⟩
              case measure => simp [intOf]; omega
            · rw [hbit] at hq
              have hq2 : (bits .and .i64 (X / 2 ^ i) 1 == 1) = true := by simpa using hq
              have hst := struck hok (by simpa [bitI] using hbit) hl
              have F2 := boardOk_facts hst
              have y1 := F2.x1
              have hp2 := pow_bd (n := i) (by omega)
              obtain ⟨p1, p2⟩ := hp2
              have hw1 : IntKind.i64.wrap (2 ^ i) = 2 ^ i := by rw [IntKind.wrap_i64]; omega
              have hw2 : IntKind.i64.wrap (X - 2 ^ i) = X - 2 ^ i := by rw [IntKind.wrap_i64]; omega
              clear hq
              go_wp2_with fail
              refine wp_region_held_drew (S := (fun _ => True)) (by kernel_rfl) ?_ (fun hHd0 => ?_)
              · (exact trivial)
              refine heldT (i := 0) rfl (by kernel_rfl) (by kernel_rfl) (by kernel_rfl) (fun _ _ _ h => h) (by rfl) (v := ?_) ?_ (by assumption) ?_
              rotate_left
              · (intro w hSw; (try dsimp only at hSw); go_simp; try (with_reducible rfl))
              (try simp only [Act.put, List.setIfInBounds_toArray, List.set_cons_zero, List.set_cons_succ])
              refine heldT (i := 2) rfl (by kernel_rfl) (by kernel_rfl) (by kernel_rfl) (fun _ _ _ h => h) (by rfl) (v := ?_) ?_ (by assumption) ?_
              rotate_left
              · (intro w hSw; (try dsimp only at hSw); go_simp; try (with_reducible rfl))
              (try simp only [Act.put, List.setIfInBounds_toArray, List.set_cons_zero, List.set_cons_succ])
              refine heldT (i := 3) rfl (by kernel_rfl) (by kernel_rfl) (by kernel_rfl) (fun _ _ _ h => h) (by rfl) (v := ?_) ?_ (by assumption) ?_
              rotate_left
              · (intro w hSw; (try dsimp only at hSw); go_simp; try (with_reducible rfl))
              (try simp only [Act.put, List.setIfInBounds_toArray, List.set_cons_zero, List.set_cons_succ])
              refine heldC (i := 1) rfl (by kernel_rfl) (fun K' hK => ?_)
              go_simp
              skip
              (try (go_wp2_with fail))
              refine hK.out _ _ ?_ (fun hHd1 => ?_)
              · (exact trivial)
              clear hK K' hHd0
              (try simp only [Act.put, List.setIfInBounds_toArray, List.set_cons_zero, List.set_cons_succ])
              refine heldT (i := 4) rfl (by kernel_rfl) (by kernel_rfl) (by kernel_rfl) (fun _ _ _ h => h) (by rfl) (v := ?_) ?_ (by assumption) ?_
              rotate_left
              · (intro w hSw; (try dsimp only at hSw); go_simp; try (with_reducible rfl))
              (try simp only [Act.put, List.setIfInBounds_toArray, List.set_cons_zero, List.set_cons_succ])
              refine heldT (i := 5) rfl (by kernel_rfl) (by kernel_rfl) (by kernel_rfl) (fun _ _ _ h => h) (by rfl) (v := ?_) ?_ (by assumption) ?_
              rotate_left
              · (intro w hSw; (try dsimp only at hSw); go_simp; try (with_reducible rfl))
              (try simp only [Act.put, List.setIfInBounds_toArray, List.set_cons_zero, List.set_cons_succ])
              refine heldC (i := 6) rfl (by kernel_rfl) (fun K' hK => ?_)
              go_simp
              skip
              (try (go_wp2_with fail))
              refine hK.out _ _ ?_ (fun hHd2 => ?_)
              · (exact trivial)
              clear hK K' hHd1
              (try simp only [Act.put, List.setIfInBounds_toArray, List.set_cons_zero, List.set_cons_succ])
              refine wpAnyH_done (by kernel_rfl) ?_ _
              go_wp2
              go_roundw
              case rel => exact ⟨k - 1, X - 2 ^ i, by go_num, by omega, by omega, hst, (CurAt.drewQ hc7).set (by omega) hbg, gr_set3 (gr_drew hgr7) hbB _ _, (Cells3.drew R7).other (fun e => hbr e.symm), (Cells3.drew Bd7).set2 _⟩
              case measure => simp [intOf]; omega
          · go_wp2_with fail
            refine (spec_CountHoles _ _ _ _).mono ?_
            rintro e w6 ⟨rfl, hb6⟩
            have hc6 := hc.below hb6
            have hgr6 := gr_below hgr hb6
            have R6 := R.below hb6
            have Bd6 := Bd.below hb6
            clear b0 b1 b2 f0 f1 f2 hc hgr R Bd hb6
            obtain ⟨hbs, ⟨b0, b1, b2⟩, f0, f1, f2⟩ := Bd6
            obtain ⟨hrs, ⟨r0, r1, r2⟩, e0, e1, e2⟩ := R6
            have R6 : Cells3 _ w.heap.size 0 0 0 := ⟨hrs, ⟨r0, r1, r2⟩, e0, e1, e2⟩
            have Q := R6.set3 W (H) X
            obtain ⟨_, ⟨Q0, Q1, Q2⟩, _⟩ := Q
            have Q0 := Lib.hid Q0
            have Q1 := Lib.hid Q1
            have Q2 := Lib.hid Q2
            go_wp2
            exact bodyPost_ret (v := .agg #[.int .i64 W, .int .i64 (H), .int .i64 X]) (by simp [results, Try.results125, go_sem, Q0.out, Q1.out, Q2.out]) rfl
              ⟨W, H, X, rfl, ⟨hok, by omega, by omega, by omega⟩, ((hc6.set (by omega) hrg).set (by omega) hrg).set (by omega) hrg, gr_set3 (gr_set3 (gr_set3 hgr6 (Nat.le_refl _) _ _) (Nat.le_refl _) _ _) (Nat.le_refl _) _ _⟩
        · have R6 := R
          have hc6 := hc
          have hgr6 := hgr
          have Bd6 := Bd
          clear b0 b1 b2 f0 f1 f2 hc hgr R Bd
          obtain ⟨hbs, ⟨b0, b1, b2⟩, f0, f1, f2⟩ := Bd6
          obtain ⟨hrs, ⟨r0, r1, r2⟩, e0, e1, e2⟩ := R6
          have R6 : Cells3 _ w.heap.size 0 0 0 := ⟨hrs, ⟨r0, r1, r2⟩, e0, e1, e2⟩
          have Q := R6.set3 W (H) X
          obtain ⟨_, ⟨Q0, Q1, Q2⟩, _⟩ := Q
          have Q0 := Lib.hid Q0
          have Q1 := Lib.hid Q1
          have Q2 := Lib.hid Q2
          go_wp2
          exact bodyPost_ret (v := .agg #[.int .i64 W, .int .i64 (H), .int .i64 X]) (by simp [results, Try.results125, go_sem, Q0.out, Q1.out, Q2.out]) rfl
            ⟨W, H, X, rfl, ⟨hok, by omega, by omega, by omega⟩, ((hc6.set (by omega) hrg).set (by omega) hrg).set (by omega) hrg, gr_set3 (gr_set3 (gr_set3 hgr6 (Nat.le_refl _) _ _) (Nat.le_refl _) _ _) (Nat.le_refl _) _ _⟩
  · rcases hWW with ⟨q1, q2⟩ | ⟨q1, q2⟩
    · skip
      go_wp2_with fail
      refine (spec_l01Below g B _ _ hc1 (by omega) (by omega)).mono ?_
      rintro e w2 ⟨b, rfl, b0, b1, hc2, hg2⟩
      replace R := R.grown hg2 (by simp; omega)
      replace hgr := gr_trans hgr hg2
      obtain ⟨H, hH⟩ : ∃ H, 1 + b = H := ⟨_, rfl⟩
      clear hc1 hg2
      go_wp2_with fail
      refine (spec_Rectangle W H _ w1' (by omega) (by omega) (by omega)).mono ?_
      rintro e w3 ⟨rfl, hb3⟩
      replace R := R.below hb3
      replace hgr := gr_below hgr hb3
      have hc3 := hc2.below hb3
      clear hc2 hb3
      obtain ⟨m1, m2⟩ := prod16 w1' w2' (H := H) (by omega) (by omega) (by omega)
      have hok := rect_ok (W := W) (H := H) w1' (by omega) (by omega) (by omega)
      obtain ⟨X0, hX0⟩ : ∃ X0, (2 : Int) ^ (W * H).toNat - 1 = X0 := ⟨_, rfl⟩
      rw [hX0] at hok ⊢
      clear hX0
      go_wp2_with fail
      have Bd := new3 (w := w3) (a := W) (b := H) (c := X0) (ty := 44)
      have hgr4 : w.grownBy (w3.alloc (.cells #[.int .i64 W, .int .i64 (H), .int .i64 X0] 44)) (some g) := gr_alloc hgr _
      have hc4 := hc3.below (below_one w3 (.cells #[.int .i64 W, .int .i64 (H), .int .i64 X0] 44))
      have R4 := R.below (below_one w3 (.cells #[.int .i64 W, .int .i64 (H), .int .i64 X0] 44))
      have hbg : w3.heap.size ≠ g := by have := hc3.1; omega
      have hbr : w3.heap.size ≠ w.heap.size := by have := R.1; omega
      have hbB : w.heap.size ≤ w3.heap.size := hgr.size
      clear hgr hc3 R
      refine (spec_l01Below g B _ _ hc4 (by omega) (by omega)).mono ?_
      rintro e w5 ⟨kk, rfl, k0, k1, hc5, hg5⟩
      have R5 := R4.grown hg5 (by simp; omega)
      have Bd5 := Bd.grown hg5 (by simp; omega)
      have hgr5 := gr_trans hgr4 hg5
      clear hc4 R4 Bd hgr4 hg5
      go_wp2
      go_loopw [6] (fun s6 wr => ∃ (k : Int) (X : Int), s6 = .int .i64 k ∧ 0 ≤ k ∧ k < 3 ∧ boardOk W H X = true ∧ CurAt B wr g ∧ w.grownBy wr (some g) ∧ Cells3 wr w.heap.size 0 0 0 ∧ Cells3 wr w3.heap.size W H X) (fun s6 _ => (intOf s6).toNat)
      case atStart => exact ⟨kk, X0, rfl, k0, k1, hok, hc5, hgr5, R5, Bd5⟩
      case round =>
        clear hc5 hgr5 R5 Bd5 hok
        obtain ⟨k, X, rfl, k0, k1, hok, hc, hgr, R, Bd⟩ := hrel
        have F := boardOk_facts hok
        have x0 := F.x1
        have x3 := F.x3
        obtain ⟨hbs, ⟨b0, b1, b2⟩, f0, f1, f2⟩ := Bd
        have Bd : Cells3 wr w3.heap.size W H X := ⟨hbs, ⟨b0, b1, b2⟩, f0, f1, f2⟩
        by_cases hk : 0 < k
        · by_cases hl : 5 < (holes W H X).length
          · go_wp2_with fail
            refine (spec_CountHoles _ _ _ _).mono ?_
            rintro e w6 ⟨rfl, hb6⟩
            have hc6 := hc.below hb6
            have hgr6 := gr_below hgr hb6
            have R6 := R.below hb6
            have Bd6 := Bd.below hb6
            clear b0 b1 b2 f0 f1 f2 hc hgr R Bd hb6
            go_wp2_with fail
            refine (spec_l01Below g B _ _ hc6 (by omega) (by omega)).mono ?_
            rintro e w7 ⟨i, rfl, i0, i1, hc7, hg7⟩
            have hgr7 := gr_trans hgr6 hg7
            have R7 := R6.grown hg7 (by simp; omega)
            have Bd7 := Bd6.grown hg7 (by simp; omega)
            clear hc6 hgr6 R6 Bd6 hg7
            obtain ⟨hbs, ⟨b0, b1, b2⟩, f0, f1, f2⟩ := Bd7
            have Bd7 : Cells3 w7 w3.heap.size W H X := ⟨hbs, ⟨b0, b1, b2⟩, f0, f1, f2⟩
            obtain ⟨i, rfl⟩ : ∃ n : Nat, i = (n : Int) := ⟨i.toNat, by omega⟩
            have hq := beq_shr_one (p := X) (k := (i : Int)) (by omega) (by omega)
            cases hbit : bitI X (i : Int)
            · rw [hbit] at hq
              have hq2 : (bits .and .i64 (X / 2 ^ i) 1 == 1) = false := by simpa using hq
              clear hq
              go_wp2
              go_roundw
              case rel => exact ⟨k - 1, X, by go_num, by omega, by omega, hok, hc7, hgr7, R7, Bd7⟩
              case measure => simp [intOf]; omega
            · rw [hbit] at hq
              have hq2 : (bits .and .i64 (X / 2 ^ i) 1 == 1) = true := by simpa using hq
              have hst := struck hok (by simpa [bitI] using hbit) hl
              have F2 := boardOk_facts hst
              have y1 := F2.x1
              have hp2 := pow_bd (n := i) (by omega)
              obtain ⟨p1, p2⟩ := hp2
              have hw1 : IntKind.i64.wrap (2 ^ i) = 2 ^ i := by rw [IntKind.wrap_i64]; omega
              have hw2 : IntKind.i64.wrap (X - 2 ^ i) = X - 2 ^ i := by rw [IntKind.wrap_i64]; omega
              clear hq
              go_wp2_with fail
              refine wp_region_held_drew (S := (fun _ => True)) (by kernel_rfl) ?_ (fun hHd0 => ?_)
              · (exact trivial)
              refine heldT (i := 0) rfl (by kernel_rfl) (by kernel_rfl) (by kernel_rfl) (fun _ _ _ h => h) (by rfl) (v := ?_) ?_ (by assumption) ?_
              rotate_left
              · (intro w hSw; (try dsimp only at hSw); go_simp; try (with_reducible rfl))
              (try simp only [Act.put, List.setIfInBounds_toArray, List.set_cons_zero, List.set_cons_succ])
              refine heldT (i := 2) rfl (by kernel_rfl) (by kernel_rfl) (by kernel_rfl) (fun _ _ _ h => h) (by rfl) (v := ?_) ?_ (by assumption) ?_
              rotate_left
              · (intro w hSw; (try dsimp only at hSw); go_simp; try (with_reducible rfl))
              (try simp only [Act.put, List.setIfInBounds_toArray, List.set_cons_zero, List.set_cons_succ])
              refine heldT (i := 3) rfl (by kernel_rfl) (by kernel_rfl) (by kernel_rfl) (fun _ _ _ h => h) (by rfl) (v := ?_) ?_ (by assumption) ?_
              rotate_left
              · (intro w hSw; (try dsimp only at hSw); go_simp; try (with_reducible rfl))
              (try simp only [Act.put, List.setIfInBounds_toArray, List.set_cons_zero, List.set_cons_succ])
              refine heldC (i := 1) rfl (by kernel_rfl) (fun K' hK => ?_)
              go_simp
              skip
              (try (go_wp2_with fail))
              refine hK.out _ _ ?_ (fun hHd1 => ?_)
              · (exact trivial)
              clear hK K' hHd0
              (try simp only [Act.put, List.setIfInBounds_toArray, List.set_cons_zero, List.set_cons_succ])
              refine heldT (i := 4) rfl (by kernel_rfl) (by kernel_rfl) (by kernel_rfl) (fun _ _ _ h => h) (by rfl) (v := ?_) ?_ (by assumption) ?_
              rotate_left
              · (intro w hSw; (try dsimp only at hSw); go_simp; try (with_reducible rfl))
              (try simp only [Act.put, List.setIfInBounds_toArray, List.set_cons_zero, List.set_cons_succ])
              refine heldT (i := 5) rfl (by kernel_rfl) (by kernel_rfl) (by kernel_rfl) (fun _ _ _ h => h) (by rfl) (v := ?_) ?_ (by assumption) ?_
              rotate_left
              · (intro w hSw; (try dsimp only at hSw); go_simp; try (with_reducible rfl))
              (try simp only [Act.put, List.setIfInBounds_toArray, List.set_cons_zero, List.set_cons_succ])
              refine heldC (i := 6) rfl (by kernel_rfl) (fun K' hK => ?_)
              go_simp
              skip
              (try (go_wp2_with fail))
              refine hK.out _ _ ?_ (fun hHd2 => ?_)
              · (exact trivial)
              clear hK K' hHd1
              (try simp only [Act.put, List.setIfInBounds_toArray, List.set_cons_zero, List.set_cons_succ])
              refine wpAnyH_done (by kernel_rfl) ?_ _
              go_wp2
              go_roundw
              case rel => exact ⟨k - 1, X - 2 ^ i, by go_num, by omega, by omega, hst, (CurAt.drewQ hc7).set (by omega) hbg, gr_set3 (gr_drew hgr7) hbB _ _, (Cells3.drew R7).other (fun e => hbr e.symm), (Cells3.drew Bd7).set2 _⟩
              case measure => simp [intOf]; omega
          · go_wp2_with fail
            refine (spec_CountHoles _ _ _ _).mono ?_
            rintro e w6 ⟨rfl, hb6⟩
            have hc6 := hc.below hb6
            have hgr6 := gr_below hgr hb6
            have R6 := R.below hb6
            have Bd6 := Bd.below hb6
            clear b0 b1 b2 f0 f1 f2 hc hgr R Bd hb6
            obtain ⟨hbs, ⟨b0, b1, b2⟩, f0, f1, f2⟩ := Bd6
            obtain ⟨hrs, ⟨r0, r1, r2⟩, e0, e1, e2⟩ := R6
            have R6 : Cells3 _ w.heap.size 0 0 0 := ⟨hrs, ⟨r0, r1, r2⟩, e0, e1, e2⟩
            have Q := R6.set3 W (H) X
            obtain ⟨_, ⟨Q0, Q1, Q2⟩, _⟩ := Q
            have Q0 := Lib.hid Q0
            have Q1 := Lib.hid Q1
            have Q2 := Lib.hid Q2
            go_wp2
            exact bodyPost_ret (v := .agg #[.int .i64 W, .int .i64 (H), .int .i64 X]) (by simp [results, Try.results125, go_sem, Q0.out, Q1.out, Q2.out]) rfl
              ⟨W, H, X, rfl, ⟨hok, by omega, by omega, by omega⟩, ((hc6.set (by omega) hrg).set (by omega) hrg).set (by omega) hrg, gr_set3 (gr_set3 (gr_set3 hgr6 (Nat.le_refl _) _ _) (Nat.le_refl _) _ _) (Nat.le_refl _) _ _⟩
        · have R6 := R
          have hc6 := hc
          have hgr6 := hgr
          have Bd6 := Bd
          clear b0 b1 b2 f0 f1 f2 hc hgr R Bd
          obtain ⟨hbs, ⟨b0, b1, b2⟩, f0, f1, f2⟩ := Bd6
          obtain ⟨hrs, ⟨r0, r1, r2⟩, e0, e1, e2⟩ := R6
          have R6 : Cells3 _ w.heap.size 0 0 0 := ⟨hrs, ⟨r0, r1, r2⟩, e0, e1, e2⟩
          have Q := R6.set3 W (H) X
          obtain ⟨_, ⟨Q0, Q1, Q2⟩, _⟩ := Q
          have Q0 := Lib.hid Q0
          have Q1 := Lib.hid Q1
          have Q2 := Lib.hid Q2
          go_wp2
          exact bodyPost_ret (v := .agg #[.int .i64 W, .int .i64 (H), .int .i64 X]) (by simp [results, Try.results125, go_sem, Q0.out, Q1.out, Q2.out]) rfl
            ⟨W, H, X, rfl, ⟨hok, by omega, by omega, by omega⟩, ((hc6.set (by omega) hrg).set (by omega) hrg).set (by omega) hrg, gr_set3 (gr_set3 (gr_set3 hgr6 (Nat.le_refl _) _ _) (Nat.le_refl _) _ _) (Nat.le_refl _) _ _⟩
    · subst q1
      go_wp2_with fail
      refine (spec_l01Below g B _ _ hc1 (by omega) (by omega)).mono ?_
      rintro e w2 ⟨b, rfl, b0, b1, hc2, hg2⟩
      replace R := R.grown hg2 (by simp; omega)
      replace hgr := gr_trans hgr hg2
      obtain ⟨H, hH⟩ : ∃ H, 1 + b = H := ⟨_, rfl⟩
      clear hc1 hg2
      go_wp2_with fail
      refine (spec_Rectangle 5 H _ w1' (by omega) (by omega) (by omega)).mono ?_
      rintro e w3 ⟨rfl, hb3⟩
      replace R := R.below hb3
      replace hgr := gr_below hgr hb3
      have hc3 := hc2.below hb3
      clear hc2 hb3
      obtain ⟨m1, m2⟩ := prod16 w1' w2' (H := H) (by omega) (by omega) (by omega)
      have hok := rect_ok (W := 5) (H := H) w1' (by omega) (by omega) (by omega)
      obtain ⟨X0, hX0⟩ : ∃ X0, (2 : Int) ^ (5 * H).toNat - 1 = X0 := ⟨_, rfl⟩
      rw [hX0] at hok ⊢
      clear hX0
      go_wp2_with fail
      have Bd := new3 (w := w3) (a := 5) (b := H) (c := X0) (ty := 44)
      have hgr4 : w.grownBy (w3.alloc (.cells #[.int .i64 5, .int .i64 (H), .int .i64 X0] 44)) (some g) := gr_alloc hgr _
      have hc4 := hc3.below (below_one w3 (.cells #[.int .i64 5, .int .i64 (H), .int .i64 X0] 44))
      have R4 := R.below (below_one w3 (.cells #[.int .i64 5, .int .i64 (H), .int .i64 X0] 44))
      have hbg : w3.heap.size ≠ g := by have := hc3.1; omega
      have hbr : w3.heap.size ≠ w.heap.size := by have := R.1; omega
      have hbB : w.heap.size ≤ w3.heap.size := hgr.size
      clear hgr hc3 R
      refine (spec_l01Below g B _ _ hc4 (by omega) (by omega)).mono ?_
      rintro e w5 ⟨kk, rfl, k0, k1, hc5, hg5⟩
      have R5 := R4.grown hg5 (by simp; omega)
      have Bd5 := Bd.grown hg5 (by simp; omega)
      have hgr5 := gr_trans hgr4 hg5
      clear hc4 R4 Bd hgr4 hg5
      go_wp2
      go_loopw [6] (fun s6 wr => ∃ (k : Int) (X : Int), s6 = .int .i64 k ∧ 0 ≤ k ∧ k < 3 ∧ boardOk 5 H X = true ∧ CurAt B wr g ∧ w.grownBy wr (some g) ∧ Cells3 wr w.heap.size 0 0 0 ∧ Cells3 wr w3.heap.size 5 H X) (fun s6 _ => (intOf s6).toNat)
      case atStart => exact ⟨kk, X0, rfl, k0, k1, hok, hc5, hgr5, R5, Bd5⟩
      case round =>
        clear hc5 hgr5 R5 Bd5 hok
        obtain ⟨k, X, rfl, k0, k1, hok, hc, hgr, R, Bd⟩ := hrel
        have F := boardOk_facts hok
        have x0 := F.x1
        have x3 := F.x3
        obtain ⟨hbs, ⟨b0, b1, b2⟩, f0, f1, f2⟩ := Bd
        have Bd : Cells3 wr w3.heap.size 5 H X := ⟨hbs, ⟨b0, b1, b2⟩, f0, f1, f2⟩
        by_cases hk : 0 < k
        · by_cases hl : 5 < (holes 5 H X).length
          · go_wp2_with fail
            refine (spec_CountHoles _ _ _ _).mono ?_
            rintro e w6 ⟨rfl, hb6⟩
            have hc6 := hc.below hb6
            have hgr6 := gr_below hgr hb6
            have R6 := R.below hb6
            have Bd6 := Bd.below hb6
            clear b0 b1 b2 f0 f1 f2 hc hgr R Bd hb6
            go_wp2_with fail
            refine (spec_l01Below g B _ _ hc6 (by omega) (by omega)).mono ?_
            rintro e w7 ⟨i, rfl, i0, i1, hc7, hg7⟩
            have hgr7 := gr_trans hgr6 hg7
            have R7 := R6.grown hg7 (by simp; omega)
            have Bd7 := Bd6.grown hg7 (by simp; omega)
            clear hc6 hgr6 R6 Bd6 hg7
            obtain ⟨hbs, ⟨b0, b1, b2⟩, f0, f1, f2⟩ := Bd7
            have Bd7 : Cells3 w7 w3.heap.size 5 H X := ⟨hbs, ⟨b0, b1, b2⟩, f0, f1, f2⟩
            obtain ⟨i, rfl⟩ : ∃ n : Nat, i = (n : Int) := ⟨i.toNat, by omega⟩
            have hq := beq_shr_one (p := X) (k := (i : Int)) (by omega) (by omega)
            cases hbit : bitI X (i : Int)
            · rw [hbit] at hq
              have hq2 : (bits .and .i64 (X / 2 ^ i) 1 == 1) = false := by simpa using hq
              clear hq
              go_wp2
              go_roundw
              case rel => exact ⟨k - 1, X, by go_num, by omega, by omega, hok, hc7, hgr7, R7, Bd7⟩
              case measure => simp [intOf]; omega
            · rw [hbit] at hq
              have hq2 : (bits .and .i64 (X / 2 ^ i) 1 == 1) = true := by simpa using hq
              have hst := struck hok (by simpa [bitI] using hbit) hl
              have F2 := boardOk_facts hst
              have y1 := F2.x1
              have hp2 := pow_bd (n := i) (by omega)
              obtain ⟨p1, p2⟩ := hp2
              have hw1 : IntKind.i64.wrap (2 ^ i) = 2 ^ i := by rw [IntKind.wrap_i64]; omega
              have hw2 : IntKind.i64.wrap (X - 2 ^ i) = X - 2 ^ i := by rw [IntKind.wrap_i64]; omega
              clear hq
              go_wp2_with fail
              refine wp_region_held_drew (S := (fun _ => True)) (by kernel_rfl) ?_ (fun hHd0 => ?_)
              · (exact trivial)
              refine heldT (i := 0) rfl (by kernel_rfl) (by kernel_rfl) (by kernel_rfl) (fun _ _ _ h => h) (by rfl) (v := ?_) ?_ (by assumption) ?_
              rotate_left
              · (intro w hSw; (try dsimp only at hSw); go_simp; try (with_reducible rfl))
              (try simp only [Act.put, List.setIfInBounds_toArray, List.set_cons_zero, List.set_cons_succ])
              refine heldT (i := 2) rfl (by kernel_rfl) (by kernel_rfl) (by kernel_rfl) (fun _ _ _ h => h) (by rfl) (v := ?_) ?_ (by assumption) ?_
              rotate_left
              · (intro w hSw; (try dsimp only at hSw); go_simp; try (with_reducible rfl))
              (try simp only [Act.put, List.setIfInBounds_toArray, List.set_cons_zero, List.set_cons_succ])
              refine heldT (i := 3) rfl (by kernel_rfl) (by kernel_rfl) (by kernel_rfl) (fun _ _ _ h => h) (by rfl) (v := ?_) ?_ (by assumption) ?_
              rotate_left
              · (intro w hSw; (try dsimp only at hSw); go_simp; try (with_reducible rfl))
              (try simp only [Act.put, List.setIfInBounds_toArray, List.set_cons_zero, List.set_cons_succ])
              refine heldC (i := 1) rfl (by kernel_rfl) (fun K' hK => ?_)
              go_simp
              skip
              (try (go_wp2_with fail))
              refine hK.out _ _ ?_ (fun hHd1 => ?_)
              · (exact trivial)
              clear hK K' hHd0
              (try simp only [Act.put, List.setIfInBounds_toArray, List.set_cons_zero, List.set_cons_succ])
              refine heldT (i := 4) rfl (by kernel_rfl) (by kernel_rfl) (by kernel_rfl) (fun _ _ _ h => h) (by rfl) (v := ?_) ?_ (by assumption) ?_
              rotate_left
              · (intro w hSw; (try dsimp only at hSw); go_simp; try (with_reducible rfl))
              (try simp only [Act.put, List.setIfInBounds_toArray, List.set_cons_zero, List.set_cons_succ])
              refine heldT (i := 5) rfl (by kernel_rfl) (by kernel_rfl) (by kernel_rfl) (fun _ _ _ h => h) (by rfl) (v := ?_) ?_ (by assumption) ?_
              rotate_left
              · (intro w hSw; (try dsimp only at hSw); go_simp; try (with_reducible rfl))
              (try simp only [Act.put, List.setIfInBounds_toArray, List.set_cons_zero, List.set_cons_succ])
              refine heldC (i := 6) rfl (by kernel_rfl) (fun K' hK => ?_)
              go_simp
              skip
              (try (go_wp2_with fail))
              refine hK.out _ _ ?_ (fun hHd2 => ?_)
              · (exact trivial)
              clear hK K' hHd1
              (try simp only [Act.put, List.setIfInBounds_toArray, List.set_cons_zero, List.set_cons_succ])
              refine wpAnyH_done (by kernel_rfl) ?_ _
              go_wp2
              go_roundw
              case rel => exact ⟨k - 1, X - 2 ^ i, by go_num, by omega, by omega, hst, (CurAt.drewQ hc7).set (by omega) hbg, gr_set3 (gr_drew hgr7) hbB _ _, (Cells3.drew R7).other (fun e => hbr e.symm), (Cells3.drew Bd7).set2 _⟩
              case measure => simp [intOf]; omega
          · go_wp2_with fail
            refine (spec_CountHoles _ _ _ _).mono ?_
            rintro e w6 ⟨rfl, hb6⟩
            have hc6 := hc.below hb6
            have hgr6 := gr_below hgr hb6
            have R6 := R.below hb6
            have Bd6 := Bd.below hb6
            clear b0 b1 b2 f0 f1 f2 hc hgr R Bd hb6
            obtain ⟨hbs, ⟨b0, b1, b2⟩, f0, f1, f2⟩ := Bd6
            obtain ⟨hrs, ⟨r0, r1, r2⟩, e0, e1, e2⟩ := R6
            have R6 : Cells3 _ w.heap.size 0 0 0 := ⟨hrs, ⟨r0, r1, r2⟩, e0, e1, e2⟩
            have Q := R6.set3 5 (H) X
            obtain ⟨_, ⟨Q0, Q1, Q2⟩, _⟩ := Q
            have Q0 := Lib.hid Q0
            have Q1 := Lib.hid Q1
            have Q2 := Lib.hid Q2
            go_wp2
            exact bodyPost_ret (v := .agg #[.int .i64 5, .int .i64 (H), .int .i64 X]) (by simp [results, Try.results125, go_sem, Q0.out, Q1.out, Q2.out]) rfl
              ⟨5, H, X, rfl, ⟨hok, by omega, by omega, by omega⟩, ((hc6.set (by omega) hrg).set (by omega) hrg).set (by omega) hrg, gr_set3 (gr_set3 (gr_set3 hgr6 (Nat.le_refl _) _ _) (Nat.le_refl _) _ _) (Nat.le_refl _) _ _⟩
        · have R6 := R
          have hc6 := hc
          have hgr6 := hgr
          have Bd6 := Bd
          clear b0 b1 b2 f0 f1 f2 hc hgr R Bd
          obtain ⟨hbs, ⟨b0, b1, b2⟩, f0, f1, f2⟩ := Bd6
          obtain ⟨hrs, ⟨r0, r1, r2⟩, e0, e1, e2⟩ := R6
          have R6 : Cells3 _ w.heap.size 0 0 0 := ⟨hrs, ⟨r0, r1, r2⟩, e0, e1, e2⟩
          have Q := R6.set3 5 (H) X
          obtain ⟨_, ⟨Q0, Q1, Q2⟩, _⟩ := Q
          have Q0 := Lib.hid Q0
          have Q1 := Lib.hid Q1
          have Q2 := Lib.hid Q2
          go_wp2
          exact bodyPost_ret (v := .agg #[.int .i64 5, .int .i64 (H), .int .i64 X]) (by simp [results, Try.results125, go_sem, Q0.out, Q1.out, Q2.out]) rfl
            ⟨5, H, X, rfl, ⟨hok, by omega, by omega, by omega⟩, ((hc6.set (by omega) hrg).set (by omega) hrg).set (by omega) hrg, gr_set3 (gr_set3 (gr_set3 hgr6 (Nat.le_refl _) _ _) (Nat.le_refl _) _ _) (Nat.le_refl _) _ _⟩
end Go.Proofs.Ytianfakgojmnpaa
