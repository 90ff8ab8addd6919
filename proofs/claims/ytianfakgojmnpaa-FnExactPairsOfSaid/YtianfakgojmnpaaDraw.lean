/- Draws: the cursor's contracts. A drawn number is only said to lie in its range. -/
import Derived.Test.YtianfakgojmnpaaSlice
import Derived.Test.YtianfakgojmnpaaLiftD
namespace Go.Proofs.Ytianfakgojmnpaa
open Go.RowKit

/-- n bytes lie at A -/
def Bytes (w : World) (A : Option Addr) (n : Nat) : Prop := ∀ j, j < n → ∃ b off z, A = some ⟨b, off, none⟩ ∧ w.cell? ⟨b, off + j, none⟩ = some (.int .u8 z) ∧ 0 ≤ z ∧ z ≤ 255 ∧ b < w.heap.size
/-- n bytes lie at A, in a block below B -/
def ByAt (w : World) (A : Option Addr) (n B : Nat) : Prop := ∀ j, j < n → ∃ b off z, A = some ⟨b, off, none⟩ ∧ w.cell? ⟨b, off + j, none⟩ = some (.int .u8 z) ∧ 0 ≤ z ∧ z ≤ 255 ∧ b < B
/-- a cursor over bytes lies in the block g; the bytes lie below B -/
def CurAt (B : Nat) (w : World) (g : Nat) : Prop := g < w.heap.size ∧ B ≤ g ∧ (∃ A n cap i h, w.cell? ⟨g, 0, none⟩ = some (.slice A n cap) ∧ w.cell? ⟨g, 1, none⟩ = some (.int .i64 i) ∧ w.cell? ⟨g, 2, none⟩ = some (.int .i64 h) ∧ 0 ≤ i ∧ n ≤ 4294967296 ∧ ByAt w A n B) ∧ w.frozen? ⟨g, 0, none⟩ = false ∧ w.frozen? ⟨g, 1, none⟩ = false ∧ w.frozen? ⟨g, 2, none⟩ = false

theorem Bytes.below {w w' : World} {A : Option Addr} {n : Nat} (h : Bytes w A n) (hb : Below w.heap.size w w') : Bytes w' A n := by
  intro j hj
  obtain ⟨b, off, z, hA, hc, z0, z1, hz⟩ := h j hj
  exact ⟨b, off, z, hA, (hb.cell (p := ⟨b, off + j, none⟩) hz).trans hc, z0, z1, Nat.lt_of_lt_of_le hz hb.size⟩
theorem Bytes.apart {w : World} {A : Option Addr} {n : Nat} (h : Bytes w A n) : ByAt w A n w.heap.size := by
  intro j hj
  obtain ⟨b, off, z, hA, hc, z0, z1, hz⟩ := h j hj
  exact ⟨b, off, z, hA, hc, z0, z1, hz⟩
theorem ByAt.kept {w w' : World} {A : Option Addr} {n B : Nat} (h : ByAt w A n B) (hb : ∀ i, i < B → w'.heap[i]? = w.heap[i]?) : ByAt w' A n B := by
  intro j hj
  obtain ⟨b, off, z, hA, hc, z0, z1, hz⟩ := h j hj
  exact ⟨b, off, z, hA, (World.cell?_of_block (hb b hz)).trans hc, z0, z1, hz⟩
/-- what only touches blocks at B and above, and not g -/
theorem CurAt.kept {w w' : World} {g B : Nat} (h : CurAt B w g) (hs : w.heap.size ≤ w'.heap.size) (hb : ∀ i, i < B ∨ i = g → w'.heap[i]? = w.heap[i]?) : CurAt B w' g := by
  obtain ⟨hg, hB, ⟨A, n, cap, i, h, c0, c1, c2, hi, hn, hA⟩, f0, f1, f2⟩ := h
  have e := hb g (Or.inr rfl)
  exact ⟨Nat.lt_of_lt_of_le hg hs, hB, ⟨A, n, cap, i, h, (World.cell?_of_block e).trans c0, (World.cell?_of_block e).trans c1, (World.cell?_of_block e).trans c2, hi, hn, hA.kept (fun i hi => hb i (Or.inl hi))⟩,
    (World.frozen?_of_block e).trans f0, (World.frozen?_of_block e).trans f1, (World.frozen?_of_block e).trans f2⟩
theorem CurAt.below {w w' : World} {g B : Nat} (h : CurAt B w g) (hb : Below w.heap.size w w') : CurAt B w' g :=
  h.kept hb.size (fun i hi => hb.block i (by have := h.1; have := h.2.1; omega))
theorem CurAt.grown {w w' : World} {g B : Nat} {row : Option Nat} (h : CurAt B w g) (hb : w.grownBy w' row) (hr : ∀ k, row = some k → B ≤ k ∧ k ≠ g) : CurAt B w' g :=
  h.kept hb.size (fun i hi => hb.block i (by have := h.1; have := h.2.1; omega) (fun e => by have := hr i e.symm; omega))
theorem CurAt.set {w : World} {g B k j : Nat} {v : Value} (h : CurAt B w g) (hk : B ≤ k) (hne : k ≠ g) : CurAt B (w.setCell ⟨k, j, none⟩ v) g :=
  h.kept (by simp) (fun i hi => heap_setCell_other w ⟨k, j, none⟩ i v (fun e => by simp at e; omega))
theorem gr_refl (w : World) (row : Option Nat) : w.grownBy w row := ⟨rfl, rfl, rfl, Nat.le_refl _, fun _ _ _ => rfl⟩
theorem gr_trans {a b c : World} {row : Option Nat} (h : a.grownBy b row) (k : b.grownBy c row) : a.grownBy c row :=
  ⟨k.os.trans h.os, k.tape.trans h.tape, k.output.trans h.output, Nat.le_trans h.size k.size, fun i hi hne => (k.block i (Nat.lt_of_lt_of_le hi h.size) hne).trans (h.block i hi hne)⟩
theorem gr_set {a w : World} {g : Nat} (h : a.grownBy w (some g)) (j : Nat) (v : Value) : a.grownBy (w.setCell ⟨g, j, none⟩ v) (some g) := by
  refine ⟨h.os, h.tape, h.output, by simpa using h.size, fun i hi hne => ?_⟩
  rw [heap_setCell_other w ⟨g, j, none⟩ i v (fun e => hne (by simp [e]))]
  exact h.block i hi hne
theorem gr_drewN {a w : World} {row : Option Nat} (h : a.grownBy w row) (k : Nat) : a.grownBy (w.drewN k) row := ⟨h.os, h.tape, h.output, h.size, h.block⟩
theorem gr_drew {a w : World} {row : Option Nat} (h : a.grownBy w row) : a.grownBy w.drew row := ⟨h.os, h.tape, h.output, h.size, h.block⟩
theorem gr_below {a w w' : World} {row : Option Nat} (h : a.grownBy w row) (hb : Below w.heap.size w w') : a.grownBy w' row :=
  ⟨hb.os.trans h.os, hb.tape.trans h.tape, hb.output.trans h.output, Nat.le_trans h.size hb.size, fun i hi hne => (hb.block i (Nat.lt_of_lt_of_le hi h.size)).trans (h.block i hi hne)⟩
theorem gr_alloc {a w : World} {row : Option Nat} (h : a.grownBy w row) (o : Obj) : a.grownBy (w.alloc o) row := gr_below h (below_one _ _)
/-- what a draw keeps, behind what was made since -/
theorem below_gr {V w w' : World} {g B : Nat} (h : Below B V w) (hB : B ≤ w.heap.size) (hg : w.grownBy w' (some g)) (hlt : B ≤ g) : Below B V w' :=
  h.grown hg hB (fun k hk => by injection hk with hk; omega)

theorem and255 (a : Int) : 0 ≤ bits .and .i64 a 255 ∧ bits .and .i64 a 255 ≤ 255 := by
  have e : bits .and .i64 a 255 = IntKind.i64.wrap (((BitVec.ofInt 64 a) &&& (BitVec.ofInt 64 255)).toNat : Int) := rfl
  have h : ((BitVec.ofInt 64 a) &&& (BitVec.ofInt 64 255)).toNat ≤ 255 := by
    rw [BitVec.toNat_and]; exact Nat.le_trans Nat.and_le_right (by decide)
  rw [e, wrapNat _ (by omega)]
  omega

theorem gr_far {w w' : World} {g b o : Nat} (h : w.grownBy w' (some g)) (hb : b < w.heap.size) (hne : b ≠ g) : w'.cell? ⟨b, o, none⟩ = w.cell? ⟨b, o, none⟩ :=
  World.cell?_of_block (h.block b hb (by simpa using hne))
theorem CurAt.set2 {w : World} {g B : Nat} (hc : CurAt B w g) (x : Int) : CurAt B (w.setCell ⟨g, 2, none⟩ (.int .i64 x)) g := by
  obtain ⟨hg, hBg, ⟨A, n, cap, i, h, c0, c1, c2, hi, hn, hB⟩, f0, f1, f2⟩ := hc
  refine ⟨by simpa using hg, hBg, ⟨A, n, cap, i, x, ?_, ?_, World.cell?_setCell_same _ _ _ c2, hi, hn, hB.kept (fun i hi => heap_setCell_other w _ i _ (fun e => by simp at e; omega))⟩, ?_, ?_, ?_⟩
  · rw [World.cell?_setCell_other _ _ _ _ (by simp)]; exact c0
  · rw [World.cell?_setCell_other _ _ _ _ (by simp)]; exact c1
  · simpa using f0
  · simpa using f1
  · simpa using f2
theorem CurAt.set1 {w : World} {g B : Nat} (hc : CurAt B w g) (x : Int) (hx : 0 ≤ x) : CurAt B (w.setCell ⟨g, 1, none⟩ (.int .i64 x)) g := by
  obtain ⟨hg, hBg, ⟨A, n, cap, i, h, c0, c1, c2, hi, hn, hB⟩, f0, f1, f2⟩ := hc
  refine ⟨by simpa using hg, hBg, ⟨A, n, cap, x, h, ?_, World.cell?_setCell_same _ _ _ c1, ?_, hx, hn, hB.kept (fun i hi => heap_setCell_other w _ i _ (fun e => by simp at e; omega))⟩, ?_, ?_, ?_⟩
  · rw [World.cell?_setCell_other _ _ _ _ (by simp)]; exact c0
  · rw [World.cell?_setCell_other _ _ _ _ (by simp)]; exact c2
  · simpa using f0
  · simpa using f1
  · simpa using f2
theorem curAt_new {w : World} {A : Option Addr} {n cap : Nat} {h : Int} {ty : TypeId} (hB : Bytes w A n) (hn : n ≤ 4294967296) : CurAt w.heap.size (w.alloc (.cells #[.slice A n cap, .int .i64 0, .int .i64 h] ty)) w.heap.size := by
  refine ⟨by simp, Nat.le_refl _, ⟨A, n, cap, 0, h, by simp, by simp, by simp, Int.le_refl _, hn, hB.apart.kept (fun i hi => (below_one w _).block i hi)⟩, by simp, by simp, by simp⟩
theorem CurAt.drewN {w : World} {g B : Nat} (hc : CurAt B w g) (k : Nat) : CurAt B (w.drewN k) g := hc
set_option maxHeartbeats 1000000 in
theorem spec_l01Byte (g B : Nat) (w : World) (hc : CurAt B w g) :
    Calls Try.prog 135 #[.pointer (some ⟨g, 0, none⟩)] w fun e w' => ∃ x : Int, e = .returned (.int .i64 x) ∧ 0 ≤ x ∧ x ≤ 255 ∧ CurAt B w' g ∧ w.grownBy w' (some g) := by
  have hcc := hc
  obtain ⟨hg, hBg, ⟨A, n, cap, i, h, c0, c1, c2, hi, hn, hB⟩, f0, f1, f2⟩ := hcc
  have hc := Lib.hid hc
  by_cases hlt : i < n
  · obtain ⟨b, off, z, rfl, cz, z0, z1, hbB⟩ := hB i.toNat (by omega)
    have hne2 : g ≠ b := fun e => by omega
    have hne : b ≠ g := fun e => by omega
    have hbz : b < w.heap.size := by omega
    have HB := Lib.hid hB
    clear hB
    go_enter Try.func135, Try.ntmps135
    go_wp2_with fail
    go_quiet (fail)
    go_wp2_with fail
    go_quiet (fail)
    go_wp2_with fail
    go_quiet (fail)
    go_wp2_with fail
    go_ret
    exact ⟨_, rfl, (and255 _).1, (and255 _).2, ((hc.out.set2 _).drewN _).set1 _ (by omega), gr_set (gr_drewN (gr_set (gr_refl _ _) _ _) _) _ _⟩
  · go_enter Try.func135, Try.ntmps135
    go_wp2_with fail
    go_quiet (fail)
    go_wp2_with fail
    go_quiet (fail)
    go_wp2_with fail
    go_ret
    exact ⟨_, rfl, (and255 _).1, (and255 _).2, hc.out.set2 _, gr_drewN (gr_drewN (gr_set (gr_refl _ _) _ _) _) _⟩
set_option maxHeartbeats 1000000 in
theorem spec_l01New (A : Option Addr) (n cap : Nat) (w : World) (hc : Bytes w A n) (hn : n ≤ 4294967296) :
    Calls Try.prog 71 #[.slice A n cap] w fun e w' => ∃ g, e = .returned (.pointer (some ⟨g, 0, none⟩)) ∧ w.heap.size ≤ g ∧ CurAt w.heap.size w' g ∧ Below w.heap.size w w' := by
  go_enter Try.func71, Try.ntmps71
  go_wp2
  go_loop [3, 4] (fun h i => ∃ (k : Nat) (x : Int), k ≤ n ∧ i = .int .i64 k ∧ h = .int .i64 x) (fun _ i => n - (intOf i).toNat)
  case atStart => exact ⟨0, _, Nat.zero_le _, rfl, rfl⟩
  case round =>
    obtain ⟨k, x, hk, rfl, rfl⟩ := hrel
    by_cases hlt : k < n
    · obtain ⟨b, off, z, rfl, cz, z0, z1, hbz⟩ := hc k hlt
      have HC := Lib.hid hc
      clear hc
      by_cases h4 : (k : Int) < 4000
      · go_wp2
        go_round
        case rel => exact ⟨k + 1, _, by omega, by go_num, rfl⟩
        case measure => simp [intOf]; omega
      · go_wp2
        go_ret
        exact ⟨w.heap.size, rfl, Nat.le_refl _, curAt_new HC.out hn, below_one _ _⟩
    · obtain rfl : k = n := by omega
      go_wp2
      go_ret
      exact ⟨w.heap.size, rfl, Nat.le_refl _, curAt_new hc hn, below_one _ _⟩
set_option maxHeartbeats 1000000 in
theorem spec_l01Below (g B : Nat) (n : Int) (w : World) (hc : CurAt B w g) (n0 : 0 < n) (n1 : n ≤ 256) :
    Calls Try.prog 114 #[.pointer (some ⟨g, 0, none⟩), .int .i64 n] w fun e w' => ∃ x : Int, e = .returned (.int .i64 x) ∧ 0 ≤ x ∧ x < n ∧ CurAt B w' g ∧ w.grownBy w' (some g) := by
  go_enter Try.func114, Try.ntmps114
  go_wp2_with fail
  refine (spec_l01Byte g B _ hc).mono ?_
  rintro e w1 ⟨x, rfl, x0, x1, hc1, hg1⟩
  go_wp2
  go_ret
  exact ⟨_, rfl, Int.emod_nonneg _ (by omega), Int.emod_lt_of_pos _ n0, hc1, hg1⟩
set_option maxHeartbeats 1000000 in
theorem spec_l01Below_no (g : Nat) (n : Int) (w : World) (n0 : n ≤ 0) :
    Calls Try.prog 114 #[.pointer (some ⟨g, 0, none⟩), .int .i64 n] w fun e w' => e = .returned (.int .i64 0) ∧ w = w' := by
  go_enter Try.func114, Try.ntmps114
  go_wp2
  go_ret
  exact ⟨rfl, rfl⟩
set_option maxHeartbeats 1000000 in
theorem spec_l01Once (g B : Nat) (n : Int) (w : World) (hc : CurAt B w g) (n0 : 0 < n) (n1 : n ≤ 256) :
    Calls Try.prog 115 #[.pointer (some ⟨g, 0, none⟩), .int .i64 n] w fun e w' => ∃ x : Bool, e = .returned (.bool x) ∧ CurAt B w' g ∧ w.grownBy w' (some g) := by
  go_enter Try.func115, Try.ntmps115
  go_wp2_with fail
  refine (spec_l01Below g B _ _ hc n0 n1).mono ?_
  rintro e w1 ⟨x, rfl, x0, x1, hc1, hg1⟩
  go_wp2
  go_ret
  exact ⟨_, rfl, hc1, hg1⟩
set_option maxHeartbeats 1000000 in
theorem laws_big (A : Option Addr) (n cap : Nat) (w : World) (hn : n ≤ 9223372036854775807) :
    Calls Try.prog 10 #[.slice A n cap] w fun e w' => e = .returned (.bool (decide (1048576 < n))) ∧ w = w' := by
  go_enter Try.func10, Try.ntmps10
  go_wp2
  go_ret
  exact ⟨ret_bool (by simp only [decide_eq_decide]; omega), rfl⟩
set_option maxHeartbeats 1000000 in
theorem laws_at0 (A : Option Addr) (n cap : Nat) (w : World) (hB : Bytes w A n) (hn : n ≤ 4294967296) :
    Calls Try.prog 12 #[.slice A n cap, .int .i64 0] w fun e w' => ∃ x : Int, e = .returned (.int .i64 x) ∧ 0 ≤ x ∧ x ≤ 255 ∧ w = w' := by
  by_cases h0 : n = 0
  · subst h0
    go_enter Try.func12, Try.ntmps12
    go_wp2
    go_ret
    exact ⟨0, rfl, by omega, by omega, rfl⟩
  · have hp : 0 < n := by omega
    have h1 : 1 % n < n := Nat.mod_lt _ hp
    obtain ⟨b, off, z, rfl, hc, z0, z1, hz⟩ := hB (1 % n) h1
    have e0 : (1 : Int) % (n : Int) = ((1 % n : Nat) : Int) := rfl
    have e1 : ((1 : Int) % (n : Int)).toNat = 1 % n := by rw [e0, Int.toNat_natCast]
    have e2 : (1 : Int) % (n : Int) < n := by rw [e0]; exact Int.ofNat_lt.2 h1
    have e3 : (0 : Int) ≤ (1 : Int) % (n : Int) := by rw [e0]; exact Int.natCast_nonneg _
    clear e0
    have HB := Lib.hid hB
    clear hB
    go_enter Try.func12, Try.ntmps12
    go_wp2
    go_ret
    exact ⟨z, rfl, z0, z1, rfl⟩
end Go.Proofs.Ytianfakgojmnpaa
