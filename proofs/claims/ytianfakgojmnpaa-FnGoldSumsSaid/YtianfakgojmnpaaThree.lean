/- A region that draws: three calls in a row, three new blocks at any time, three stores in a row. -/
import Derived.Test.YtianfakgojmnpaaSlice
import Derived.OrdersHeld
namespace Go.Proofs.Ytianfakgojmnpaa
open Go Go.RowKit

/-- the frame, but for six slots -/
def canon (a : Act) (y1 y2 y3 x1 x2 x3 : Value) : Act :=
  { a with tmps := (((((a.tmps.setIfInBounds 25 y1).setIfInBounds 30 y2).setIfInBounds 35 y3).setIfInBounds 7 x1).setIfInBounds 8 x2).setIfInBounds 9 x3 }
theorem set_same (t : Array Value) (i : Nat) : t.setIfInBounds i (t.getD i undef) = t := by
  apply Array.ext
  · simp
  · intro j h1 h2
    rw [Array.getElem_setIfInBounds (by simpa using h1)]
    split
    · rename_i h; subst h; simp [Array.getD, h2]
    · rfl
theorem canon_start (a : Act) : ∃ y1 y2 y3 x1 x2 x3, a = canon a y1 y2 y3 x1 x2 x3 := by
  refine ⟨a.tmps.getD 25 undef, a.tmps.getD 30 undef, a.tmps.getD 35 undef, a.tmps.getD 7 undef, a.tmps.getD 8 undef, a.tmps.getD 9 undef, ?_⟩
  unfold canon
  simp only [set_same]
def mkL (b1 b2 b3 c1 c2 c3 s1 s2 s3 : Bool) : Array Bool := #[true, true, true, true, b1, true, true, true, true, b2, true, true, true, true, b3, c1, c2, c3, s1, s2, s3]
def two (f : Bool → Bool) : Bool := f false && f true
theorem of_two {f : Bool → Bool} (h : two f = true) (b : Bool) : f b = true := by
  simp only [two, Bool.and_eq_true] at h
  cases b
  · exact h.1
  · exact h.2
def okR (b1 b2 b3 c1 c2 c3 s1 s2 s3 : Bool) (i : Nat) : Bool :=
  (i == 4 && !b1) || (i == 9 && b1 && !b2) || (i == 14 && b2 && !b3) || (i == 15 && !c1) || (i == 16 && !c2) || (i == 17 && !c3) || (i == 18 && c1 && b1 && !s1) || (i == 19 && c2 && b2 && !s2) || (i == 20 && c3 && b3 && !s3)
def chkR (md : Region.Mode) (ops : Array Oper) : Bool :=
  two fun b1 => two fun b2 => two fun b3 => two fun c1 => two fun c2 => two fun c3 => two fun s1 => two fun s2 => two fun s3 =>
    (Region.ready md ops (mkL b1 b2 b3 c1 c2 c3 s1 s2 s3)).all (okR b1 b2 b3 c1 c2 c3 s1 s2 s3) && (!(Region.ready md ops (mkL b1 b2 b3 c1 c2 c3 s1 s2 s3)).isEmpty || (b1 && b2 && b3 && c1 && c2 && c3 && s1 && s2 && s3))
def left (b1 b2 b3 c1 c2 c3 s1 s2 s3 : Bool) : Nat := (!b1).toNat + (!b2).toNat + (!b3).toNat + (!c1).toNat + (!c2).toNat + (!c3).toNat + (!s1).toNat + (!s2).toNat + (!s3).toNat

/-- a block of two cells made since V; s: the two numbers are stored -/
def CellsAt (V : World) (x : Value) (s : Bool) (p q : Int) (w : World) : Prop :=
  ∃ g, x = .pointer (some ⟨g, 0, none⟩) ∧ V.heap.size ≤ g ∧ g < w.heap.size ∧ w.frozen? ⟨g, 0, none⟩ = false ∧ w.frozen? ⟨g, 1, none⟩ = false ∧
    ∃ u0 u1, w.cell? ⟨g, 0, none⟩ = some u0 ∧ w.cell? ⟨g, 1, none⟩ = some u1 ∧ (s = true → u0 = .int .i64 p ∧ u1 = .int .i64 q)
theorem CellsAt.below {V w w' : World} {x : Value} {s : Bool} {p q : Int} (h : CellsAt V x s p q w) (hb : Below w.heap.size w w') : CellsAt V x s p q w' := by
  obtain ⟨g, e, h1, h2, f0, f1, u0, u1, c0, c1, hs⟩ := h
  exact ⟨g, e, h1, Nat.lt_of_lt_of_le h2 hb.size, (hb.frozen (p := ⟨g, 0, none⟩) h2).trans f0, (hb.frozen (p := ⟨g, 1, none⟩) h2).trans f1, u0, u1, bel_cell hb h2 c0, bel_cell hb h2 c1, hs⟩
theorem CellsAt.set {V w : World} {x : Value} {s : Bool} {p q : Int} {g : Nat} {a b : Value} (h : CellsAt V x s p q w) (hne : x ≠ .pointer (some ⟨g, 0, none⟩)) :
    CellsAt V x s p q ((w.setCell ⟨g, 0, none⟩ a).setCell ⟨g, 1, none⟩ b) := by
  obtain ⟨k, e, h1, h2, f0, f1, u0, u1, c0, c1, hs⟩ := h
  have hk : k ≠ g := fun e2 => hne (by rw [e, e2])
  refine ⟨k, e, h1, by simpa using h2, by simpa using f0, by simpa using f1, u0, u1, ?_, ?_, hs⟩
  · rw [World.cell?_setCell_other _ _ _ _ (by simp [hk]), World.cell?_setCell_other _ _ _ _ (by simp [hk])]; exact c0
  · rw [World.cell?_setCell_other _ _ _ _ (by simp [hk]), World.cell?_setCell_other _ _ _ _ (by simp [hk])]; exact c1
theorem CellsAt.stored {V w : World} {p q : Int} {g : Nat} (h : CellsAt V (.pointer (some ⟨g, 0, none⟩)) false p q w) :
    CellsAt V (.pointer (some ⟨g, 0, none⟩)) true p q ((w.setCell ⟨g, 0, none⟩ (.int .i64 p)).setCell ⟨g, 1, none⟩ (.int .i64 q)) := by
  obtain ⟨k, e, h1, h2, f0, f1, u0, u1, c0, c1, hs⟩ := h
  injection e with e; injection e with e; injection e with e; subst e
  refine ⟨g, rfl, h1, by simpa using h2, by simpa using f0, by simpa using f1, .int .i64 p, .int .i64 q, ?_, ?_, fun _ => ⟨rfl, rfl⟩⟩
  · rw [World.cell?_setCell_other _ _ _ _ (by simp)]; exact World.cell?_setCell_same _ _ _ c0
  · exact World.cell?_setCell_same _ _ _ ((World.cell?_setCell_other _ _ _ _ (by simp)).trans c1)
theorem CellsAt.weak {V w : World} {x : Value} {s : Bool} {p q : Int} (h : CellsAt V x s p q w) : CellsAt V x false p q w := by
  obtain ⟨g, e, h1, h2, f0, f1, u0, u1, c0, c1, _⟩ := h
  exact ⟨g, e, h1, h2, f0, f1, u0, u1, c0, c1, fun h => by cases h⟩

theorem wpAnyH_inv {P : Program} {md : Region.Mode} {ops : Array Oper} {Q : Exit → Act → World → Prop} {S : World → Prop} (Inv : Nat → Array Bool → Act → World → Prop)
    (step : ∀ n L a w, Inv n L a w → ∀ i, i ∈ Region.ready md ops L → ∃ m, n = m + 1 ∧ wpOp P ops Q i (fun a' w' => S w' ∧ Inv m (L.setIfInBounds i true) a' w') a w)
    (done : ∀ n L a w, Inv n L a w → Region.ready md ops L = [] → Q .normal a w) (mono : ∀ i K K' a w, (∀ a w, K a w → K' a w) → wpOp P ops Q i K a w → wpOp P ops Q i K' a w) :
    ∀ fuel n L a w, n ≤ fuel → Inv n L a w → wpAnyH P md ops Q S fuel L a w := by
  intro fuel
  induction fuel with
  | zero =>
    intro n L a w hn h
    have hr : Region.ready md ops L = [] := by
      cases e : Region.ready md ops L with
      | nil => rfl
      | cons i r =>
        obtain ⟨m, hm, _⟩ := step n L a w h i (by rw [e]; simp)
        omega
    exact ⟨hr, done n L a w h hr⟩
  | succ f ih =>
    intro n L a w hn h
    refine ⟨fun hr => done n L a w h hr, fun i hi => ?_⟩
    obtain ⟨m, hm, hw⟩ := step n L a w h i hi
    exact mono i _ _ a w (fun a' w' ⟨hs, hI⟩ => ⟨hs, ih m _ a' w' (by omega) hI⟩) hw

def A2 (p q : Int) : Value := .agg #[.int .i64 p, .int .i64 q]
def Inv3 (a0 : Act) (V : World) (p1 q1 p2 q2 p3 q3 : Int) (n : Nat) (L : Array Bool) (a : Act) (w : World) : Prop :=
  ∃ b1 b2 b3 c1 c2 c3 s1 s2 s3 : Bool, L = mkL b1 b2 b3 c1 c2 c3 s1 s2 s3 ∧ n = left b1 b2 b3 c1 c2 c3 s1 s2 s3 ∧ ∃ y1 y2 y3 x1 x2 x3 : Value, a = canon a0 y1 y2 y3 x1 x2 x3 ∧ Below V.heap.size V w ∧
    (b1 = true → y1 = (A2 p1 q1)) ∧ (b2 = true → y2 = (A2 p2 q2)) ∧ (b3 = true → y3 = (A2 p3 q3)) ∧
    (c1 = true → CellsAt V x1 s1 p1 q1 w) ∧ (c2 = true → CellsAt V x2 s2 p2 q2 w) ∧ (c3 = true → CellsAt V x3 s3 p3 q3 w) ∧
    (s1 = true → c1 = true) ∧ (s2 = true → c2 = true) ∧ (s3 = true → c3 = true) ∧
    (c1 = true → c2 = true → x1 ≠ x2) ∧ (c1 = true → c3 = true → x1 ≠ x3) ∧ (c2 = true → c3 = true → x2 ≠ x3)
theorem left_lt {n : Nat} {b : Bool} : b = false → n + (!b).toNat = n + 1 := by rintro rfl; rfl
set_option maxHeartbeats 1000000 in
theorem region_three {P : Program} {l : List Oper} {md : Region.Mode} {Q : Exit → Act → World → Prop} {S : World → Prop} {a0 : Act} (V : World) (ty : TypeId) (p1 q1 p2 q2 p3 q3 : Int) {L : Array Bool}
    (hL : L = mkL false false false false false false false false false) (hchk : chkR md l.toArray = true) (hS : ∀ w, Below V.heap.size V w → S w)
    (hc1 : ∀ (y1 y2 y3 x1 x2 x3 : Value) (w : World) (K : Act → World → Prop), Below V.heap.size V w → (∀ w', Below w.heap.size w w' → K (canon a0 (A2 p1 q1) y2 y3 x1 x2 x3) w') → wpOp P l.toArray Q 4 K (canon a0 y1 y2 y3 x1 x2 x3) w)
    (hc2 : ∀ (y1 y2 y3 x1 x2 x3 : Value) (w : World) (K : Act → World → Prop), Below V.heap.size V w → (∀ w', Below w.heap.size w w' → K (canon a0 y1 (A2 p2 q2) y3 x1 x2 x3) w') → wpOp P l.toArray Q 9 K (canon a0 y1 y2 y3 x1 x2 x3) w)
    (hc3 : ∀ (y1 y2 y3 x1 x2 x3 : Value) (w : World) (K : Act → World → Prop), Below V.heap.size V w → (∀ w', Below w.heap.size w w' → K (canon a0 y1 y2 (A2 p3 q3) x1 x2 x3) w') → wpOp P l.toArray Q 14 K (canon a0 y1 y2 y3 x1 x2 x3) w)
    (ha1 : ∀ (y1 y2 y3 x1 x2 x3 : Value) (w : World) (K : Act → World → Prop), Below V.heap.size V w → K (canon a0 y1 y2 y3 (.pointer (some ⟨w.heap.size, 0, none⟩)) x2 x3) (w.alloc (.cells #[.int .i64 0, .int .i64 0] ty)) → wpOp P l.toArray Q 15 K (canon a0 y1 y2 y3 x1 x2 x3) w)
    (ha2 : ∀ (y1 y2 y3 x1 x2 x3 : Value) (w : World) (K : Act → World → Prop), Below V.heap.size V w → K (canon a0 y1 y2 y3 x1 (.pointer (some ⟨w.heap.size, 0, none⟩)) x3) (w.alloc (.cells #[.int .i64 0, .int .i64 0] ty)) → wpOp P l.toArray Q 16 K (canon a0 y1 y2 y3 x1 x2 x3) w)
    (ha3 : ∀ (y1 y2 y3 x1 x2 x3 : Value) (w : World) (K : Act → World → Prop), Below V.heap.size V w → K (canon a0 y1 y2 y3 x1 x2 (.pointer (some ⟨w.heap.size, 0, none⟩))) (w.alloc (.cells #[.int .i64 0, .int .i64 0] ty)) → wpOp P l.toArray Q 17 K (canon a0 y1 y2 y3 x1 x2 x3) w)
    (hs1 : ∀ (y2 y3 x2 x3 : Value) (g : Nat) (w : World) (K : Act → World → Prop) (u0 u1 : Value), Below V.heap.size V w → w.cell? ⟨g, 0, none⟩ = some u0 → w.cell? ⟨g, 1, none⟩ = some u1 → w.frozen? ⟨g, 0, none⟩ = false → w.frozen? ⟨g, 1, none⟩ = false → K (canon a0 (A2 p1 q1) y2 y3 (.pointer (some ⟨g, 0, none⟩)) x2 x3) ((w.setCell ⟨g, 0, none⟩ (.int .i64 p1)).setCell ⟨g, 1, none⟩ (.int .i64 q1)) → wpOp P l.toArray Q 18 K (canon a0 (A2 p1 q1) y2 y3 (.pointer (some ⟨g, 0, none⟩)) x2 x3) w)
    (hs2 : ∀ (y1 y3 x1 x3 : Value) (g : Nat) (w : World) (K : Act → World → Prop) (u0 u1 : Value), Below V.heap.size V w → w.cell? ⟨g, 0, none⟩ = some u0 → w.cell? ⟨g, 1, none⟩ = some u1 → w.frozen? ⟨g, 0, none⟩ = false → w.frozen? ⟨g, 1, none⟩ = false → K (canon a0 y1 (A2 p2 q2) y3 x1 (.pointer (some ⟨g, 0, none⟩)) x3) ((w.setCell ⟨g, 0, none⟩ (.int .i64 p2)).setCell ⟨g, 1, none⟩ (.int .i64 q2)) → wpOp P l.toArray Q 19 K (canon a0 y1 (A2 p2 q2) y3 x1 (.pointer (some ⟨g, 0, none⟩)) x3) w)
    (hs3 : ∀ (y1 y2 x1 x2 : Value) (g : Nat) (w : World) (K : Act → World → Prop) (u0 u1 : Value), Below V.heap.size V w → w.cell? ⟨g, 0, none⟩ = some u0 → w.cell? ⟨g, 1, none⟩ = some u1 → w.frozen? ⟨g, 0, none⟩ = false → w.frozen? ⟨g, 1, none⟩ = false → K (canon a0 y1 y2 (A2 p3 q3) x1 x2 (.pointer (some ⟨g, 0, none⟩))) ((w.setCell ⟨g, 0, none⟩ (.int .i64 p3)).setCell ⟨g, 1, none⟩ (.int .i64 q3)) → wpOp P l.toArray Q 20 K (canon a0 y1 y2 (A2 p3 q3) x1 x2 (.pointer (some ⟨g, 0, none⟩))) w)
    (hend : ∀ (g1 g2 g3 : Nat) (w : World), Below V.heap.size V w → w.cell? ⟨g1, 0, none⟩ = some (.int .i64 p1) → w.cell? ⟨g1, 1, none⟩ = some (.int .i64 q1) → w.cell? ⟨g2, 0, none⟩ = some (.int .i64 p2) → w.cell? ⟨g2, 1, none⟩ = some (.int .i64 q2) → w.cell? ⟨g3, 0, none⟩ = some (.int .i64 p3) → w.cell? ⟨g3, 1, none⟩ = some (.int .i64 q3) → Q .normal (canon a0 (A2 p1 q1) (A2 p2 q2) (A2 p3 q3) (.pointer (some ⟨g1, 0, none⟩)) (.pointer (some ⟨g2, 0, none⟩)) (.pointer (some ⟨g3, 0, none⟩))) w)
    (w : World) (hw : Below V.heap.size V w) : wpAnyH P md l.toArray Q S 9 L a0 w := by
  refine wpAnyH_inv (Inv3 a0 V p1 q1 p2 q2 p3 q3) ?_ ?_ (fun i K K' a w h hh => wpOp_mono h hh) 9 9 L a0 w (Nat.le_refl _) ?_
  · rintro n L a w ⟨b1, b2, b3, c1, c2, c3, s1, s2, s3, rfl, rfl, y1, y2, y3, x1, x2, x3, rfl, hV, hy1, hy2, hy3, hx1, hx2, hx3, hsc1, hsc2, hsc3, n12, n13, n23⟩ i hi
    have h := of_two (of_two (of_two (of_two (of_two (of_two (of_two (of_two (of_two hchk b1) b2) b3) c1) c2) c3) s1) s2) s3
    rw [Bool.and_eq_true] at h
    have h := List.all_eq_true.1 h.1 i hi
    simp only [okR, Bool.or_eq_true, Bool.and_eq_true, beq_iff_eq, Bool.not_eq_true'] at h
    clear hi hchk
    rcases h with (((((((⟨rfl, rfl⟩ | ⟨⟨rfl, rfl⟩, rfl⟩) | ⟨⟨rfl, rfl⟩, rfl⟩) | ⟨rfl, rfl⟩) | ⟨rfl, rfl⟩) | ⟨rfl, rfl⟩) | ⟨⟨⟨rfl, rfl⟩, rfl⟩, rfl⟩) | ⟨⟨⟨rfl, rfl⟩, rfl⟩, rfl⟩) | ⟨⟨⟨rfl, rfl⟩, rfl⟩, rfl⟩
    · refine ⟨left true b2 b3 c1 c2 c3 s1 s2 s3, by simp only [left, Bool.toNat_true, Bool.toNat_false, Bool.not_true, Bool.not_false] <;> omega, hc1 _ _ _ _ _ _ w _ hV fun w' hb => ?_⟩
      have hV2 := below_step hV hb
      refine ⟨hS _ hV2, true, b2, b3, c1, c2, c3, s1, s2, s3, rfl, rfl, (A2 p1 q1), y2, y3, x1, x2, x3, rfl, hV2, (fun _ => rfl), hy2, hy3, (fun h => (hx1 h).below hb), (fun h => (hx2 h).below hb), (fun h => (hx3 h).below hb), hsc1, hsc2, hsc3, n12, n13, n23⟩
    · refine ⟨left true true b3 c1 c2 c3 s1 s2 s3, by simp only [left, Bool.toNat_true, Bool.toNat_false, Bool.not_true, Bool.not_false] <;> omega, hc2 _ _ _ _ _ _ w _ hV fun w' hb => ?_⟩
      have hV2 := below_step hV hb
      refine ⟨hS _ hV2, true, true, b3, c1, c2, c3, s1, s2, s3, rfl, rfl, y1, (A2 p2 q2), y3, x1, x2, x3, rfl, hV2, hy1, (fun _ => rfl), hy3, (fun h => (hx1 h).below hb), (fun h => (hx2 h).below hb), (fun h => (hx3 h).below hb), hsc1, hsc2, hsc3, n12, n13, n23⟩
    · refine ⟨left b1 true true c1 c2 c3 s1 s2 s3, by simp only [left, Bool.toNat_true, Bool.toNat_false, Bool.not_true, Bool.not_false] <;> omega, hc3 _ _ _ _ _ _ w _ hV fun w' hb => ?_⟩
      have hV2 := below_step hV hb
      refine ⟨hS _ hV2, b1, true, true, c1, c2, c3, s1, s2, s3, rfl, rfl, y1, y2, (A2 p3 q3), x1, x2, x3, rfl, hV2, hy1, hy2, (fun _ => rfl), (fun h => (hx1 h).below hb), (fun h => (hx2 h).below hb), (fun h => (hx3 h).below hb), hsc1, hsc2, hsc3, n12, n13, n23⟩
    · have e : s1 = false := by cases s1 with | false => rfl | true => cases hsc1 rfl
      subst e
      refine ⟨left b1 b2 b3 true c2 c3 false s2 s3, by simp only [left, Bool.toNat_true, Bool.toNat_false, Bool.not_true, Bool.not_false] <;> omega, ha1 _ _ _ _ _ _ w _ hV ?_⟩
      have hV2 := below_alloc hV (.cells #[.int .i64 0, .int .i64 0] ty)
      have hb : Below w.heap.size w (w.alloc (.cells #[.int .i64 0, .int .i64 0] ty)) := below_one _ _
      have f2 : c2 = true → x2 ≠ (.pointer (some ⟨w.heap.size, 0, none⟩)) := fun h e => by obtain ⟨g, e2, _, h2, _⟩ := hx2 h; rw [e2] at e; injection e with e; injection e with e; injection e with e; omega
      have f3 : c3 = true → x3 ≠ (.pointer (some ⟨w.heap.size, 0, none⟩)) := fun h e => by obtain ⟨g, e2, _, h2, _⟩ := hx3 h; rw [e2] at e; injection e with e; injection e with e; injection e with e; omega
      refine ⟨hS _ hV2, b1, b2, b3, true, c2, c3, false, s2, s3, rfl, rfl, y1, y2, y3, (.pointer (some ⟨w.heap.size, 0, none⟩)), x2, x3, rfl, hV2, hy1, hy2, hy3, (fun _ => ⟨w.heap.size, rfl, hV.size, by simp, by simp, by simp, _, _, by simp <;> rfl, by simp <;> rfl, fun h => by cases h⟩), (fun h => (hx2 h).below hb), (fun h => (hx3 h).below hb), (fun _ => rfl), hsc2, hsc3, (fun _ h e => f2 h e.symm), (fun _ h e => f3 h e.symm), n23⟩
    · have e : s2 = false := by cases s2 with | false => rfl | true => cases hsc2 rfl
      subst e
      refine ⟨left b1 b2 b3 c1 true c3 s1 false s3, by simp only [left, Bool.toNat_true, Bool.toNat_false, Bool.not_true, Bool.not_false] <;> omega, ha2 _ _ _ _ _ _ w _ hV ?_⟩
      have hV2 := below_alloc hV (.cells #[.int .i64 0, .int .i64 0] ty)
      have hb : Below w.heap.size w (w.alloc (.cells #[.int .i64 0, .int .i64 0] ty)) := below_one _ _
      have f1 : c1 = true → x1 ≠ (.pointer (some ⟨w.heap.size, 0, none⟩)) := fun h e => by obtain ⟨g, e2, _, h2, _⟩ := hx1 h; rw [e2] at e; injection e with e; injection e with e; injection e with e; omega
      have f3 : c3 = true → x3 ≠ (.pointer (some ⟨w.heap.size, 0, none⟩)) := fun h e => by obtain ⟨g, e2, _, h2, _⟩ := hx3 h; rw [e2] at e; injection e with e; injection e with e; injection e with e; omega
      refine ⟨hS _ hV2, b1, b2, b3, c1, true, c3, s1, false, s3, rfl, rfl, y1, y2, y3, x1, (.pointer (some ⟨w.heap.size, 0, none⟩)), x3, rfl, hV2, hy1, hy2, hy3, (fun h => (hx1 h).below hb), (fun _ => ⟨w.heap.size, rfl, hV.size, by simp, by simp, by simp, _, _, by simp <;> rfl, by simp <;> rfl, fun h => by cases h⟩), (fun h => (hx3 h).below hb), hsc1, (fun _ => rfl), hsc3, (fun h _ => f1 h), n13, (fun _ h e => f3 h e.symm)⟩
    · have e : s3 = false := by cases s3 with | false => rfl | true => cases hsc3 rfl
      subst e
      refine ⟨left b1 b2 b3 c1 c2 true s1 s2 false, by simp only [left, Bool.toNat_true, Bool.toNat_false, Bool.not_true, Bool.not_false] <;> omega, ha3 _ _ _ _ _ _ w _ hV ?_⟩
      have hV2 := below_alloc hV (.cells #[.int .i64 0, .int .i64 0] ty)
      have hb : Below w.heap.size w (w.alloc (.cells #[.int .i64 0, .int .i64 0] ty)) := below_one _ _
      have f1 : c1 = true → x1 ≠ (.pointer (some ⟨w.heap.size, 0, none⟩)) := fun h e => by obtain ⟨g, e2, _, h2, _⟩ := hx1 h; rw [e2] at e; injection e with e; injection e with e; injection e with e; omega
      have f2 : c2 = true → x2 ≠ (.pointer (some ⟨w.heap.size, 0, none⟩)) := fun h e => by obtain ⟨g, e2, _, h2, _⟩ := hx2 h; rw [e2] at e; injection e with e; injection e with e; injection e with e; omega
      refine ⟨hS _ hV2, b1, b2, b3, c1, c2, true, s1, s2, false, rfl, rfl, y1, y2, y3, x1, x2, (.pointer (some ⟨w.heap.size, 0, none⟩)), rfl, hV2, hy1, hy2, hy3, (fun h => (hx1 h).below hb), (fun h => (hx2 h).below hb), (fun _ => ⟨w.heap.size, rfl, hV.size, by simp, by simp, by simp, _, _, by simp <;> rfl, by simp <;> rfl, fun h => by cases h⟩), hsc1, hsc2, (fun _ => rfl), n12, (fun h _ => f1 h), (fun h _ => f2 h)⟩
    · obtain rfl := hy1 rfl
      have hx := hx1 rfl
      have hxx := hx
      obtain ⟨g, rfl, g1, g2, f0, f1, u0, u1, c0, d0, _⟩ := hxx
      refine ⟨left true b2 b3 true c2 c3 true s2 s3, by simp only [left, Bool.toNat_true, Bool.toNat_false, Bool.not_true, Bool.not_false] <;> omega, hs1 _ _ _ _ g w _ u0 u1 hV c0 d0 f0 f1 ?_⟩
      have hV2 : Below V.heap.size V ((w.setCell ⟨g, 0, none⟩ (.int .i64 p1)).setCell ⟨g, 1, none⟩ (.int .i64 q1)) := (hV.setCell g1 _).setCell g1 _
      refine ⟨hS _ hV2, true, b2, b3, true, c2, c3, true, s2, s3, rfl, rfl, _, y2, y3, _, x2, x3, rfl, hV2, (fun _ => rfl), hy2, hy3, (fun _ => hx.stored), (fun h => (hx2 h).set (fun e => n12 rfl h e.symm)), (fun h => (hx3 h).set (fun e => n13 rfl h e.symm)), (fun _ => rfl), hsc2, hsc3, n12, n13, n23⟩
    · obtain rfl := hy2 rfl
      have hx := hx2 rfl
      have hxx := hx
      obtain ⟨g, rfl, g1, g2, f0, f1, u0, u1, c0, d0, _⟩ := hxx
      refine ⟨left b1 true b3 c1 true c3 s1 true s3, by simp only [left, Bool.toNat_true, Bool.toNat_false, Bool.not_true, Bool.not_false] <;> omega, hs2 _ _ _ _ g w _ u0 u1 hV c0 d0 f0 f1 ?_⟩
      have hV2 : Below V.heap.size V ((w.setCell ⟨g, 0, none⟩ (.int .i64 p2)).setCell ⟨g, 1, none⟩ (.int .i64 q2)) := (hV.setCell g1 _).setCell g1 _
      refine ⟨hS _ hV2, b1, true, b3, c1, true, c3, s1, true, s3, rfl, rfl, y1, _, y3, x1, _, x3, rfl, hV2, hy1, (fun _ => rfl), hy3, (fun h => (hx1 h).set (fun e => n12 h rfl e)), (fun _ => hx.stored), (fun h => (hx3 h).set (fun e => n23 rfl h e.symm)), hsc1, (fun _ => rfl), hsc3, n12, n13, n23⟩
    · obtain rfl := hy3 rfl
      have hx := hx3 rfl
      have hxx := hx
      obtain ⟨g, rfl, g1, g2, f0, f1, u0, u1, c0, d0, _⟩ := hxx
      refine ⟨left b1 b2 true c1 c2 true s1 s2 true, by simp only [left, Bool.toNat_true, Bool.toNat_false, Bool.not_true, Bool.not_false] <;> omega, hs3 _ _ _ _ g w _ u0 u1 hV c0 d0 f0 f1 ?_⟩
      have hV2 : Below V.heap.size V ((w.setCell ⟨g, 0, none⟩ (.int .i64 p3)).setCell ⟨g, 1, none⟩ (.int .i64 q3)) := (hV.setCell g1 _).setCell g1 _
      refine ⟨hS _ hV2, b1, b2, true, c1, c2, true, s1, s2, true, rfl, rfl, y1, y2, _, x1, x2, _, rfl, hV2, hy1, hy2, (fun _ => rfl), (fun h => (hx1 h).set (fun e => n13 h rfl e)), (fun h => (hx2 h).set (fun e => n23 h rfl e)), (fun _ => hx.stored), hsc1, hsc2, (fun _ => rfl), n12, n13, n23⟩
  · rintro n L a w ⟨b1, b2, b3, c1, c2, c3, s1, s2, s3, rfl, rfl, y1, y2, y3, x1, x2, x3, rfl, hV, hy1, hy2, hy3, hx1, hx2, hx3, hsc1, hsc2, hsc3, n12, n13, n23⟩ hr
    have h := of_two (of_two (of_two (of_two (of_two (of_two (of_two (of_two (of_two hchk b1) b2) b3) c1) c2) c3) s1) s2) s3
    simp only [hr, List.isEmpty_nil, Bool.not_true, Bool.false_or, List.all_nil, Bool.true_and, Bool.and_eq_true] at h
    obtain ⟨⟨⟨⟨⟨⟨⟨⟨rfl, rfl⟩, rfl⟩, rfl⟩, rfl⟩, rfl⟩, rfl⟩, rfl⟩, rfl⟩ := h
    obtain rfl := hy1 rfl
    obtain rfl := hy2 rfl
    obtain rfl := hy3 rfl
    obtain ⟨g1, rfl, _, _, _, _, u0, u1, c0, c1, hs1⟩ := hx1 rfl
    obtain ⟨g2, rfl, _, _, _, _, v0, v1, d0, d1, hs2⟩ := hx2 rfl
    obtain ⟨g3, rfl, _, _, _, _, t0, t1, e0, e1, hs3⟩ := hx3 rfl
    obtain ⟨rfl, rfl⟩ := hs1 rfl
    obtain ⟨rfl, rfl⟩ := hs2 rfl
    obtain ⟨rfl, rfl⟩ := hs3 rfl
    exact hend g1 g2 g3 w hV c0 c1 d0 d1 e0 e1
  · obtain ⟨y1, y2, y3, x1, x2, x3, e⟩ := canon_start a0
    refine ⟨false, false, false, false, false, false, false, false, false, hL, rfl, y1, y2, y3, x1, x2, x3, e, hw, ?_⟩
    refine ⟨?_, ?_, ?_, ?_, ?_, ?_, ?_, ?_, ?_, ?_, ?_, ?_⟩ <;> (intro h; cases h)
end Go.Proofs.Ytianfakgojmnpaa
