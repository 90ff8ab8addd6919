/- Weights: mathematics. -/
import Derived.Test.YtianfakgojmnpaaSlice
namespace Go.Proofs.Ytianfakgojmnpaa
open Go.RowKit

def okW (ws : List Int) : Bool := ws.all fun z => inB z (-1000) 1000
def weightsOk (W H X : Int) (ws : List Int) : Bool := boardOk W H X && ((ws.length : Int) == W * H) && okW ws

theorem okW_get {ws : List Int} (h : okW ws = true) {k : Nat} {z : Int} (hz : ws[k]? = some z) : -1000 ≤ z ∧ z ≤ 1000 := by
  have := (List.all_eq_true.1 h) z (List.mem_of_getElem? hz)
  exact inB_iff.1 this
theorem okW_all {ws : List Int} (h : ∀ j, j < ws.length → ∀ z, ws[j]? = some z → inB z (-1000) 1000 = true) : okW ws = true := by
  unfold okW
  rw [List.all_eq_true]
  intro z hz
  obtain ⟨j, hj⟩ := List.mem_iff_getElem?.1 hz
  exact h j (List.getElem?_eq_some_iff.1 hj).1 z hj
theorem okW_not {ws : List Int} {k : Nat} {z : Int} (hz : ws[k]? = some z) (h : inB z (-1000) 1000 = false) : okW ws = false := by
  cases e : okW ws
  · rfl
  · have := (List.all_eq_true.1 e) z (List.mem_of_getElem? hz)
    rw [h] at this; cases this

/-- a list over the grid -/
def grid (n : Nat) (f : Nat → Int) : List Int := (List.range n).map f
theorem grid_succ (n : Nat) (f : Nat → Int) : grid (n + 1) f = grid n f ++ [f n] := by simp [grid, List.range_succ]
theorem grid_len (n : Nat) (f : Nat → Int) : (grid n f).length = n := by simp [grid]
theorem grid_get {n : Nat} {f : Nat → Int} {k : Nat} (h : k < n) : (grid n f)[k]? = some (f k) := by simp [grid, h]

def classAt (W r : Int) (k : Nat) : Int := if ((k : Int) % W + (k : Int) / W) % 3 = r then 0 else 1
def classW (W H X r : Int) : List Int := if boardOk W H X = true ∧ inB r 0 2 = true then grid (W * H).toNat (classAt W r) else []

/-- Fibonacci's numbers, as they are reckoned -/
def fibs : Nat → Int × Int
  | 0 => (0, 1)
  | n + 1 => ((fibs n).2, (fibs n).1 + (fibs n).2)
def fib (n : Int) : Int := (fibs n.toNat).1
theorem fibs_small : ∀ n, n ≤ 8 → 0 ≤ (fibs n).1 ∧ (fibs n).1 ≤ 100 ∧ 0 ≤ (fibs n).2 ∧ (fibs n).2 ≤ 100 := by
  intro n h
  have : n ∈ List.range 9 := by simp; omega
  revert this n
  decide

def colAt (W a : Int) (k : Nat) : Int := fib (7 - absI ((k : Int) % W - a))
def rowAt (W a : Int) (k : Nat) : Int := fib (7 - absI ((k : Int) / W - a))
def colW (W H X a : Int) : List Int := if boardOk W H X = true ∧ inB a 0 6 = true then grid (W * H).toNat (colAt W a) else []
def rowW (W H X a : Int) : List Int := if boardOk W H X = true ∧ inB a 0 6 = true then grid (W * H).toNat (rowAt W a) else []

/-- the numbers of the bits below k -/
def bitsTo (n k : Nat) : List Nat := (List.range k).filter fun j => n.testBit j
theorem bitsTo_yes {n k : Nat} (h : n.testBit k = true) : bitsTo n (k + 1) = bitsTo n k ++ [k] := by simp [bitsTo, List.range_succ, h]
theorem bitsTo_no {n k : Nat} (h : n.testBit k = false) : bitsTo n (k + 1) = bitsTo n k := by simp [bitsTo, List.range_succ, h]
theorem bitsTo_stop {n m : Nat} (h : n < 2 ^ m) : ∀ d, bitsTo n (m + d) = bitsTo n m := by
  intro d
  induction d with
  | zero => rfl
  | succ d ih => rw [← Nat.add_assoc, bitsTo_no, ih]; exact Nat.testBit_lt_two_pow (Nat.lt_of_lt_of_le h (Nat.pow_le_pow_right (by decide) (by omega)))
theorem bitsTo_le (n k : Nat) : (bitsTo n k).length ≤ k := by
  have := List.length_filter_le (fun j => n.testBit j) (List.range k)
  simpa [bitsTo] using this
theorem bitsTo_mem {n k j : Nat} : j ∈ bitsTo n k ↔ j < k ∧ n.testBit j = true := by simp [bitsTo]

def toInts (l : List Nat) : List Int := l.map fun (k : Nat) => (k : Int)
theorem toInts_append (a b : List Nat) : toInts (a ++ b) = toInts a ++ toInts b := by simp [toInts]
theorem toInts_len (a : List Nat) : (toInts a).length = a.length := by simp [toInts]
theorem toInts_get {a : List Nat} {j : Nat} {z : Int} (h : (toInts a)[j]? = some z) : ∃ k : Nat, a[j]? = some k ∧ z = k := by
  simp only [toInts, List.getElem?_map, Option.map_eq_some_iff] at h
  obtain ⟨k, hk, rfl⟩ := h
  exact ⟨k, hk, rfl⟩

theorem pow_le_of {m k : Nat} (h : m ≤ k) : 2 ^ m ≤ 2 ^ k := Nat.pow_le_pow_right (by decide) h

/-- what the board's own bits come to, however far one looks -/
theorem bits_board {W H X p : Int} (hb : boardOk W H X = true) (h0 : 0 ≤ p) (hp : p ≤ X) : bitsTo p.toNat 49 = bitsTo p.toNat (W * H).toNat := by
  have F := boardOk_facts hb
  have h1 : p.toNat < 2 ^ (W * H).toNat := by
    have := F.x2
    have e : ((2 ^ (W * H).toNat : Nat) : Int) = 2 ^ (W * H).toNat := by simp
    omega
  have := bitsTo_stop h1 (49 - (W * H).toNat)
  rw [show (W * H).toNat + (49 - (W * H).toNat) = 49 from by have := F.m2; omega] at this
  exact this

/-- the sum of the weights of some places -/
def wsum (ws : List Int) (ks : List Nat) : Int := (ks.map fun k => ws.getD k 0).sum
theorem wsum_snoc (ws : List Int) (ks : List Nat) (k : Nat) : wsum ws (ks ++ [k]) = wsum ws ks + ws.getD k 0 := by simp [wsum]
theorem wsum_bd {ws : List Int} (h : okW ws = true) (ks : List Nat) : -(1000 * (ks.length : Int)) ≤ wsum ws ks ∧ wsum ws ks ≤ 1000 * (ks.length : Int) := by
  induction ks with
  | nil => simp [wsum]
  | cons k ks ih =>
    have hk : -1000 ≤ ws.getD k 0 ∧ ws.getD k 0 ≤ 1000 := by
      cases e : ws[k]? with
      | none => simp [List.getD, e]
      | some z => have := okW_get h e; simpa [List.getD, e] using this
    simp only [wsum, List.map_cons, List.sum_cons, List.length_cons] at ih ⊢
    omega
def sumOf (W H X : Int) (ws : List Int) (p : Int) : Int := if weightsOk W H X ws = true ∧ positionOk W H X p = true then wsum ws (bitsTo p.toNat 49) else 0

def addW (v u : List Int) : List Int := grid v.length fun k => v.getD k 0 + u.getD k 0
def addWOk (W H X : Int) (v u : List Int) : Bool := weightsOk W H X v && weightsOk W H X u && weightsOk W H X (addW v u)
def addWs (W H X : Int) (v u : List Int) : List Int := if addWOk W H X v u = true then addW v u else []

/-- one number more, appended to a slice of the call's own -/
theorem append_int {ops : Array Oper} {rest : List Oper} {o : Oper} {a : Act} {Q : Exit → Act → World → Prop} {T : TypeId} (hT : Try.prog.underlying T = some (.slice 3)) (V w : World) (hgd : o.guard = none) (s x : Operand)
    (ho : o.op = .call { callee := .builtin .append, args := #[s, x], argTypes := #[T, T] }) (v : Value) (n : Nat) (zs : List Int) (z : Int) (hs : a.eval s = v)
    (hown : w.ownsRow V.heap.size 3 1 v n (ints zs)) (hx : a.eval x = .slice (some ⟨w.heap.size, 0, none⟩) 1 1) (hn : n ≤ 4294967296) (hbel : Below V.heap.size V w)
    (h : ∀ v' w', w'.ownsRow V.heap.size 3 1 v' (n + 1) (ints (zs ++ [z])) → Below V.heap.size V w' → wpList Try.prog ops Q rest (a.put o.dst v') w') :
    wpList Try.prog ops Q (o :: rest) a (w.alloc (.cells #[.int .i64 z] 3)) := by
  obtain ⟨i0, hi, hz0, hz1, hz2⟩ := info_parts int_info
  refine wpList_append_own _ hgd s x T ho V.heap.size 3 i0 (.int .i64 0) 1 8 hT hi hz0 hz1 hz2 rfl (by decide) v n (ints zs) hs (hown.alloc _) ⟨w.heap.size, 0, none⟩ 1 1 [.int .i64 z] hx rfl ?_ ?_ ?_ ?_ ?_ ?_
  · intro j u hj
    match j, hj with
    | 0, hj => simp at hj; subst hj; simp [Addr.add]
  · intro u hu; simp at hu; subst hu; rfl
  · simp only [maxLen]; omega
  · omega
  · have := hbel.size; simp; omega
  · intro v' w' hown' hgrow _
    refine h v' w' (by rw [ints_append]; exact hown') ?_
    refine ((below_alloc hbel _).grown hgrow (by have := hbel.size; simp; omega) ?_)
    intro k hk
    exact (hown.lt k hk).1

/-- the same at a step of a region that draws its order -/
theorem step_append_int {ops : Array Oper} {o : Oper} {a : Act} {K : Act → World → Prop} {Q : Exit → Act → World → Prop} {E : Prop} {T : TypeId} (hT : Try.prog.underlying T = some (.slice 3)) (V w : World) (hgd : o.guard = none) (s x : Operand)
    (ho : o.op = .call { callee := .builtin .append, args := #[s, x], argTypes := #[T, T] }) (v : Value) (n : Nat) (zs : List Int) (z : Int) (hs : a.eval s = v)
    (hown : w.ownsRow V.heap.size 3 1 v n (ints zs)) (hx : a.eval x = .slice (some ⟨w.heap.size, 0, none⟩) 1 1) (hn : n ≤ 4294967296) (hbel : Below V.heap.size V w)
    (h : ∀ v' w', w'.ownsRow V.heap.size 3 1 v' (n + 1) (ints (zs ++ [z])) → Below V.heap.size V w' → K (a.put o.dst v') w') :
    if Region.wanted o (yielded ops a.tmps) = true then Oper.wp Try.prog o a (w.alloc (.cells #[.int .i64 z] 3)) K Q else E := by
  have hw : Region.wanted o (yielded ops a.tmps) = true := by simp [Region.wanted, hgd]
  rw [if_pos hw]
  obtain ⟨i0, hi, hz0, hz1, hz2⟩ := info_parts int_info
  refine wp_append_own _ s x T ho V.heap.size 3 i0 (.int .i64 0) 1 8 hT hi hz0 hz1 hz2 rfl (by decide) v n (ints zs) hs (hown.alloc _) ⟨w.heap.size, 0, none⟩ 1 1 [.int .i64 z] hx rfl ?_ ?_ ?_ ?_ ?_ ?_
  · intro j u hj
    match j, hj with
    | 0, hj => simp at hj; subst hj; simp [Addr.add]
  · intro u hu; simp at hu; subst hu; rfl
  · simp only [maxLen]; omega
  · omega
  · have := hbel.size; simp; omega
  · intro v' w' hown' hgrow _
    refine h v' w' (by rw [ints_append]; exact hown') ?_
    refine ((below_alloc hbel _).grown hgrow (by have := hbel.size; simp; omega) ?_)
    intro k hk
    exact (hown.lt k hk).1

theorem step_append_int_drew {ops : Array Oper} {o : Oper} {a : Act} {K : Act → World → Prop} {Q : Exit → Act → World → Prop} {E : Prop} {T : TypeId} (hT : Try.prog.underlying T = some (.slice 3)) (V w : World) (hgd : o.guard = none) (s x : Operand)
    (ho : o.op = .call { callee := .builtin .append, args := #[s, x], argTypes := #[T, T] }) (v : Value) (n : Nat) (zs : List Int) (z : Int) (hs : a.eval s = v)
    (hown : w.ownsRow V.heap.size 3 1 v n (ints zs)) (hx : a.eval x = .slice (some ⟨w.heap.size, 0, none⟩) 1 1) (hn : n ≤ 4294967296) (hbel : Below V.heap.size V w)
    (h : ∀ v' w', w'.ownsRow V.heap.size 3 1 v' (n + 1) (ints (zs ++ [z])) → Below V.heap.size V w' → K (a.put o.dst v') w') :
    if Region.wanted o (yielded ops a.tmps) = true then Oper.wp Try.prog o a (w.alloc (.cells #[.int .i64 z] 3)).drew K Q else E :=
  step_append_int hT V w.drew hgd s x ho v n zs z hs hown hx hn hbel.drew h

end Go.Proofs.Ytianfakgojmnpaa
