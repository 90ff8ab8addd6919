/- Golden sums: contracts. -/
import Derived.Test.YtmdpacgoijnonaaSums
import Derived.Test.YtmdpacgoijnonaaBoard
import Derived.Test.YtmdpacgoijnonaaGoldD
import Derived.Test.YtmdpacgoijnonaaGoldX
import Derived.Test.YtmdpacgoijnonaaFalling
namespace Go.Proofs.Ytmdpacgoijnonaa
open Go.RowKit

def gAt (W H X t k : Int) : Int × Int := (powA (stepsBetween W H X t k), powB (stepsBetween W H X t k))
def gstep (W H X t : Int) (s : Int × Int) (k : Nat) : Int × Int := (addA s.1 s.2 (gAt W H X t k).1 (gAt W H X t k).2, addB s.1 s.2 (gAt W H X t k).1 (gAt W H X t k).2)
def gfold (W H X t : Int) (ks : List Nat) : Int × Int := ks.foldl (gstep W H X t) (0, 0)
theorem gfold_snoc (W H X t : Int) (ks : List Nat) (k : Nat) : gfold W H X t (ks ++ [k]) = gstep W H X t (gfold W H X t ks) k := by simp [gfold]
theorem top_cell {W : World} {cs : Array Value} {ty : TypeId} {g j : Nat} {v : Value} (hg : g = W.heap.size) (h : cs[j]? = some v) : (W.alloc (.cells cs ty)).cell? ⟨g, j, none⟩ = some v := by
  subst hg; simp [h]
theorem top_frozen {W : World} {cs : Array Value} {ty : TypeId} {g j : Nat} (hg : g = W.heap.size) : (W.alloc (.cells cs ty)).frozen? ⟨g, j, none⟩ = false := by
  subst hg; simp
theorem own_set {w : World} {lo e s n g j : Nat} {v u : Value} {c : List Value} (h : w.ownsRow lo e s v n c) (hg : g < lo) : (w.setCell ⟨g, j, none⟩ u).ownsRow lo e s v n c := by
  refine h.kept (row := some g) ⟨rfl, rfl, rfl, by simp, fun k _ hk => heap_setCell_other w ⟨g, j, none⟩ k u (fun e => hk (by simp [e]))⟩ ?_
  cases hv : v.ownBlock with
  | none => exact .inl rfl
  | some k => 
    refine .inr fun e => ?_
    have := (h.lt k hv).1
    injection e with e
    omega
def goldSum (W H X t p : Int) : Int × Int := if positionOk W H X p = true ∧ hasHole W H X t = true then gfold W H X t (bitsTo p.toNat 49) else (0, 0)
theorem holes_bits {W H X p : Int} (hp : positionOk W H X p = true) : (holes W H X).filter (fun k => p.toNat.testBit k) = bitsTo p.toNat 49 := by
  have F := positionOk_facts hp
  rw [bits_board F.b F.p0 F.le]
  unfold holes; rw [if_pos F.b]
  unfold bitsTo
  rw [List.filter_filter]
  apply List.filter_congr
  intro k _
  cases h : p.toNat.testBit k
  · rfl
  · have := congrArg (·.testBit k) F.sub
    simp only [Nat.testBit_and, h, Bool.true_and] at this
    simp [this]
end Go.Proofs.Ytmdpacgoijnonaa
