/- A contract with its very world. -/
import Derived.Test.YtianfakgojmnpaaGoldC
namespace Go.Proofs.Ytianfakgojmnpaa
open Go.RowKit
theorem size_set (w : World) (a : Addr) (v : Value) : (w.setCell a v).heap.size = w.heap.size := by simp [World.setCell]
theorem set2_cells {w : World} {g : Nat} {x y u v : Value} (h0 : w.cell? ⟨g, 0, none⟩ = some u) (h1 : w.cell? ⟨g, 1, none⟩ = some v) :
    ((w.setCell ⟨g, 0, none⟩ x).setCell ⟨g, 1, none⟩ y).cell? ⟨g, 0, none⟩ = some x ∧ ((w.setCell ⟨g, 0, none⟩ x).setCell ⟨g, 1, none⟩ y).cell? ⟨g, 1, none⟩ = some y := by
  have e : (w.setCell ⟨g, 0, none⟩ x).cell? ⟨g, 1, none⟩ = some v := by rw [World.cell?_setCell_other _ _ _ _ (by simp)]; exact h1
  exact ⟨by rw [World.cell?_setCell_other _ _ _ _ (by simp)]; exact World.cell?_setCell_same _ _ _ h0, World.cell?_setCell_same _ _ _ e⟩
end Go.Proofs.Ytianfakgojmnpaa
