/- Opening a row of bytes. -/
import Derived.Test.YtianfakgojmnpaaLift
import Derived.Test.YtianfakgojmnpaaDraw
namespace Go.Proofs.Ytianfakgojmnpaa
open Go.ChangeShapes Go.WideShapes Go.ChangeAt Go.RowKit Go.Joins Go.Deep
section
variable {H : Type} {enc : TypeId × Value → H} {P : Program}
variable {w : World} {base b0 : Nat} {spare : Nat → Bool} {held : Bool} {r : Reach} {t : TypeId} {v : Value} {d : DataW H} {p : List MemPlace}
theorem open_c {e : TypeId} (ht : P.underlying t = some (.slice e)) (he : P.underlying e = some (.int .u8)) (hc : P.cellsOf e = 1)
    (hv : Value.okWide P w r b0 t v) (h : DataW.Trod enc P w base spare held t v d p) : ∃ (A : Option Addr) (C n : Nat), v = .slice A n C ∧ Bytes w A n ∧ n ≤ maxLen := by
  obtain ⟨a0, len, cap, rfl⟩ := okWide_slice ht hv
  obtain ⟨fuel, hf⟩ := h
  rcases open_ints ht he hc hf with ⟨hcs, _⟩ | ⟨a, len', cap', zs, hcs, _, hl, hm, hz, _, hcell, hwf⟩
  · simp [Value.cells] at hcs
    obtain ⟨rfl, rfl, rfl⟩ := hcs
    exact ⟨none, 0, 0, rfl, fun j hj => absurd hj (Nat.not_lt_zero _), Nat.zero_le _⟩
  · simp [Value.cells] at hcs
    obtain ⟨rfl, rfl, rfl⟩ := hcs
    have hzl : len ≤ zs.length := by rw [hz]; split <;> omega
    refine ⟨some a, cap, len, rfl, fun j hj => ?_, Nat.le_trans hl hm⟩
    obtain ⟨b, off, rfl, hcells⟩ := ints_at hcell (by omega)
    have h1 := hcells j (by omega)
    have h2 := range_u8 hwf j
    exact ⟨b, off, _, rfl, h1, by simpa [List.getD] using h2.1, by simpa [List.getD] using h2.2, World.block_lt_of_cell? w _ h1⟩
end
end Go.Proofs.Ytianfakgojmnpaa
