/- Lists of soldiers: contracts of the laws' helpers. -/
import Derived.Test.YtianfakgojmnpaaArmy
import Derived.Test.YtianfakgojmnpaaSlice
namespace Go.Proofs.Ytianfakgojmnpaa
open Go.RowKit

def sflat (l : List (Int × Int)) : List Int := l.flatMap fun x => [x.1, x.2]
theorem sflat_append (a b : List (Int × Int)) : sflat (a ++ b) = sflat a ++ sflat b := by simp [sflat]
theorem sflat_len (a : List (Int × Int)) : (sflat a).length = a.length * 2 := by
  induction a with
  | nil => rfl
  | cons x a ih => simp only [sflat, List.flatMap_cons, List.length_append, List.length_cons, List.length_nil] at ih ⊢; omega
theorem sflat_get : ∀ {a : List (Int × Int)} {k : Nat} {x y : Int}, a[k]? = some (x, y) → (sflat a)[k * 2]? = some x ∧ (sflat a)[k * 2 + 1]? = some y := by
  intro a
  induction a with
  | nil => intro k x y h; simp at h
  | cons z a ih =>
    intro k x y h
    cases k with
    | zero =>
      simp at h; subst h
      simp [sflat]
    | succ k =>
      simp at h
      have := ih h
      rw [show (k + 1) * 2 = k * 2 + 2 from by omega]
      have e : ∀ j, (sflat (z :: a))[j + 2]? = (sflat a)[j]? := fun j => by simp [sflat]
      exact ⟨by rw [e]; exact this.1, by rw [show k * 2 + 2 + 1 = k * 2 + 1 + 2 from by omega, e]; exact this.2⟩
theorem soldier_info : (Try.prog.info? 37).map (fun i => (i.zero, i.size, i.bytes)) = some (some (.agg #[.int .i64 0, .int .i64 0]), 2, 16) := by kernel_rfl

end Go.Proofs.Ytianfakgojmnpaa
