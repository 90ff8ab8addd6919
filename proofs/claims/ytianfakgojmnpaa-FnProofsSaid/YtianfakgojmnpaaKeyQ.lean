/- Classes of holes and keys: a jump keeps the key. Plain mathematics. -/
import Derived.Test.YtianfakgojmnpaaLineC
namespace Go.Proofs.Ytianfakgojmnpaa
open Go.RowKit

/-- is hole k in class j (0 to 2: by x + y, 3 to 5: by x + 2 y) -/
def clsAt (W : Int) (j k : Nat) : Int :=
  if j < 3 then (if ((k : Int) % W + (k : Int) / W) % 3 = j then 1 else 0) else (if ((k : Int) % W + 2 * ((k : Int) / W)) % 3 = (j : Int) - 3 then 1 else 0)
def clsP (W : Int) (p j : Nat) : Int := lsum (clsAt W j) p 49 % 2
def differ (a b : Int) : Int := if a = b then 0 else 1
def keyN (W : Int) (p : Nat) : Int := differ (clsP W p 0) (clsP W p 1) + 2 * differ (clsP W p 1) (clsP W p 2) + 4 * differ (clsP W p 3) (clsP W p 4) + 8 * differ (clsP W p 4) (clsP W p 5)
def keyNumber (W H X p : Int) : Int := if positionOk W H X p = true then keyN W p.toNat else -1
def sameKey (W H X p q : Int) : Bool := positionOk W H X p && positionOk W H X q && decide (keyNumber W H X p = keyNumber W H X q)
def finalHoles (W H X p : Int) : List Nat := (holes W H X).filter fun k => sameKey W H X p (2 ^ k)
theorem clsP_bd (W : Int) (p j : Nat) : 0 ≤ clsP W p j ∧ clsP W p j ≤ 1 := by unfold clsP; omega
theorem cls_line {W H X : Int} {l : Int × Int × Int} (hl : l ∈ linesOf W H X) {j : Nat} (hj : j < 6) :
    clsAt W j l.1.toNat + clsAt W j l.2.1.toNat + clsAt W j l.2.2.toNat = 1 := by
  obtain ⟨x, y, dx, dy, C⟩ := line_coords hl
  have F := lines_facts hl
  have f0 := (hole_bit F.f).1
  have o0 := (hole_bit F.o).1
  have t0 := (hole_bit F.t).1
  have e1 : ((l.1.toNat : Nat) : Int) = l.1 := by omega
  have e2 : ((l.2.1.toNat : Nat) : Int) = l.2.1 := by omega
  have e3 : ((l.2.2.toNat : Nat) : Int) = l.2.2 := by omega
  unfold clsAt
  rw [e1, e2, e3, C.fx, C.fy, C.ox, C.oy, C.tx, C.ty]
  have hd := C.d
  by_cases h3 : j < 3
  · simp only [if_pos h3]
    rcases hd with ⟨rfl, rfl⟩ | ⟨rfl, rfl⟩ | ⟨rfl, rfl⟩ | ⟨rfl, rfl⟩ <;> (repeat' split) <;> omega
  · simp only [if_neg h3]
    rcases hd with ⟨rfl, rfl⟩ | ⟨rfl, rfl⟩ | ⟨rfl, rfl⟩ | ⟨rfl, rfl⟩ <;> (repeat' split) <;> omega
theorem cls_jump {W H X : Int} {x : Nat} {l : Int × Int × Int} (hl : l ∈ linesOf W H X) (hc : canGo false x l = true) {j : Nat} (hj : j < 6) : clsP W (goTo x l) j = 1 - clsP W x j := by
  have h1 := cls_line hl hj
  have h2 := lsum_jumpL (clsAt W j) hl hc
  unfold clsP
  omega
theorem differ_flip (a b : Int) : differ (1 - a) (1 - b) = differ a b := by
  unfold differ
  by_cases h : a = b
  · rw [if_pos h, if_pos (by omega)]
  · rw [if_neg h, if_neg (by omega)]
theorem key_jump {W H X : Int} {x : Nat} {l : Int × Int × Int} (hl : l ∈ linesOf W H X) (hc : canGo false x l = true) : keyN W (goTo x l) = keyN W x := by
  unfold keyN
  rw [cls_jump hl hc (j := 0) (by omega), cls_jump hl hc (j := 1) (by omega), cls_jump hl hc (j := 2) (by omega), cls_jump hl hc (j := 3) (by omega), cls_jump hl hc (j := 4) (by omega), cls_jump hl hc (j := 5) (by omega)]
  simp only [differ_flip]
/-- what is reached has the same key -/
theorem reach_key {W H X p q : Int} (h : canReach W H X p q = true) : sameKey W H X p q = true := by
  obtain ⟨h1, h2, h3⟩ := seen_ok (show seenHas (seenB W H X false p) q = true from h)
  have hk := reach_inv (P := fun x => keyN W x = keyN W p.toNat) rfl (fun x l hx hl hc => (key_jump hl hc).trans hx) h
  unfold sameKey keyNumber
  rw [h1, h2, if_pos rfl, if_pos rfl, hk]; simp
end Go.Proofs.Ytianfakgojmnpaa
