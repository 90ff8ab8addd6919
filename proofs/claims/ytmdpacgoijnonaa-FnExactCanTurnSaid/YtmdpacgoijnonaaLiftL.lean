/- Opening a list of structs of three integers. -/
import Derived.Test.YtmdpacgoijnonaaLift
import Derived.Test.YtmdpacgoijnonaaLiftD
namespace Go.Proofs.Ytmdpacgoijnonaa
open Go.ChangeShapes Go.WideShapes Go.ChangeAt Go.RowKit Go.Joins Go.Deep

section
variable {H : Type} {enc : TypeId × Value → H} {P : Program} {w : World} {base b0 : Nat} {spare : Nat → Bool} {held : Bool} {r : Reach} {t : TypeId} {v : Value} {d : DataW H} {p : List MemPlace}

theorem three_cells {a : Addr} {cs : List Value} (h : w.cells? base a 3 = some cs) : ∃ c0 c1 c2, cs = [c0, c1, c2] ∧ w.cell? (a.add 0) = some c0 ∧ w.cell? (a.add 1) = some c1 ∧ w.cell? (a.add 2) = some c2 := by
  unfold World.cells? at h
  split at h
  · simp only [List.range_succ, List.range_zero, List.nil_append, List.mapM_cons, List.mapM_nil, List.cons_append] at h
    cases h0 : w.cell? (a.add 0) with
    | none => simp [h0] at h
    | some c0 =>
      cases h1 : w.cell? (a.add 1) with
      | none => simp [h0, h1] at h
      | some c1 =>
        cases h2 : w.cell? (a.add 2) with
        | none => simp [h0, h1, h2] at h
        | some c2 => simp [h0, h1, h2] at h; exact ⟨c0, c1, c2, h.symm, rfl, rfl, rfl⟩
  · cases h

theorem triples_at {a : Addr} : ∀ {n : Nat} (_ : ∀ i, i < n → ∃ x y z : Int, w.cell? (a.add (i * 3)) = some (.int .i64 x) ∧ w.cell? (a.add (i * 3 + 1)) = some (.int .i64 y) ∧ w.cell? (a.add (i * 3 + 2)) = some (.int .i64 z)),
    ∃ zs : List (Int × Int × Int), zs.length = n ∧ ∀ j z, (zs.flatMap fun x => [x.1, x.2.1, x.2.2])[j]? = some z → w.cell? (a.add j) = some (.int .i64 z) := by
  intro n
  induction n with
  | zero => intro _; exact ⟨[], rfl, fun j z h => by simp at h⟩
  | succ n ih =>
    intro h
    obtain ⟨zs, hl, hz⟩ := ih (fun i hi => h i (by omega))
    obtain ⟨x, y, z0, hx, hy, hz0⟩ := h n (by omega)
    have hlen : (zs.flatMap fun x => [x.1, x.2.1, x.2.2]).length = n * 3 := by
      rw [← hl]
      clear hz hl
      induction zs with
      | nil => rfl
      | cons u zs ih => simp only [List.flatMap_cons, List.length_append, List.length_cons, List.length_nil] at ih ⊢; omega
    refine ⟨zs ++ [(x, y, z0)], by simp [hl], fun j z hj => ?_⟩
    rw [List.flatMap_append] at hj
    by_cases h1 : j < n * 3
    · rw [List.getElem?_append_left (by omega)] at hj
      exact hz j z hj
    · rw [List.getElem?_append_right (by omega), hlen] at hj
      by_cases h2 : j = n * 3
      · subst h2; simp at hj; subst hj; exact hx
      · by_cases h3 : j = n * 3 + 1
        · subst h3; simp at hj; subst hj; exact hy
        · by_cases h4 : j = n * 3 + 2
          · subst h4; simp at hj; subst hj; exact hz0
          · obtain ⟨m, hm⟩ : ∃ m, j - n * 3 = m + 3 := ⟨j - n * 3 - 3, by omega⟩
            rw [hm] at hj; simp at hj

theorem open_ls3 {e : TypeId} {f0 f1 f2 : Field} (ht : P.underlying t = some (.slice e)) (he : P.underlying e = some (.struct #[f0, f1, f2])) (hone : oneCellFields P #[f0, f1, f2] = true) (hc : P.cellsOf e = 3)
    (k0 : P.underlying f0.type = some (.int .i64)) (k1 : P.underlying f1.type = some (.int .i64)) (k2 : P.underlying f2.type = some (.int .i64))
    (hv : Value.okWide P w r b0 t v) (h : DataW.Trod enc P w base spare held t v d p) : ∃ (A : Option Addr) (C : Nat) (zs : List (Int × Int × Int)), v = .slice A zs.length C ∧ FAt w A (zs.flatMap fun x => [x.1, x.2.1, x.2.2]) ∧ zs.length ≤ maxLen := by
  obtain ⟨a0, len, cap, rfl⟩ := okWide_slice ht hv
  obtain ⟨fuel, hf⟩ := h
  rcases DataW.trod_slice ht hf with ⟨hcs, _⟩ | ⟨a, len', cap', elems, rest, n, _, hcs, _, hb, hl, hm, hlen, hel, _⟩
  · simp [Value.cells] at hcs
    obtain ⟨rfl, rfl, rfl⟩ := hcs
    exact ⟨none, 0, [], rfl, (fun j z hz => by simp at hz), Nat.zero_le _⟩
  · simp [Value.cells] at hcs
    obtain ⟨rfl, rfl, rfl⟩ := hcs
    have each : ∀ i, i < len → ∃ x y z : Int, w.cell? (a.add (i * 3)) = some (.int .i64 x) ∧ w.cell? (a.add (i * 3 + 1)) = some (.int .i64 y) ∧ w.cell? (a.add (i * 3 + 2)) = some (.int .i64 z) := by
      intro i hi
      have hE := hel i hi
      rw [hc, List.getElem?_eq_getElem (show i < elems.length by omega), Option.bind_eq_some_iff] at hE
      obtain ⟨cs', hcs', hy⟩ := hE
      obtain ⟨c0, c1, c2, rfl, hc0, hc1, hc2⟩ := three_cells hcs'
      obtain ⟨y0, y1, y2, m, _, _, h0, h1, h2⟩ := trod_struct3 he hy
      obtain ⟨o0, s0⟩ := hone_of hone 0 f0 rfl
      obtain ⟨o1, s1⟩ := hone_of hone 1 f1 rfl
      obtain ⟨o2, s2⟩ := hone_of hone 2 f2 rfl
      obtain ⟨x, e0, _, _⟩ := DataW.trod_int k0 (cs := [c0]) (by simpa [o0, s0] using h0)
      obtain ⟨y, e1, _, _⟩ := DataW.trod_int k1 (cs := [c1]) (by simpa [o1, s1] using h1)
      obtain ⟨z, e2, _, _⟩ := DataW.trod_int k2 (cs := [c2]) (by simpa [o2, s2] using h2)
      simp only [List.cons.injEq, and_true] at e0 e1 e2
      subst e0 e1 e2
      have ea : ∀ d, 0 < d → (a.add (i * 3)).add d = a.add (i * 3 + d) := by
        intro d hd
        by_cases hi0 : i * 3 = 0
        · rw [hi0]; simp [Addr.add]
        · have : i * 3 + d ≠ 0 := by omega
          have hd0 : d ≠ 0 := by omega
          simp [Addr.add, hi0, hd0, Nat.add_assoc]
      rw [ea 1 (by omega)] at hc1
      rw [ea 2 (by omega)] at hc2
      exact ⟨x, y, z, by simpa [Addr.add] using hc0, hc1, hc2⟩
    obtain ⟨zs, hzl, hz⟩ := triples_at each
    refine ⟨some a, cap, zs, by rw [hzl], fun j z hj => ?_, by omega⟩
    have hcell := hz j z hj
    obtain ⟨b, off, spot⟩ := a
    have hpos : 0 < (zs.flatMap fun x => [x.1, x.2.1, x.2.2]).length := by have := (List.getElem?_eq_some_iff.1 hj).1; omega
    have hspot : spot = none := by simpa [Addr.add] using World.cell?_spot (hz 0 _ (List.getElem?_eq_getElem hpos))
    subst hspot
    exact ⟨b, off, rfl, by rw [← Go.WideShapes.add_plain]; exact hcell⟩
end
end Go.Proofs.Ytmdpacgoijnonaa
