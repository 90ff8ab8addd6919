/- Opening a list of structs of two integers. -/
import Derived.Test.YtjcjmgfecmgmjaaLift
import Derived.Test.YtjcjmgfecmgmjaaLiftD
namespace Go.Proofs.Ytjcjmgfecmgmjaa
open Go.ChangeShapes Go.WideShapes Go.ChangeAt Go.RowKit Go.Joins Go.Deep

section
variable {H : Type} {enc : TypeId × Value → H} {P : Program} {w : World} {base b0 : Nat} {spare : Nat → Bool} {held : Bool} {r : Reach} {t : TypeId} {v : Value} {d : DataW H} {p : List MemPlace}

theorem two_cells {a : Addr} {cs : List Value} (h : w.cells? base a 2 = some cs) : ∃ c0 c1, cs = [c0, c1] ∧ w.cell? (a.add 0) = some c0 ∧ w.cell? (a.add 1) = some c1 := by
  unfold World.cells? at h
  split at h
  · simp only [List.range_succ, List.range_zero, List.nil_append, List.mapM_cons, List.mapM_nil, List.cons_append] at h
    cases h0 : w.cell? (a.add 0) with
    | none => simp [h0] at h
    | some c0 =>
      cases h1 : w.cell? (a.add 1) with
      | none => simp [h0, h1] at h
      | some c1 => simp [h0, h1] at h; exact ⟨c0, c1, h.symm, rfl, rfl⟩
  · cases h

theorem pairs_at {a : Addr} : ∀ {n : Nat} (_ : ∀ i, i < n → ∃ x y : Int, w.cell? (a.add (i * 2)) = some (.int .i64 x) ∧ w.cell? (a.add (i * 2 + 1)) = some (.int .i64 y)),
    ∃ zs : List (Int × Int), zs.length = n ∧ ∀ j z, (zs.flatMap fun x => [x.1, x.2])[j]? = some z → w.cell? (a.add j) = some (.int .i64 z) := by
  intro n
  induction n with
  | zero => intro _; exact ⟨[], rfl, fun j z h => by simp at h⟩
  | succ n ih =>
    intro h
    obtain ⟨zs, hl, hz⟩ := ih (fun i hi => h i (by omega))
    obtain ⟨x, y, hx, hy⟩ := h n (by omega)
    have hlen : (zs.flatMap fun x => [x.1, x.2]).length = n * 2 := by
      rw [← hl]
      clear hz hl
      induction zs with
      | nil => rfl
      | cons u zs ih => simp only [List.flatMap_cons, List.length_append, List.length_cons, List.length_nil] at ih ⊢; omega
    refine ⟨zs ++ [(x, y)], by simp [hl], fun j z hj => ?_⟩
    rw [List.flatMap_append] at hj
    by_cases h1 : j < n * 2
    · rw [List.getElem?_append_left (by omega)] at hj
      exact hz j z hj
    · rw [List.getElem?_append_right (by omega), hlen] at hj
      by_cases h2 : j = n * 2
      · subst h2; simp at hj; subst hj; exact hx
      · by_cases h3 : j = n * 2 + 1
        · subst h3; simp at hj; subst hj; exact hy
        · obtain ⟨m, hm⟩ : ∃ m, j - n * 2 = m + 2 := ⟨j - n * 2 - 2, by omega⟩
          rw [hm] at hj; simp at hj

theorem open_ls2 {e : TypeId} {f0 f1 : Field} (ht : P.underlying t = some (.slice e)) (he : P.underlying e = some (.struct #[f0, f1])) (hone : oneCellFields P #[f0, f1] = true) (hc : P.cellsOf e = 2)
    (k0 : P.underlying f0.type = some (.int .i64)) (k1 : P.underlying f1.type = some (.int .i64))
    (hv : Value.okWide P w r b0 t v) (h : DataW.Trod enc P w base spare held t v d p) : ∃ (A : Option Addr) (C : Nat) (zs : List (Int × Int)), v = .slice A zs.length C ∧ FAt w A (zs.flatMap fun x => [x.1, x.2]) ∧ zs.length ≤ maxLen := by
  obtain ⟨a0, len, cap, rfl⟩ := okWide_slice ht hv
  obtain ⟨fuel, hf⟩ := h
  rcases DataW.trod_slice ht hf with ⟨hcs, _⟩ | ⟨a, len', cap', elems, rest, n, _, hcs, _, hb, hl, hm, hlen, hel, _⟩
  · simp [Value.cells] at hcs
    obtain ⟨rfl, rfl, rfl⟩ := hcs
    exact ⟨none, 0, [], rfl, (fun j z hz => by simp at hz), Nat.zero_le _⟩
  · simp [Value.cells] at hcs
    obtain ⟨rfl, rfl, rfl⟩ := hcs
    have each : ∀ i, i < len → ∃ x y : Int, w.cell? (a.add (i * 2)) = some (.int .i64 x) ∧ w.cell? (a.add (i * 2 + 1)) = some (.int .i64 y) := by
      intro i hi
      have hE := hel i hi
      rw [hc, List.getElem?_eq_getElem (show i < elems.length by omega), Option.bind_eq_some_iff] at hE
      obtain ⟨cs', hcs', hy⟩ := hE
      obtain ⟨c0, c1, rfl, hc0, hc1⟩ := two_cells hcs'
      obtain ⟨y0, y1, m, _, _, h0, h1⟩ := trod_struct2 he hy
      obtain ⟨o0, s0⟩ := hone_of hone 0 f0 rfl
      obtain ⟨o1, s1⟩ := hone_of hone 1 f1 rfl
      obtain ⟨x, e0, _, _⟩ := DataW.trod_int k0 (cs := [c0]) (by simpa [o0, s0] using h0)
      obtain ⟨y, e1, _, _⟩ := DataW.trod_int k1 (cs := [c1]) (by simpa [o1, s1] using h1)
      simp only [List.cons.injEq, and_true] at e0 e1
      subst e0 e1
      have ea : (a.add (i * 2)).add 1 = a.add (i * 2 + 1) := by
        by_cases hi0 : i * 2 = 0
        · rw [hi0]; simp [Addr.add]
        · simp [Addr.add, hi0, Nat.add_assoc]
      rw [ea] at hc1
      exact ⟨x, y, by simpa [Addr.add] using hc0, hc1⟩
    obtain ⟨zs, hzl, hz⟩ := pairs_at each
    refine ⟨some a, cap, zs, by rw [hzl], fun j z hj => ?_, by omega⟩
    have hcell := hz j z hj
    obtain ⟨b, off, spot⟩ := a
    have hpos : 0 < (zs.flatMap fun x => [x.1, x.2]).length := by have := (List.getElem?_eq_some_iff.1 hj).1; omega
    have hspot : spot = none := by simpa [Addr.add] using World.cell?_spot (hz 0 _ (List.getElem?_eq_getElem hpos))
    subst hspot
    exact ⟨b, off, rfl, by rw [← Go.WideShapes.add_plain]; exact hcell⟩
end
end Go.Proofs.Ytjcjmgfecmgmjaa
