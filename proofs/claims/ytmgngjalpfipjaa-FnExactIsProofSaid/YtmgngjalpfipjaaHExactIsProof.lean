/- The given statement of FnExactIsProof: the call returns true for all arguments; no condition. -/
import Derived.Test.YtmgngjalpfipjaaLawsX
import Derived.Test.YtmgngjalpfipjaaLift
namespace Go.Proofs.Ytmgngjalpfipjaa
open Go.ChangeShapes Go.WideShapes Go.ChangeAt Go.RowKit Go.Joins

set_option maxRecDepth 100000 in
theorem fnExactIsProof_lifted (os : Os) (started : os.Started) (H : Type) (enc : TypeId × Value → H) :
    ReturnsInHanded {} Try.checked os 8 .any (Rows.fnExactIsProofSpec.pre6 enc Try.prog Try.f8 Rows.fnExactIsProofRow.domain false) (Rows.fnExactIsProofSpec.post enc Try.prog Try.f8 false true false false) := by
  refine returnsInHanded_of_change (C := Try.checked) lift_own started (by kernel_rfl) Try.func8
    (ChangeSpec.witness6 (enc := enc) (C := Try.checked) false ⟨#[], #[.agg #[.int .i64 0, .int .i64 0, .int .i64 0], .slice none 0 0, .int .i64 0, .int .i64 0], []⟩ 8 (by kernel_rfl) (by kernel_rfl) (by kernel_rfl) (by kernel_rfl)) ?_
  intro W base args ds gs before hval0 hW _ _
  have hval : ∀ (j : Nat) t v, Try.f8.params[j]? = some t → args[j]? = some v → Value.okWide Try.prog W .any base t v := hval0
  have hW' : DataW.Whole enc Try.prog Try.f8.params.toList Rows.fnExactIsProofSpec.vars false W args.toList ds gs before := hW
  obtain ⟨p, q, hA0, _, _, _, _⟩ := hW
  have hA : DataW.TrodAll enc Try.prog W 0 (fun _ => true) true Try.f8.params.toList args.toList ds p := hA0
  rw [Try.params8] at hA hval
  obtain ⟨v0, v1, v2, v3, d0, d1, d2, d3, p0, p1, p2, p3, rfl, rfl, _, h0, h1, h2, h3⟩ := trodAll_four hA
  clear hA hA0 hval0
  obtain ⟨x0a, x0b, x0c, rfl, hx0a, hx0b, hx0c⟩ := open_i3 Try.underlying36 (by kernel_rfl) (by kernel_rfl) Try.underlying3 Try.underlying3 Try.underlying3 (hval 0 36 v0 rfl rfl) h0
  obtain ⟨A1, C1, x1, rfl, hx1⟩ := open_ls1 Try.underlying42 Try.underlying3 (by kernel_rfl) (hval 1 42 v1 rfl rfl) h1
  obtain ⟨x2, rfl, hx2⟩ := open_i1 Try.underlying3 (hval 2 3 v2 rfl rfl) h2
  obtain ⟨x3, rfl, hx3⟩ := open_i1 Try.underlying3 (hval 3 3 v3 rfl rfl) h3
  refine (law_FnExactIsProof x0a x0b x0c A1 C1 x1 x2 x3 W hx0a hx0b hx0c hx1 hx2 hx3).mono fun e W' ⟨he, hb⟩ => ⟨_, he, post_law lift_laid (by intro t ht; rw [Try.params8] at ht; simp only [List.mem_cons, List.not_mem_nil, or_false] at ht; rcases ht with rfl | rfl | rfl | rfl <;> exact ⟨by kernel_rfl, of_decide_eq_true (by kernel_rfl)⟩) (by kernel_rfl) Try.underlying4 rfl hW' ?_ hb⟩
  intro xs hx
  rw [Try.params8] at hx
  match xs, hx with
  | [_, _, _, _], _ => rfl

/-- FnExactIsProof returns true for all arguments, whatever lies in memory. No condition. -/
theorem fnExactIsProof_holds : Rows.FnExactIsProofSaid :=
  OpenClaim.holds_of_wide 8 Try.f8 rfl rfl rfl rfl rfl rfl rfl ⟨rfl, rfl, rfl, rfl, rfl⟩ rfl rfl rfl rfl rfl (by kernel_rfl) Try.func8 (by kernel_rfl)
    (of_decide_eq_true (by kernel_rfl)) (by unfold Func.isWrapper; rw [if_neg (of_decide_eq_false (by kernel_rfl))]; exact ⟨rfl, rfl⟩)
    (fun os started H enc _ => fnExactIsProof_lifted os started H enc)

end Go.Proofs.Ytmgngjalpfipjaa
