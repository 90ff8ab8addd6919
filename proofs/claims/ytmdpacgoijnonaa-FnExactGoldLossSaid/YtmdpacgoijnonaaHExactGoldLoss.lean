/- The given statement of FnExactGoldLoss: the call returns true for all arguments; no condition. -/
import Derived.Test.YtmdpacgoijnonaaGLossL
import Derived.Test.YtmdpacgoijnonaaLift
namespace Go.Proofs.Ytmdpacgoijnonaa
open Go.ChangeShapes Go.WideShapes Go.ChangeAt Go.RowKit Go.Joins

set_option maxRecDepth 100000 in
theorem fnExactGoldLoss_lifted (os : Os) (started : os.Started) (H : Type) (enc : TypeId × Value → H) :
    ReturnsInHanded {} Try.checked os 4 .any (Rows.fnExactGoldLossSpec.pre6 enc Try.prog Try.f4 Rows.fnExactGoldLossRow.domain false) (Rows.fnExactGoldLossSpec.post enc Try.prog Try.f4 false true false false) := by
  refine returnsInHanded_of_change (C := Try.checked) lift_own started (by kernel_rfl) Try.func4
    (ChangeSpec.witness6 (enc := enc) (C := Try.checked) false ⟨#[], #[.agg #[.int .i64 0, .int .i64 0, .int .i64 0], .int .i64 0, .agg #[.int .i64 0, .int .i64 0, .int .i64 0]], []⟩ 8 (by kernel_rfl) (by kernel_rfl) (by kernel_rfl) (by kernel_rfl)) ?_
  intro W base args ds gs before hval0 hW _ _
  have hval : ∀ (j : Nat) t v, Try.f4.params[j]? = some t → args[j]? = some v → Value.okWide Try.prog W .any base t v := hval0
  have hW' : DataW.Whole enc Try.prog Try.f4.params.toList Rows.fnExactGoldLossSpec.vars false W args.toList ds gs before := hW
  obtain ⟨p, q, hA0, _, _, _, _⟩ := hW
  have hA : DataW.TrodAll enc Try.prog W 0 (fun _ => true) true Try.f4.params.toList args.toList ds p := hA0
  rw [Try.params4] at hA hval
  obtain ⟨v0, v1, v2, d0, d1, d2, p0, p1, p2, rfl, rfl, _, h0, h1, h2⟩ := trodAll_three hA
  clear hA hA0 hval0
  obtain ⟨x0a, x0b, x0c, rfl, hx0a, hx0b, hx0c⟩ := open_i3 Try.underlying36 (by kernel_rfl) (by kernel_rfl) Try.underlying3 Try.underlying3 Try.underlying3 (hval 0 36 v0 rfl rfl) h0
  obtain ⟨x1, rfl, hx1⟩ := open_i1 Try.underlying3 (hval 1 3 v1 rfl rfl) h1
  obtain ⟨x2a, x2b, x2c, rfl, hx2a, hx2b, hx2c⟩ := open_i3 Try.underlying38 (by kernel_rfl) (by kernel_rfl) Try.underlying3 Try.underlying3 Try.underlying3 (hval 2 38 v2 rfl rfl) h2
  refine (law_FnExactGoldLoss x0a x0b x0c x1 x2a x2b x2c W hx0a hx0b hx0c hx1 hx2a hx2b hx2c).mono fun e W' ⟨he, hb⟩ => ⟨_, he, post_law lift_laid (by intro t ht; rw [Try.params4] at ht; simp only [List.mem_cons, List.not_mem_nil, or_false] at ht; rcases ht with rfl | rfl | rfl <;> exact ⟨by kernel_rfl, of_decide_eq_true (by kernel_rfl)⟩) (by kernel_rfl) Try.underlying4 rfl hW' ?_ hb⟩
  intro xs hx
  rw [Try.params4] at hx
  match xs, hx with
  | [_, _, _], _ => rfl

/-- FnExactGoldLoss returns true for all arguments, whatever lies in memory. No condition. -/
theorem fnExactGoldLoss_holds : Rows.FnExactGoldLossSaid :=
  OpenClaim.holds_of_wide 4 Try.f4 rfl rfl rfl rfl rfl rfl rfl ⟨rfl, rfl, rfl, rfl, rfl⟩ rfl rfl rfl rfl rfl (by kernel_rfl) Try.func4 (by kernel_rfl)
    (of_decide_eq_true (by kernel_rfl)) (by unfold Func.isWrapper; rw [if_neg (of_decide_eq_false (by kernel_rfl))]; exact ⟨rfl, rfl⟩)
    (fun os started H enc _ => fnExactGoldLoss_lifted os started H enc)

end Go.Proofs.Ytmdpacgoijnonaa
