/- The given statement of FnExactPairsOf: the call returns true for all arguments; no condition. -/
import Derived.Test.YtianfakgojmnpaaLawPairs
import Derived.Test.YtianfakgojmnpaaLift
namespace Go.Proofs.Ytianfakgojmnpaa
open Go.ChangeShapes Go.WideShapes Go.ChangeAt Go.RowKit Go.Joins

set_option maxRecDepth 100000 in
theorem fnExactPairsOf_lifted (os : Os) (started : os.Started) (H : Type) (enc : TypeId × Value → H) :
    ReturnsInHanded {} Try.checked os 5 .any (Rows.fnExactPairsOfSpec.pre6 enc Try.prog Try.f5 Rows.fnExactPairsOfRow.domain false) (Rows.fnExactPairsOfSpec.post enc Try.prog Try.f5 false true false false) := by
  refine returnsInHanded_of_change (C := Try.checked) lift_own started (by kernel_rfl) Try.func5
    (ChangeSpec.witness6 (enc := enc) (C := Try.checked) false ⟨#[], #[.agg #[.int .i64 0, .int .i64 0, .int .i64 0]], []⟩ 8 (by kernel_rfl) (by kernel_rfl) (by kernel_rfl) (by kernel_rfl)) ?_
  intro W base args ds gs before hval0 hW _ _
  have hval : ∀ (j : Nat) t v, Try.f5.params[j]? = some t → args[j]? = some v → Value.okWide Try.prog W .any base t v := hval0
  have hW' : DataW.Whole enc Try.prog Try.f5.params.toList Rows.fnExactPairsOfSpec.vars false W args.toList ds gs before := hW
  obtain ⟨p, q, hA0, _, _, _, _⟩ := hW
  have hA : DataW.TrodAll enc Try.prog W 0 (fun _ => true) true Try.f5.params.toList args.toList ds p := hA0
  rw [Try.params5] at hA hval
  obtain ⟨v0, d0, rfl, rfl, h0⟩ := trodAll_one hA
  clear hA hA0 hval0
  obtain ⟨x0a, x0b, x0c, rfl, hx0a, hx0b, hx0c⟩ := open_i3 Try.underlying40 (by kernel_rfl) (by kernel_rfl) Try.underlying3 Try.underlying3 Try.underlying3 (hval 0 40 v0 rfl rfl) h0
  refine (law_FnExactPairsOf x0a x0b x0c W hx0a hx0b hx0c).mono fun e W' ⟨he, hb⟩ => ⟨_, he, post_law lift_laid (by intro t ht; rw [Try.params5] at ht; simp only [List.mem_cons, List.not_mem_nil, or_false] at ht; subst ht; exact ⟨by kernel_rfl, of_decide_eq_true (by kernel_rfl)⟩) (by kernel_rfl) Try.underlying4 rfl hW' ?_ hb⟩
  intro xs hx
  rw [Try.params5] at hx
  match xs, hx with
  | [_], _ => rfl

/-- FnExactPairsOf returns true for all arguments, whatever lies in memory. No condition. -/
theorem fnExactPairsOf_holds : Rows.FnExactPairsOfSaid :=
  OpenClaim.holds_of_wide 5 Try.f5 rfl rfl rfl rfl rfl rfl rfl ⟨rfl, rfl, rfl, rfl, rfl⟩ rfl rfl rfl rfl rfl (by kernel_rfl) Try.func5 (by kernel_rfl)
    (of_decide_eq_true (by kernel_rfl)) (by unfold Func.isWrapper; rw [if_neg (of_decide_eq_false (by kernel_rfl))]; exact ⟨rfl, rfl⟩)
    (fun os started H enc _ => fnExactPairsOf_lifted os started H enc)

end Go.Proofs.Ytianfakgojmnpaa
