/- The given statement of FnExactLeastArmy: the call returns true for all arguments; no condition. -/
import Derived.Test.YtjcjmgfecmgmjaaLawsW
import Derived.Test.YtjcjmgfecmgmjaaLift
namespace Go.Proofs.Ytjcjmgfecmgmjaa
open Go.ChangeShapes Go.WideShapes Go.ChangeAt Go.RowKit Go.Joins

set_option maxRecDepth 100000 in
theorem fnExactLeastArmy_lifted (os : Os) (started : os.Started) (H : Type) (enc : TypeId × Value → H) :
    ReturnsInHanded {} Try.checked os 13 .any (Rows.fnExactLeastArmySpec.pre6 enc Try.prog Try.f13 Rows.fnExactLeastArmyRow.domain false) (Rows.fnExactLeastArmySpec.post enc Try.prog Try.f13 false true false false) := by
  refine returnsInHanded_of_change (C := Try.checked) lift_own started (by kernel_rfl) Try.func13
    (ChangeSpec.witness6 (enc := enc) (C := Try.checked) false ⟨#[], #[.int .i64 0], []⟩ 8 (by kernel_rfl) (by kernel_rfl) (by kernel_rfl) (by kernel_rfl)) ?_
  intro W base args ds gs before hval0 hW _ _
  have hval : ∀ (j : Nat) t v, Try.f13.params[j]? = some t → args[j]? = some v → Value.okWide Try.prog W .any base t v := hval0
  have hW' : DataW.Whole enc Try.prog Try.f13.params.toList Rows.fnExactLeastArmySpec.vars false W args.toList ds gs before := hW
  obtain ⟨p, q, hA0, _, _, _, _⟩ := hW
  have hA : DataW.TrodAll enc Try.prog W 0 (fun _ => true) true Try.f13.params.toList args.toList ds p := hA0
  rw [Try.params13] at hA hval
  obtain ⟨v0, d0, rfl, rfl, h0⟩ := trodAll_one hA
  clear hA hA0 hval0
  obtain ⟨x0, rfl, hx0⟩ := open_i1 Try.underlying3 (hval 0 3 v0 rfl rfl) h0
  refine (law_FnExactLeastArmy x0 W hx0).mono fun e W' ⟨he, hb⟩ => ⟨_, he, post_law lift_laid (by intro t ht; rw [Try.params13] at ht; simp only [List.mem_cons, List.not_mem_nil, or_false] at ht; subst ht; exact ⟨by kernel_rfl, of_decide_eq_true (by kernel_rfl)⟩) (by kernel_rfl) Try.underlying4 rfl hW' ?_ hb⟩
  intro xs hx
  rw [Try.params13] at hx
  match xs, hx with
  | [_], _ => rfl

/-- FnExactLeastArmy returns true for all arguments, whatever lies in memory. No condition. -/
theorem fnExactLeastArmy_holds : Rows.FnExactLeastArmySaid :=
  OpenClaim.holds_of_wide 13 Try.f13 rfl rfl rfl rfl rfl rfl rfl ⟨rfl, rfl, rfl, rfl, rfl⟩ rfl rfl rfl rfl rfl (by kernel_rfl) Try.func13 (by kernel_rfl)
    (of_decide_eq_true (by kernel_rfl)) (by unfold Func.isWrapper; rw [if_neg (of_decide_eq_false (by kernel_rfl))]; exact ⟨rfl, rfl⟩)
    (fun os started H enc _ => fnExactLeastArmy_lifted os started H enc)

end Go.Proofs.Ytjcjmgfecmgmjaa
