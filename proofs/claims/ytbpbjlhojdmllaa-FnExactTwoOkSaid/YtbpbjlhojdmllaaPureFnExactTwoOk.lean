/- Proved: TwoOk of the program and of the reference agree at every pair of ints. Conditions: none. -/
import Derived.Test.YtbpbjlhojdmllaaSayFnExactTwoOk
set_option linter.unusedVariables false
set_option linter.unusedSimpArgs false
namespace Go.Proofs.Ytbpbjlhojdmllaa.Pure
open Go.RowKit Go.Proofs.Ytbpbjlhojdmllaa.PFnExactTwoOk Go.Proofs.YtbpbjlhojdmllaaW.PrintWords Go.Proofs.YtbpbjlhojdmllaaW.PrintLast

theorem ok_eq (a : Int) : impl_FpOk.f a = spec_FpOk.f a := by
  unfold impl_FpOk.f spec_FpOk.f spec_l01In.f
  by_cases h : a ≥ 0
  · by_cases h2 : a < 12107
    · simp [h, h2, show a ≤ 12106 by omega]
    · simp [h, h2, show ¬ a ≤ 12106 by omega]
  · simp [h]
theorem ok_some (a : Int) : ∃ r, spec_FpOk.f a = some r := by
  unfold spec_FpOk.f spec_l01In.f
  split <;> exact ⟨_, rfl⟩
theorem FnExactTwoOk : laws_FnExactTwoOk.Pure := by
  intro a b _ _
  unfold laws_FnExactTwoOk.f spec_TwoOk.f impl_TwoOk.f laws_toTwo.f
  obtain ⟨x, hx⟩ := ok_some a
  obtain ⟨y, hy⟩ := ok_some b
  simp only [Option.bind_some, ok_eq, hx, hy]
  cases x <;> simp

end Go.Proofs.Ytbpbjlhojdmllaa.Pure
