/- Proved: FpOk of the program and of the reference agree at every int. Conditions: none. -/
import Derived.Test.YtbpbjlhojdmllaaPFnExactFpOkx1
set_option linter.unusedVariables false
set_option linter.unusedSimpArgs false
namespace Go.Proofs.Ytbpbjlhojdmllaa.Pure
open Go.RowKit Go.Proofs.Ytbpbjlhojdmllaa.PFnExactFpOk Go.Proofs.YtbpbjlhojdmllaaW.PrintWords Go.Proofs.YtbpbjlhojdmllaaW.PrintLast

theorem FnExactFpOk : laws_FnExactFpOk.Pure := by
  intro a _
  unfold laws_FnExactFpOk.f impl_FpOk.f spec_FpOk.f spec_l01In.f
  by_cases h : a ≥ 0
  · by_cases h2 : a < 12107
    · simp [h, h2, show a ≤ 12106 by omega]
    · simp [h, h2, show ¬ a ≤ 12106 by omega]
  · simp [h]

end Go.Proofs.Ytbpbjlhojdmllaa.Pure
