/- Proved: ScOf of the program and of the reference agree at every int. Conditions: none. -/
import Derived.Test.YtbpbjlhojdmllaaPFnExactScOfx1
set_option linter.unusedVariables false
set_option linter.unusedSimpArgs false
namespace Go.Proofs.Ytbpbjlhojdmllaa.Pure
open Go.RowKit Go.Proofs.Ytbpbjlhojdmllaa.PFnExactScOf Go.Proofs.YtbpbjlhojdmllaaW.PrintWords Go.Proofs.YtbpbjlhojdmllaaW.PrintLast

theorem of_eq (a : Int) : impl_ScOf.f a = spec_ScOf.f a := by
  unfold impl_ScOf.f impl_remainder.f spec_ScOf.f
  rw [if_neg (by decide)]
  split <;> rfl
theorem of_some (a : Int) : ∃ r, spec_ScOf.f a = some r := by
  unfold spec_ScOf.f
  split <;> exact ⟨_, rfl⟩
theorem FnExactScOf : laws_FnExactScOf.Pure := by
  intro a _
  unfold laws_FnExactScOf.f
  rw [of_eq]
  obtain ⟨r, hr⟩ := of_some a
  rw [hr]
  simp

end Go.Proofs.Ytbpbjlhojdmllaa.Pure
