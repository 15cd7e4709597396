/- Proved: FpOf of the program and of the reference agree at every int. Conditions: none. -/
import Derived.Test.YtbpbjlhojdmllaaPFnExactFpOfx1
set_option linter.unusedVariables false
set_option linter.unusedSimpArgs false
namespace Go.Proofs.Ytbpbjlhojdmllaa.Pure
open Go.RowKit Go.Proofs.Ytbpbjlhojdmllaa.PFnExactFpOf Go.Proofs.YtbpbjlhojdmllaaW.PrintWords Go.Proofs.YtbpbjlhojdmllaaW.PrintLast

theorem of_eq (a : Int) : impl_FpOf.f a = spec_FpOf.f a := by
  unfold impl_FpOf.f impl_remainder.f spec_FpOf.f
  rw [if_neg (by decide)]
  split <;> rfl
theorem of_some (a : Int) : ∃ r, spec_FpOf.f a = some r := by
  unfold spec_FpOf.f
  split <;> exact ⟨_, rfl⟩
theorem FnExactFpOf : laws_FnExactFpOf.Pure := by
  intro a _
  unfold laws_FnExactFpOf.f
  rw [of_eq]
  obtain ⟨r, hr⟩ := of_some a
  rw [hr]
  simp

end Go.Proofs.Ytbpbjlhojdmllaa.Pure
