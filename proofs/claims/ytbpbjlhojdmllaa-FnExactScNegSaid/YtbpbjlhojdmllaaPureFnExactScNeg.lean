/- Proved: ScNeg of the program and of the reference agree at every int. Conditions: none. -/
import Derived.Test.YtbpbjlhojdmllaaPFnExactScNegx1
set_option linter.unusedVariables false
set_option linter.unusedSimpArgs false
namespace Go.Proofs.Ytbpbjlhojdmllaa.Pure
open Go.RowKit Go.Proofs.Ytbpbjlhojdmllaa.PFnExactScNeg Go.Proofs.YtbpbjlhojdmllaaW.PrintWords Go.Proofs.YtbpbjlhojdmllaaW.PrintLast

theorem of_eq (a : Int) : impl_ScOf.f a = spec_ScOf.f a := by
  unfold impl_ScOf.f impl_remainder.f spec_ScOf.f
  rw [if_neg (by decide)]
  split <;> rfl
theorem of_some (a : Int) : ∃ r, spec_ScOf.f a = some r := by
  unfold spec_ScOf.f
  split <;> exact ⟨_, rfl⟩
theorem FnExactScNeg : laws_FnExactScNeg.Pure := by
  intro a _
  unfold laws_FnExactScNeg.f spec_ScNeg.f impl_ScNeg.f
  obtain ⟨x, hx⟩ := of_some a
  obtain ⟨y, hy⟩ := of_some (wrap64 (-x))
  simp only [of_eq, hx, hy, Option.bind_some]
  simp

end Go.Proofs.Ytbpbjlhojdmllaa.Pure
