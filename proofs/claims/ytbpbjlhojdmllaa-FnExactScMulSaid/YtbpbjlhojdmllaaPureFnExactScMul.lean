/- Proved: ScMul of the program and of the reference agree at every two ints. Conditions: none. -/
import Derived.Test.YtbpbjlhojdmllaaPFnExactScMulx1
set_option linter.unusedVariables false
set_option linter.unusedSimpArgs false
namespace Go.Proofs.Ytbpbjlhojdmllaa.Pure
open Go.RowKit Go.Proofs.Ytbpbjlhojdmllaa.PFnExactScMul Go.Proofs.YtbpbjlhojdmllaaW.PrintWords Go.Proofs.YtbpbjlhojdmllaaW.PrintLast

theorem of_eq (a : Int) : impl_ScOf.f a = spec_ScOf.f a := by
  unfold impl_ScOf.f impl_remainder.f spec_ScOf.f
  rw [if_neg (by decide)]
  split <;> rfl
theorem of_some (a : Int) : ∃ r, spec_ScOf.f a = some r := by
  unfold spec_ScOf.f
  split <;> exact ⟨_, rfl⟩
theorem FnExactScMul : laws_FnExactScMul.Pure := by
  intro a b _ _
  unfold laws_FnExactScMul.f spec_ScMul.f impl_ScMul.f
  obtain ⟨x, hx⟩ := of_some a
  obtain ⟨y, hy⟩ := of_some b
  simp only [of_eq, hx, hy, Option.bind_some]
  obtain ⟨z, hz⟩ := of_some (wrap64 (x * y))
  rw [hz]
  simp

end Go.Proofs.Ytbpbjlhojdmllaa.Pure
