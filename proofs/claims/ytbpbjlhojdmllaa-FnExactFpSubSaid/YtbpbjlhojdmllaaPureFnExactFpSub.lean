/- Proved: FpSub of the program and of the reference agree at every two ints. Conditions: none. -/
import Derived.Test.YtbpbjlhojdmllaaPFnExactFpSubx1
set_option linter.unusedVariables false
set_option linter.unusedSimpArgs false
namespace Go.Proofs.Ytbpbjlhojdmllaa.Pure
open Go.RowKit Go.Proofs.Ytbpbjlhojdmllaa.PFnExactFpSub Go.Proofs.YtbpbjlhojdmllaaW.PrintWords Go.Proofs.YtbpbjlhojdmllaaW.PrintLast

theorem of_eq (a : Int) : impl_FpOf.f a = spec_FpOf.f a := by
  unfold impl_FpOf.f impl_remainder.f spec_FpOf.f
  rw [if_neg (by decide)]
  split <;> rfl
theorem of_some (a : Int) : ∃ r, spec_FpOf.f a = some r := by
  unfold spec_FpOf.f
  split <;> exact ⟨_, rfl⟩
theorem FnExactFpSub : laws_FnExactFpSub.Pure := by
  intro a b _ _
  unfold laws_FnExactFpSub.f spec_FpSub.f impl_FpSub.f
  obtain ⟨x, hx⟩ := of_some a
  obtain ⟨y, hy⟩ := of_some b
  simp only [of_eq, hx, hy, Option.bind_some]
  obtain ⟨z, hz⟩ := of_some (wrap64 (x - y))
  rw [hz]
  simp

end Go.Proofs.Ytbpbjlhojdmllaa.Pure
