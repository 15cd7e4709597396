/- The pure statement of the law FnExactInGroup, over the printed functions, and its walk: out of it the Go call answers true. Conditions: none. -/
import Derived.Test.YtfigfpfgeoadbaaQFnExactInGroupx4
namespace Go.Proofs.Ytfigfpfgeoadbaa.PFnExactInGroup
open Go.RowKit Go.Proofs.YtfigfpfgeoadbaaW.PrintWords Go.Proofs.YtfigfpfgeoadbaaW.PrintLast Go.Proofs.YtfigfpfgeoadbaaW.PrintMore
def laws_FnExactInGroup.Pure : Prop := ∀ (a0_0 : Int) (a0_1 : Int) (a0_2 : Bool), (Lit.int .i64 a0_0).wf = true → (Lit.int .i64 a0_1).wf = true → ∃ k, laws_FnExactInGroup.f k a0_0 a0_1 a0_2 = some true
theorem laws_FnExactInGroup.walk (P : laws_FnExactInGroup.Pure) (a0_0 : Int) (a0_1 : Int) (a0_2 : Bool) (w : World) (w0_0 : (Lit.int .i64 a0_0).wf = true) (w0_1 : (Lit.int .i64 a0_1).wf = true) :
    Calls Try.prog 5 #[.agg #[.int .i64 a0_0, .int .i64 a0_1, .bool a0_2]] w fun e w' => e = .returned (.bool true) ∧ Below w.heap.size w w' := by
  obtain ⟨k, h⟩ := P a0_0 a0_1 a0_2 w0_0 w0_1
  exact laws_FnExactInGroup.calls k a0_0 a0_1 a0_2 true w h
end Go.Proofs.Ytfigfpfgeoadbaa.PFnExactInGroup
