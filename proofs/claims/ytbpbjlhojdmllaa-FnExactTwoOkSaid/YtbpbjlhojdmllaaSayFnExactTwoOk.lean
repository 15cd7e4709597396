/- The pure statement of the law FnExactTwoOk, over the printed functions, and its walk: out of it the Go call answers true. Conditions: none. -/
import Derived.Test.YtbpbjlhojdmllaaPFnExactTwoOkx1
namespace Go.Proofs.Ytbpbjlhojdmllaa.PFnExactTwoOk
open Go.RowKit Go.Proofs.YtbpbjlhojdmllaaW.PrintWords Go.Proofs.YtbpbjlhojdmllaaW.PrintLast Go.Proofs.YtbpbjlhojdmllaaW.PrintMore
def laws_FnExactTwoOk.Pure : Prop := ∀ (a0_0 : Int) (a0_1 : Int), (Lit.int .i64 a0_0).wf = true → (Lit.int .i64 a0_1).wf = true → laws_FnExactTwoOk.f a0_0 a0_1 = some true
theorem laws_FnExactTwoOk.walk (P : laws_FnExactTwoOk.Pure) (a0_0 : Int) (a0_1 : Int) (w : World) (w0_0 : (Lit.int .i64 a0_0).wf = true) (w0_1 : (Lit.int .i64 a0_1).wf = true) :
    Calls Try.prog 5 #[.agg #[.int .i64 a0_0, .int .i64 a0_1]] w fun e w' => e = .returned (.bool true) ∧ Below w.heap.size w w' := by
  have h := P a0_0 a0_1 w0_0 w0_1
  exact laws_FnExactTwoOk.calls a0_0 a0_1 true w h
end Go.Proofs.Ytbpbjlhojdmllaa.PFnExactTwoOk
