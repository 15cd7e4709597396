/- The pure statement of the law FnExactTwoTurn, over the printed functions, and its walk: out of it the Go call answers true. Conditions: none. -/
import Derived.Test.YtaaimmobggkhbaaPFnExactTwoTurnx1
namespace Go.Proofs.Ytaaimmobggkhbaa.PFnExactTwoTurn
open Go.RowKit Go.Proofs.YtaaimmobggkhbaaW.PrintWords Go.Proofs.YtaaimmobggkhbaaW.PrintLast Go.Proofs.YtaaimmobggkhbaaW.PrintMore
def laws_FnExactTwoTurn.Pure : Prop := ∀ (a0_0 : Int) (a0_1 : Int), (Lit.int .i64 a0_0).wf = true → (Lit.int .i64 a0_1).wf = true → laws_FnExactTwoTurn.f a0_0 a0_1 = some true
theorem laws_FnExactTwoTurn.walk (P : laws_FnExactTwoTurn.Pure) (a0_0 : Int) (a0_1 : Int) (w : World) (w0_0 : (Lit.int .i64 a0_0).wf = true) (w0_1 : (Lit.int .i64 a0_1).wf = true) :
    Calls Try.prog 4 #[.agg #[.int .i64 a0_0, .int .i64 a0_1]] w fun e w' => e = .returned (.bool true) ∧ Below w.heap.size w w' := by
  have h := P a0_0 a0_1 w0_0 w0_1
  exact laws_FnExactTwoTurn.calls a0_0 a0_1 true w h
end Go.Proofs.Ytaaimmobggkhbaa.PFnExactTwoTurn
