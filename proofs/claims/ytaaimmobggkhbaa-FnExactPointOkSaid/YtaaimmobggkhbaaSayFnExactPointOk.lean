/- The pure statement of the law FnExactPointOk, over the printed functions, and its walk: out of it the Go call answers true. Conditions: none. -/
import Derived.Test.YtaaimmobggkhbaaPFnExactPointOkx1
namespace Go.Proofs.Ytaaimmobggkhbaa.PFnExactPointOk
open Go.RowKit Go.Proofs.YtaaimmobggkhbaaW.PrintWords Go.Proofs.YtaaimmobggkhbaaW.PrintLast Go.Proofs.YtaaimmobggkhbaaW.PrintMore
def laws_FnExactPointOk.Pure : Prop := ∀ (a0_0 : Int) (a0_1 : Int) (a0_2 : Bool), (Lit.int .i64 a0_0).wf = true → (Lit.int .i64 a0_1).wf = true → laws_FnExactPointOk.f a0_0 a0_1 a0_2 = some true
theorem laws_FnExactPointOk.walk (P : laws_FnExactPointOk.Pure) (a0_0 : Int) (a0_1 : Int) (a0_2 : Bool) (w : World) (w0_0 : (Lit.int .i64 a0_0).wf = true) (w0_1 : (Lit.int .i64 a0_1).wf = true) :
    Calls Try.prog 14 #[.agg #[.int .i64 a0_0, .int .i64 a0_1, .bool a0_2]] w fun e w' => e = .returned (.bool true) ∧ Below w.heap.size w w' := by
  have h := P a0_0 a0_1 a0_2 w0_0 w0_1
  exact laws_FnExactPointOk.calls a0_0 a0_1 a0_2 true w h
end Go.Proofs.Ytaaimmobggkhbaa.PFnExactPointOk
