/- The pure statement of the law FnExactTwoMul, over the printed functions, and its walk: out of it the Go call answers true. Conditions: none. -/
import Derived.Test.YtaaimmobggkhbaaPFnExactTwoMulx2
namespace Go.Proofs.Ytaaimmobggkhbaa.PFnExactTwoMul
open Go.RowKit Go.Proofs.YtaaimmobggkhbaaW.PrintWords Go.Proofs.YtaaimmobggkhbaaW.PrintLast Go.Proofs.YtaaimmobggkhbaaW.PrintMore
def laws_FnExactTwoMul.Pure : Prop := ∀ (a0_0 : Int) (a0_1 : Int) (a1_0 : Int) (a1_1 : Int), (Lit.int .i64 a0_0).wf = true → (Lit.int .i64 a0_1).wf = true → (Lit.int .i64 a1_0).wf = true → (Lit.int .i64 a1_1).wf = true → laws_FnExactTwoMul.f a0_0 a0_1 a1_0 a1_1 = some true
theorem laws_FnExactTwoMul.walk (P : laws_FnExactTwoMul.Pure) (a0_0 : Int) (a0_1 : Int) (a1_0 : Int) (a1_1 : Int) (w : World) (w0_0 : (Lit.int .i64 a0_0).wf = true) (w0_1 : (Lit.int .i64 a0_1).wf = true) (w1_0 : (Lit.int .i64 a1_0).wf = true) (w1_1 : (Lit.int .i64 a1_1).wf = true) :
    Calls Try.prog 8 #[.agg #[.int .i64 a0_0, .int .i64 a0_1], .agg #[.int .i64 a1_0, .int .i64 a1_1]] w fun e w' => e = .returned (.bool true) ∧ Below w.heap.size w w' := by
  have h := P a0_0 a0_1 a1_0 a1_1 w0_0 w0_1 w1_0 w1_1
  exact laws_FnExactTwoMul.calls a0_0 a0_1 a1_0 a1_1 true w h
end Go.Proofs.Ytaaimmobggkhbaa.PFnExactTwoMul
