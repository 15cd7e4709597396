/- The pure statement of the law FnExactPointText, over the printed functions, and its walk: out of it the Go call answers true. Conditions: none. -/
import Derived.Test.YtaniffkmdiibpaaPFnExactPointTextx1
namespace Go.Proofs.Ytaniffkmdiibpaa.PFnExactPointText
open Go.RowKit Go.Proofs.YtaniffkmdiibpaaW.PrintWords Go.Proofs.YtaniffkmdiibpaaW.PrintLast Go.Proofs.YtaniffkmdiibpaaW.PrintMore
def laws_FnExactPointText.Pure : Prop := ∀ (a0_0 : Int) (a0_1 : Int) (a0_2 : Bool), (Lit.int .i64 a0_0).wf = true → (Lit.int .i64 a0_1).wf = true → laws_FnExactPointText.f a0_0 a0_1 a0_2 = some true
theorem laws_FnExactPointText.walk (P : laws_FnExactPointText.Pure) (a0_0 : Int) (a0_1 : Int) (a0_2 : Bool) (w : World) (w0_0 : (Lit.int .i64 a0_0).wf = true) (w0_1 : (Lit.int .i64 a0_1).wf = true) :
    Calls Try.prog 13 #[.agg #[.int .i64 a0_0, .int .i64 a0_1, .bool a0_2]] w fun e w' => e = .returned (.bool true) ∧ Below w.heap.size w w' := by
  have h := P a0_0 a0_1 a0_2 w0_0 w0_1
  exact laws_FnExactPointText.calls a0_0 a0_1 a0_2 true w h
end Go.Proofs.Ytaniffkmdiibpaa.PFnExactPointText
