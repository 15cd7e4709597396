/- The pure statement of the law FnExactTwoInv, over the printed functions, and its walk: out of it the Go call answers true. Conditions: none. -/
import Derived.Test.YtaaimmobggkhbaaQFnExactTwoInvx2
namespace Go.Proofs.Ytaaimmobggkhbaa.PFnExactTwoInv
open Go.RowKit Go.Proofs.YtaaimmobggkhbaaW.PrintWords Go.Proofs.YtaaimmobggkhbaaW.PrintLast Go.Proofs.YtaaimmobggkhbaaW.PrintMore
def laws_FnExactTwoInv.Pure : Prop := ∀ (a0_0 : Int) (a0_1 : Int), (Lit.int .i64 a0_0).wf = true → (Lit.int .i64 a0_1).wf = true → ∃ k, laws_FnExactTwoInv.f k a0_0 a0_1 = some true
theorem laws_FnExactTwoInv.walk (P : laws_FnExactTwoInv.Pure) (a0_0 : Int) (a0_1 : Int) (w : World) (w0_0 : (Lit.int .i64 a0_0).wf = true) (w0_1 : (Lit.int .i64 a0_1).wf = true) :
    Calls Try.prog 12 #[.agg #[.int .i64 a0_0, .int .i64 a0_1]] w fun e w' => e = .returned (.bool true) ∧ Below w.heap.size w w' := by
  obtain ⟨k, h⟩ := P a0_0 a0_1 w0_0 w0_1
  exact laws_FnExactTwoInv.calls k a0_0 a0_1 true w h
end Go.Proofs.Ytaaimmobggkhbaa.PFnExactTwoInv
