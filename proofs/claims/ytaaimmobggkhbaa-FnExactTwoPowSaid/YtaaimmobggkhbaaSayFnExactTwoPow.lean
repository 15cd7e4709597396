/- The pure statement of the law FnExactTwoPow, over the printed functions, and its walk: out of it the Go call answers true. Conditions: none. -/
import Derived.Test.YtaaimmobggkhbaaPFnExactTwoPowx3
namespace Go.Proofs.Ytaaimmobggkhbaa.PFnExactTwoPow
open Go.RowKit Go.Proofs.YtaaimmobggkhbaaW.PrintWords Go.Proofs.YtaaimmobggkhbaaW.PrintLast Go.Proofs.YtaaimmobggkhbaaW.PrintMore
def laws_FnExactTwoPow.Pure : Prop := ∀ (a0_0 : Int) (a0_1 : Int) (a1 : Int), (Lit.int .i64 a0_0).wf = true → (Lit.int .i64 a0_1).wf = true → (Lit.int .i64 a1).wf = true → ∃ k, laws_FnExactTwoPow.f k a0_0 a0_1 a1 = some true
theorem laws_FnExactTwoPow.walk (P : laws_FnExactTwoPow.Pure) (a0_0 : Int) (a0_1 : Int) (a1 : Int) (w : World) (w0_0 : (Lit.int .i64 a0_0).wf = true) (w0_1 : (Lit.int .i64 a0_1).wf = true) (w1 : (Lit.int .i64 a1).wf = true) :
    Calls Try.prog 11 #[.agg #[.int .i64 a0_0, .int .i64 a0_1], .int .i64 a1] w fun e w' => e = .returned (.bool true) ∧ Below w.heap.size w w' := by
  obtain ⟨k, h⟩ := P a0_0 a0_1 a1 w0_0 w0_1 w1
  exact laws_FnExactTwoPow.calls k a0_0 a0_1 a1 true w h
end Go.Proofs.Ytaaimmobggkhbaa.PFnExactTwoPow
