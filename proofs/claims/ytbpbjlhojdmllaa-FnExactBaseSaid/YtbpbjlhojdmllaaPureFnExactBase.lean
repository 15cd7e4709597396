/- Proved: Base of the program and of the reference agree. Conditions: none. -/
import Derived.Test.YtbpbjlhojdmllaaPFnExactBasex1
set_option linter.unusedVariables false
set_option linter.unusedSimpArgs false
namespace Go.Proofs.Ytbpbjlhojdmllaa.Pure
open Go.RowKit Go.Proofs.Ytbpbjlhojdmllaa.PFnExactBase Go.Proofs.YtbpbjlhojdmllaaW.PrintWords Go.Proofs.YtbpbjlhojdmllaaW.PrintLast

theorem FnExactBase : laws_FnExactBase.Pure := rfl

end Go.Proofs.Ytbpbjlhojdmllaa.Pure
