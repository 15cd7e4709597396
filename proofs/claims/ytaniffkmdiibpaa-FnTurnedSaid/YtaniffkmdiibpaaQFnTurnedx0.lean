/- The Go functions of FnTurned as Lean functions, each with its walk: begun as a text of the print, turned where that fell. Conditions: none. -/
import Derived.Test.YtaniffkmdiibpaaProg
import Derived.Below
import Derived.Deep.Draws
import Derived.Deep.AppendLies
import Derived.Maps.AppendAt
import Derived.OwnWalk
import Derived.Laws.BytesArg
import Derived.Laws.MakeOwn
import Derived.Laws.OwnMore
import Derived.Deep.OwnRows
import Derived.Tactics
import Derived.Lib.ConvBytes
import Derived.Laws.Slices
import Derived.WalkKit
import Derived.KernelRfl
import Derived.RowKit3
import Derived.Deep.LoopGhost
import Derived.Deep.QuietTactic
import Derived.BigQuiet
import Derived.WideLaws
import Derived.Deep.DeepCutAuto
import Derived.Deep.CutBlock
import Derived.Deep.RegionHeld3
import Derived.Laws.Rows
import Derived.Lib.AppendStr
import Derived.ArgAppend
import Derived.Laws.IdiomCopy
import Derived.OrdersHeld
import Derived.Laws.BitsLemmas
import Derived.RowKit
import Derived.Test.YtaniffkmdiibpaaWWords
import Derived.Test.YtaniffkmdiibpaaWLast
import Derived.Test.YtaniffkmdiibpaaWTab
import Derived.Test.YtaniffkmdiibpaaWFour
import Derived.Test.YtaniffkmdiibpaaWQPut
import Derived.Test.YtaniffkmdiibpaaWApart
import Derived.Test.YtaniffkmdiibpaaWArr
import Derived.Test.YtaniffkmdiibpaaWZeros
import Derived.Test.YtaniffkmdiibpaaWFoot
import Derived.Test.YtaniffkmdiibpaaWKept
import Derived.Test.YtaniffkmdiibpaaWShare
import Derived.Test.YtaniffkmdiibpaaWN
import Derived.Test.YtaniffkmdiibpaaWFootNe
import Derived.Test.YtaniffkmdiibpaaWAt
import Derived.Test.YtaniffkmdiibpaaWEqStruct
import Derived.Test.YtaniffkmdiibpaaWRepsOne
import Derived.Test.YtaniffkmdiibpaaWInv
import Derived.Test.YtaniffkmdiibpaaWInvWords
import Derived.Test.YtaniffkmdiibpaaWGuard
import Derived.Test.YtaniffkmdiibpaaWNEv
import Derived.Test.YtaniffkmdiibpaaWMore
namespace Go.Proofs.Ytaniffkmdiibpaa.PFnTurned
open Go.RowKit Go.Proofs.YtaniffkmdiibpaaW.PrintWords Go.Proofs.YtaniffkmdiibpaaW.PrintLast Go.Proofs.YtaniffkmdiibpaaW.PrintMore
attribute [local go_sem] max2_int min2_int max_two min_two max_three min_three max_four min_four   -- for this text's walks alone
set_option linter.unusedVariables false
set_option linter.unusedSimpArgs false



def errW : Option Int → Value
  | none => .nilIface
  | some c => .iface 0 (.int .i64 c)
theorem errW_none : errW none = .nilIface := rfl
theorem errW_some (c : Int) : errW (some c) = .iface 0 (.int .i64 c) := rfl

theorem info3 : (Try.prog.info? 3).map (fun i => (i.zero, i.size, i.bytes)) = some (some (.int .i64 0), 1, 8) := by kernel_rfl
theorem info5 : (Try.prog.info? 5).map (fun i => (i.zero, i.size, i.bytes)) = some (some (.int .u8 0), 1, 1) := by kernel_rfl
-- the values' own types

end Go.Proofs.Ytaniffkmdiibpaa.PFnTurned
