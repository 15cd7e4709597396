/- The Go functions of FnExactPartsOf as Lean functions, each with its walk: begun as a text of the print, turned where that fell. Conditions: none. -/
import Derived.Test.YtfigfpfgeoadbaaDoorProg
import Derived.Below
import Derived.Deep.Draws
import Derived.Deep.AppendLies
import Derived.Maps.AppendAt
import Derived.OwnWalk
import Derived.Laws.BytesArg
import Derived.Laws.MakeOwn
import Derived.Laws.OwnMore
import Derived.Deep.OwnRows
import Derived.Tactics
import Derived.Lib.ConvBytes
import Derived.Laws.Slices
import Derived.WalkKit
import Derived.KernelRfl
import Derived.RowKit3
import Derived.Deep.LoopGhost
import Derived.Deep.QuietTactic
import Derived.BigQuiet
import Derived.WideLaws
import Derived.Deep.DeepCutAuto
import Derived.Deep.CutBlock
import Derived.Deep.RegionHeld3
import Derived.Laws.Rows
import Derived.Lib.AppendStr
import Derived.ArgAppend
import Derived.Laws.IdiomCopy
import Derived.OrdersHeld
import Derived.Laws.BitsLemmas
import Derived.RowKit
import Derived.Test.YtfigfpfgeoadbaaDoorWWords
import Derived.Test.YtfigfpfgeoadbaaDoorWLast
import Derived.Test.YtfigfpfgeoadbaaDoorWTab
import Derived.Test.YtfigfpfgeoadbaaDoorWFour
import Derived.Test.YtfigfpfgeoadbaaDoorWQPut
import Derived.Test.YtfigfpfgeoadbaaDoorWApart
import Derived.Test.YtfigfpfgeoadbaaDoorWArr
import Derived.Test.YtfigfpfgeoadbaaDoorWZeros
import Derived.Test.YtfigfpfgeoadbaaDoorWFoot
import Derived.Test.YtfigfpfgeoadbaaDoorWKept
import Derived.Test.YtfigfpfgeoadbaaDoorWShare
import Derived.Test.YtfigfpfgeoadbaaDoorWN
import Derived.Test.YtfigfpfgeoadbaaDoorWFootNe
import Derived.Test.YtfigfpfgeoadbaaDoorWAt
import Derived.Test.YtfigfpfgeoadbaaDoorWEqStruct
import Derived.Test.YtfigfpfgeoadbaaDoorWRepsOne
import Derived.Test.YtfigfpfgeoadbaaDoorWInv
import Derived.Test.YtfigfpfgeoadbaaDoorWInvWords
import Derived.Test.YtfigfpfgeoadbaaDoorWGuard
import Derived.Test.YtfigfpfgeoadbaaDoorWNEv
import Derived.Test.YtfigfpfgeoadbaaDoorWMore
namespace Go.Proofs.YtfigfpfgeoadbaaDoor.PFnExactPartsOf
open Go.RowKit Go.Proofs.YtfigfpfgeoadbaaDoorW.PrintWords Go.Proofs.YtfigfpfgeoadbaaDoorW.PrintLast Go.Proofs.YtfigfpfgeoadbaaDoorW.PrintMore
attribute [local go_sem] max2_int min2_int max_two min_two max_three min_three max_four min_four   -- for this text's walks alone
set_option linter.unusedVariables false
set_option linter.unusedSimpArgs false



def errW : Option Int → Value
  | none => .nilIface
  | some c => .iface 0 (.int .i64 c)
theorem errW_none : errW none = .nilIface := rfl
theorem errW_some (c : Int) : errW (some c) = .iface 0 (.int .i64 c) := rfl

theorem info5 : (Tryd.prog.info? 5).map (fun i => (i.zero, i.size, i.bytes)) = some (some (.int .u8 0), 1, 1) := by kernel_rfl
theorem info9 : (Tryd.prog.info? 9).map (fun i => (i.zero, i.size, i.bytes)) = some (some (.string ⟨#[]⟩), 1, 16) := by kernel_rfl
-- the values' own types

end Go.Proofs.YtfigfpfgeoadbaaDoor.PFnExactPartsOf
