-- PRINTED BY print.sh 35421559b90ae4d0a3588c463048766b98c2df88dd9212a6774a882060cdf62d: not written by this session
import Derived.Test.YtbpbjlhojdmllaaProg
import Derived.Below
import Derived.Deep.Draws
import Derived.Deep.AppendLies
import Derived.Maps.AppendAt
import Derived.OwnWalk
import Derived.Laws.BytesArg
import Derived.Laws.MakeOwn
import Derived.Laws.OwnMore
import Derived.Deep.OwnRows
import Derived.Tactics
import Derived.Lib.ConvBytes
import Derived.Laws.Slices
import Derived.WalkKit
import Derived.KernelRfl
import Derived.RowKit3
import Derived.Deep.LoopGhost
import Derived.Deep.QuietTactic
import Derived.BigQuiet
import Derived.WideLaws
import Derived.Deep.DeepCutAuto
import Derived.Deep.CutBlock
import Derived.Deep.RegionHeld3
import Derived.Laws.Rows
import Derived.Lib.AppendStr
import Derived.ArgAppend
import Derived.Laws.IdiomCopy
import Derived.OrdersHeld
import Derived.Laws.BitsLemmas
import Derived.RowKit
import Derived.Test.YtbpbjlhojdmllaaWWords
import Derived.Test.YtbpbjlhojdmllaaWLast
import Derived.Test.YtbpbjlhojdmllaaWTab
import Derived.Test.YtbpbjlhojdmllaaWFour
import Derived.Test.YtbpbjlhojdmllaaWQPut
import Derived.Test.YtbpbjlhojdmllaaWApart
import Derived.Test.YtbpbjlhojdmllaaWArr
import Derived.Test.YtbpbjlhojdmllaaWZeros
import Derived.Test.YtbpbjlhojdmllaaWFoot
import Derived.Test.YtbpbjlhojdmllaaWKept
import Derived.Test.YtbpbjlhojdmllaaWShare
import Derived.Test.YtbpbjlhojdmllaaWN
import Derived.Test.YtbpbjlhojdmllaaWFootNe
import Derived.Test.YtbpbjlhojdmllaaWAt
import Derived.Test.YtbpbjlhojdmllaaWEqStruct
import Derived.Test.YtbpbjlhojdmllaaWRepsOne
import Derived.Test.YtbpbjlhojdmllaaWInv
import Derived.Test.YtbpbjlhojdmllaaWInvWords
import Derived.Test.YtbpbjlhojdmllaaWGuard
import Derived.Test.YtbpbjlhojdmllaaWNEv
import Derived.Test.YtbpbjlhojdmllaaWMore
namespace Go.Proofs.Ytbpbjlhojdmllaa.PFnExactTwoOk
open Go.RowKit Go.Proofs.YtbpbjlhojdmllaaW.PrintWords Go.Proofs.YtbpbjlhojdmllaaW.PrintLast Go.Proofs.YtbpbjlhojdmllaaW.PrintMore
attribute [local go_sem] max2_int min2_int max_two min_two max_three min_three max_four min_four   -- for this text's walks alone
set_option linter.unusedVariables false
set_option linter.unusedSimpArgs false



def errW : Option Int → Value
  | none => .nilIface
  | some c => .iface 0 (.int .i64 c)
theorem errW_none : errW none = .nilIface := rfl
theorem errW_some (c : Int) : errW (some c) = .iface 0 (.int .i64 c) := rfl

-- the values' own types

end Go.Proofs.Ytbpbjlhojdmllaa.PFnExactTwoOk
