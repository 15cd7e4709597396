/- The Go functions of FnExactKeccakPad as Lean functions, each with its walk: begun as a text of the print, turned where that fell. Conditions: none. -/
import Derived.Test.YtakejfhfkjnhlaaProg
import Derived.Below
import Derived.Deep.Draws
import Derived.Deep.AppendLies
import Derived.Maps.AppendAt
import Derived.OwnWalk
import Derived.Laws.BytesArg
import Derived.Laws.MakeOwn
import Derived.Laws.OwnMore
import Derived.Deep.OwnRows
import Derived.Tactics
import Derived.Lib.ConvBytes
import Derived.Laws.Slices
import Derived.WalkKit
import Derived.KernelRfl
import Derived.RowKit3
import Derived.Deep.LoopGhost
import Derived.Deep.QuietTactic
import Derived.BigQuiet
import Derived.WideLaws
import Derived.Deep.DeepCutAuto
import Derived.Deep.CutBlock
import Derived.Deep.RegionHeld3
import Derived.Laws.Rows
import Derived.Lib.AppendStr
import Derived.ArgAppend
import Derived.Laws.IdiomCopy
import Derived.OrdersHeld
import Derived.Laws.BitsLemmas
import Derived.RowKit
import Derived.Test.YtakejfhfkjnhlaaWWords
import Derived.Test.YtakejfhfkjnhlaaWLast
import Derived.Test.YtakejfhfkjnhlaaWTab
import Derived.Test.YtakejfhfkjnhlaaWFour
import Derived.Test.YtakejfhfkjnhlaaWQPut
import Derived.Test.YtakejfhfkjnhlaaWApart
import Derived.Test.YtakejfhfkjnhlaaWArr
import Derived.Test.YtakejfhfkjnhlaaWZeros
import Derived.Test.YtakejfhfkjnhlaaWFoot
import Derived.Test.YtakejfhfkjnhlaaWKept
import Derived.Test.YtakejfhfkjnhlaaWShare
import Derived.Test.YtakejfhfkjnhlaaWN
import Derived.Test.YtakejfhfkjnhlaaWFootNe
import Derived.Test.YtakejfhfkjnhlaaWAt
import Derived.Test.YtakejfhfkjnhlaaWEqStruct
import Derived.Test.YtakejfhfkjnhlaaWRepsOne
import Derived.Test.YtakejfhfkjnhlaaWInv
import Derived.Test.YtakejfhfkjnhlaaWInvWords
import Derived.Test.YtakejfhfkjnhlaaWGuard
import Derived.Test.YtakejfhfkjnhlaaWNEv
import Derived.Test.YtakejfhfkjnhlaaWMore
namespace Go.Proofs.Ytakejfhfkjnhlaa.PFnExactKeccakPad
open Go.RowKit Go.Proofs.YtakejfhfkjnhlaaW.PrintWords Go.Proofs.YtakejfhfkjnhlaaW.PrintLast Go.Proofs.YtakejfhfkjnhlaaW.PrintMore
attribute [local go_sem] max2_int min2_int max_two min_two max_three min_three max_four min_four   -- for this text's walks alone
set_option linter.unusedVariables false
set_option linter.unusedSimpArgs false



def errW : Option Int → Value
  | none => .nilIface
  | some c => .iface 0 (.int .i64 c)
theorem errW_none : errW none = .nilIface := rfl
theorem errW_some (c : Int) : errW (some c) = .iface 0 (.int .i64 c) := rfl

theorem info5 : (Try.prog.info? 5).map (fun i => (i.zero, i.size, i.bytes)) = some (some (.int .u8 0), 1, 1) := by kernel_rfl
-- the values' own types

end Go.Proofs.Ytakejfhfkjnhlaa.PFnExactKeccakPad
