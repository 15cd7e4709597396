/-
  No cell of these rows narrows 'for every input' (looked for: loops, veiled, ifaces, maps, wideKeys, modest, calm, conditions, laid).
  DERIVED. THE GIVEN ROWS OF THIS SEAT. 12 by the template 'for every input the law returns true; each argument reads behind the call as it read before'; 0 by the template 'total and deterministic' (their statements: YtbpbjlhojdmllaaTotals.lean).
  GIVEN WITH THE SEED: the statements are not yours to turn. If you find one false, say at which input.
  Laid BY PROGRAM, IN A SANDBOX (cutbox-rows.mjs): the forced cells as the released guide's own fill.sh prints them over the translation 51b27304c7782f5c… (all of the seat's roots in one cut). By AI agents, Wed Nov 11 2026. No macro, syntax, notation, axiom, sorry.
-/
import Derived.Test.YtbpbjlhojdmllaaChecked
import GoSem.Claim
import GoSem.ClaimJoined
import GoSem.ClaimMapViews
import Derived.JoinedTies
import Derived.KernelRfl
namespace Go.Proofs.Ytbpbjlhojdmllaa
/- THE CELL 'sum', in the pinned program and in every row, IS THE sha256 OF THE DUMP (.gsa) THAT YtbpbjlhojdmllaaProg.lean LOADS. Nothing in Lean hashes anything: it is a label: what it is worth is what the hold of that sum in a sandbox is worth. -/
noncomputable def Try.pinned : Pinned := { name := "ytbpbjlhojdmllaa", sum := "51b27304c7782f5c9b26dbfec9fb32dcd6ceff5bc72a8203b46ff7ca242390c8", checked := Try.checked }
namespace Rows
def none {H : Type} : Left H := { results := [], args := [] }

/-- 'laws.FnExactConstants': WHATEVER THE INPUT: true; the input reads as it did. -/
def fnExactConstantsSpec : ChangeSpec := { name := "fnExactConstants", fn := fun _ => fun
  | [] => { results := [.lit (.bool true)], args := [] }
  | _ => none }
def fnExactConstantsRow : OpenClaim := { program := "ytbpbjlhojdmllaa", sum := "51b27304c7782f5c9b26dbfec9fb32dcd6ceff5bc72a8203b46ff7ca242390c8", func := "loop.example/g00321/laws.FnExactConstants", spec := "fnExactConstants", apart := false }
def FnExactConstantsSaid : Prop := fnExactConstantsRow.holds Try.pinned (OpenSpec.ofChange fnExactConstantsSpec)

/-- ITS FALSE NEIGHBOUR: 'it returns false'. Refute it at one input. -/
def fnExactConstantsWrong : ChangeSpec := { name := "fnExactConstants", fn := fun _ => fun
  | [] => { results := [.lit (.bool false)], args := [] }
  | _ => none }
def FnExactConstantsWrongFalsely : Prop := fnExactConstantsRow.holds Try.pinned (OpenSpec.ofChange fnExactConstantsWrong)

/-- 'laws.FnExactFpOk': WHATEVER THE INPUT: true; the input reads as it did. -/
def fnExactFpOkSpec : ChangeSpec := { name := "fnExactFpOk", fn := fun _ => fun
  | [d] => { results := [.lit (.bool true)], args := [d] }
  | _ => none }
def fnExactFpOkRow : OpenClaim := { program := "ytbpbjlhojdmllaa", sum := "51b27304c7782f5c9b26dbfec9fb32dcd6ceff5bc72a8203b46ff7ca242390c8", func := "loop.example/g00321/laws.FnExactFpOk", spec := "fnExactFpOk", apart := false }
def FnExactFpOkSaid : Prop := fnExactFpOkRow.holds Try.pinned (OpenSpec.ofChange fnExactFpOkSpec)

/-- ITS FALSE NEIGHBOUR: 'it returns false'. Refute it at one input. -/
def fnExactFpOkWrong : ChangeSpec := { name := "fnExactFpOk", fn := fun _ => fun
  | [d] => { results := [.lit (.bool false)], args := [d] }
  | _ => none }
def FnExactFpOkWrongFalsely : Prop := fnExactFpOkRow.holds Try.pinned (OpenSpec.ofChange fnExactFpOkWrong)

/-- 'laws.FnExactTwoOk': WHATEVER THE INPUT: true; the input reads as it did. -/
def fnExactTwoOkSpec : ChangeSpec := { name := "fnExactTwoOk", fn := fun _ => fun
  | [d] => { results := [.lit (.bool true)], args := [d] }
  | _ => none }
def fnExactTwoOkRow : OpenClaim := { program := "ytbpbjlhojdmllaa", sum := "51b27304c7782f5c9b26dbfec9fb32dcd6ceff5bc72a8203b46ff7ca242390c8", func := "loop.example/g00321/laws.FnExactTwoOk", spec := "fnExactTwoOk", apart := false }
def FnExactTwoOkSaid : Prop := fnExactTwoOkRow.holds Try.pinned (OpenSpec.ofChange fnExactTwoOkSpec)

/-- ITS FALSE NEIGHBOUR: 'it returns false'. Refute it at one input. -/
def fnExactTwoOkWrong : ChangeSpec := { name := "fnExactTwoOk", fn := fun _ => fun
  | [d] => { results := [.lit (.bool false)], args := [d] }
  | _ => none }
def FnExactTwoOkWrongFalsely : Prop := fnExactTwoOkRow.holds Try.pinned (OpenSpec.ofChange fnExactTwoOkWrong)

/-- 'laws.FnExactBase': WHATEVER THE INPUT: true; the input reads as it did. -/
def fnExactBaseSpec : ChangeSpec := { name := "fnExactBase", fn := fun _ => fun
  | [] => { results := [.lit (.bool true)], args := [] }
  | _ => none }
def fnExactBaseRow : OpenClaim := { program := "ytbpbjlhojdmllaa", sum := "51b27304c7782f5c9b26dbfec9fb32dcd6ceff5bc72a8203b46ff7ca242390c8", func := "loop.example/g00321/laws.FnExactBase", spec := "fnExactBase", apart := false }
def FnExactBaseSaid : Prop := fnExactBaseRow.holds Try.pinned (OpenSpec.ofChange fnExactBaseSpec)

/-- ITS FALSE NEIGHBOUR: 'it returns false'. Refute it at one input. -/
def fnExactBaseWrong : ChangeSpec := { name := "fnExactBase", fn := fun _ => fun
  | [] => { results := [.lit (.bool false)], args := [] }
  | _ => none }
def FnExactBaseWrongFalsely : Prop := fnExactBaseRow.holds Try.pinned (OpenSpec.ofChange fnExactBaseWrong)

/-- 'laws.FnExactFpOf': WHATEVER THE INPUT: true; the input reads as it did. -/
def fnExactFpOfSpec : ChangeSpec := { name := "fnExactFpOf", fn := fun _ => fun
  | [d] => { results := [.lit (.bool true)], args := [d] }
  | _ => none }
def fnExactFpOfRow : OpenClaim := { program := "ytbpbjlhojdmllaa", sum := "51b27304c7782f5c9b26dbfec9fb32dcd6ceff5bc72a8203b46ff7ca242390c8", func := "loop.example/g00321/laws.FnExactFpOf", spec := "fnExactFpOf", apart := false }
def FnExactFpOfSaid : Prop := fnExactFpOfRow.holds Try.pinned (OpenSpec.ofChange fnExactFpOfSpec)

/-- ITS FALSE NEIGHBOUR: 'it returns false'. Refute it at one input. -/
def fnExactFpOfWrong : ChangeSpec := { name := "fnExactFpOf", fn := fun _ => fun
  | [d] => { results := [.lit (.bool false)], args := [d] }
  | _ => none }
def FnExactFpOfWrongFalsely : Prop := fnExactFpOfRow.holds Try.pinned (OpenSpec.ofChange fnExactFpOfWrong)

/-- 'laws.FnExactScOf': WHATEVER THE INPUT: true; the input reads as it did. -/
def fnExactScOfSpec : ChangeSpec := { name := "fnExactScOf", fn := fun _ => fun
  | [d] => { results := [.lit (.bool true)], args := [d] }
  | _ => none }
def fnExactScOfRow : OpenClaim := { program := "ytbpbjlhojdmllaa", sum := "51b27304c7782f5c9b26dbfec9fb32dcd6ceff5bc72a8203b46ff7ca242390c8", func := "loop.example/g00321/laws.FnExactScOf", spec := "fnExactScOf", apart := false }
def FnExactScOfSaid : Prop := fnExactScOfRow.holds Try.pinned (OpenSpec.ofChange fnExactScOfSpec)

/-- ITS FALSE NEIGHBOUR: 'it returns false'. Refute it at one input. -/
def fnExactScOfWrong : ChangeSpec := { name := "fnExactScOf", fn := fun _ => fun
  | [d] => { results := [.lit (.bool false)], args := [d] }
  | _ => none }
def FnExactScOfWrongFalsely : Prop := fnExactScOfRow.holds Try.pinned (OpenSpec.ofChange fnExactScOfWrong)

/-- 'laws.FnExactFpAdd': WHATEVER THE INPUT: true; the input reads as it did. -/
def fnExactFpAddSpec : ChangeSpec := { name := "fnExactFpAdd", fn := fun _ => fun
  | [d1, d2] => { results := [.lit (.bool true)], args := [d1, d2] }
  | _ => none }
def fnExactFpAddRow : OpenClaim := { program := "ytbpbjlhojdmllaa", sum := "51b27304c7782f5c9b26dbfec9fb32dcd6ceff5bc72a8203b46ff7ca242390c8", func := "loop.example/g00321/laws.FnExactFpAdd", spec := "fnExactFpAdd", apart := false }
def FnExactFpAddSaid : Prop := fnExactFpAddRow.holds Try.pinned (OpenSpec.ofChange fnExactFpAddSpec)

/-- ITS FALSE NEIGHBOUR: 'it returns false'. Refute it at one input. -/
def fnExactFpAddWrong : ChangeSpec := { name := "fnExactFpAdd", fn := fun _ => fun
  | [d1, d2] => { results := [.lit (.bool false)], args := [d1, d2] }
  | _ => none }
def FnExactFpAddWrongFalsely : Prop := fnExactFpAddRow.holds Try.pinned (OpenSpec.ofChange fnExactFpAddWrong)

/-- 'laws.FnExactFpMul': WHATEVER THE INPUT: true; the input reads as it did. -/
def fnExactFpMulSpec : ChangeSpec := { name := "fnExactFpMul", fn := fun _ => fun
  | [d1, d2] => { results := [.lit (.bool true)], args := [d1, d2] }
  | _ => none }
def fnExactFpMulRow : OpenClaim := { program := "ytbpbjlhojdmllaa", sum := "51b27304c7782f5c9b26dbfec9fb32dcd6ceff5bc72a8203b46ff7ca242390c8", func := "loop.example/g00321/laws.FnExactFpMul", spec := "fnExactFpMul", apart := false }
def FnExactFpMulSaid : Prop := fnExactFpMulRow.holds Try.pinned (OpenSpec.ofChange fnExactFpMulSpec)

/-- ITS FALSE NEIGHBOUR: 'it returns false'. Refute it at one input. -/
def fnExactFpMulWrong : ChangeSpec := { name := "fnExactFpMul", fn := fun _ => fun
  | [d1, d2] => { results := [.lit (.bool false)], args := [d1, d2] }
  | _ => none }
def FnExactFpMulWrongFalsely : Prop := fnExactFpMulRow.holds Try.pinned (OpenSpec.ofChange fnExactFpMulWrong)

/-- 'laws.FnExactFpSub': WHATEVER THE INPUT: true; the input reads as it did. -/
def fnExactFpSubSpec : ChangeSpec := { name := "fnExactFpSub", fn := fun _ => fun
  | [d1, d2] => { results := [.lit (.bool true)], args := [d1, d2] }
  | _ => none }
def fnExactFpSubRow : OpenClaim := { program := "ytbpbjlhojdmllaa", sum := "51b27304c7782f5c9b26dbfec9fb32dcd6ceff5bc72a8203b46ff7ca242390c8", func := "loop.example/g00321/laws.FnExactFpSub", spec := "fnExactFpSub", apart := false }
def FnExactFpSubSaid : Prop := fnExactFpSubRow.holds Try.pinned (OpenSpec.ofChange fnExactFpSubSpec)

/-- ITS FALSE NEIGHBOUR: 'it returns false'. Refute it at one input. -/
def fnExactFpSubWrong : ChangeSpec := { name := "fnExactFpSub", fn := fun _ => fun
  | [d1, d2] => { results := [.lit (.bool false)], args := [d1, d2] }
  | _ => none }
def FnExactFpSubWrongFalsely : Prop := fnExactFpSubRow.holds Try.pinned (OpenSpec.ofChange fnExactFpSubWrong)

/-- 'laws.FnExactScAdd': WHATEVER THE INPUT: true; the input reads as it did. -/
def fnExactScAddSpec : ChangeSpec := { name := "fnExactScAdd", fn := fun _ => fun
  | [d1, d2] => { results := [.lit (.bool true)], args := [d1, d2] }
  | _ => none }
def fnExactScAddRow : OpenClaim := { program := "ytbpbjlhojdmllaa", sum := "51b27304c7782f5c9b26dbfec9fb32dcd6ceff5bc72a8203b46ff7ca242390c8", func := "loop.example/g00321/laws.FnExactScAdd", spec := "fnExactScAdd", apart := false }
def FnExactScAddSaid : Prop := fnExactScAddRow.holds Try.pinned (OpenSpec.ofChange fnExactScAddSpec)

/-- ITS FALSE NEIGHBOUR: 'it returns false'. Refute it at one input. -/
def fnExactScAddWrong : ChangeSpec := { name := "fnExactScAdd", fn := fun _ => fun
  | [d1, d2] => { results := [.lit (.bool false)], args := [d1, d2] }
  | _ => none }
def FnExactScAddWrongFalsely : Prop := fnExactScAddRow.holds Try.pinned (OpenSpec.ofChange fnExactScAddWrong)

/-- 'laws.FnExactScMul': WHATEVER THE INPUT: true; the input reads as it did. -/
def fnExactScMulSpec : ChangeSpec := { name := "fnExactScMul", fn := fun _ => fun
  | [d1, d2] => { results := [.lit (.bool true)], args := [d1, d2] }
  | _ => none }
def fnExactScMulRow : OpenClaim := { program := "ytbpbjlhojdmllaa", sum := "51b27304c7782f5c9b26dbfec9fb32dcd6ceff5bc72a8203b46ff7ca242390c8", func := "loop.example/g00321/laws.FnExactScMul", spec := "fnExactScMul", apart := false }
def FnExactScMulSaid : Prop := fnExactScMulRow.holds Try.pinned (OpenSpec.ofChange fnExactScMulSpec)

/-- ITS FALSE NEIGHBOUR: 'it returns false'. Refute it at one input. -/
def fnExactScMulWrong : ChangeSpec := { name := "fnExactScMul", fn := fun _ => fun
  | [d1, d2] => { results := [.lit (.bool false)], args := [d1, d2] }
  | _ => none }
def FnExactScMulWrongFalsely : Prop := fnExactScMulRow.holds Try.pinned (OpenSpec.ofChange fnExactScMulWrong)

/-- 'laws.FnExactScNeg': WHATEVER THE INPUT: true; the input reads as it did. -/
def fnExactScNegSpec : ChangeSpec := { name := "fnExactScNeg", fn := fun _ => fun
  | [d] => { results := [.lit (.bool true)], args := [d] }
  | _ => none }
def fnExactScNegRow : OpenClaim := { program := "ytbpbjlhojdmllaa", sum := "51b27304c7782f5c9b26dbfec9fb32dcd6ceff5bc72a8203b46ff7ca242390c8", func := "loop.example/g00321/laws.FnExactScNeg", spec := "fnExactScNeg", apart := false }
def FnExactScNegSaid : Prop := fnExactScNegRow.holds Try.pinned (OpenSpec.ofChange fnExactScNegSpec)

/-- ITS FALSE NEIGHBOUR: 'it returns false'. Refute it at one input. -/
def fnExactScNegWrong : ChangeSpec := { name := "fnExactScNeg", fn := fun _ => fun
  | [d] => { results := [.lit (.bool false)], args := [d] }
  | _ => none }
def FnExactScNegWrongFalsely : Prop := fnExactScNegRow.holds Try.pinned (OpenSpec.ofChange fnExactScNegWrong)

/- THE SECOND FORM. 'bulk': how many values and letters a reading holds, each counted each time it is reached (what is shared counts as often as it is met; a slice's spare places count too). A statement '..UptoSaid' is the law's where the arguments, and the package variables that the reading takes, are together of bulk at most 1048576: NARROWER than '..Said'. Prove '..Said' where nothing that the law and all that it calls make is longer than what came in: it says more and counts as full. Else prove '..UptoSaid'. A law counts once. -/
mutual
def uptoBulk {H : Type} : DataW H → Nat
  | .lit (.string bytes) => bytes.length + 1
  | .lit _ => 1
  | .nil => 1
  | .ptr d => uptoBulk d + 1
  | .slice elems spare => uptoBulkAll elems + uptoBulkAll spare + 1
  | .agg parts => uptoBulkAll parts + 1
  | .iface _ d => uptoBulk d + 1
  | .map entries => uptoBulkEntries entries + 1
  | .held _ => 1
def uptoBulkAll {H : Type} : List (DataW H) → Nat
  | [] => 0
  | d :: r => uptoBulk d + uptoBulkAll r
def uptoBulkEntries {H : Type} : List (Lit × DataW H) → Nat
  | [] => 0
  | x :: r => uptoBulkEntry x + uptoBulkEntries r
def uptoBulkEntry {H : Type} : Lit × DataW H → Nat
  | (.string bytes, d) => bytes.length + uptoBulk d + 1
  | (_, d) => uptoBulk d + 1
 end
def uptoSmall : (H : Type) → List (DataW H) → Bool := fun _ ds => decide (uptoBulkAll ds ≤ 1048576)
def OpenSpec.upto (s : _root_.Go.ChangeSpec) : _root_.Go.OpenSpec := { _root_.Go.OpenSpec.ofChange s with cond := some uptoSmall }

/-- 'laws.FnExactConstants', WHERE WHAT IT READS IS OF BULK AT MOST 1048576: true; the input reads as it did. -/
def fnExactConstantsUptoRow : OpenClaim := { program := "ytbpbjlhojdmllaa", sum := "51b27304c7782f5c9b26dbfec9fb32dcd6ceff5bc72a8203b46ff7ca242390c8", func := "loop.example/g00321/laws.FnExactConstants", spec := "fnExactConstants", apart := false, narrowed := true }
def FnExactConstantsUptoSaid : Prop := fnExactConstantsUptoRow.holds Try.pinned (OpenSpec.upto fnExactConstantsSpec)

/-- 'laws.FnExactFpOk', WHERE WHAT IT READS IS OF BULK AT MOST 1048576: true; the input reads as it did. -/
def fnExactFpOkUptoRow : OpenClaim := { program := "ytbpbjlhojdmllaa", sum := "51b27304c7782f5c9b26dbfec9fb32dcd6ceff5bc72a8203b46ff7ca242390c8", func := "loop.example/g00321/laws.FnExactFpOk", spec := "fnExactFpOk", apart := false, narrowed := true }
def FnExactFpOkUptoSaid : Prop := fnExactFpOkUptoRow.holds Try.pinned (OpenSpec.upto fnExactFpOkSpec)

/-- 'laws.FnExactTwoOk', WHERE WHAT IT READS IS OF BULK AT MOST 1048576: true; the input reads as it did. -/
def fnExactTwoOkUptoRow : OpenClaim := { program := "ytbpbjlhojdmllaa", sum := "51b27304c7782f5c9b26dbfec9fb32dcd6ceff5bc72a8203b46ff7ca242390c8", func := "loop.example/g00321/laws.FnExactTwoOk", spec := "fnExactTwoOk", apart := false, narrowed := true }
def FnExactTwoOkUptoSaid : Prop := fnExactTwoOkUptoRow.holds Try.pinned (OpenSpec.upto fnExactTwoOkSpec)

/-- 'laws.FnExactBase', WHERE WHAT IT READS IS OF BULK AT MOST 1048576: true; the input reads as it did. -/
def fnExactBaseUptoRow : OpenClaim := { program := "ytbpbjlhojdmllaa", sum := "51b27304c7782f5c9b26dbfec9fb32dcd6ceff5bc72a8203b46ff7ca242390c8", func := "loop.example/g00321/laws.FnExactBase", spec := "fnExactBase", apart := false, narrowed := true }
def FnExactBaseUptoSaid : Prop := fnExactBaseUptoRow.holds Try.pinned (OpenSpec.upto fnExactBaseSpec)

/-- 'laws.FnExactFpOf', WHERE WHAT IT READS IS OF BULK AT MOST 1048576: true; the input reads as it did. -/
def fnExactFpOfUptoRow : OpenClaim := { program := "ytbpbjlhojdmllaa", sum := "51b27304c7782f5c9b26dbfec9fb32dcd6ceff5bc72a8203b46ff7ca242390c8", func := "loop.example/g00321/laws.FnExactFpOf", spec := "fnExactFpOf", apart := false, narrowed := true }
def FnExactFpOfUptoSaid : Prop := fnExactFpOfUptoRow.holds Try.pinned (OpenSpec.upto fnExactFpOfSpec)

/-- 'laws.FnExactScOf', WHERE WHAT IT READS IS OF BULK AT MOST 1048576: true; the input reads as it did. -/
def fnExactScOfUptoRow : OpenClaim := { program := "ytbpbjlhojdmllaa", sum := "51b27304c7782f5c9b26dbfec9fb32dcd6ceff5bc72a8203b46ff7ca242390c8", func := "loop.example/g00321/laws.FnExactScOf", spec := "fnExactScOf", apart := false, narrowed := true }
def FnExactScOfUptoSaid : Prop := fnExactScOfUptoRow.holds Try.pinned (OpenSpec.upto fnExactScOfSpec)

/-- 'laws.FnExactFpAdd', WHERE WHAT IT READS IS OF BULK AT MOST 1048576: true; the input reads as it did. -/
def fnExactFpAddUptoRow : OpenClaim := { program := "ytbpbjlhojdmllaa", sum := "51b27304c7782f5c9b26dbfec9fb32dcd6ceff5bc72a8203b46ff7ca242390c8", func := "loop.example/g00321/laws.FnExactFpAdd", spec := "fnExactFpAdd", apart := false, narrowed := true }
def FnExactFpAddUptoSaid : Prop := fnExactFpAddUptoRow.holds Try.pinned (OpenSpec.upto fnExactFpAddSpec)

/-- 'laws.FnExactFpMul', WHERE WHAT IT READS IS OF BULK AT MOST 1048576: true; the input reads as it did. -/
def fnExactFpMulUptoRow : OpenClaim := { program := "ytbpbjlhojdmllaa", sum := "51b27304c7782f5c9b26dbfec9fb32dcd6ceff5bc72a8203b46ff7ca242390c8", func := "loop.example/g00321/laws.FnExactFpMul", spec := "fnExactFpMul", apart := false, narrowed := true }
def FnExactFpMulUptoSaid : Prop := fnExactFpMulUptoRow.holds Try.pinned (OpenSpec.upto fnExactFpMulSpec)

/-- 'laws.FnExactFpSub', WHERE WHAT IT READS IS OF BULK AT MOST 1048576: true; the input reads as it did. -/
def fnExactFpSubUptoRow : OpenClaim := { program := "ytbpbjlhojdmllaa", sum := "51b27304c7782f5c9b26dbfec9fb32dcd6ceff5bc72a8203b46ff7ca242390c8", func := "loop.example/g00321/laws.FnExactFpSub", spec := "fnExactFpSub", apart := false, narrowed := true }
def FnExactFpSubUptoSaid : Prop := fnExactFpSubUptoRow.holds Try.pinned (OpenSpec.upto fnExactFpSubSpec)

/-- 'laws.FnExactScAdd', WHERE WHAT IT READS IS OF BULK AT MOST 1048576: true; the input reads as it did. -/
def fnExactScAddUptoRow : OpenClaim := { program := "ytbpbjlhojdmllaa", sum := "51b27304c7782f5c9b26dbfec9fb32dcd6ceff5bc72a8203b46ff7ca242390c8", func := "loop.example/g00321/laws.FnExactScAdd", spec := "fnExactScAdd", apart := false, narrowed := true }
def FnExactScAddUptoSaid : Prop := fnExactScAddUptoRow.holds Try.pinned (OpenSpec.upto fnExactScAddSpec)

/-- 'laws.FnExactScMul', WHERE WHAT IT READS IS OF BULK AT MOST 1048576: true; the input reads as it did. -/
def fnExactScMulUptoRow : OpenClaim := { program := "ytbpbjlhojdmllaa", sum := "51b27304c7782f5c9b26dbfec9fb32dcd6ceff5bc72a8203b46ff7ca242390c8", func := "loop.example/g00321/laws.FnExactScMul", spec := "fnExactScMul", apart := false, narrowed := true }
def FnExactScMulUptoSaid : Prop := fnExactScMulUptoRow.holds Try.pinned (OpenSpec.upto fnExactScMulSpec)

/-- 'laws.FnExactScNeg', WHERE WHAT IT READS IS OF BULK AT MOST 1048576: true; the input reads as it did. -/
def fnExactScNegUptoRow : OpenClaim := { program := "ytbpbjlhojdmllaa", sum := "51b27304c7782f5c9b26dbfec9fb32dcd6ceff5bc72a8203b46ff7ca242390c8", func := "loop.example/g00321/laws.FnExactScNeg", spec := "fnExactScNeg", apart := false, narrowed := true }
def FnExactScNegUptoSaid : Prop := fnExactScNegUptoRow.holds Try.pinned (OpenSpec.upto fnExactScNegSpec)

end Rows
end Go.Proofs.Ytbpbjlhojdmllaa
