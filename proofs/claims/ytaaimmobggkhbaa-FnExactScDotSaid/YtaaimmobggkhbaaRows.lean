/-
  No cell of these rows narrows 'for every input' (looked for: loops, veiled, ifaces, maps, wideKeys, modest, calm, conditions, laid).
  DERIVED. THE GIVEN ROWS OF THIS SEAT. 12 by the template 'for every input the law returns true; each argument reads behind the call as it read before'; 0 by the template 'total and deterministic' (their statements: YtaaimmobggkhbaaTotals.lean).
  GIVEN WITH THE SEED: the statements are not yours to turn. If you find one false, say at which input.
  Laid BY PROGRAM, IN A SANDBOX (cutbox-rows.mjs): the forced cells as the released guide's own fill.sh prints them over the translation 19afb8464930dfe7… (all of the seat's roots in one cut). By AI agents, Wed Nov 11 2026. No macro, syntax, notation, axiom, sorry.
-/
import Derived.Test.YtaaimmobggkhbaaChecked
import GoSem.Claim
import GoSem.ClaimJoined
import GoSem.ClaimMapViews
import Derived.JoinedTies
import Derived.KernelRfl
namespace Go.Proofs.Ytaaimmobggkhbaa
/- THE CELL 'sum', in the pinned program and in every row, IS THE sha256 OF THE DUMP (.gsa) THAT YtaaimmobggkhbaaProg.lean LOADS. Nothing in Lean hashes anything: it is a label: what it is worth is what the hold of that sum in a sandbox is worth. -/
noncomputable def Try.pinned : Pinned := { name := "ytaaimmobggkhbaa", sum := "19afb8464930dfe7892076181ff863c9cc7a9fac7f243d7973ac943d6a2fc5a6", checked := Try.checked }
namespace Rows
def none {H : Type} : Left H := { results := [], args := [] }

/-- 'laws.FnExactTwoAdd': WHATEVER THE INPUT: true; the input reads as it did. -/
def fnExactTwoAddSpec : ChangeSpec := { name := "fnExactTwoAdd", fn := fun _ => fun
  | [d1, d2] => { results := [.lit (.bool true)], args := [d1, d2] }
  | _ => none }
def fnExactTwoAddRow : OpenClaim := { program := "ytaaimmobggkhbaa", sum := "19afb8464930dfe7892076181ff863c9cc7a9fac7f243d7973ac943d6a2fc5a6", func := "loop.example/g00321/laws.FnExactTwoAdd", spec := "fnExactTwoAdd", apart := false }
def FnExactTwoAddSaid : Prop := fnExactTwoAddRow.holds Try.pinned (OpenSpec.ofChange fnExactTwoAddSpec)

/-- ITS FALSE NEIGHBOUR: 'it returns false'. Refute it at one input. -/
def fnExactTwoAddWrong : ChangeSpec := { name := "fnExactTwoAdd", fn := fun _ => fun
  | [d1, d2] => { results := [.lit (.bool false)], args := [d1, d2] }
  | _ => none }
def FnExactTwoAddWrongFalsely : Prop := fnExactTwoAddRow.holds Try.pinned (OpenSpec.ofChange fnExactTwoAddWrong)

/-- 'laws.FnExactTwoTurn': WHATEVER THE INPUT: true; the input reads as it did. -/
def fnExactTwoTurnSpec : ChangeSpec := { name := "fnExactTwoTurn", fn := fun _ => fun
  | [d] => { results := [.lit (.bool true)], args := [d] }
  | _ => none }
def fnExactTwoTurnRow : OpenClaim := { program := "ytaaimmobggkhbaa", sum := "19afb8464930dfe7892076181ff863c9cc7a9fac7f243d7973ac943d6a2fc5a6", func := "loop.example/g00321/laws.FnExactTwoTurn", spec := "fnExactTwoTurn", apart := false }
def FnExactTwoTurnSaid : Prop := fnExactTwoTurnRow.holds Try.pinned (OpenSpec.ofChange fnExactTwoTurnSpec)

/-- ITS FALSE NEIGHBOUR: 'it returns false'. Refute it at one input. -/
def fnExactTwoTurnWrong : ChangeSpec := { name := "fnExactTwoTurn", fn := fun _ => fun
  | [d] => { results := [.lit (.bool false)], args := [d] }
  | _ => none }
def FnExactTwoTurnWrongFalsely : Prop := fnExactTwoTurnRow.holds Try.pinned (OpenSpec.ofChange fnExactTwoTurnWrong)

/-- 'laws.FnExactScInv': WHATEVER THE INPUT: true; the input reads as it did. -/
def fnExactScInvSpec : ChangeSpec := { name := "fnExactScInv", fn := fun _ => fun
  | [d] => { results := [.lit (.bool true)], args := [d] }
  | _ => none }
def fnExactScInvRow : OpenClaim := { program := "ytaaimmobggkhbaa", sum := "19afb8464930dfe7892076181ff863c9cc7a9fac7f243d7973ac943d6a2fc5a6", func := "loop.example/g00321/laws.FnExactScInv", spec := "fnExactScInv", apart := false }
def FnExactScInvSaid : Prop := fnExactScInvRow.holds Try.pinned (OpenSpec.ofChange fnExactScInvSpec)

/-- ITS FALSE NEIGHBOUR: 'it returns false'. Refute it at one input. -/
def fnExactScInvWrong : ChangeSpec := { name := "fnExactScInv", fn := fun _ => fun
  | [d] => { results := [.lit (.bool false)], args := [d] }
  | _ => none }
def FnExactScInvWrongFalsely : Prop := fnExactScInvRow.holds Try.pinned (OpenSpec.ofChange fnExactScInvWrong)

/-- 'laws.FnExactFpInv': WHATEVER THE INPUT: true; the input reads as it did. -/
def fnExactFpInvSpec : ChangeSpec := { name := "fnExactFpInv", fn := fun _ => fun
  | [d] => { results := [.lit (.bool true)], args := [d] }
  | _ => none }
def fnExactFpInvRow : OpenClaim := { program := "ytaaimmobggkhbaa", sum := "19afb8464930dfe7892076181ff863c9cc7a9fac7f243d7973ac943d6a2fc5a6", func := "loop.example/g00321/laws.FnExactFpInv", spec := "fnExactFpInv", apart := false }
def FnExactFpInvSaid : Prop := fnExactFpInvRow.holds Try.pinned (OpenSpec.ofChange fnExactFpInvSpec)

/-- ITS FALSE NEIGHBOUR: 'it returns false'. Refute it at one input. -/
def fnExactFpInvWrong : ChangeSpec := { name := "fnExactFpInv", fn := fun _ => fun
  | [d] => { results := [.lit (.bool false)], args := [d] }
  | _ => none }
def FnExactFpInvWrongFalsely : Prop := fnExactFpInvRow.holds Try.pinned (OpenSpec.ofChange fnExactFpInvWrong)

/-- 'laws.FnExactFpPow': WHATEVER THE INPUT: true; the input reads as it did. -/
def fnExactFpPowSpec : ChangeSpec := { name := "fnExactFpPow", fn := fun _ => fun
  | [d1, d2] => { results := [.lit (.bool true)], args := [d1, d2] }
  | _ => none }
def fnExactFpPowRow : OpenClaim := { program := "ytaaimmobggkhbaa", sum := "19afb8464930dfe7892076181ff863c9cc7a9fac7f243d7973ac943d6a2fc5a6", func := "loop.example/g00321/laws.FnExactFpPow", spec := "fnExactFpPow", apart := false }
def FnExactFpPowSaid : Prop := fnExactFpPowRow.holds Try.pinned (OpenSpec.ofChange fnExactFpPowSpec)

/-- ITS FALSE NEIGHBOUR: 'it returns false'. Refute it at one input. -/
def fnExactFpPowWrong : ChangeSpec := { name := "fnExactFpPow", fn := fun _ => fun
  | [d1, d2] => { results := [.lit (.bool false)], args := [d1, d2] }
  | _ => none }
def FnExactFpPowWrongFalsely : Prop := fnExactFpPowRow.holds Try.pinned (OpenSpec.ofChange fnExactFpPowWrong)

/-- 'laws.FnExactTwoMul': WHATEVER THE INPUT: true; the input reads as it did. -/
def fnExactTwoMulSpec : ChangeSpec := { name := "fnExactTwoMul", fn := fun _ => fun
  | [d1, d2] => { results := [.lit (.bool true)], args := [d1, d2] }
  | _ => none }
def fnExactTwoMulRow : OpenClaim := { program := "ytaaimmobggkhbaa", sum := "19afb8464930dfe7892076181ff863c9cc7a9fac7f243d7973ac943d6a2fc5a6", func := "loop.example/g00321/laws.FnExactTwoMul", spec := "fnExactTwoMul", apart := false }
def FnExactTwoMulSaid : Prop := fnExactTwoMulRow.holds Try.pinned (OpenSpec.ofChange fnExactTwoMulSpec)

/-- ITS FALSE NEIGHBOUR: 'it returns false'. Refute it at one input. -/
def fnExactTwoMulWrong : ChangeSpec := { name := "fnExactTwoMul", fn := fun _ => fun
  | [d1, d2] => { results := [.lit (.bool false)], args := [d1, d2] }
  | _ => none }
def FnExactTwoMulWrongFalsely : Prop := fnExactTwoMulRow.holds Try.pinned (OpenSpec.ofChange fnExactTwoMulWrong)

/-- 'laws.FnExactScDot': WHATEVER THE INPUT: true; the input reads as it did. -/
def fnExactScDotSpec : ChangeSpec := { name := "fnExactScDot", fn := fun _ => fun
  | [d1, d2] => { results := [.lit (.bool true)], args := [d1, d2] }
  | _ => none }
def fnExactScDotRow : OpenClaim := { program := "ytaaimmobggkhbaa", sum := "19afb8464930dfe7892076181ff863c9cc7a9fac7f243d7973ac943d6a2fc5a6", func := "loop.example/g00321/laws.FnExactScDot", spec := "fnExactScDot", apart := false }
def FnExactScDotSaid : Prop := fnExactScDotRow.holds Try.pinned (OpenSpec.ofChange fnExactScDotSpec)

/-- ITS FALSE NEIGHBOUR: 'it returns false'. Refute it at one input. -/
def fnExactScDotWrong : ChangeSpec := { name := "fnExactScDot", fn := fun _ => fun
  | [d1, d2] => { results := [.lit (.bool false)], args := [d1, d2] }
  | _ => none }
def FnExactScDotWrongFalsely : Prop := fnExactScDotRow.holds Try.pinned (OpenSpec.ofChange fnExactScDotWrong)

/-- 'laws.FnExactFpRoot': WHATEVER THE INPUT: true; the input reads as it did. -/
def fnExactFpRootSpec : ChangeSpec := { name := "fnExactFpRoot", fn := fun _ => fun
  | [d] => { results := [.lit (.bool true)], args := [d] }
  | _ => none }
def fnExactFpRootRow : OpenClaim := { program := "ytaaimmobggkhbaa", sum := "19afb8464930dfe7892076181ff863c9cc7a9fac7f243d7973ac943d6a2fc5a6", func := "loop.example/g00321/laws.FnExactFpRoot", spec := "fnExactFpRoot", apart := false }
def FnExactFpRootSaid : Prop := fnExactFpRootRow.holds Try.pinned (OpenSpec.ofChange fnExactFpRootSpec)

/-- ITS FALSE NEIGHBOUR: 'it returns false'. Refute it at one input. -/
def fnExactFpRootWrong : ChangeSpec := { name := "fnExactFpRoot", fn := fun _ => fun
  | [d] => { results := [.lit (.bool false)], args := [d] }
  | _ => none }
def FnExactFpRootWrongFalsely : Prop := fnExactFpRootRow.holds Try.pinned (OpenSpec.ofChange fnExactFpRootWrong)

/-- 'laws.FnExactTwoPow': WHATEVER THE INPUT: true; the input reads as it did. -/
def fnExactTwoPowSpec : ChangeSpec := { name := "fnExactTwoPow", fn := fun _ => fun
  | [d1, d2] => { results := [.lit (.bool true)], args := [d1, d2] }
  | _ => none }
def fnExactTwoPowRow : OpenClaim := { program := "ytaaimmobggkhbaa", sum := "19afb8464930dfe7892076181ff863c9cc7a9fac7f243d7973ac943d6a2fc5a6", func := "loop.example/g00321/laws.FnExactTwoPow", spec := "fnExactTwoPow", apart := false }
def FnExactTwoPowSaid : Prop := fnExactTwoPowRow.holds Try.pinned (OpenSpec.ofChange fnExactTwoPowSpec)

/-- ITS FALSE NEIGHBOUR: 'it returns false'. Refute it at one input. -/
def fnExactTwoPowWrong : ChangeSpec := { name := "fnExactTwoPow", fn := fun _ => fun
  | [d1, d2] => { results := [.lit (.bool false)], args := [d1, d2] }
  | _ => none }
def FnExactTwoPowWrongFalsely : Prop := fnExactTwoPowRow.holds Try.pinned (OpenSpec.ofChange fnExactTwoPowWrong)

/-- 'laws.FnExactTwoInv': WHATEVER THE INPUT: true; the input reads as it did. -/
def fnExactTwoInvSpec : ChangeSpec := { name := "fnExactTwoInv", fn := fun _ => fun
  | [d] => { results := [.lit (.bool true)], args := [d] }
  | _ => none }
def fnExactTwoInvRow : OpenClaim := { program := "ytaaimmobggkhbaa", sum := "19afb8464930dfe7892076181ff863c9cc7a9fac7f243d7973ac943d6a2fc5a6", func := "loop.example/g00321/laws.FnExactTwoInv", spec := "fnExactTwoInv", apart := false }
def FnExactTwoInvSaid : Prop := fnExactTwoInvRow.holds Try.pinned (OpenSpec.ofChange fnExactTwoInvSpec)

/-- ITS FALSE NEIGHBOUR: 'it returns false'. Refute it at one input. -/
def fnExactTwoInvWrong : ChangeSpec := { name := "fnExactTwoInv", fn := fun _ => fun
  | [d] => { results := [.lit (.bool false)], args := [d] }
  | _ => none }
def FnExactTwoInvWrongFalsely : Prop := fnExactTwoInvRow.holds Try.pinned (OpenSpec.ofChange fnExactTwoInvWrong)

/-- 'laws.FnExactPointNeg': WHATEVER THE INPUT: true; the input reads as it did. -/
def fnExactPointNegSpec : ChangeSpec := { name := "fnExactPointNeg", fn := fun _ => fun
  | [d] => { results := [.lit (.bool true)], args := [d] }
  | _ => none }
def fnExactPointNegRow : OpenClaim := { program := "ytaaimmobggkhbaa", sum := "19afb8464930dfe7892076181ff863c9cc7a9fac7f243d7973ac943d6a2fc5a6", func := "loop.example/g00321/laws.FnExactPointNeg", spec := "fnExactPointNeg", apart := false }
def FnExactPointNegSaid : Prop := fnExactPointNegRow.holds Try.pinned (OpenSpec.ofChange fnExactPointNegSpec)

/-- ITS FALSE NEIGHBOUR: 'it returns false'. Refute it at one input. -/
def fnExactPointNegWrong : ChangeSpec := { name := "fnExactPointNeg", fn := fun _ => fun
  | [d] => { results := [.lit (.bool false)], args := [d] }
  | _ => none }
def FnExactPointNegWrongFalsely : Prop := fnExactPointNegRow.holds Try.pinned (OpenSpec.ofChange fnExactPointNegWrong)

/-- 'laws.FnExactPointOk': WHATEVER THE INPUT: true; the input reads as it did. -/
def fnExactPointOkSpec : ChangeSpec := { name := "fnExactPointOk", fn := fun _ => fun
  | [d] => { results := [.lit (.bool true)], args := [d] }
  | _ => none }
def fnExactPointOkRow : OpenClaim := { program := "ytaaimmobggkhbaa", sum := "19afb8464930dfe7892076181ff863c9cc7a9fac7f243d7973ac943d6a2fc5a6", func := "loop.example/g00321/laws.FnExactPointOk", spec := "fnExactPointOk", apart := false }
def FnExactPointOkSaid : Prop := fnExactPointOkRow.holds Try.pinned (OpenSpec.ofChange fnExactPointOkSpec)

/-- ITS FALSE NEIGHBOUR: 'it returns false'. Refute it at one input. -/
def fnExactPointOkWrong : ChangeSpec := { name := "fnExactPointOk", fn := fun _ => fun
  | [d] => { results := [.lit (.bool false)], args := [d] }
  | _ => none }
def FnExactPointOkWrongFalsely : Prop := fnExactPointOkRow.holds Try.pinned (OpenSpec.ofChange fnExactPointOkWrong)

/- THE SECOND FORM. 'bulk': how many values and letters a reading holds, each counted each time it is reached (what is shared counts as often as it is met; a slice's spare places count too). A statement '..UptoSaid' is the law's where the arguments, and the package variables that the reading takes, are together of bulk at most 1048576: NARROWER than '..Said'. Prove '..Said' where nothing that the law and all that it calls make is longer than what came in: it says more and counts as full. Else prove '..UptoSaid'. A law counts once. -/
mutual
def uptoBulk {H : Type} : DataW H → Nat
  | .lit (.string bytes) => bytes.length + 1
  | .lit _ => 1
  | .nil => 1
  | .ptr d => uptoBulk d + 1
  | .slice elems spare => uptoBulkAll elems + uptoBulkAll spare + 1
  | .agg parts => uptoBulkAll parts + 1
  | .iface _ d => uptoBulk d + 1
  | .map entries => uptoBulkEntries entries + 1
  | .held _ => 1
def uptoBulkAll {H : Type} : List (DataW H) → Nat
  | [] => 0
  | d :: r => uptoBulk d + uptoBulkAll r
def uptoBulkEntries {H : Type} : List (Lit × DataW H) → Nat
  | [] => 0
  | x :: r => uptoBulkEntry x + uptoBulkEntries r
def uptoBulkEntry {H : Type} : Lit × DataW H → Nat
  | (.string bytes, d) => bytes.length + uptoBulk d + 1
  | (_, d) => uptoBulk d + 1
 end
def uptoSmall : (H : Type) → List (DataW H) → Bool := fun _ ds => decide (uptoBulkAll ds ≤ 1048576)
def OpenSpec.upto (s : _root_.Go.ChangeSpec) : _root_.Go.OpenSpec := { _root_.Go.OpenSpec.ofChange s with cond := some uptoSmall }

/-- 'laws.FnExactTwoAdd', WHERE WHAT IT READS IS OF BULK AT MOST 1048576: true; the input reads as it did. -/
def fnExactTwoAddUptoRow : OpenClaim := { program := "ytaaimmobggkhbaa", sum := "19afb8464930dfe7892076181ff863c9cc7a9fac7f243d7973ac943d6a2fc5a6", func := "loop.example/g00321/laws.FnExactTwoAdd", spec := "fnExactTwoAdd", apart := false, narrowed := true }
def FnExactTwoAddUptoSaid : Prop := fnExactTwoAddUptoRow.holds Try.pinned (OpenSpec.upto fnExactTwoAddSpec)

/-- 'laws.FnExactTwoTurn', WHERE WHAT IT READS IS OF BULK AT MOST 1048576: true; the input reads as it did. -/
def fnExactTwoTurnUptoRow : OpenClaim := { program := "ytaaimmobggkhbaa", sum := "19afb8464930dfe7892076181ff863c9cc7a9fac7f243d7973ac943d6a2fc5a6", func := "loop.example/g00321/laws.FnExactTwoTurn", spec := "fnExactTwoTurn", apart := false, narrowed := true }
def FnExactTwoTurnUptoSaid : Prop := fnExactTwoTurnUptoRow.holds Try.pinned (OpenSpec.upto fnExactTwoTurnSpec)

/-- 'laws.FnExactScInv', WHERE WHAT IT READS IS OF BULK AT MOST 1048576: true; the input reads as it did. -/
def fnExactScInvUptoRow : OpenClaim := { program := "ytaaimmobggkhbaa", sum := "19afb8464930dfe7892076181ff863c9cc7a9fac7f243d7973ac943d6a2fc5a6", func := "loop.example/g00321/laws.FnExactScInv", spec := "fnExactScInv", apart := false, narrowed := true }
def FnExactScInvUptoSaid : Prop := fnExactScInvUptoRow.holds Try.pinned (OpenSpec.upto fnExactScInvSpec)

/-- 'laws.FnExactFpInv', WHERE WHAT IT READS IS OF BULK AT MOST 1048576: true; the input reads as it did. -/
def fnExactFpInvUptoRow : OpenClaim := { program := "ytaaimmobggkhbaa", sum := "19afb8464930dfe7892076181ff863c9cc7a9fac7f243d7973ac943d6a2fc5a6", func := "loop.example/g00321/laws.FnExactFpInv", spec := "fnExactFpInv", apart := false, narrowed := true }
def FnExactFpInvUptoSaid : Prop := fnExactFpInvUptoRow.holds Try.pinned (OpenSpec.upto fnExactFpInvSpec)

/-- 'laws.FnExactFpPow', WHERE WHAT IT READS IS OF BULK AT MOST 1048576: true; the input reads as it did. -/
def fnExactFpPowUptoRow : OpenClaim := { program := "ytaaimmobggkhbaa", sum := "19afb8464930dfe7892076181ff863c9cc7a9fac7f243d7973ac943d6a2fc5a6", func := "loop.example/g00321/laws.FnExactFpPow", spec := "fnExactFpPow", apart := false, narrowed := true }
def FnExactFpPowUptoSaid : Prop := fnExactFpPowUptoRow.holds Try.pinned (OpenSpec.upto fnExactFpPowSpec)

/-- 'laws.FnExactTwoMul', WHERE WHAT IT READS IS OF BULK AT MOST 1048576: true; the input reads as it did. -/
def fnExactTwoMulUptoRow : OpenClaim := { program := "ytaaimmobggkhbaa", sum := "19afb8464930dfe7892076181ff863c9cc7a9fac7f243d7973ac943d6a2fc5a6", func := "loop.example/g00321/laws.FnExactTwoMul", spec := "fnExactTwoMul", apart := false, narrowed := true }
def FnExactTwoMulUptoSaid : Prop := fnExactTwoMulUptoRow.holds Try.pinned (OpenSpec.upto fnExactTwoMulSpec)

/-- 'laws.FnExactScDot', WHERE WHAT IT READS IS OF BULK AT MOST 1048576: true; the input reads as it did. -/
def fnExactScDotUptoRow : OpenClaim := { program := "ytaaimmobggkhbaa", sum := "19afb8464930dfe7892076181ff863c9cc7a9fac7f243d7973ac943d6a2fc5a6", func := "loop.example/g00321/laws.FnExactScDot", spec := "fnExactScDot", apart := false, narrowed := true }
def FnExactScDotUptoSaid : Prop := fnExactScDotUptoRow.holds Try.pinned (OpenSpec.upto fnExactScDotSpec)

/-- 'laws.FnExactFpRoot', WHERE WHAT IT READS IS OF BULK AT MOST 1048576: true; the input reads as it did. -/
def fnExactFpRootUptoRow : OpenClaim := { program := "ytaaimmobggkhbaa", sum := "19afb8464930dfe7892076181ff863c9cc7a9fac7f243d7973ac943d6a2fc5a6", func := "loop.example/g00321/laws.FnExactFpRoot", spec := "fnExactFpRoot", apart := false, narrowed := true }
def FnExactFpRootUptoSaid : Prop := fnExactFpRootUptoRow.holds Try.pinned (OpenSpec.upto fnExactFpRootSpec)

/-- 'laws.FnExactTwoPow', WHERE WHAT IT READS IS OF BULK AT MOST 1048576: true; the input reads as it did. -/
def fnExactTwoPowUptoRow : OpenClaim := { program := "ytaaimmobggkhbaa", sum := "19afb8464930dfe7892076181ff863c9cc7a9fac7f243d7973ac943d6a2fc5a6", func := "loop.example/g00321/laws.FnExactTwoPow", spec := "fnExactTwoPow", apart := false, narrowed := true }
def FnExactTwoPowUptoSaid : Prop := fnExactTwoPowUptoRow.holds Try.pinned (OpenSpec.upto fnExactTwoPowSpec)

/-- 'laws.FnExactTwoInv', WHERE WHAT IT READS IS OF BULK AT MOST 1048576: true; the input reads as it did. -/
def fnExactTwoInvUptoRow : OpenClaim := { program := "ytaaimmobggkhbaa", sum := "19afb8464930dfe7892076181ff863c9cc7a9fac7f243d7973ac943d6a2fc5a6", func := "loop.example/g00321/laws.FnExactTwoInv", spec := "fnExactTwoInv", apart := false, narrowed := true }
def FnExactTwoInvUptoSaid : Prop := fnExactTwoInvUptoRow.holds Try.pinned (OpenSpec.upto fnExactTwoInvSpec)

/-- 'laws.FnExactPointNeg', WHERE WHAT IT READS IS OF BULK AT MOST 1048576: true; the input reads as it did. -/
def fnExactPointNegUptoRow : OpenClaim := { program := "ytaaimmobggkhbaa", sum := "19afb8464930dfe7892076181ff863c9cc7a9fac7f243d7973ac943d6a2fc5a6", func := "loop.example/g00321/laws.FnExactPointNeg", spec := "fnExactPointNeg", apart := false, narrowed := true }
def FnExactPointNegUptoSaid : Prop := fnExactPointNegUptoRow.holds Try.pinned (OpenSpec.upto fnExactPointNegSpec)

/-- 'laws.FnExactPointOk', WHERE WHAT IT READS IS OF BULK AT MOST 1048576: true; the input reads as it did. -/
def fnExactPointOkUptoRow : OpenClaim := { program := "ytaaimmobggkhbaa", sum := "19afb8464930dfe7892076181ff863c9cc7a9fac7f243d7973ac943d6a2fc5a6", func := "loop.example/g00321/laws.FnExactPointOk", spec := "fnExactPointOk", apart := false, narrowed := true }
def FnExactPointOkUptoSaid : Prop := fnExactPointOkUptoRow.holds Try.pinned (OpenSpec.upto fnExactPointOkSpec)

end Rows
end Go.Proofs.Ytaaimmobggkhbaa
