/-
  No cell of these rows narrows 'for every input' (looked for: loops, veiled, ifaces, maps, wideKeys, modest, calm, conditions, laid).
  DERIVED. THE GIVEN ROWS OF THIS SEAT. 8 by the template 'for every input the law returns true; each argument reads behind the call as it read before'; 0 by the template 'total and deterministic' (their statements: YtfigfpfgeoadbaaTotals.lean).
  GIVEN WITH THE SEED: the statements are not yours to turn. If you find one false, say at which input.
  Laid BY PROGRAM, IN A SANDBOX (cutbox-rows.mjs): the forced cells as the released guide's own fill.sh prints them over the translation 9056b31356c77313… (all of the seat's roots in one cut). By AI agents, Wed Nov 11 2026. No macro, syntax, notation, axiom, sorry.
-/
import Derived.Test.YtfigfpfgeoadbaaChecked
import GoSem.Claim
import GoSem.ClaimJoined
import GoSem.ClaimMapViews
import Derived.JoinedTies
import Derived.KernelRfl
namespace Go.Proofs.Ytfigfpfgeoadbaa
/- THE CELL 'sum', in the pinned program and in every row, IS THE sha256 OF THE DUMP (.gsa) THAT YtfigfpfgeoadbaaProg.lean LOADS. Nothing in Lean hashes anything: it is a label: what it is worth is what the hold of that sum in a sandbox is worth. -/
noncomputable def Try.pinned : Pinned := { name := "ytfigfpfgeoadbaa", sum := "9056b31356c773133aa09ac16bcf93dc1a0970a9b35b5de0e47c151119786b03", checked := Try.checked }
namespace Rows
def none {H : Type} : Left H := { results := [], args := [] }

/-- 'laws.FnExactPointAdd': WHATEVER THE INPUT: true; the input reads as it did. -/
def fnExactPointAddSpec : ChangeSpec := { name := "fnExactPointAdd", fn := fun _ => fun
  | [d1, d2] => { results := [.lit (.bool true)], args := [d1, d2] }
  | _ => none }
def fnExactPointAddRow : OpenClaim := { program := "ytfigfpfgeoadbaa", sum := "9056b31356c773133aa09ac16bcf93dc1a0970a9b35b5de0e47c151119786b03", func := "loop.example/g00321/laws.FnExactPointAdd", spec := "fnExactPointAdd", apart := false }
def FnExactPointAddSaid : Prop := fnExactPointAddRow.holds Try.pinned (OpenSpec.ofChange fnExactPointAddSpec)

/-- ITS FALSE NEIGHBOUR: 'it returns false'. Refute it at one input. -/
def fnExactPointAddWrong : ChangeSpec := { name := "fnExactPointAdd", fn := fun _ => fun
  | [d1, d2] => { results := [.lit (.bool false)], args := [d1, d2] }
  | _ => none }
def FnExactPointAddWrongFalsely : Prop := fnExactPointAddRow.holds Try.pinned (OpenSpec.ofChange fnExactPointAddWrong)

/-- 'laws.FnExactReadPoint': WHATEVER THE INPUT: true; the input reads as it did. -/
def fnExactReadPointSpec : ChangeSpec := { name := "fnExactReadPoint", fn := fun _ => fun
  | [d] => { results := [.lit (.bool true)], args := [d] }
  | _ => none }
def fnExactReadPointRow : OpenClaim := { program := "ytfigfpfgeoadbaa", sum := "9056b31356c773133aa09ac16bcf93dc1a0970a9b35b5de0e47c151119786b03", func := "loop.example/g00321/laws.FnExactReadPoint", spec := "fnExactReadPoint", apart := false }
def FnExactReadPointSaid : Prop := fnExactReadPointRow.holds Try.pinned (OpenSpec.ofChange fnExactReadPointSpec)

/-- ITS FALSE NEIGHBOUR: 'it returns false'. Refute it at one input. -/
def fnExactReadPointWrong : ChangeSpec := { name := "fnExactReadPoint", fn := fun _ => fun
  | [d] => { results := [.lit (.bool false)], args := [d] }
  | _ => none }
def FnExactReadPointWrongFalsely : Prop := fnExactReadPointRow.holds Try.pinned (OpenSpec.ofChange fnExactReadPointWrong)

/-- 'laws.FnExactInGroup': WHATEVER THE INPUT: true; the input reads as it did. -/
def fnExactInGroupSpec : ChangeSpec := { name := "fnExactInGroup", fn := fun _ => fun
  | [d] => { results := [.lit (.bool true)], args := [d] }
  | _ => none }
def fnExactInGroupRow : OpenClaim := { program := "ytfigfpfgeoadbaa", sum := "9056b31356c773133aa09ac16bcf93dc1a0970a9b35b5de0e47c151119786b03", func := "loop.example/g00321/laws.FnExactInGroup", spec := "fnExactInGroup", apart := false }
def FnExactInGroupSaid : Prop := fnExactInGroupRow.holds Try.pinned (OpenSpec.ofChange fnExactInGroupSpec)

/-- ITS FALSE NEIGHBOUR: 'it returns false'. Refute it at one input. -/
def fnExactInGroupWrong : ChangeSpec := { name := "fnExactInGroup", fn := fun _ => fun
  | [d] => { results := [.lit (.bool false)], args := [d] }
  | _ => none }
def FnExactInGroupWrongFalsely : Prop := fnExactInGroupRow.holds Try.pinned (OpenSpec.ofChange fnExactInGroupWrong)

/-- 'laws.FnRoots': WHATEVER THE INPUT: true; the input reads as it did. -/
def fnRootsSpec : ChangeSpec := { name := "fnRoots", fn := fun _ => fun
  | [d] => { results := [.lit (.bool true)], args := [d] }
  | _ => none }
def fnRootsRow : OpenClaim := { program := "ytfigfpfgeoadbaa", sum := "9056b31356c773133aa09ac16bcf93dc1a0970a9b35b5de0e47c151119786b03", func := "loop.example/g00321/laws.FnRoots", spec := "fnRoots", apart := false }
def FnRootsSaid : Prop := fnRootsRow.holds Try.pinned (OpenSpec.ofChange fnRootsSpec)

/-- ITS FALSE NEIGHBOUR: 'it returns false'. Refute it at one input. -/
def fnRootsWrong : ChangeSpec := { name := "fnRoots", fn := fun _ => fun
  | [d] => { results := [.lit (.bool false)], args := [d] }
  | _ => none }
def FnRootsWrongFalsely : Prop := fnRootsRow.holds Try.pinned (OpenSpec.ofChange fnRootsWrong)

/-- 'laws.FnField': WHATEVER THE INPUT: true; the input reads as it did. -/
def fnFieldSpec : ChangeSpec := { name := "fnField", fn := fun _ => fun
  | [d] => { results := [.lit (.bool true)], args := [d] }
  | _ => none }
def fnFieldRow : OpenClaim := { program := "ytfigfpfgeoadbaa", sum := "9056b31356c773133aa09ac16bcf93dc1a0970a9b35b5de0e47c151119786b03", func := "loop.example/g00321/laws.FnField", spec := "fnField", apart := false }
def FnFieldSaid : Prop := fnFieldRow.holds Try.pinned (OpenSpec.ofChange fnFieldSpec)

/-- ITS FALSE NEIGHBOUR: 'it returns false'. Refute it at one input. -/
def fnFieldWrong : ChangeSpec := { name := "fnField", fn := fun _ => fun
  | [d] => { results := [.lit (.bool false)], args := [d] }
  | _ => none }
def FnFieldWrongFalsely : Prop := fnFieldRow.holds Try.pinned (OpenSpec.ofChange fnFieldWrong)

/-- 'laws.FnScalars': WHATEVER THE INPUT: true; the input reads as it did. -/
def fnScalarsSpec : ChangeSpec := { name := "fnScalars", fn := fun _ => fun
  | [d] => { results := [.lit (.bool true)], args := [d] }
  | _ => none }
def fnScalarsRow : OpenClaim := { program := "ytfigfpfgeoadbaa", sum := "9056b31356c773133aa09ac16bcf93dc1a0970a9b35b5de0e47c151119786b03", func := "loop.example/g00321/laws.FnScalars", spec := "fnScalars", apart := false }
def FnScalarsSaid : Prop := fnScalarsRow.holds Try.pinned (OpenSpec.ofChange fnScalarsSpec)

/-- ITS FALSE NEIGHBOUR: 'it returns false'. Refute it at one input. -/
def fnScalarsWrong : ChangeSpec := { name := "fnScalars", fn := fun _ => fun
  | [d] => { results := [.lit (.bool false)], args := [d] }
  | _ => none }
def FnScalarsWrongFalsely : Prop := fnScalarsRow.holds Try.pinned (OpenSpec.ofChange fnScalarsWrong)

/-- 'laws.FnTwos': WHATEVER THE INPUT: true; the input reads as it did. -/
def fnTwosSpec : ChangeSpec := { name := "fnTwos", fn := fun _ => fun
  | [d] => { results := [.lit (.bool true)], args := [d] }
  | _ => none }
def fnTwosRow : OpenClaim := { program := "ytfigfpfgeoadbaa", sum := "9056b31356c773133aa09ac16bcf93dc1a0970a9b35b5de0e47c151119786b03", func := "loop.example/g00321/laws.FnTwos", spec := "fnTwos", apart := false }
def FnTwosSaid : Prop := fnTwosRow.holds Try.pinned (OpenSpec.ofChange fnTwosSpec)

/-- ITS FALSE NEIGHBOUR: 'it returns false'. Refute it at one input. -/
def fnTwosWrong : ChangeSpec := { name := "fnTwos", fn := fun _ => fun
  | [d] => { results := [.lit (.bool false)], args := [d] }
  | _ => none }
def FnTwosWrongFalsely : Prop := fnTwosRow.holds Try.pinned (OpenSpec.ofChange fnTwosWrong)

/-- 'laws.FnTurns': WHATEVER THE INPUT: true; the input reads as it did. -/
def fnTurnsSpec : ChangeSpec := { name := "fnTurns", fn := fun _ => fun
  | [d] => { results := [.lit (.bool true)], args := [d] }
  | _ => none }
def fnTurnsRow : OpenClaim := { program := "ytfigfpfgeoadbaa", sum := "9056b31356c773133aa09ac16bcf93dc1a0970a9b35b5de0e47c151119786b03", func := "loop.example/g00321/laws.FnTurns", spec := "fnTurns", apart := false }
def FnTurnsSaid : Prop := fnTurnsRow.holds Try.pinned (OpenSpec.ofChange fnTurnsSpec)

/-- ITS FALSE NEIGHBOUR: 'it returns false'. Refute it at one input. -/
def fnTurnsWrong : ChangeSpec := { name := "fnTurns", fn := fun _ => fun
  | [d] => { results := [.lit (.bool false)], args := [d] }
  | _ => none }
def FnTurnsWrongFalsely : Prop := fnTurnsRow.holds Try.pinned (OpenSpec.ofChange fnTurnsWrong)

/- THE SECOND FORM. 'bulk': how many values and letters a reading holds, each counted each time it is reached (what is shared counts as often as it is met; a slice's spare places count too). A statement '..UptoSaid' is the law's where the arguments, and the package variables that the reading takes, are together of bulk at most 1048576: NARROWER than '..Said'. Prove '..Said' where nothing that the law and all that it calls make is longer than what came in: it says more and counts as full. Else prove '..UptoSaid'. A law counts once. -/
mutual
def uptoBulk {H : Type} : DataW H → Nat
  | .lit (.string bytes) => bytes.length + 1
  | .lit _ => 1
  | .nil => 1
  | .ptr d => uptoBulk d + 1
  | .slice elems spare => uptoBulkAll elems + uptoBulkAll spare + 1
  | .agg parts => uptoBulkAll parts + 1
  | .iface _ d => uptoBulk d + 1
  | .map entries => uptoBulkEntries entries + 1
  | .held _ => 1
def uptoBulkAll {H : Type} : List (DataW H) → Nat
  | [] => 0
  | d :: r => uptoBulk d + uptoBulkAll r
def uptoBulkEntries {H : Type} : List (Lit × DataW H) → Nat
  | [] => 0
  | x :: r => uptoBulkEntry x + uptoBulkEntries r
def uptoBulkEntry {H : Type} : Lit × DataW H → Nat
  | (.string bytes, d) => bytes.length + uptoBulk d + 1
  | (_, d) => uptoBulk d + 1
 end
def uptoSmall : (H : Type) → List (DataW H) → Bool := fun _ ds => decide (uptoBulkAll ds ≤ 1048576)
def OpenSpec.upto (s : _root_.Go.ChangeSpec) : _root_.Go.OpenSpec := { _root_.Go.OpenSpec.ofChange s with cond := some uptoSmall }

/-- 'laws.FnExactPointAdd', WHERE WHAT IT READS IS OF BULK AT MOST 1048576: true; the input reads as it did. -/
def fnExactPointAddUptoRow : OpenClaim := { program := "ytfigfpfgeoadbaa", sum := "9056b31356c773133aa09ac16bcf93dc1a0970a9b35b5de0e47c151119786b03", func := "loop.example/g00321/laws.FnExactPointAdd", spec := "fnExactPointAdd", apart := false, narrowed := true }
def FnExactPointAddUptoSaid : Prop := fnExactPointAddUptoRow.holds Try.pinned (OpenSpec.upto fnExactPointAddSpec)

/-- 'laws.FnExactReadPoint', WHERE WHAT IT READS IS OF BULK AT MOST 1048576: true; the input reads as it did. -/
def fnExactReadPointUptoRow : OpenClaim := { program := "ytfigfpfgeoadbaa", sum := "9056b31356c773133aa09ac16bcf93dc1a0970a9b35b5de0e47c151119786b03", func := "loop.example/g00321/laws.FnExactReadPoint", spec := "fnExactReadPoint", apart := false, narrowed := true }
def FnExactReadPointUptoSaid : Prop := fnExactReadPointUptoRow.holds Try.pinned (OpenSpec.upto fnExactReadPointSpec)

/-- 'laws.FnExactInGroup', WHERE WHAT IT READS IS OF BULK AT MOST 1048576: true; the input reads as it did. -/
def fnExactInGroupUptoRow : OpenClaim := { program := "ytfigfpfgeoadbaa", sum := "9056b31356c773133aa09ac16bcf93dc1a0970a9b35b5de0e47c151119786b03", func := "loop.example/g00321/laws.FnExactInGroup", spec := "fnExactInGroup", apart := false, narrowed := true }
def FnExactInGroupUptoSaid : Prop := fnExactInGroupUptoRow.holds Try.pinned (OpenSpec.upto fnExactInGroupSpec)

/-- 'laws.FnRoots', WHERE WHAT IT READS IS OF BULK AT MOST 1048576: true; the input reads as it did. -/
def fnRootsUptoRow : OpenClaim := { program := "ytfigfpfgeoadbaa", sum := "9056b31356c773133aa09ac16bcf93dc1a0970a9b35b5de0e47c151119786b03", func := "loop.example/g00321/laws.FnRoots", spec := "fnRoots", apart := false, narrowed := true }
def FnRootsUptoSaid : Prop := fnRootsUptoRow.holds Try.pinned (OpenSpec.upto fnRootsSpec)

/-- 'laws.FnField', WHERE WHAT IT READS IS OF BULK AT MOST 1048576: true; the input reads as it did. -/
def fnFieldUptoRow : OpenClaim := { program := "ytfigfpfgeoadbaa", sum := "9056b31356c773133aa09ac16bcf93dc1a0970a9b35b5de0e47c151119786b03", func := "loop.example/g00321/laws.FnField", spec := "fnField", apart := false, narrowed := true }
def FnFieldUptoSaid : Prop := fnFieldUptoRow.holds Try.pinned (OpenSpec.upto fnFieldSpec)

/-- 'laws.FnScalars', WHERE WHAT IT READS IS OF BULK AT MOST 1048576: true; the input reads as it did. -/
def fnScalarsUptoRow : OpenClaim := { program := "ytfigfpfgeoadbaa", sum := "9056b31356c773133aa09ac16bcf93dc1a0970a9b35b5de0e47c151119786b03", func := "loop.example/g00321/laws.FnScalars", spec := "fnScalars", apart := false, narrowed := true }
def FnScalarsUptoSaid : Prop := fnScalarsUptoRow.holds Try.pinned (OpenSpec.upto fnScalarsSpec)

/-- 'laws.FnTwos', WHERE WHAT IT READS IS OF BULK AT MOST 1048576: true; the input reads as it did. -/
def fnTwosUptoRow : OpenClaim := { program := "ytfigfpfgeoadbaa", sum := "9056b31356c773133aa09ac16bcf93dc1a0970a9b35b5de0e47c151119786b03", func := "loop.example/g00321/laws.FnTwos", spec := "fnTwos", apart := false, narrowed := true }
def FnTwosUptoSaid : Prop := fnTwosUptoRow.holds Try.pinned (OpenSpec.upto fnTwosSpec)

/-- 'laws.FnTurns', WHERE WHAT IT READS IS OF BULK AT MOST 1048576: true; the input reads as it did. -/
def fnTurnsUptoRow : OpenClaim := { program := "ytfigfpfgeoadbaa", sum := "9056b31356c773133aa09ac16bcf93dc1a0970a9b35b5de0e47c151119786b03", func := "loop.example/g00321/laws.FnTurns", spec := "fnTurns", apart := false, narrowed := true }
def FnTurnsUptoSaid : Prop := fnTurnsUptoRow.holds Try.pinned (OpenSpec.upto fnTurnsSpec)

end Rows
end Go.Proofs.Ytfigfpfgeoadbaa
