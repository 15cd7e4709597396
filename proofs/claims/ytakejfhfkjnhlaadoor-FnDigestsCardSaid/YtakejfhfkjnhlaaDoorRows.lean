/-
  NARROWER THAN 'FOR EVERY INPUT', by the rows' own cells (each row's printed sentence says how): FnExactDigestHex: laid · FnExactKeccakRound: laid · FnExactKeccakF: laid · FnRounds: laid · FnExactDigest: laid · FnExactDigestPair: laid · FnDigests: laid.
  DERIVED. THE GIVEN ROWS OF THIS SEAT. 7 by the template 'for every input the law returns true; each argument reads behind the call as it read before'; 0 by the template 'total and deterministic' (their statements: YtakejfhfkjnhlaaDoorTotals.lean).
  GIVEN WITH THE SEED: the statements are not yours to turn. If you find one false, say at which input.
  Laid BY PROGRAM, IN A SANDBOX (cutbox-rows.mjs): the forced cells as the released guide's own fill.sh prints them over the translation a1c5d72f688ee197… (all of the seat's roots in one cut). By AI agents, Wed Nov 11 2026. No macro, syntax, notation, axiom, sorry.
-/
import Derived.Test.YtakejfhfkjnhlaaDoorChecked
import GoSem.Claim
import GoSem.ClaimJoined
import GoSem.ClaimMapViews
import Derived.JoinedTies
import Derived.KernelRfl
namespace Go.Proofs.YtakejfhfkjnhlaaDoor
/- THE CELL 'sum', in the pinned program and in every row, IS THE sha256 OF THE DUMP (.gsa) THAT YtakejfhfkjnhlaaDoorProg.lean LOADS. Nothing in Lean hashes anything: it is a label: what it is worth is what the hold of that sum in a sandbox is worth. -/
noncomputable def Tryd.pinned : Pinned := { name := "ytakejfhfkjnhlaadoor", sum := "a1c5d72f688ee1977fa6896db291c99fce32ef6c159c3ccdfcbc4ea2251ffc47", checked := Tryd.checked }
namespace Rows
def none {H : Type} : Left H := { results := [], args := [] }

/- WHAT THE LISTED PACKAGE-LEVEL VARIABLES READ AS WHEN THE CALL BEGINS. Each datum BY PROGRAM (the guide's laid-datum.mjs) off the statement by which the dump's own 'gosem.cut.vars' lays the variable. In a bare row this is a premise. The card (YtakejfhfkjnhlaaDoorCards.lean) ties it to the program's text. -/
def laid_loop_example_g00321_impl_roundConstants {H : Type} : DataW H := .agg [.lit (.int .u64 1), .lit (.int .u64 32898), .lit (.int .u64 9223372036854808714), .lit (.int .u64 9223372039002292224), .lit (.int .u64 32907), .lit (.int .u64 2147483649), .lit (.int .u64 9223372039002292353), .lit (.int .u64 9223372036854808585), .lit (.int .u64 138), .lit (.int .u64 136), .lit (.int .u64 2147516425), .lit (.int .u64 2147483658), .lit (.int .u64 2147516555), .lit (.int .u64 9223372036854775947), .lit (.int .u64 9223372036854808713), .lit (.int .u64 9223372036854808579), .lit (.int .u64 9223372036854808578), .lit (.int .u64 9223372036854775936), .lit (.int .u64 32778), .lit (.int .u64 9223372039002259466), .lit (.int .u64 9223372039002292353), .lit (.int .u64 9223372036854808704), .lit (.int .u64 2147483649), .lit (.int .u64 9223372039002292232)]
def laid_loop_example_g00321_impl_turns {H : Type} : DataW H := .agg [.lit (.int .i64 0), .lit (.int .i64 1), .lit (.int .i64 62), .lit (.int .i64 28), .lit (.int .i64 27), .lit (.int .i64 36), .lit (.int .i64 44), .lit (.int .i64 6), .lit (.int .i64 55), .lit (.int .i64 20), .lit (.int .i64 3), .lit (.int .i64 10), .lit (.int .i64 43), .lit (.int .i64 25), .lit (.int .i64 39), .lit (.int .i64 41), .lit (.int .i64 45), .lit (.int .i64 15), .lit (.int .i64 21), .lit (.int .i64 8), .lit (.int .i64 18), .lit (.int .i64 2), .lit (.int .i64 61), .lit (.int .i64 56), .lit (.int .i64 14)]

/-- 'laws.FnExactDigestHex': WHATEVER THE INPUT: true; the input reads as it did. -/
def fnExactDigestHexSpec : ChangeSpec := { name := "fnExactDigestHex", vars := ["loop.example/g00321/impl.turns", "loop.example/g00321/impl.roundConstants"], fn := fun _ => fun
  | [d, g1, g2] => { results := [.lit (.bool true)], args := [d], vars := [g1, g2] }
  | _ => none }
def fnExactDigestHexRow : OpenClaim := { program := "ytakejfhfkjnhlaadoor", sum := "a1c5d72f688ee1977fa6896db291c99fce32ef6c159c3ccdfcbc4ea2251ffc47", func := "loop.example/g00321/laws.FnExactDigestHex", spec := "fnExactDigestHex", inPlace := ["internal/abi.NoEscape", "internal/bytealg.MakeNoZero"], named := ["loop.example/g00321/impl.turns", "loop.example/g00321/impl.roundConstants"], apart := false, laid := [("loop.example/g00321/impl.roundConstants", laid_loop_example_g00321_impl_roundConstants), ("loop.example/g00321/impl.turns", laid_loop_example_g00321_impl_turns)] }
def FnExactDigestHexSaid : Prop := fnExactDigestHexRow.holds Tryd.pinned (OpenSpec.ofChange fnExactDigestHexSpec)

/-- ITS FALSE NEIGHBOUR: 'it returns false'. Refute it at one input. -/
def fnExactDigestHexWrong : ChangeSpec := { name := "fnExactDigestHex", vars := ["loop.example/g00321/impl.turns", "loop.example/g00321/impl.roundConstants"], fn := fun _ => fun
  | [d, g1, g2] => { results := [.lit (.bool false)], args := [d], vars := [g1, g2] }
  | _ => none }
def FnExactDigestHexWrongFalsely : Prop := fnExactDigestHexRow.holds Tryd.pinned (OpenSpec.ofChange fnExactDigestHexWrong)

/-- 'laws.FnExactKeccakRound': WHATEVER THE INPUT: true; the input reads as it did. -/
def fnExactKeccakRoundSpec : ChangeSpec := { name := "fnExactKeccakRound", vars := ["loop.example/g00321/impl.turns", "loop.example/g00321/impl.roundConstants"], fn := fun _ => fun
  | [d1, d2, g1, g2] => { results := [.lit (.bool true)], args := [d1, d2], vars := [g1, g2] }
  | _ => none }
def fnExactKeccakRoundRow : OpenClaim := { program := "ytakejfhfkjnhlaadoor", sum := "a1c5d72f688ee1977fa6896db291c99fce32ef6c159c3ccdfcbc4ea2251ffc47", func := "loop.example/g00321/laws.FnExactKeccakRound", spec := "fnExactKeccakRound", named := ["loop.example/g00321/impl.turns", "loop.example/g00321/impl.roundConstants"], apart := false, laid := [("loop.example/g00321/impl.roundConstants", laid_loop_example_g00321_impl_roundConstants), ("loop.example/g00321/impl.turns", laid_loop_example_g00321_impl_turns)] }
def FnExactKeccakRoundSaid : Prop := fnExactKeccakRoundRow.holds Tryd.pinned (OpenSpec.ofChange fnExactKeccakRoundSpec)

/-- ITS FALSE NEIGHBOUR: 'it returns false'. Refute it at one input. -/
def fnExactKeccakRoundWrong : ChangeSpec := { name := "fnExactKeccakRound", vars := ["loop.example/g00321/impl.turns", "loop.example/g00321/impl.roundConstants"], fn := fun _ => fun
  | [d1, d2, g1, g2] => { results := [.lit (.bool false)], args := [d1, d2], vars := [g1, g2] }
  | _ => none }
def FnExactKeccakRoundWrongFalsely : Prop := fnExactKeccakRoundRow.holds Tryd.pinned (OpenSpec.ofChange fnExactKeccakRoundWrong)

/-- 'laws.FnExactKeccakF': WHATEVER THE INPUT: true; the input reads as it did. -/
def fnExactKeccakFSpec : ChangeSpec := { name := "fnExactKeccakF", vars := ["loop.example/g00321/impl.turns", "loop.example/g00321/impl.roundConstants"], fn := fun _ => fun
  | [d, g1, g2] => { results := [.lit (.bool true)], args := [d], vars := [g1, g2] }
  | _ => none }
def fnExactKeccakFRow : OpenClaim := { program := "ytakejfhfkjnhlaadoor", sum := "a1c5d72f688ee1977fa6896db291c99fce32ef6c159c3ccdfcbc4ea2251ffc47", func := "loop.example/g00321/laws.FnExactKeccakF", spec := "fnExactKeccakF", named := ["loop.example/g00321/impl.turns", "loop.example/g00321/impl.roundConstants"], apart := false, laid := [("loop.example/g00321/impl.roundConstants", laid_loop_example_g00321_impl_roundConstants), ("loop.example/g00321/impl.turns", laid_loop_example_g00321_impl_turns)] }
def FnExactKeccakFSaid : Prop := fnExactKeccakFRow.holds Tryd.pinned (OpenSpec.ofChange fnExactKeccakFSpec)

/-- ITS FALSE NEIGHBOUR: 'it returns false'. Refute it at one input. -/
def fnExactKeccakFWrong : ChangeSpec := { name := "fnExactKeccakF", vars := ["loop.example/g00321/impl.turns", "loop.example/g00321/impl.roundConstants"], fn := fun _ => fun
  | [d, g1, g2] => { results := [.lit (.bool false)], args := [d], vars := [g1, g2] }
  | _ => none }
def FnExactKeccakFWrongFalsely : Prop := fnExactKeccakFRow.holds Tryd.pinned (OpenSpec.ofChange fnExactKeccakFWrong)

/-- 'laws.FnRounds': WHATEVER THE INPUT: true; the input reads as it did. -/
def fnRoundsSpec : ChangeSpec := { name := "fnRounds", vars := ["loop.example/g00321/impl.turns", "loop.example/g00321/impl.roundConstants"], fn := fun _ => fun
  | [d, g1, g2] => { results := [.lit (.bool true)], args := [d], vars := [g1, g2] }
  | _ => none }
def fnRoundsRow : OpenClaim := { program := "ytakejfhfkjnhlaadoor", sum := "a1c5d72f688ee1977fa6896db291c99fce32ef6c159c3ccdfcbc4ea2251ffc47", func := "loop.example/g00321/laws.FnRounds", spec := "fnRounds", named := ["loop.example/g00321/impl.turns", "loop.example/g00321/impl.roundConstants"], apart := false, laid := [("loop.example/g00321/impl.roundConstants", laid_loop_example_g00321_impl_roundConstants), ("loop.example/g00321/impl.turns", laid_loop_example_g00321_impl_turns)] }
def FnRoundsSaid : Prop := fnRoundsRow.holds Tryd.pinned (OpenSpec.ofChange fnRoundsSpec)

/-- ITS FALSE NEIGHBOUR: 'it returns false'. Refute it at one input. -/
def fnRoundsWrong : ChangeSpec := { name := "fnRounds", vars := ["loop.example/g00321/impl.turns", "loop.example/g00321/impl.roundConstants"], fn := fun _ => fun
  | [d, g1, g2] => { results := [.lit (.bool false)], args := [d], vars := [g1, g2] }
  | _ => none }
def FnRoundsWrongFalsely : Prop := fnRoundsRow.holds Tryd.pinned (OpenSpec.ofChange fnRoundsWrong)

/-- 'laws.FnExactDigest': WHATEVER THE INPUT: true; the input reads as it did. -/
def fnExactDigestSpec : ChangeSpec := { name := "fnExactDigest", vars := ["loop.example/g00321/impl.turns", "loop.example/g00321/impl.roundConstants"], fn := fun _ => fun
  | [d, g1, g2] => { results := [.lit (.bool true)], args := [d], vars := [g1, g2] }
  | _ => none }
def fnExactDigestRow : OpenClaim := { program := "ytakejfhfkjnhlaadoor", sum := "a1c5d72f688ee1977fa6896db291c99fce32ef6c159c3ccdfcbc4ea2251ffc47", func := "loop.example/g00321/laws.FnExactDigest", spec := "fnExactDigest", inPlace := ["internal/abi.NoEscape", "internal/bytealg.MakeNoZero"], named := ["loop.example/g00321/impl.turns", "loop.example/g00321/impl.roundConstants"], apart := false, laid := [("loop.example/g00321/impl.roundConstants", laid_loop_example_g00321_impl_roundConstants), ("loop.example/g00321/impl.turns", laid_loop_example_g00321_impl_turns)] }
def FnExactDigestSaid : Prop := fnExactDigestRow.holds Tryd.pinned (OpenSpec.ofChange fnExactDigestSpec)

/-- ITS FALSE NEIGHBOUR: 'it returns false'. Refute it at one input. -/
def fnExactDigestWrong : ChangeSpec := { name := "fnExactDigest", vars := ["loop.example/g00321/impl.turns", "loop.example/g00321/impl.roundConstants"], fn := fun _ => fun
  | [d, g1, g2] => { results := [.lit (.bool false)], args := [d], vars := [g1, g2] }
  | _ => none }
def FnExactDigestWrongFalsely : Prop := fnExactDigestRow.holds Tryd.pinned (OpenSpec.ofChange fnExactDigestWrong)

/-- 'laws.FnExactDigestPair': WHATEVER THE INPUT: true; the input reads as it did. -/
def fnExactDigestPairSpec : ChangeSpec := { name := "fnExactDigestPair", vars := ["loop.example/g00321/impl.turns", "loop.example/g00321/impl.roundConstants"], fn := fun _ => fun
  | [d1, d2, g1, g2] => { results := [.lit (.bool true)], args := [d1, d2], vars := [g1, g2] }
  | _ => none }
def fnExactDigestPairRow : OpenClaim := { program := "ytakejfhfkjnhlaadoor", sum := "a1c5d72f688ee1977fa6896db291c99fce32ef6c159c3ccdfcbc4ea2251ffc47", func := "loop.example/g00321/laws.FnExactDigestPair", spec := "fnExactDigestPair", inPlace := ["internal/abi.NoEscape", "internal/bytealg.MakeNoZero"], named := ["loop.example/g00321/impl.turns", "loop.example/g00321/impl.roundConstants"], apart := false, laid := [("loop.example/g00321/impl.roundConstants", laid_loop_example_g00321_impl_roundConstants), ("loop.example/g00321/impl.turns", laid_loop_example_g00321_impl_turns)] }
def FnExactDigestPairSaid : Prop := fnExactDigestPairRow.holds Tryd.pinned (OpenSpec.ofChange fnExactDigestPairSpec)

/-- ITS FALSE NEIGHBOUR: 'it returns false'. Refute it at one input. -/
def fnExactDigestPairWrong : ChangeSpec := { name := "fnExactDigestPair", vars := ["loop.example/g00321/impl.turns", "loop.example/g00321/impl.roundConstants"], fn := fun _ => fun
  | [d1, d2, g1, g2] => { results := [.lit (.bool false)], args := [d1, d2], vars := [g1, g2] }
  | _ => none }
def FnExactDigestPairWrongFalsely : Prop := fnExactDigestPairRow.holds Tryd.pinned (OpenSpec.ofChange fnExactDigestPairWrong)

/-- 'laws.FnDigests': WHATEVER THE INPUT: true; the input reads as it did. -/
def fnDigestsSpec : ChangeSpec := { name := "fnDigests", vars := ["loop.example/g00321/impl.turns", "loop.example/g00321/impl.roundConstants"], fn := fun _ => fun
  | [d, g1, g2] => { results := [.lit (.bool true)], args := [d], vars := [g1, g2] }
  | _ => none }
def fnDigestsRow : OpenClaim := { program := "ytakejfhfkjnhlaadoor", sum := "a1c5d72f688ee1977fa6896db291c99fce32ef6c159c3ccdfcbc4ea2251ffc47", func := "loop.example/g00321/laws.FnDigests", spec := "fnDigests", inPlace := ["internal/abi.NoEscape", "internal/bytealg.MakeNoZero"], named := ["loop.example/g00321/impl.turns", "loop.example/g00321/impl.roundConstants"], apart := false, laid := [("loop.example/g00321/impl.roundConstants", laid_loop_example_g00321_impl_roundConstants), ("loop.example/g00321/impl.turns", laid_loop_example_g00321_impl_turns)] }
def FnDigestsSaid : Prop := fnDigestsRow.holds Tryd.pinned (OpenSpec.ofChange fnDigestsSpec)

/-- ITS FALSE NEIGHBOUR: 'it returns false'. Refute it at one input. -/
def fnDigestsWrong : ChangeSpec := { name := "fnDigests", vars := ["loop.example/g00321/impl.turns", "loop.example/g00321/impl.roundConstants"], fn := fun _ => fun
  | [d, g1, g2] => { results := [.lit (.bool false)], args := [d], vars := [g1, g2] }
  | _ => none }
def FnDigestsWrongFalsely : Prop := fnDigestsRow.holds Tryd.pinned (OpenSpec.ofChange fnDigestsWrong)

/- THE SECOND FORM. 'bulk': how many values and letters a reading holds, each counted each time it is reached (what is shared counts as often as it is met; a slice's spare places count too). A statement '..UptoSaid' is the law's where the arguments, and the package variables that the reading takes, are together of bulk at most 1048576: NARROWER than '..Said'. Prove '..Said' where nothing that the law and all that it calls make is longer than what came in: it says more and counts as full. Else prove '..UptoSaid'. A law counts once. -/
mutual
def uptoBulk {H : Type} : DataW H → Nat
  | .lit (.string bytes) => bytes.length + 1
  | .lit _ => 1
  | .nil => 1
  | .ptr d => uptoBulk d + 1
  | .slice elems spare => uptoBulkAll elems + uptoBulkAll spare + 1
  | .agg parts => uptoBulkAll parts + 1
  | .iface _ d => uptoBulk d + 1
  | .map entries => uptoBulkEntries entries + 1
  | .held _ => 1
def uptoBulkAll {H : Type} : List (DataW H) → Nat
  | [] => 0
  | d :: r => uptoBulk d + uptoBulkAll r
def uptoBulkEntries {H : Type} : List (Lit × DataW H) → Nat
  | [] => 0
  | x :: r => uptoBulkEntry x + uptoBulkEntries r
def uptoBulkEntry {H : Type} : Lit × DataW H → Nat
  | (.string bytes, d) => bytes.length + uptoBulk d + 1
  | (_, d) => uptoBulk d + 1
 end
def uptoSmall : (H : Type) → List (DataW H) → Bool := fun _ ds => decide (uptoBulkAll ds ≤ 1048576)
def OpenSpec.upto (s : _root_.Go.ChangeSpec) : _root_.Go.OpenSpec := { _root_.Go.OpenSpec.ofChange s with cond := some uptoSmall }

/-- 'laws.FnExactDigestHex', WHERE WHAT IT READS IS OF BULK AT MOST 1048576: true; the input reads as it did. -/
def fnExactDigestHexUptoRow : OpenClaim := { program := "ytakejfhfkjnhlaadoor", sum := "a1c5d72f688ee1977fa6896db291c99fce32ef6c159c3ccdfcbc4ea2251ffc47", func := "loop.example/g00321/laws.FnExactDigestHex", spec := "fnExactDigestHex", inPlace := ["internal/abi.NoEscape", "internal/bytealg.MakeNoZero"], named := ["loop.example/g00321/impl.turns", "loop.example/g00321/impl.roundConstants"], apart := false, laid := [("loop.example/g00321/impl.roundConstants", laid_loop_example_g00321_impl_roundConstants), ("loop.example/g00321/impl.turns", laid_loop_example_g00321_impl_turns)], narrowed := true }
def FnExactDigestHexUptoSaid : Prop := fnExactDigestHexUptoRow.holds Tryd.pinned (OpenSpec.upto fnExactDigestHexSpec)

/-- 'laws.FnExactKeccakRound', WHERE WHAT IT READS IS OF BULK AT MOST 1048576: true; the input reads as it did. -/
def fnExactKeccakRoundUptoRow : OpenClaim := { program := "ytakejfhfkjnhlaadoor", sum := "a1c5d72f688ee1977fa6896db291c99fce32ef6c159c3ccdfcbc4ea2251ffc47", func := "loop.example/g00321/laws.FnExactKeccakRound", spec := "fnExactKeccakRound", named := ["loop.example/g00321/impl.turns", "loop.example/g00321/impl.roundConstants"], apart := false, laid := [("loop.example/g00321/impl.roundConstants", laid_loop_example_g00321_impl_roundConstants), ("loop.example/g00321/impl.turns", laid_loop_example_g00321_impl_turns)], narrowed := true }
def FnExactKeccakRoundUptoSaid : Prop := fnExactKeccakRoundUptoRow.holds Tryd.pinned (OpenSpec.upto fnExactKeccakRoundSpec)

/-- 'laws.FnExactKeccakF', WHERE WHAT IT READS IS OF BULK AT MOST 1048576: true; the input reads as it did. -/
def fnExactKeccakFUptoRow : OpenClaim := { program := "ytakejfhfkjnhlaadoor", sum := "a1c5d72f688ee1977fa6896db291c99fce32ef6c159c3ccdfcbc4ea2251ffc47", func := "loop.example/g00321/laws.FnExactKeccakF", spec := "fnExactKeccakF", named := ["loop.example/g00321/impl.turns", "loop.example/g00321/impl.roundConstants"], apart := false, laid := [("loop.example/g00321/impl.roundConstants", laid_loop_example_g00321_impl_roundConstants), ("loop.example/g00321/impl.turns", laid_loop_example_g00321_impl_turns)], narrowed := true }
def FnExactKeccakFUptoSaid : Prop := fnExactKeccakFUptoRow.holds Tryd.pinned (OpenSpec.upto fnExactKeccakFSpec)

/-- 'laws.FnRounds', WHERE WHAT IT READS IS OF BULK AT MOST 1048576: true; the input reads as it did. -/
def fnRoundsUptoRow : OpenClaim := { program := "ytakejfhfkjnhlaadoor", sum := "a1c5d72f688ee1977fa6896db291c99fce32ef6c159c3ccdfcbc4ea2251ffc47", func := "loop.example/g00321/laws.FnRounds", spec := "fnRounds", named := ["loop.example/g00321/impl.turns", "loop.example/g00321/impl.roundConstants"], apart := false, laid := [("loop.example/g00321/impl.roundConstants", laid_loop_example_g00321_impl_roundConstants), ("loop.example/g00321/impl.turns", laid_loop_example_g00321_impl_turns)], narrowed := true }
def FnRoundsUptoSaid : Prop := fnRoundsUptoRow.holds Tryd.pinned (OpenSpec.upto fnRoundsSpec)

/-- 'laws.FnExactDigest', WHERE WHAT IT READS IS OF BULK AT MOST 1048576: true; the input reads as it did. -/
def fnExactDigestUptoRow : OpenClaim := { program := "ytakejfhfkjnhlaadoor", sum := "a1c5d72f688ee1977fa6896db291c99fce32ef6c159c3ccdfcbc4ea2251ffc47", func := "loop.example/g00321/laws.FnExactDigest", spec := "fnExactDigest", inPlace := ["internal/abi.NoEscape", "internal/bytealg.MakeNoZero"], named := ["loop.example/g00321/impl.turns", "loop.example/g00321/impl.roundConstants"], apart := false, laid := [("loop.example/g00321/impl.roundConstants", laid_loop_example_g00321_impl_roundConstants), ("loop.example/g00321/impl.turns", laid_loop_example_g00321_impl_turns)], narrowed := true }
def FnExactDigestUptoSaid : Prop := fnExactDigestUptoRow.holds Tryd.pinned (OpenSpec.upto fnExactDigestSpec)

/-- 'laws.FnExactDigestPair', WHERE WHAT IT READS IS OF BULK AT MOST 1048576: true; the input reads as it did. -/
def fnExactDigestPairUptoRow : OpenClaim := { program := "ytakejfhfkjnhlaadoor", sum := "a1c5d72f688ee1977fa6896db291c99fce32ef6c159c3ccdfcbc4ea2251ffc47", func := "loop.example/g00321/laws.FnExactDigestPair", spec := "fnExactDigestPair", inPlace := ["internal/abi.NoEscape", "internal/bytealg.MakeNoZero"], named := ["loop.example/g00321/impl.turns", "loop.example/g00321/impl.roundConstants"], apart := false, laid := [("loop.example/g00321/impl.roundConstants", laid_loop_example_g00321_impl_roundConstants), ("loop.example/g00321/impl.turns", laid_loop_example_g00321_impl_turns)], narrowed := true }
def FnExactDigestPairUptoSaid : Prop := fnExactDigestPairUptoRow.holds Tryd.pinned (OpenSpec.upto fnExactDigestPairSpec)

/-- 'laws.FnDigests', WHERE WHAT IT READS IS OF BULK AT MOST 1048576: true; the input reads as it did. -/
def fnDigestsUptoRow : OpenClaim := { program := "ytakejfhfkjnhlaadoor", sum := "a1c5d72f688ee1977fa6896db291c99fce32ef6c159c3ccdfcbc4ea2251ffc47", func := "loop.example/g00321/laws.FnDigests", spec := "fnDigests", inPlace := ["internal/abi.NoEscape", "internal/bytealg.MakeNoZero"], named := ["loop.example/g00321/impl.turns", "loop.example/g00321/impl.roundConstants"], apart := false, laid := [("loop.example/g00321/impl.roundConstants", laid_loop_example_g00321_impl_roundConstants), ("loop.example/g00321/impl.turns", laid_loop_example_g00321_impl_turns)], narrowed := true }
def FnDigestsUptoSaid : Prop := fnDigestsUptoRow.holds Tryd.pinned (OpenSpec.upto fnDigestsSpec)

end Rows
end Go.Proofs.YtakejfhfkjnhlaaDoor
