/-
  DERIVED. GIVEN WITH THE SEED: THE CARDS: each row of YtakejfhfkjnhlaaDoorRows.lean that lists a variable, with what it lists TIED to the program's text (the seventh form; the later family's looks); each row that meets fmt, with fmt's text TOLD by the authors' own Lean function (tested against real Go, not proved from fmt's source: count such statements apart). THE CARD IS WHAT COUNTS. Prove the row's statement (the work); the ties are given (YtakejfhfkjnhlaaDoorTie.lean); close each card by the builder's one call (the guide's Derived/Test/ToyasCard.lean, 'card_holds'). Laid BY PROGRAM, IN A SANDBOX (cutbox-door.mjs). By AI agents, Wed Nov 11 2026. No macro, syntax, notation, axiom, sorry.
-/
import Derived.Test.YtakejfhfkjnhlaaDoorRows
import GoSem.ClaimSeven
namespace Go.Proofs.YtakejfhfkjnhlaaDoor
namespace Rows

/-- THE TIED CARD OF 'laws.FnExactDigestHex'. -/
def fnExactDigestHexCard : Claim7 := { stood := { row := fnExactDigestHexRow, standIns := [], harness := (true, "41f992755f3026068a1bbd207ee45670cd3a3e8beed3b1de38cb6261b79b1a1a"), looks := false }, kinds := [], alts := [], laidByText := true, laidKinds := [.data, .data], laidTests := true, laidLooks := .later }
def FnExactDigestHexCardSaid : Prop := Claim7.holds Tryd.pinned (.plain (OpenSpec.ofChange fnExactDigestHexSpec)) fnExactDigestHexCard

/-- THE TIED CARD OF 'laws.FnExactKeccakRound'. -/
def fnExactKeccakRoundCard : Claim7 := { stood := { row := fnExactKeccakRoundRow, standIns := [], harness := (true, "41f992755f3026068a1bbd207ee45670cd3a3e8beed3b1de38cb6261b79b1a1a"), looks := false }, kinds := [], alts := [], laidByText := true, laidKinds := [.data, .data], laidTests := true, laidLooks := .later }
def FnExactKeccakRoundCardSaid : Prop := Claim7.holds Tryd.pinned (.plain (OpenSpec.ofChange fnExactKeccakRoundSpec)) fnExactKeccakRoundCard

/-- THE TIED CARD OF 'laws.FnExactKeccakF'. -/
def fnExactKeccakFCard : Claim7 := { stood := { row := fnExactKeccakFRow, standIns := [], harness := (true, "41f992755f3026068a1bbd207ee45670cd3a3e8beed3b1de38cb6261b79b1a1a"), looks := false }, kinds := [], alts := [], laidByText := true, laidKinds := [.data, .data], laidTests := true, laidLooks := .later }
def FnExactKeccakFCardSaid : Prop := Claim7.holds Tryd.pinned (.plain (OpenSpec.ofChange fnExactKeccakFSpec)) fnExactKeccakFCard

/-- THE TIED CARD OF 'laws.FnRounds'. -/
def fnRoundsCard : Claim7 := { stood := { row := fnRoundsRow, standIns := [], harness := (true, "41f992755f3026068a1bbd207ee45670cd3a3e8beed3b1de38cb6261b79b1a1a"), looks := false }, kinds := [], alts := [], laidByText := true, laidKinds := [.data, .data], laidTests := true, laidLooks := .later }
def FnRoundsCardSaid : Prop := Claim7.holds Tryd.pinned (.plain (OpenSpec.ofChange fnRoundsSpec)) fnRoundsCard

/-- THE TIED CARD OF 'laws.FnExactDigest'. -/
def fnExactDigestCard : Claim7 := { stood := { row := fnExactDigestRow, standIns := [], harness := (true, "41f992755f3026068a1bbd207ee45670cd3a3e8beed3b1de38cb6261b79b1a1a"), looks := false }, kinds := [], alts := [], laidByText := true, laidKinds := [.data, .data], laidTests := true, laidLooks := .later }
def FnExactDigestCardSaid : Prop := Claim7.holds Tryd.pinned (.plain (OpenSpec.ofChange fnExactDigestSpec)) fnExactDigestCard

/-- THE TIED CARD OF 'laws.FnExactDigestPair'. -/
def fnExactDigestPairCard : Claim7 := { stood := { row := fnExactDigestPairRow, standIns := [], harness := (true, "41f992755f3026068a1bbd207ee45670cd3a3e8beed3b1de38cb6261b79b1a1a"), looks := false }, kinds := [], alts := [], laidByText := true, laidKinds := [.data, .data], laidTests := true, laidLooks := .later }
def FnExactDigestPairCardSaid : Prop := Claim7.holds Tryd.pinned (.plain (OpenSpec.ofChange fnExactDigestPairSpec)) fnExactDigestPairCard

/-- THE TIED CARD OF 'laws.FnDigests'. -/
def fnDigestsCard : Claim7 := { stood := { row := fnDigestsRow, standIns := [], harness := (true, "41f992755f3026068a1bbd207ee45670cd3a3e8beed3b1de38cb6261b79b1a1a"), looks := false }, kinds := [], alts := [], laidByText := true, laidKinds := [.data, .data], laidTests := true, laidLooks := .later }
def FnDigestsCardSaid : Prop := Claim7.holds Tryd.pinned (.plain (OpenSpec.ofChange fnDigestsSpec)) fnDigestsCard

/-- THE SECOND FORM's CARD OF 'laws.FnExactDigestHex'. -/
def fnExactDigestHexUptoCard : Claim7 := { stood := { row := fnExactDigestHexUptoRow, standIns := [], harness := (true, "41f992755f3026068a1bbd207ee45670cd3a3e8beed3b1de38cb6261b79b1a1a"), looks := false }, kinds := [], alts := [], laidByText := true, laidKinds := [.data, .data], laidTests := true, laidLooks := .later }
def FnExactDigestHexUptoCardSaid : Prop := Claim7.holds Tryd.pinned (.plain (OpenSpec.upto fnExactDigestHexSpec)) fnExactDigestHexUptoCard

/-- THE SECOND FORM's CARD OF 'laws.FnExactKeccakRound'. -/
def fnExactKeccakRoundUptoCard : Claim7 := { stood := { row := fnExactKeccakRoundUptoRow, standIns := [], harness := (true, "41f992755f3026068a1bbd207ee45670cd3a3e8beed3b1de38cb6261b79b1a1a"), looks := false }, kinds := [], alts := [], laidByText := true, laidKinds := [.data, .data], laidTests := true, laidLooks := .later }
def FnExactKeccakRoundUptoCardSaid : Prop := Claim7.holds Tryd.pinned (.plain (OpenSpec.upto fnExactKeccakRoundSpec)) fnExactKeccakRoundUptoCard

/-- THE SECOND FORM's CARD OF 'laws.FnExactKeccakF'. -/
def fnExactKeccakFUptoCard : Claim7 := { stood := { row := fnExactKeccakFUptoRow, standIns := [], harness := (true, "41f992755f3026068a1bbd207ee45670cd3a3e8beed3b1de38cb6261b79b1a1a"), looks := false }, kinds := [], alts := [], laidByText := true, laidKinds := [.data, .data], laidTests := true, laidLooks := .later }
def FnExactKeccakFUptoCardSaid : Prop := Claim7.holds Tryd.pinned (.plain (OpenSpec.upto fnExactKeccakFSpec)) fnExactKeccakFUptoCard

/-- THE SECOND FORM's CARD OF 'laws.FnRounds'. -/
def fnRoundsUptoCard : Claim7 := { stood := { row := fnRoundsUptoRow, standIns := [], harness := (true, "41f992755f3026068a1bbd207ee45670cd3a3e8beed3b1de38cb6261b79b1a1a"), looks := false }, kinds := [], alts := [], laidByText := true, laidKinds := [.data, .data], laidTests := true, laidLooks := .later }
def FnRoundsUptoCardSaid : Prop := Claim7.holds Tryd.pinned (.plain (OpenSpec.upto fnRoundsSpec)) fnRoundsUptoCard

/-- THE SECOND FORM's CARD OF 'laws.FnExactDigest'. -/
def fnExactDigestUptoCard : Claim7 := { stood := { row := fnExactDigestUptoRow, standIns := [], harness := (true, "41f992755f3026068a1bbd207ee45670cd3a3e8beed3b1de38cb6261b79b1a1a"), looks := false }, kinds := [], alts := [], laidByText := true, laidKinds := [.data, .data], laidTests := true, laidLooks := .later }
def FnExactDigestUptoCardSaid : Prop := Claim7.holds Tryd.pinned (.plain (OpenSpec.upto fnExactDigestSpec)) fnExactDigestUptoCard

/-- THE SECOND FORM's CARD OF 'laws.FnExactDigestPair'. -/
def fnExactDigestPairUptoCard : Claim7 := { stood := { row := fnExactDigestPairUptoRow, standIns := [], harness := (true, "41f992755f3026068a1bbd207ee45670cd3a3e8beed3b1de38cb6261b79b1a1a"), looks := false }, kinds := [], alts := [], laidByText := true, laidKinds := [.data, .data], laidTests := true, laidLooks := .later }
def FnExactDigestPairUptoCardSaid : Prop := Claim7.holds Tryd.pinned (.plain (OpenSpec.upto fnExactDigestPairSpec)) fnExactDigestPairUptoCard

/-- THE SECOND FORM's CARD OF 'laws.FnDigests'. -/
def fnDigestsUptoCard : Claim7 := { stood := { row := fnDigestsUptoRow, standIns := [], harness := (true, "41f992755f3026068a1bbd207ee45670cd3a3e8beed3b1de38cb6261b79b1a1a"), looks := false }, kinds := [], alts := [], laidByText := true, laidKinds := [.data, .data], laidTests := true, laidLooks := .later }
def FnDigestsUptoCardSaid : Prop := Claim7.holds Tryd.pinned (.plain (OpenSpec.upto fnDigestsSpec)) fnDigestsUptoCard
end Rows
end Go.Proofs.YtakejfhfkjnhlaaDoor
