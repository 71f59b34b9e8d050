/-
  DERIVED. GIVEN WITH THE SEED: THE CARDS: each row of YtdbgfeeglnpobaaDoorRows.lean that lists a variable, with what it lists TIED to the program's text (the seventh form; the later family's looks); each row that meets fmt, with fmt's text TOLD by the authors' own Lean function (tested against real Go, not proved from fmt's source: count such statements apart). THE CARD IS WHAT COUNTS. Prove the row's statement (the work); the ties are given (YtdbgfeeglnpobaaDoorTie.lean); close each card by the builder's one call (the guide's Derived/Test/ToyasCard.lean, 'card_holds'). Laid BY PROGRAM, IN A SANDBOX (cutbox-door.mjs). By AI agents, Wed Nov 11 2026. No macro, syntax, notation, axiom, sorry.
-/
import Derived.Test.YtdbgfeeglnpobaaDoorRows
import GoSem.ClaimSeven
namespace Go.Proofs.YtdbgfeeglnpobaaDoor
namespace Rows

/-- THE TIED CARD OF 'stirruplaw01.DecimalFormats'. -/
def decimalFormatsCard : Claim7 := { stood := { row := decimalFormatsRow, standIns := [], harness := (true, "facb1b446bc0d36a018daca3f028f572e9cc43a30a90e74a2c609bd142376543"), looks := false }, kinds := [], alts := [], laidByText := true, laidKinds := [.data, .data, .data], laidTests := true, laidLooks := .later }
def DecimalFormatsCardSaid : Prop := Claim7.holds Tryd.pinned (.plain (OpenSpec.ofChange decimalFormatsSpec)) decimalFormatsCard

/-- THE TIED CARD OF 'stirruplaw01.DecimalParses'. -/
def decimalParsesCard : Claim7 := { stood := { row := decimalParsesRow, standIns := [], harness := (true, "facb1b446bc0d36a018daca3f028f572e9cc43a30a90e74a2c609bd142376543"), looks := false }, kinds := [], alts := [], laidByText := true, laidKinds := [.data, .data, .data], laidTests := true, laidLooks := .later }
def DecimalParsesCardSaid : Prop := Claim7.holds Tryd.pinned (.plain (OpenSpec.ofChange decimalParsesSpec)) decimalParsesCard

/-- THE TIED CARD OF 'stirruplaw01.DecimalRounds'. -/
def decimalRoundsCard : Claim7 := { stood := { row := decimalRoundsRow, standIns := [], harness := (true, "facb1b446bc0d36a018daca3f028f572e9cc43a30a90e74a2c609bd142376543"), looks := false }, kinds := [], alts := [], laidByText := true, laidKinds := [.data, .data, .data], laidTests := true, laidLooks := .later }
def DecimalRoundsCardSaid : Prop := Claim7.holds Tryd.pinned (.plain (OpenSpec.ofChange decimalRoundsSpec)) decimalRoundsCard

/-- THE TIED CARD OF 'stirruplaw01.DecimalLong'. -/
def decimalLongCard : Claim7 := { stood := { row := decimalLongRow, standIns := [], harness := (true, "facb1b446bc0d36a018daca3f028f572e9cc43a30a90e74a2c609bd142376543"), looks := false }, kinds := [], alts := [], laidByText := true, laidKinds := [.data, .data, .data], laidTests := true, laidLooks := .later }
def DecimalLongCardSaid : Prop := Claim7.holds Tryd.pinned (.plain (OpenSpec.ofChange decimalLongSpec)) decimalLongCard

/-- THE TIED CARD OF 'stirruplaw01.DecimalBack'. -/
def decimalBackCard : Claim7 := { stood := { row := decimalBackRow, standIns := [], harness := (true, "facb1b446bc0d36a018daca3f028f572e9cc43a30a90e74a2c609bd142376543"), looks := false }, kinds := [], alts := [], laidByText := true, laidKinds := [.data, .data, .data], laidTests := true, laidLooks := .later }
def DecimalBackCardSaid : Prop := Claim7.holds Tryd.pinned (.plain (OpenSpec.ofChange decimalBackSpec)) decimalBackCard

/-- THE TIED CARD OF 'stirruplaw01.DecimalHalf'. -/
def decimalHalfCard : Claim7 := { stood := { row := decimalHalfRow, standIns := [], harness := (true, "facb1b446bc0d36a018daca3f028f572e9cc43a30a90e74a2c609bd142376543"), looks := false }, kinds := [], alts := [], laidByText := true, laidKinds := [.data, .data, .data], laidTests := true, laidLooks := .later }
def DecimalHalfCardSaid : Prop := Claim7.holds Tryd.pinned (.plain (OpenSpec.ofChange decimalHalfSpec)) decimalHalfCard

/-- THE TIED CARD OF 'stirruplaw01.DecimalTokens'. -/
def decimalTokensCard : Claim7 := { stood := { row := decimalTokensRow, standIns := [], harness := (true, "facb1b446bc0d36a018daca3f028f572e9cc43a30a90e74a2c609bd142376543"), looks := false }, kinds := [], alts := [], laidByText := true, laidKinds := [.data, .data, .data], laidTests := true, laidLooks := .later }
def DecimalTokensCardSaid : Prop := Claim7.holds Tryd.pinned (.plain (OpenSpec.ofChange decimalTokensSpec)) decimalTokensCard

/-- THE TIED CARD OF 'stirruplaw01.DecimalJoined'. -/
def decimalJoinedCard : Claim7 := { stood := { row := decimalJoinedRow, standIns := [], harness := (true, "facb1b446bc0d36a018daca3f028f572e9cc43a30a90e74a2c609bd142376543"), looks := false }, kinds := [], alts := [], laidByText := true, laidKinds := [.data, .data, .data, .data, .pinned], laidTests := true, laidLooks := .later }
def DecimalJoinedCardSaid : Prop := Claim7.holds Tryd.pinned (.plain (OpenSpec.ofChange decimalJoinedSpec)) decimalJoinedCard

/-- THE SECOND FORM's CARD OF 'stirruplaw01.DecimalFormats'. -/
def decimalFormatsUptoCard : Claim7 := { stood := { row := decimalFormatsUptoRow, standIns := [], harness := (true, "facb1b446bc0d36a018daca3f028f572e9cc43a30a90e74a2c609bd142376543"), looks := false }, kinds := [], alts := [], laidByText := true, laidKinds := [.data, .data, .data], laidTests := true, laidLooks := .later }
def DecimalFormatsUptoCardSaid : Prop := Claim7.holds Tryd.pinned (.plain (OpenSpec.upto decimalFormatsSpec)) decimalFormatsUptoCard

/-- THE SECOND FORM's CARD OF 'stirruplaw01.DecimalParses'. -/
def decimalParsesUptoCard : Claim7 := { stood := { row := decimalParsesUptoRow, standIns := [], harness := (true, "facb1b446bc0d36a018daca3f028f572e9cc43a30a90e74a2c609bd142376543"), looks := false }, kinds := [], alts := [], laidByText := true, laidKinds := [.data, .data, .data], laidTests := true, laidLooks := .later }
def DecimalParsesUptoCardSaid : Prop := Claim7.holds Tryd.pinned (.plain (OpenSpec.upto decimalParsesSpec)) decimalParsesUptoCard

/-- THE SECOND FORM's CARD OF 'stirruplaw01.DecimalRounds'. -/
def decimalRoundsUptoCard : Claim7 := { stood := { row := decimalRoundsUptoRow, standIns := [], harness := (true, "facb1b446bc0d36a018daca3f028f572e9cc43a30a90e74a2c609bd142376543"), looks := false }, kinds := [], alts := [], laidByText := true, laidKinds := [.data, .data, .data], laidTests := true, laidLooks := .later }
def DecimalRoundsUptoCardSaid : Prop := Claim7.holds Tryd.pinned (.plain (OpenSpec.upto decimalRoundsSpec)) decimalRoundsUptoCard

/-- THE SECOND FORM's CARD OF 'stirruplaw01.DecimalLong'. -/
def decimalLongUptoCard : Claim7 := { stood := { row := decimalLongUptoRow, standIns := [], harness := (true, "facb1b446bc0d36a018daca3f028f572e9cc43a30a90e74a2c609bd142376543"), looks := false }, kinds := [], alts := [], laidByText := true, laidKinds := [.data, .data, .data], laidTests := true, laidLooks := .later }
def DecimalLongUptoCardSaid : Prop := Claim7.holds Tryd.pinned (.plain (OpenSpec.upto decimalLongSpec)) decimalLongUptoCard

/-- THE SECOND FORM's CARD OF 'stirruplaw01.DecimalBack'. -/
def decimalBackUptoCard : Claim7 := { stood := { row := decimalBackUptoRow, standIns := [], harness := (true, "facb1b446bc0d36a018daca3f028f572e9cc43a30a90e74a2c609bd142376543"), looks := false }, kinds := [], alts := [], laidByText := true, laidKinds := [.data, .data, .data], laidTests := true, laidLooks := .later }
def DecimalBackUptoCardSaid : Prop := Claim7.holds Tryd.pinned (.plain (OpenSpec.upto decimalBackSpec)) decimalBackUptoCard

/-- THE SECOND FORM's CARD OF 'stirruplaw01.DecimalHalf'. -/
def decimalHalfUptoCard : Claim7 := { stood := { row := decimalHalfUptoRow, standIns := [], harness := (true, "facb1b446bc0d36a018daca3f028f572e9cc43a30a90e74a2c609bd142376543"), looks := false }, kinds := [], alts := [], laidByText := true, laidKinds := [.data, .data, .data], laidTests := true, laidLooks := .later }
def DecimalHalfUptoCardSaid : Prop := Claim7.holds Tryd.pinned (.plain (OpenSpec.upto decimalHalfSpec)) decimalHalfUptoCard

/-- THE SECOND FORM's CARD OF 'stirruplaw01.DecimalTokens'. -/
def decimalTokensUptoCard : Claim7 := { stood := { row := decimalTokensUptoRow, standIns := [], harness := (true, "facb1b446bc0d36a018daca3f028f572e9cc43a30a90e74a2c609bd142376543"), looks := false }, kinds := [], alts := [], laidByText := true, laidKinds := [.data, .data, .data], laidTests := true, laidLooks := .later }
def DecimalTokensUptoCardSaid : Prop := Claim7.holds Tryd.pinned (.plain (OpenSpec.upto decimalTokensSpec)) decimalTokensUptoCard

/-- THE SECOND FORM's CARD OF 'stirruplaw01.DecimalJoined'. -/
def decimalJoinedUptoCard : Claim7 := { stood := { row := decimalJoinedUptoRow, standIns := [], harness := (true, "facb1b446bc0d36a018daca3f028f572e9cc43a30a90e74a2c609bd142376543"), looks := false }, kinds := [], alts := [], laidByText := true, laidKinds := [.data, .data, .data, .data, .pinned], laidTests := true, laidLooks := .later }
def DecimalJoinedUptoCardSaid : Prop := Claim7.holds Tryd.pinned (.plain (OpenSpec.upto decimalJoinedSpec)) decimalJoinedUptoCard
end Rows
end Go.Proofs.YtdbgfeeglnpobaaDoor
