/-
  DERIVED. GIVEN WITH THE SEED: THE CARDS: each row of YtccakklnbhcbdaaGreatDoorRows.lean that lists a variable, with what it lists TIED to the program's text (the seventh form; the later family's looks); each row that meets fmt, with fmt's text TOLD by the authors' own Lean function (tested against real Go, not proved from fmt's source: count such statements apart). THE CARD IS WHAT COUNTS. Prove the row's statement (the work); the ties are given (YtccakklnbhcbdaaGreatDoorTie.lean); close each card by the builder's one call (the guide's Derived/Test/ToyasCard.lean, 'card_holds'). Laid BY PROGRAM, IN A SANDBOX (cutbox-door.mjs). By AI agents, Wed Nov 11 2026. No macro, syntax, notation, axiom, sorry.
-/
import Derived.Test.YtccakklnbhcbdaaGreatDoorRows
import GoSem.ClaimSeven
namespace Go.Proofs.YtccakklnbhcbdaaGreatDoor
namespace Rows

/-- THE TIED CARD OF 'stirruplaw45.SourceTexts'. -/
def sourceTextsCard : Claim7 := { stood := { row := sourceTextsRow, standIns := [], harness := (true, "ef136f21e4f1f238283fa95e9fb0a728ffd1ea20374d465863929afbb51101b2"), looks := true }, kinds := [], alts := [], laidByText := true, laidKinds := [.data, .data, .data, .sentinel, .sentinel], laidTests := true, laidLooks := .later }
def SourceTextsCardSaid : Prop := Claim7.holds Tryz.pinned (.plain (OpenSpec.ofChange sourceTextsSpec)) sourceTextsCard

/-- THE TIED CARD OF 'stirruplaw45.SourceFormats'. -/
def sourceFormatsCard : Claim7 := { stood := { row := sourceFormatsRow, standIns := [], harness := (true, "ef136f21e4f1f238283fa95e9fb0a728ffd1ea20374d465863929afbb51101b2"), looks := true }, kinds := [], alts := [], laidByText := true, laidKinds := [.data, .data, .data, .sentinel, .sentinel], laidTests := true, laidLooks := .later }
def SourceFormatsCardSaid : Prop := Claim7.holds Tryz.pinned (.plain (OpenSpec.ofChange sourceFormatsSpec)) sourceFormatsCard

/-- THE TIED CARD OF 'stirruplaw45.SourceReads'. -/
def sourceReadsCard : Claim7 := { stood := { row := sourceReadsRow, standIns := [], harness := (true, "ef136f21e4f1f238283fa95e9fb0a728ffd1ea20374d465863929afbb51101b2"), looks := true }, kinds := [], alts := [], laidByText := true, laidKinds := [.data, .data, .data, .sentinel, .sentinel], laidTests := true, laidLooks := .later }
def SourceReadsCardSaid : Prop := Claim7.holds Tryz.pinned (.plain (OpenSpec.ofChange sourceReadsSpec)) sourceReadsCard

/-- THE TIED CARD OF 'stirruplaw45.SourceNames'. -/
def sourceNamesCard : Claim7 := { stood := { row := sourceNamesRow, standIns := [], harness := (true, "ef136f21e4f1f238283fa95e9fb0a728ffd1ea20374d465863929afbb51101b2"), looks := true }, kinds := [], alts := [], laidByText := true, laidKinds := [.data, .data, .data, .sentinel, .sentinel], laidTests := true, laidLooks := .later }
def SourceNamesCardSaid : Prop := Claim7.holds Tryz.pinned (.plain (OpenSpec.ofChange sourceNamesSpec)) sourceNamesCard

/-- THE TIED CARD OF 'stirruplaw45.SourceBack'. -/
def sourceBackCard : Claim7 := { stood := { row := sourceBackRow, standIns := [], harness := (true, "ef136f21e4f1f238283fa95e9fb0a728ffd1ea20374d465863929afbb51101b2"), looks := true }, kinds := [], alts := [], laidByText := true, laidKinds := [.data, .data, .data, .sentinel, .sentinel], laidTests := true, laidLooks := .later }
def SourceBackCardSaid : Prop := Claim7.holds Tryz.pinned (.plain (OpenSpec.ofChange sourceBackSpec)) sourceBackCard

/-- THE TIED CARD OF 'stirruplaw45.SourceBlanks'. -/
def sourceBlanksCard : Claim7 := { stood := { row := sourceBlanksRow, standIns := [], harness := (true, "ef136f21e4f1f238283fa95e9fb0a728ffd1ea20374d465863929afbb51101b2"), looks := true }, kinds := [], alts := [], laidByText := true, laidKinds := [.data, .data, .data, .data, .sentinel, .sentinel, .pinned], laidTests := true, laidLooks := .later }
def SourceBlanksCardSaid : Prop := Claim7.holds Tryz.pinned (.plain (OpenSpec.ofChange sourceBlanksSpec)) sourceBlanksCard

/-- THE SECOND FORM's CARD OF 'stirruplaw45.SourceTexts'. -/
def sourceTextsUptoCard : Claim7 := { stood := { row := sourceTextsUptoRow, standIns := [], harness := (true, "ef136f21e4f1f238283fa95e9fb0a728ffd1ea20374d465863929afbb51101b2"), looks := true }, kinds := [], alts := [], laidByText := true, laidKinds := [.data, .data, .data, .sentinel, .sentinel], laidTests := true, laidLooks := .later }
def SourceTextsUptoCardSaid : Prop := Claim7.holds Tryz.pinned (.plain (OpenSpec.upto sourceTextsSpec)) sourceTextsUptoCard

/-- THE SECOND FORM's CARD OF 'stirruplaw45.SourceFormats'. -/
def sourceFormatsUptoCard : Claim7 := { stood := { row := sourceFormatsUptoRow, standIns := [], harness := (true, "ef136f21e4f1f238283fa95e9fb0a728ffd1ea20374d465863929afbb51101b2"), looks := true }, kinds := [], alts := [], laidByText := true, laidKinds := [.data, .data, .data, .sentinel, .sentinel], laidTests := true, laidLooks := .later }
def SourceFormatsUptoCardSaid : Prop := Claim7.holds Tryz.pinned (.plain (OpenSpec.upto sourceFormatsSpec)) sourceFormatsUptoCard

/-- THE SECOND FORM's CARD OF 'stirruplaw45.SourceReads'. -/
def sourceReadsUptoCard : Claim7 := { stood := { row := sourceReadsUptoRow, standIns := [], harness := (true, "ef136f21e4f1f238283fa95e9fb0a728ffd1ea20374d465863929afbb51101b2"), looks := true }, kinds := [], alts := [], laidByText := true, laidKinds := [.data, .data, .data, .sentinel, .sentinel], laidTests := true, laidLooks := .later }
def SourceReadsUptoCardSaid : Prop := Claim7.holds Tryz.pinned (.plain (OpenSpec.upto sourceReadsSpec)) sourceReadsUptoCard

/-- THE SECOND FORM's CARD OF 'stirruplaw45.SourceNames'. -/
def sourceNamesUptoCard : Claim7 := { stood := { row := sourceNamesUptoRow, standIns := [], harness := (true, "ef136f21e4f1f238283fa95e9fb0a728ffd1ea20374d465863929afbb51101b2"), looks := true }, kinds := [], alts := [], laidByText := true, laidKinds := [.data, .data, .data, .sentinel, .sentinel], laidTests := true, laidLooks := .later }
def SourceNamesUptoCardSaid : Prop := Claim7.holds Tryz.pinned (.plain (OpenSpec.upto sourceNamesSpec)) sourceNamesUptoCard

/-- THE SECOND FORM's CARD OF 'stirruplaw45.SourceBack'. -/
def sourceBackUptoCard : Claim7 := { stood := { row := sourceBackUptoRow, standIns := [], harness := (true, "ef136f21e4f1f238283fa95e9fb0a728ffd1ea20374d465863929afbb51101b2"), looks := true }, kinds := [], alts := [], laidByText := true, laidKinds := [.data, .data, .data, .sentinel, .sentinel], laidTests := true, laidLooks := .later }
def SourceBackUptoCardSaid : Prop := Claim7.holds Tryz.pinned (.plain (OpenSpec.upto sourceBackSpec)) sourceBackUptoCard

/-- THE SECOND FORM's CARD OF 'stirruplaw45.SourceBlanks'. -/
def sourceBlanksUptoCard : Claim7 := { stood := { row := sourceBlanksUptoRow, standIns := [], harness := (true, "ef136f21e4f1f238283fa95e9fb0a728ffd1ea20374d465863929afbb51101b2"), looks := true }, kinds := [], alts := [], laidByText := true, laidKinds := [.data, .data, .data, .data, .sentinel, .sentinel, .pinned], laidTests := true, laidLooks := .later }
def SourceBlanksUptoCardSaid : Prop := Claim7.holds Tryz.pinned (.plain (OpenSpec.upto sourceBlanksSpec)) sourceBlanksUptoCard
end Rows
end Go.Proofs.YtccakklnbhcbdaaGreatDoor
