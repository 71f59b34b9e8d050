/-
  DERIVED. GIVEN WITH THE SEED: THE CARDS: each row of YtdcfpopbnkafaaaDoorRows.lean that lists a variable, with what it lists TIED to the program's text (the seventh form; the later family's looks); each row that meets fmt, with fmt's text TOLD by the authors' own Lean function (tested against real Go, not proved from fmt's source: count such statements apart). THE CARD IS WHAT COUNTS. Prove the row's statement (the work); the ties are given (YtdcfpopbnkafaaaDoorTie.lean); close each card by the builder's one call (the guide's Derived/Test/ToyasCard.lean, 'card_holds'). Laid BY PROGRAM, IN A SANDBOX (cutbox-door.mjs). By AI agents, Wed Nov 11 2026. No macro, syntax, notation, axiom, sorry.
-/
import Derived.Test.YtdcfpopbnkafaaaDoorRows
import GoSem.ClaimSeven
namespace Go.Proofs.YtdcfpopbnkafaaaDoor
namespace Rows

/-- THE TIED CARD OF 'stirruplaw43.JournalAppends'. -/
def journalAppendsCard : Claim7 := { stood := { row := journalAppendsRow, standIns := [], harness := (true, "9d1f9ef1e4dd8c026595a09afc70123007969f42f0c95c15810f04466d7798c3"), looks := true }, kinds := [], alts := [], laidByText := true, laidKinds := [.data, .data, .data, .data, .sentinel, .sentinel, .pinned], laidTests := true, laidLooks := .later }
def JournalAppendsCardSaid : Prop := Claim7.holds Tryd.pinned (.plain (OpenSpec.ofChange journalAppendsSpec)) journalAppendsCard

/-- THE TIED CARD OF 'stirruplaw43.JournalBytes'. -/
def journalBytesCard : Claim7 := { stood := { row := journalBytesRow, standIns := [], harness := (true, "9d1f9ef1e4dd8c026595a09afc70123007969f42f0c95c15810f04466d7798c3"), looks := true }, kinds := [], alts := [], laidByText := true, laidKinds := [.data, .data, .data, .data, .sentinel, .sentinel, .pinned], laidTests := true, laidLooks := .later }
def JournalBytesCardSaid : Prop := Claim7.holds Tryd.pinned (.plain (OpenSpec.ofChange journalBytesSpec)) journalBytesCard

/-- THE TIED CARD OF 'stirruplaw43.JournalRecovers'. -/
def journalRecoversCard : Claim7 := { stood := { row := journalRecoversRow, standIns := [], harness := (true, "9d1f9ef1e4dd8c026595a09afc70123007969f42f0c95c15810f04466d7798c3"), looks := true }, kinds := [], alts := [], laidByText := true, laidKinds := [.data, .data, .data, .data, .sentinel, .sentinel, .pinned], laidTests := true, laidLooks := .later }
def JournalRecoversCardSaid : Prop := Claim7.holds Tryd.pinned (.plain (OpenSpec.ofChange journalRecoversSpec)) journalRecoversCard

/-- THE TIED CARD OF 'stirruplaw43.JournalGoesOn'. -/
def journalGoesOnCard : Claim7 := { stood := { row := journalGoesOnRow, standIns := [], harness := (true, "9d1f9ef1e4dd8c026595a09afc70123007969f42f0c95c15810f04466d7798c3"), looks := true }, kinds := [], alts := [], laidByText := true, laidKinds := [.data, .data, .data, .data, .sentinel, .sentinel, .pinned], laidTests := true, laidLooks := .later }
def JournalGoesOnCardSaid : Prop := Claim7.holds Tryd.pinned (.plain (OpenSpec.ofChange journalGoesOnSpec)) journalGoesOnCard

/-- THE TIED CARD OF 'stirruplaw43.JournalGrows'. -/
def journalGrowsCard : Claim7 := { stood := { row := journalGrowsRow, standIns := [], harness := (true, "9d1f9ef1e4dd8c026595a09afc70123007969f42f0c95c15810f04466d7798c3"), looks := true }, kinds := [], alts := [], laidByText := true, laidKinds := [.data, .data, .data, .data, .sentinel, .sentinel, .pinned], laidTests := true, laidLooks := .later }
def JournalGrowsCardSaid : Prop := Claim7.holds Tryd.pinned (.plain (OpenSpec.ofChange journalGrowsSpec)) journalGrowsCard

/-- THE TIED CARD OF 'stirruplaw43.JournalChanged'. -/
def journalChangedCard : Claim7 := { stood := { row := journalChangedRow, standIns := [], harness := (true, "9d1f9ef1e4dd8c026595a09afc70123007969f42f0c95c15810f04466d7798c3"), looks := true }, kinds := [], alts := [], laidByText := true, laidKinds := [.data, .data, .data, .data, .sentinel, .sentinel, .pinned], laidTests := true, laidLooks := .later }
def JournalChangedCardSaid : Prop := Claim7.holds Tryd.pinned (.plain (OpenSpec.ofChange journalChangedSpec)) journalChangedCard

/-- THE TIED CARD OF 'stirruplaw43.JournalRead'. -/
def journalReadCard : Claim7 := { stood := { row := journalReadRow, standIns := [], harness := (true, "9d1f9ef1e4dd8c026595a09afc70123007969f42f0c95c15810f04466d7798c3"), looks := true }, kinds := [], alts := [], laidByText := true, laidKinds := [.data, .data, .data, .data, .sentinel, .sentinel, .pinned], laidTests := true, laidLooks := .later }
def JournalReadCardSaid : Prop := Claim7.holds Tryd.pinned (.plain (OpenSpec.ofChange journalReadSpec)) journalReadCard

/-- THE SECOND FORM's CARD OF 'stirruplaw43.JournalAppends'. -/
def journalAppendsUptoCard : Claim7 := { stood := { row := journalAppendsUptoRow, standIns := [], harness := (true, "9d1f9ef1e4dd8c026595a09afc70123007969f42f0c95c15810f04466d7798c3"), looks := true }, kinds := [], alts := [], laidByText := true, laidKinds := [.data, .data, .data, .data, .sentinel, .sentinel, .pinned], laidTests := true, laidLooks := .later }
def JournalAppendsUptoCardSaid : Prop := Claim7.holds Tryd.pinned (.plain (OpenSpec.upto journalAppendsSpec)) journalAppendsUptoCard

/-- THE SECOND FORM's CARD OF 'stirruplaw43.JournalBytes'. -/
def journalBytesUptoCard : Claim7 := { stood := { row := journalBytesUptoRow, standIns := [], harness := (true, "9d1f9ef1e4dd8c026595a09afc70123007969f42f0c95c15810f04466d7798c3"), looks := true }, kinds := [], alts := [], laidByText := true, laidKinds := [.data, .data, .data, .data, .sentinel, .sentinel, .pinned], laidTests := true, laidLooks := .later }
def JournalBytesUptoCardSaid : Prop := Claim7.holds Tryd.pinned (.plain (OpenSpec.upto journalBytesSpec)) journalBytesUptoCard

/-- THE SECOND FORM's CARD OF 'stirruplaw43.JournalRecovers'. -/
def journalRecoversUptoCard : Claim7 := { stood := { row := journalRecoversUptoRow, standIns := [], harness := (true, "9d1f9ef1e4dd8c026595a09afc70123007969f42f0c95c15810f04466d7798c3"), looks := true }, kinds := [], alts := [], laidByText := true, laidKinds := [.data, .data, .data, .data, .sentinel, .sentinel, .pinned], laidTests := true, laidLooks := .later }
def JournalRecoversUptoCardSaid : Prop := Claim7.holds Tryd.pinned (.plain (OpenSpec.upto journalRecoversSpec)) journalRecoversUptoCard

/-- THE SECOND FORM's CARD OF 'stirruplaw43.JournalGoesOn'. -/
def journalGoesOnUptoCard : Claim7 := { stood := { row := journalGoesOnUptoRow, standIns := [], harness := (true, "9d1f9ef1e4dd8c026595a09afc70123007969f42f0c95c15810f04466d7798c3"), looks := true }, kinds := [], alts := [], laidByText := true, laidKinds := [.data, .data, .data, .data, .sentinel, .sentinel, .pinned], laidTests := true, laidLooks := .later }
def JournalGoesOnUptoCardSaid : Prop := Claim7.holds Tryd.pinned (.plain (OpenSpec.upto journalGoesOnSpec)) journalGoesOnUptoCard

/-- THE SECOND FORM's CARD OF 'stirruplaw43.JournalGrows'. -/
def journalGrowsUptoCard : Claim7 := { stood := { row := journalGrowsUptoRow, standIns := [], harness := (true, "9d1f9ef1e4dd8c026595a09afc70123007969f42f0c95c15810f04466d7798c3"), looks := true }, kinds := [], alts := [], laidByText := true, laidKinds := [.data, .data, .data, .data, .sentinel, .sentinel, .pinned], laidTests := true, laidLooks := .later }
def JournalGrowsUptoCardSaid : Prop := Claim7.holds Tryd.pinned (.plain (OpenSpec.upto journalGrowsSpec)) journalGrowsUptoCard

/-- THE SECOND FORM's CARD OF 'stirruplaw43.JournalChanged'. -/
def journalChangedUptoCard : Claim7 := { stood := { row := journalChangedUptoRow, standIns := [], harness := (true, "9d1f9ef1e4dd8c026595a09afc70123007969f42f0c95c15810f04466d7798c3"), looks := true }, kinds := [], alts := [], laidByText := true, laidKinds := [.data, .data, .data, .data, .sentinel, .sentinel, .pinned], laidTests := true, laidLooks := .later }
def JournalChangedUptoCardSaid : Prop := Claim7.holds Tryd.pinned (.plain (OpenSpec.upto journalChangedSpec)) journalChangedUptoCard

/-- THE SECOND FORM's CARD OF 'stirruplaw43.JournalRead'. -/
def journalReadUptoCard : Claim7 := { stood := { row := journalReadUptoRow, standIns := [], harness := (true, "9d1f9ef1e4dd8c026595a09afc70123007969f42f0c95c15810f04466d7798c3"), looks := true }, kinds := [], alts := [], laidByText := true, laidKinds := [.data, .data, .data, .data, .sentinel, .sentinel, .pinned], laidTests := true, laidLooks := .later }
def JournalReadUptoCardSaid : Prop := Claim7.holds Tryd.pinned (.plain (OpenSpec.upto journalReadSpec)) journalReadUptoCard
end Rows
end Go.Proofs.YtdcfpopbnkafaaaDoor
