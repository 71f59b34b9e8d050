/-
  DERIVED. GIVEN WITH THE SEED: THE CARDS: each row of YtpocmijfkjjboaaGreatDoorRows.lean that lists a variable, with what it lists TIED to the program's text (the seventh form; the later family's looks); each row that meets fmt, with fmt's text TOLD by the authors' own Lean function (tested against real Go, not proved from fmt's source: count such statements apart). THE CARD IS WHAT COUNTS. Prove the row's statement (the work); the ties are given (YtpocmijfkjjboaaGreatDoorTie.lean); close each card by the builder's one call (the guide's Derived/Test/ToyasCard.lean, 'card_holds'). Laid BY PROGRAM, IN A SANDBOX (cutbox-door.mjs). By AI agents, Wed Nov 11 2026. No macro, syntax, notation, axiom, sorry.
-/
import Derived.Test.YtpocmijfkjjboaaGreatDoorRows
import GoSem.ClaimSeven
namespace Go.Proofs.YtpocmijfkjjboaaGreatDoor
namespace Rows

/-- THE TIED CARD OF 'stirruplaw44.SiteReplays'. -/
def siteReplaysCard : Claim7 := { stood := { row := siteReplaysRow, standIns := [], harness := (true, "ab0d5fb04aa954c263f19675158ccc86cd5d62f32c773e052b605f0a747c690b"), looks := true }, kinds := [], alts := [], laidByText := true, laidKinds := [.data, .data, .data, .data, .sentinel, .sentinel, .pinned], laidTests := true, laidLooks := .later }
def SiteReplaysCardSaid : Prop := Claim7.holds Tryz.pinned (.plain (OpenSpec.ofChange siteReplaysSpec)) siteReplaysCard

/-- THE TIED CARD OF 'stirruplaw44.SiteRecovered'. -/
def siteRecoveredCard : Claim7 := { stood := { row := siteRecoveredRow, standIns := [], harness := (true, "ab0d5fb04aa954c263f19675158ccc86cd5d62f32c773e052b605f0a747c690b"), looks := true }, kinds := [], alts := [], laidByText := true, laidKinds := [.data, .data, .data, .data, .sentinel, .sentinel, .pinned], laidTests := true, laidLooks := .later }
def SiteRecoveredCardSaid : Prop := Claim7.holds Tryz.pinned (.plain (OpenSpec.ofChange siteRecoveredSpec)) siteRecoveredCard

/-- THE SECOND FORM's CARD OF 'stirruplaw44.SiteReplays'. -/
def siteReplaysUptoCard : Claim7 := { stood := { row := siteReplaysUptoRow, standIns := [], harness := (true, "ab0d5fb04aa954c263f19675158ccc86cd5d62f32c773e052b605f0a747c690b"), looks := true }, kinds := [], alts := [], laidByText := true, laidKinds := [.data, .data, .data, .data, .sentinel, .sentinel, .pinned], laidTests := true, laidLooks := .later }
def SiteReplaysUptoCardSaid : Prop := Claim7.holds Tryz.pinned (.plain (OpenSpec.upto siteReplaysSpec)) siteReplaysUptoCard

/-- THE SECOND FORM's CARD OF 'stirruplaw44.SiteRecovered'. -/
def siteRecoveredUptoCard : Claim7 := { stood := { row := siteRecoveredUptoRow, standIns := [], harness := (true, "ab0d5fb04aa954c263f19675158ccc86cd5d62f32c773e052b605f0a747c690b"), looks := true }, kinds := [], alts := [], laidByText := true, laidKinds := [.data, .data, .data, .data, .sentinel, .sentinel, .pinned], laidTests := true, laidLooks := .later }
def SiteRecoveredUptoCardSaid : Prop := Claim7.holds Tryz.pinned (.plain (OpenSpec.upto siteRecoveredSpec)) siteRecoveredUptoCard
end Rows
end Go.Proofs.YtpocmijfkjjboaaGreatDoor
