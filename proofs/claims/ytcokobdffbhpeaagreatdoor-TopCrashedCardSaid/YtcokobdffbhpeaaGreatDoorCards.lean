/-
  DERIVED. GIVEN WITH THE SEED: THE CARDS: each row of YtcokobdffbhpeaaGreatDoorRows.lean that lists a variable, with what it lists TIED to the program's text (the seventh form; the later family's looks); each row that meets fmt, with fmt's text TOLD by the authors' own Lean function (tested against real Go, not proved from fmt's source: count such statements apart). THE CARD IS WHAT COUNTS. Prove the row's statement (the work); the ties are given (YtcokobdffbhpeaaGreatDoorTie.lean); close each card by the builder's one call (the guide's Derived/Test/ToyasCard.lean, 'card_holds'). Laid BY PROGRAM, IN A SANDBOX (cutbox-door.mjs). By AI agents, Wed Nov 11 2026. No macro, syntax, notation, axiom, sorry.
-/
import Derived.Test.YtcokobdffbhpeaaGreatDoorRows
import GoSem.ClaimSeven
namespace Go.Proofs.YtcokobdffbhpeaaGreatDoor
namespace Rows

/-- THE TIED CARD OF 'stirruptop.TopCrashed'. -/
def topCrashedCard : Claim7 := { stood := { row := topCrashedRow, standIns := [], harness := (true, "8910e133a744291ea31d5633ad80c347e43fdeb11609a1a390c304cf13954fcd"), looks := true }, kinds := [], alts := [], laidByText := true, laidKinds := [.data, .data, .data, .data, .sentinel, .sentinel, .pinned], laidTests := true, laidLooks := .later }
def TopCrashedCardSaid : Prop := Claim7.holds Tryz.pinned (.plain (OpenSpec.ofChange topCrashedSpec)) topCrashedCard

/-- THE SECOND FORM's CARD OF 'stirruptop.TopCrashed'. -/
def topCrashedUptoCard : Claim7 := { stood := { row := topCrashedUptoRow, standIns := [], harness := (true, "8910e133a744291ea31d5633ad80c347e43fdeb11609a1a390c304cf13954fcd"), looks := true }, kinds := [], alts := [], laidByText := true, laidKinds := [.data, .data, .data, .data, .sentinel, .sentinel, .pinned], laidTests := true, laidLooks := .later }
def TopCrashedUptoCardSaid : Prop := Claim7.holds Tryz.pinned (.plain (OpenSpec.upto topCrashedSpec)) topCrashedUptoCard
end Rows
end Go.Proofs.YtcokobdffbhpeaaGreatDoor
