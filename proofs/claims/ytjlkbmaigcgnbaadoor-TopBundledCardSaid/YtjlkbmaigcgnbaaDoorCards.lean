/-
  DERIVED. GIVEN WITH THE SEED: THE CARDS: each row of YtjlkbmaigcgnbaaDoorRows.lean that lists a variable, with what it lists TIED to the program's text (the seventh form; the later family's looks); each row that meets fmt, with fmt's text TOLD by the authors' own Lean function (tested against real Go, not proved from fmt's source: count such statements apart). THE CARD IS WHAT COUNTS. Prove the row's statement (the work); the ties are given (YtjlkbmaigcgnbaaDoorTie.lean); close each card by the builder's one call (the guide's Derived/Test/ToyasCard.lean, 'card_holds'). Laid BY PROGRAM, IN A SANDBOX (cutbox-door.mjs). By AI agents, Wed Nov 11 2026. No macro, syntax, notation, axiom, sorry.
-/
import Derived.Test.YtjlkbmaigcgnbaaDoorRows
import GoSem.ClaimSeven
namespace Go.Proofs.YtjlkbmaigcgnbaaDoor
namespace Rows

/-- THE TIED CARD OF 'stirruptop.TopBundled'. -/
def topBundledCard : Claim7 := { stood := { row := topBundledRow, standIns := [], harness := (true, "73d755c42ed39858bf2b5ae60c26562046c42ca958b77e69ae5ed07bc7110dcc"), looks := false }, kinds := [], alts := [], laidByText := true, laidKinds := [.data, .data, .data], laidTests := true, laidLooks := .later }
def TopBundledCardSaid : Prop := Claim7.holds Tryd.pinned (.plain (OpenSpec.ofChange topBundledSpec)) topBundledCard

/-- THE SECOND FORM's CARD OF 'stirruptop.TopBundled'. -/
def topBundledUptoCard : Claim7 := { stood := { row := topBundledUptoRow, standIns := [], harness := (true, "73d755c42ed39858bf2b5ae60c26562046c42ca958b77e69ae5ed07bc7110dcc"), looks := false }, kinds := [], alts := [], laidByText := true, laidKinds := [.data, .data, .data], laidTests := true, laidLooks := .later }
def TopBundledUptoCardSaid : Prop := Claim7.holds Tryd.pinned (.plain (OpenSpec.upto topBundledSpec)) topBundledUptoCard
end Rows
end Go.Proofs.YtjlkbmaigcgnbaaDoor
