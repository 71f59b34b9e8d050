/-
  DERIVED. GIVEN WITH THE SEED: THE CARDS: each row of YtpijmjffobkalaaDoorRows.lean that lists a variable, with what it lists TIED to the program's text (the seventh form; the later family's looks); each row that meets fmt, with fmt's text TOLD by the authors' own Lean function (tested against real Go, not proved from fmt's source: count such statements apart). THE CARD IS WHAT COUNTS. Prove the row's statement (the work); the ties are given (YtpijmjffobkalaaDoorTie.lean); close each card by the builder's one call (the guide's Derived/Test/ToyasCard.lean, 'card_holds'). Laid BY PROGRAM, IN A SANDBOX (cutbox-door.mjs). By AI agents, Wed Nov 11 2026. No macro, syntax, notation, axiom, sorry.
-/
import Derived.Test.YtpijmjffobkalaaDoorRows
import GoSem.ClaimSeven
namespace Go.Proofs.YtpijmjffobkalaaDoor
namespace Rows

/-- THE TIED CARD OF 'stirruplaw02.RatioLaws'. -/
def ratioLawsCard : Claim7 := { stood := { row := ratioLawsRow, standIns := [], harness := (true, "5d10f2302aba16693b0e95b72e5713da58e9e075412e2db35f824f45200fc653"), looks := true }, kinds := [], alts := [], laidByText := true, laidKinds := [.data, .data, .data], laidTests := true, laidLooks := .later }
def RatioLawsCardSaid : Prop := Claim7.holds Tryd.pinned (.plain (OpenSpec.ofChange ratioLawsSpec)) ratioLawsCard

/-- THE TIED CARD OF 'stirruplaw02.RatioUndone'. -/
def ratioUndoneCard : Claim7 := { stood := { row := ratioUndoneRow, standIns := [], harness := (true, "5d10f2302aba16693b0e95b72e5713da58e9e075412e2db35f824f45200fc653"), looks := true }, kinds := [], alts := [], laidByText := true, laidKinds := [.data, .data, .data], laidTests := true, laidLooks := .later }
def RatioUndoneCardSaid : Prop := Claim7.holds Tryd.pinned (.plain (OpenSpec.ofChange ratioUndoneSpec)) ratioUndoneCard

/-- THE TIED CARD OF 'stirruplaw02.RatioMakes'. -/
def ratioMakesCard : Claim7 := { stood := { row := ratioMakesRow, standIns := [], harness := (true, "5d10f2302aba16693b0e95b72e5713da58e9e075412e2db35f824f45200fc653"), looks := true }, kinds := [], alts := [], laidByText := true, laidKinds := [.data, .data, .data], laidTests := true, laidLooks := .later }
def RatioMakesCardSaid : Prop := Claim7.holds Tryd.pinned (.plain (OpenSpec.ofChange ratioMakesSpec)) ratioMakesCard

/-- THE TIED CARD OF 'stirruplaw02.RatioOrder'. -/
def ratioOrderCard : Claim7 := { stood := { row := ratioOrderRow, standIns := [], harness := (true, "5d10f2302aba16693b0e95b72e5713da58e9e075412e2db35f824f45200fc653"), looks := true }, kinds := [], alts := [], laidByText := true, laidKinds := [.data, .data, .data], laidTests := true, laidLooks := .later }
def RatioOrderCardSaid : Prop := Claim7.holds Tryd.pinned (.plain (OpenSpec.ofChange ratioOrderSpec)) ratioOrderCard

/-- THE TIED CARD OF 'stirruplaw02.RatioReckons'. -/
def ratioReckonsCard : Claim7 := { stood := { row := ratioReckonsRow, standIns := [], harness := (true, "5d10f2302aba16693b0e95b72e5713da58e9e075412e2db35f824f45200fc653"), looks := true }, kinds := [], alts := [], laidByText := true, laidKinds := [.data, .data, .data], laidTests := true, laidLooks := .later }
def RatioReckonsCardSaid : Prop := Claim7.holds Tryd.pinned (.plain (OpenSpec.ofChange ratioReckonsSpec)) ratioReckonsCard

/-- THE TIED CARD OF 'stirruplaw02.RatioFloors'. -/
def ratioFloorsCard : Claim7 := { stood := { row := ratioFloorsRow, standIns := [], harness := (true, "5d10f2302aba16693b0e95b72e5713da58e9e075412e2db35f824f45200fc653"), looks := true }, kinds := [], alts := [], laidByText := true, laidKinds := [.data, .data, .data], laidTests := true, laidLooks := .later }
def RatioFloorsCardSaid : Prop := Claim7.holds Tryd.pinned (.plain (OpenSpec.ofChange ratioFloorsSpec)) ratioFloorsCard

/-- THE TIED CARD OF 'stirruplaw02.RatioTexts'. -/
def ratioTextsCard : Claim7 := { stood := { row := ratioTextsRow, standIns := [], harness := (true, "5d10f2302aba16693b0e95b72e5713da58e9e075412e2db35f824f45200fc653"), looks := true }, kinds := [], alts := [], laidByText := true, laidKinds := [.data, .data, .data, .sentinel, .sentinel], laidTests := true, laidLooks := .later }
def RatioTextsCardSaid : Prop := Claim7.holds Tryd.pinned (.plain (OpenSpec.ofChange ratioTextsSpec)) ratioTextsCard

/-- THE TIED CARD OF 'stirruplaw02.RatioRead'. -/
def ratioReadCard : Claim7 := { stood := { row := ratioReadRow, standIns := [], harness := (true, "5d10f2302aba16693b0e95b72e5713da58e9e075412e2db35f824f45200fc653"), looks := true }, kinds := [], alts := [], laidByText := true, laidKinds := [.data, .data, .data, .sentinel, .sentinel], laidTests := true, laidLooks := .later }
def RatioReadCardSaid : Prop := Claim7.holds Tryd.pinned (.plain (OpenSpec.ofChange ratioReadSpec)) ratioReadCard

/-- THE SECOND FORM's CARD OF 'stirruplaw02.RatioLaws'. -/
def ratioLawsUptoCard : Claim7 := { stood := { row := ratioLawsUptoRow, standIns := [], harness := (true, "5d10f2302aba16693b0e95b72e5713da58e9e075412e2db35f824f45200fc653"), looks := true }, kinds := [], alts := [], laidByText := true, laidKinds := [.data, .data, .data], laidTests := true, laidLooks := .later }
def RatioLawsUptoCardSaid : Prop := Claim7.holds Tryd.pinned (.plain (OpenSpec.upto ratioLawsSpec)) ratioLawsUptoCard

/-- THE SECOND FORM's CARD OF 'stirruplaw02.RatioUndone'. -/
def ratioUndoneUptoCard : Claim7 := { stood := { row := ratioUndoneUptoRow, standIns := [], harness := (true, "5d10f2302aba16693b0e95b72e5713da58e9e075412e2db35f824f45200fc653"), looks := true }, kinds := [], alts := [], laidByText := true, laidKinds := [.data, .data, .data], laidTests := true, laidLooks := .later }
def RatioUndoneUptoCardSaid : Prop := Claim7.holds Tryd.pinned (.plain (OpenSpec.upto ratioUndoneSpec)) ratioUndoneUptoCard

/-- THE SECOND FORM's CARD OF 'stirruplaw02.RatioMakes'. -/
def ratioMakesUptoCard : Claim7 := { stood := { row := ratioMakesUptoRow, standIns := [], harness := (true, "5d10f2302aba16693b0e95b72e5713da58e9e075412e2db35f824f45200fc653"), looks := true }, kinds := [], alts := [], laidByText := true, laidKinds := [.data, .data, .data], laidTests := true, laidLooks := .later }
def RatioMakesUptoCardSaid : Prop := Claim7.holds Tryd.pinned (.plain (OpenSpec.upto ratioMakesSpec)) ratioMakesUptoCard

/-- THE SECOND FORM's CARD OF 'stirruplaw02.RatioOrder'. -/
def ratioOrderUptoCard : Claim7 := { stood := { row := ratioOrderUptoRow, standIns := [], harness := (true, "5d10f2302aba16693b0e95b72e5713da58e9e075412e2db35f824f45200fc653"), looks := true }, kinds := [], alts := [], laidByText := true, laidKinds := [.data, .data, .data], laidTests := true, laidLooks := .later }
def RatioOrderUptoCardSaid : Prop := Claim7.holds Tryd.pinned (.plain (OpenSpec.upto ratioOrderSpec)) ratioOrderUptoCard

/-- THE SECOND FORM's CARD OF 'stirruplaw02.RatioReckons'. -/
def ratioReckonsUptoCard : Claim7 := { stood := { row := ratioReckonsUptoRow, standIns := [], harness := (true, "5d10f2302aba16693b0e95b72e5713da58e9e075412e2db35f824f45200fc653"), looks := true }, kinds := [], alts := [], laidByText := true, laidKinds := [.data, .data, .data], laidTests := true, laidLooks := .later }
def RatioReckonsUptoCardSaid : Prop := Claim7.holds Tryd.pinned (.plain (OpenSpec.upto ratioReckonsSpec)) ratioReckonsUptoCard

/-- THE SECOND FORM's CARD OF 'stirruplaw02.RatioFloors'. -/
def ratioFloorsUptoCard : Claim7 := { stood := { row := ratioFloorsUptoRow, standIns := [], harness := (true, "5d10f2302aba16693b0e95b72e5713da58e9e075412e2db35f824f45200fc653"), looks := true }, kinds := [], alts := [], laidByText := true, laidKinds := [.data, .data, .data], laidTests := true, laidLooks := .later }
def RatioFloorsUptoCardSaid : Prop := Claim7.holds Tryd.pinned (.plain (OpenSpec.upto ratioFloorsSpec)) ratioFloorsUptoCard

/-- THE SECOND FORM's CARD OF 'stirruplaw02.RatioTexts'. -/
def ratioTextsUptoCard : Claim7 := { stood := { row := ratioTextsUptoRow, standIns := [], harness := (true, "5d10f2302aba16693b0e95b72e5713da58e9e075412e2db35f824f45200fc653"), looks := true }, kinds := [], alts := [], laidByText := true, laidKinds := [.data, .data, .data, .sentinel, .sentinel], laidTests := true, laidLooks := .later }
def RatioTextsUptoCardSaid : Prop := Claim7.holds Tryd.pinned (.plain (OpenSpec.upto ratioTextsSpec)) ratioTextsUptoCard

/-- THE SECOND FORM's CARD OF 'stirruplaw02.RatioRead'. -/
def ratioReadUptoCard : Claim7 := { stood := { row := ratioReadUptoRow, standIns := [], harness := (true, "5d10f2302aba16693b0e95b72e5713da58e9e075412e2db35f824f45200fc653"), looks := true }, kinds := [], alts := [], laidByText := true, laidKinds := [.data, .data, .data, .sentinel, .sentinel], laidTests := true, laidLooks := .later }
def RatioReadUptoCardSaid : Prop := Claim7.holds Tryd.pinned (.plain (OpenSpec.upto ratioReadSpec)) ratioReadUptoCard
end Rows
end Go.Proofs.YtpijmjffobkalaaDoor
