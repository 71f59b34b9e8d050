/-
  No cell of these rows narrows 'for every input' (looked for: loops, veiled, ifaces, maps, wideKeys, modest, calm, conditions, laid).
  DERIVED. THE GIVEN ROWS OF THIS SEAT. 4 by the template 'for every input the law returns true; each argument reads behind the call as it read before'; 0 by the template 'total and deterministic' (their statements: YtpocmijfkjjboaaTotals.lean).
  GIVEN WITH THE SEED: the statements are not yours to turn. If you find one false, say at which input.
  Laid BY PROGRAM, IN A SANDBOX (cutbox-rows.mjs): the forced cells as the released guide's own fill.sh prints them over the translation e819c9c96a00e14d… (all of the seat's roots in one cut). By AI agents, Wed Nov 11 2026. No macro, syntax, notation, axiom, sorry.
-/
import Derived.Test.YtpocmijfkjjboaaChecked
import GoSem.Claim
import GoSem.ClaimJoined
import GoSem.ClaimMapViews
import Derived.JoinedTies
import Derived.KernelRfl
namespace Go.Proofs.Ytpocmijfkjjboaa
/- THE CELL 'sum', in the pinned program and in every row, IS THE sha256 OF THE DUMP (.gsa) THAT YtpocmijfkjjboaaProg.lean LOADS. Nothing in Lean hashes anything: it is a label: what it is worth is what the hold of that sum in a sandbox is worth. -/
noncomputable def Try.pinned : Pinned := { name := "ytpocmijfkjjboaa", sum := "e819c9c96a00e14d7ca760d9dbbe61d21d951a84685b311f14e10450fda6ff54", checked := Try.checked }
namespace Rows
def none {H : Type} : Left H := { results := [], args := [] }

/-- 'stirruplaw44.SiteEntries': WHATEVER THE INPUT: true; the input reads as it did. -/
def siteEntriesSpec : ChangeSpec := { name := "siteEntries", fn := fun _ => fun
  | [d1, d2, d3] => { results := [.lit (.bool true)], args := [d1, d2, d3] }
  | _ => none }
def siteEntriesRow : OpenClaim := { program := "ytpocmijfkjjboaa", sum := "e819c9c96a00e14d7ca760d9dbbe61d21d951a84685b311f14e10450fda6ff54", func := "stirrup/stirruplaw44.SiteEntries", spec := "siteEntries", unfollowed := true, recurses := true, apart := false }
def SiteEntriesSaid : Prop := siteEntriesRow.holds Try.pinned (OpenSpec.ofChange siteEntriesSpec)

/-- ITS FALSE NEIGHBOUR: 'it returns false'. Refute it at one input. -/
def siteEntriesWrong : ChangeSpec := { name := "siteEntries", fn := fun _ => fun
  | [d1, d2, d3] => { results := [.lit (.bool false)], args := [d1, d2, d3] }
  | _ => none }
def SiteEntriesWrongFalsely : Prop := siteEntriesRow.holds Try.pinned (OpenSpec.ofChange siteEntriesWrong)

/-- 'stirruplaw44.SiteZero': WHATEVER THE INPUT: true; the input reads as it did. -/
def siteZeroSpec : ChangeSpec := { name := "siteZero", fn := fun _ => fun
  | [d] => { results := [.lit (.bool true)], args := [d] }
  | _ => none }
def siteZeroRow : OpenClaim := { program := "ytpocmijfkjjboaa", sum := "e819c9c96a00e14d7ca760d9dbbe61d21d951a84685b311f14e10450fda6ff54", func := "stirrup/stirruplaw44.SiteZero", spec := "siteZero", unfollowed := true, recurses := true, apart := false }
def SiteZeroSaid : Prop := siteZeroRow.holds Try.pinned (OpenSpec.ofChange siteZeroSpec)

/-- ITS FALSE NEIGHBOUR: 'it returns false'. Refute it at one input. -/
def siteZeroWrong : ChangeSpec := { name := "siteZero", fn := fun _ => fun
  | [d] => { results := [.lit (.bool false)], args := [d] }
  | _ => none }
def SiteZeroWrongFalsely : Prop := siteZeroRow.holds Try.pinned (OpenSpec.ofChange siteZeroWrong)

/-- 'stirruplaw44.SiteAccounts': WHATEVER THE INPUT: true; the input reads as it did. -/
def siteAccountsSpec : ChangeSpec := { name := "siteAccounts", fn := fun _ => fun
  | [d1, d2, d3] => { results := [.lit (.bool true)], args := [d1, d2, d3] }
  | _ => none }
def siteAccountsRow : OpenClaim := { program := "ytpocmijfkjjboaa", sum := "e819c9c96a00e14d7ca760d9dbbe61d21d951a84685b311f14e10450fda6ff54", func := "stirrup/stirruplaw44.SiteAccounts", spec := "siteAccounts", unfollowed := true, recurses := true, apart := false }
def SiteAccountsSaid : Prop := siteAccountsRow.holds Try.pinned (OpenSpec.ofChange siteAccountsSpec)

/-- ITS FALSE NEIGHBOUR: 'it returns false'. Refute it at one input. -/
def siteAccountsWrong : ChangeSpec := { name := "siteAccounts", fn := fun _ => fun
  | [d1, d2, d3] => { results := [.lit (.bool false)], args := [d1, d2, d3] }
  | _ => none }
def SiteAccountsWrongFalsely : Prop := siteAccountsRow.holds Try.pinned (OpenSpec.ofChange siteAccountsWrong)

/-- 'stirruplaw44.SiteChecks': WHATEVER THE INPUT: true; the input reads as it did. -/
def siteChecksSpec : ChangeSpec := { name := "siteChecks", fn := fun _ => fun
  | [d1, d2, d3, d4] => { results := [.lit (.bool true)], args := [d1, d2, d3, d4] }
  | _ => none }
def siteChecksRow : OpenClaim := { program := "ytpocmijfkjjboaa", sum := "e819c9c96a00e14d7ca760d9dbbe61d21d951a84685b311f14e10450fda6ff54", func := "stirrup/stirruplaw44.SiteChecks", spec := "siteChecks", unfollowed := true, recurses := true, apart := false }
def SiteChecksSaid : Prop := siteChecksRow.holds Try.pinned (OpenSpec.ofChange siteChecksSpec)

/-- ITS FALSE NEIGHBOUR: 'it returns false'. Refute it at one input. -/
def siteChecksWrong : ChangeSpec := { name := "siteChecks", fn := fun _ => fun
  | [d1, d2, d3, d4] => { results := [.lit (.bool false)], args := [d1, d2, d3, d4] }
  | _ => none }
def SiteChecksWrongFalsely : Prop := siteChecksRow.holds Try.pinned (OpenSpec.ofChange siteChecksWrong)

/- THE SECOND FORM. 'bulk': how many values and letters a reading holds, each counted each time it is reached (what is shared counts as often as it is met; a slice's spare places count too). A statement '..UptoSaid' is the law's where the arguments, and the package variables that the reading takes, are together of bulk at most 1048576: NARROWER than '..Said'. Prove '..Said' where nothing that the law and all that it calls make is longer than what came in: it says more and counts as full. Else prove '..UptoSaid'. A law counts once. -/
mutual
def uptoBulk {H : Type} : DataW H → Nat
  | .lit (.string bytes) => bytes.length + 1
  | .lit _ => 1
  | .nil => 1
  | .ptr d => uptoBulk d + 1
  | .slice elems spare => uptoBulkAll elems + uptoBulkAll spare + 1
  | .agg parts => uptoBulkAll parts + 1
  | .iface _ d => uptoBulk d + 1
  | .map entries => uptoBulkEntries entries + 1
  | .held _ => 1
def uptoBulkAll {H : Type} : List (DataW H) → Nat
  | [] => 0
  | d :: r => uptoBulk d + uptoBulkAll r
def uptoBulkEntries {H : Type} : List (Lit × DataW H) → Nat
  | [] => 0
  | x :: r => uptoBulkEntry x + uptoBulkEntries r
def uptoBulkEntry {H : Type} : Lit × DataW H → Nat
  | (.string bytes, d) => bytes.length + uptoBulk d + 1
  | (_, d) => uptoBulk d + 1
 end
def uptoSmall : (H : Type) → List (DataW H) → Bool := fun _ ds => decide (uptoBulkAll ds ≤ 1048576)
def OpenSpec.upto (s : _root_.Go.ChangeSpec) : _root_.Go.OpenSpec := { _root_.Go.OpenSpec.ofChange s with cond := some uptoSmall }

/-- 'stirruplaw44.SiteEntries', WHERE WHAT IT READS IS OF BULK AT MOST 1048576: true; the input reads as it did. -/
def siteEntriesUptoRow : OpenClaim := { program := "ytpocmijfkjjboaa", sum := "e819c9c96a00e14d7ca760d9dbbe61d21d951a84685b311f14e10450fda6ff54", func := "stirrup/stirruplaw44.SiteEntries", spec := "siteEntries", unfollowed := true, recurses := true, apart := false, narrowed := true }
def SiteEntriesUptoSaid : Prop := siteEntriesUptoRow.holds Try.pinned (OpenSpec.upto siteEntriesSpec)

/-- 'stirruplaw44.SiteZero', WHERE WHAT IT READS IS OF BULK AT MOST 1048576: true; the input reads as it did. -/
def siteZeroUptoRow : OpenClaim := { program := "ytpocmijfkjjboaa", sum := "e819c9c96a00e14d7ca760d9dbbe61d21d951a84685b311f14e10450fda6ff54", func := "stirrup/stirruplaw44.SiteZero", spec := "siteZero", unfollowed := true, recurses := true, apart := false, narrowed := true }
def SiteZeroUptoSaid : Prop := siteZeroUptoRow.holds Try.pinned (OpenSpec.upto siteZeroSpec)

/-- 'stirruplaw44.SiteAccounts', WHERE WHAT IT READS IS OF BULK AT MOST 1048576: true; the input reads as it did. -/
def siteAccountsUptoRow : OpenClaim := { program := "ytpocmijfkjjboaa", sum := "e819c9c96a00e14d7ca760d9dbbe61d21d951a84685b311f14e10450fda6ff54", func := "stirrup/stirruplaw44.SiteAccounts", spec := "siteAccounts", unfollowed := true, recurses := true, apart := false, narrowed := true }
def SiteAccountsUptoSaid : Prop := siteAccountsUptoRow.holds Try.pinned (OpenSpec.upto siteAccountsSpec)

/-- 'stirruplaw44.SiteChecks', WHERE WHAT IT READS IS OF BULK AT MOST 1048576: true; the input reads as it did. -/
def siteChecksUptoRow : OpenClaim := { program := "ytpocmijfkjjboaa", sum := "e819c9c96a00e14d7ca760d9dbbe61d21d951a84685b311f14e10450fda6ff54", func := "stirrup/stirruplaw44.SiteChecks", spec := "siteChecks", unfollowed := true, recurses := true, apart := false, narrowed := true }
def SiteChecksUptoSaid : Prop := siteChecksUptoRow.holds Try.pinned (OpenSpec.upto siteChecksSpec)

end Rows
end Go.Proofs.Ytpocmijfkjjboaa
