/-
  No cell of these rows narrows 'for every input' (looked for: loops, veiled, ifaces, maps, wideKeys, modest, calm, conditions, laid).
  DERIVED. THE GIVEN ROWS OF THIS SEAT. 8 by the template 'for every input the law returns true; each argument reads behind the call as it read before'; 0 by the template 'total and deterministic' (their statements: YtgipfmleefojbaaTotals.lean).
  GIVEN WITH THE SEED: the statements are not yours to turn. If you find one false, say at which input.
  Laid BY PROGRAM, IN A SANDBOX (cutbox-rows.mjs): the forced cells as the released guide's own fill.sh prints them over the translation 4306b27e598e3dbd… (all of the seat's roots in one cut). By AI agents, Wed Nov 11 2026. No macro, syntax, notation, axiom, sorry.
-/
import Derived.Test.YtgipfmleefojbaaChecked
import GoSem.Claim
import GoSem.ClaimJoined
import GoSem.ClaimMapViews
import Derived.JoinedTies
import Derived.KernelRfl
namespace Go.Proofs.Ytgipfmleefojbaa
/- THE CELL 'sum', in the pinned program and in every row, IS THE sha256 OF THE DUMP (.gsa) THAT YtgipfmleefojbaaProg.lean LOADS. Nothing in Lean hashes anything: it is a label: what it is worth is what the hold of that sum in a sandbox is worth. -/
noncomputable def Try.pinned : Pinned := { name := "ytgipfmleefojbaa", sum := "4306b27e598e3dbdfb4e5ecb5ba8ce9bb937dbfd50681a8a9fef5f8de76b5ef9", checked := Try.checked }
namespace Rows
def none {H : Type} : Left H := { results := [], args := [] }

/-- 'stirruplaw03.SpanProducts': WHATEVER THE INPUT: true; the input reads as it did. -/
def spanProductsSpec : ChangeSpec := { name := "spanProducts", fn := fun _ => fun
  | [d1, d2] => { results := [.lit (.bool true)], args := [d1, d2] }
  | _ => none }
def spanProductsRow : OpenClaim := { program := "ytgipfmleefojbaa", sum := "4306b27e598e3dbdfb4e5ecb5ba8ce9bb937dbfd50681a8a9fef5f8de76b5ef9", func := "stirrup/stirruplaw03.SpanProducts", spec := "spanProducts", named := ["math/bits.divideError", "math/bits.overflowError"], apart := false }
def SpanProductsSaid : Prop := spanProductsRow.holds Try.pinned (OpenSpec.ofChange spanProductsSpec)

/-- ITS FALSE NEIGHBOUR: 'it returns false'. Refute it at one input. -/
def spanProductsWrong : ChangeSpec := { name := "spanProducts", fn := fun _ => fun
  | [d1, d2] => { results := [.lit (.bool false)], args := [d1, d2] }
  | _ => none }
def SpanProductsWrongFalsely : Prop := spanProductsRow.holds Try.pinned (OpenSpec.ofChange spanProductsWrong)

/-- 'stirruplaw03.SpanScales': WHATEVER THE INPUT: true; the input reads as it did. -/
def spanScalesSpec : ChangeSpec := { name := "spanScales", fn := fun _ => fun
  | [d1, d2, d3, d4, d5] => { results := [.lit (.bool true)], args := [d1, d2, d3, d4, d5] }
  | _ => none }
def spanScalesRow : OpenClaim := { program := "ytgipfmleefojbaa", sum := "4306b27e598e3dbdfb4e5ecb5ba8ce9bb937dbfd50681a8a9fef5f8de76b5ef9", func := "stirrup/stirruplaw03.SpanScales", spec := "spanScales", named := ["math/bits.divideError", "math/bits.overflowError"], apart := false }
def SpanScalesSaid : Prop := spanScalesRow.holds Try.pinned (OpenSpec.ofChange spanScalesSpec)

/-- ITS FALSE NEIGHBOUR: 'it returns false'. Refute it at one input. -/
def spanScalesWrong : ChangeSpec := { name := "spanScales", fn := fun _ => fun
  | [d1, d2, d3, d4, d5] => { results := [.lit (.bool false)], args := [d1, d2, d3, d4, d5] }
  | _ => none }
def SpanScalesWrongFalsely : Prop := spanScalesRow.holds Try.pinned (OpenSpec.ofChange spanScalesWrong)

/-- 'stirruplaw03.SpanRoots': WHATEVER THE INPUT: true; the input reads as it did. -/
def spanRootsSpec : ChangeSpec := { name := "spanRoots", fn := fun _ => fun
  | [d] => { results := [.lit (.bool true)], args := [d] }
  | _ => none }
def spanRootsRow : OpenClaim := { program := "ytgipfmleefojbaa", sum := "4306b27e598e3dbdfb4e5ecb5ba8ce9bb937dbfd50681a8a9fef5f8de76b5ef9", func := "stirrup/stirruplaw03.SpanRoots", spec := "spanRoots", named := ["math/bits.divideError", "math/bits.overflowError"], apart := false }
def SpanRootsSaid : Prop := spanRootsRow.holds Try.pinned (OpenSpec.ofChange spanRootsSpec)

/-- ITS FALSE NEIGHBOUR: 'it returns false'. Refute it at one input. -/
def spanRootsWrong : ChangeSpec := { name := "spanRoots", fn := fun _ => fun
  | [d] => { results := [.lit (.bool false)], args := [d] }
  | _ => none }
def SpanRootsWrongFalsely : Prop := spanRootsRow.holds Try.pinned (OpenSpec.ofChange spanRootsWrong)

/-- 'stirruplaw03.SpanInside': WHATEVER THE INPUT: true; the input reads as it did. -/
def spanInsideSpec : ChangeSpec := { name := "spanInside", fn := fun _ => fun
  | [d1, d2, d3, d4] => { results := [.lit (.bool true)], args := [d1, d2, d3, d4] }
  | _ => none }
def spanInsideRow : OpenClaim := { program := "ytgipfmleefojbaa", sum := "4306b27e598e3dbdfb4e5ecb5ba8ce9bb937dbfd50681a8a9fef5f8de76b5ef9", func := "stirrup/stirruplaw03.SpanInside", spec := "spanInside", named := ["math/bits.divideError", "math/bits.overflowError"], apart := false }
def SpanInsideSaid : Prop := spanInsideRow.holds Try.pinned (OpenSpec.ofChange spanInsideSpec)

/-- ITS FALSE NEIGHBOUR: 'it returns false'. Refute it at one input. -/
def spanInsideWrong : ChangeSpec := { name := "spanInside", fn := fun _ => fun
  | [d1, d2, d3, d4] => { results := [.lit (.bool false)], args := [d1, d2, d3, d4] }
  | _ => none }
def SpanInsideWrongFalsely : Prop := spanInsideRow.holds Try.pinned (OpenSpec.ofChange spanInsideWrong)

/-- 'stirruplaw03.SpanNarrow': WHATEVER THE INPUT: true; the input reads as it did. -/
def spanNarrowSpec : ChangeSpec := { name := "spanNarrow", fn := fun _ => fun
  | [d1, d2, d3, d4, d5, d6] => { results := [.lit (.bool true)], args := [d1, d2, d3, d4, d5, d6] }
  | _ => none }
def spanNarrowRow : OpenClaim := { program := "ytgipfmleefojbaa", sum := "4306b27e598e3dbdfb4e5ecb5ba8ce9bb937dbfd50681a8a9fef5f8de76b5ef9", func := "stirrup/stirruplaw03.SpanNarrow", spec := "spanNarrow", unfollowed := true, recurses := true, named := ["math/bits.divideError", "math/bits.overflowError"], apart := false }
def SpanNarrowSaid : Prop := spanNarrowRow.holds Try.pinned (OpenSpec.ofChange spanNarrowSpec)

/-- ITS FALSE NEIGHBOUR: 'it returns false'. Refute it at one input. -/
def spanNarrowWrong : ChangeSpec := { name := "spanNarrow", fn := fun _ => fun
  | [d1, d2, d3, d4, d5, d6] => { results := [.lit (.bool false)], args := [d1, d2, d3, d4, d5, d6] }
  | _ => none }
def SpanNarrowWrongFalsely : Prop := spanNarrowRow.holds Try.pinned (OpenSpec.ofChange spanNarrowWrong)

/-- 'stirruplaw03.SpanSums': WHATEVER THE INPUT: true; the input reads as it did. -/
def spanSumsSpec : ChangeSpec := { name := "spanSums", fn := fun _ => fun
  | [d1, d2] => { results := [.lit (.bool true)], args := [d1, d2] }
  | _ => none }
def spanSumsRow : OpenClaim := { program := "ytgipfmleefojbaa", sum := "4306b27e598e3dbdfb4e5ecb5ba8ce9bb937dbfd50681a8a9fef5f8de76b5ef9", func := "stirrup/stirruplaw03.SpanSums", spec := "spanSums", named := ["math/bits.divideError", "math/bits.overflowError"], apart := false }
def SpanSumsSaid : Prop := spanSumsRow.holds Try.pinned (OpenSpec.ofChange spanSumsSpec)

/-- ITS FALSE NEIGHBOUR: 'it returns false'. Refute it at one input. -/
def spanSumsWrong : ChangeSpec := { name := "spanSums", fn := fun _ => fun
  | [d1, d2] => { results := [.lit (.bool false)], args := [d1, d2] }
  | _ => none }
def SpanSumsWrongFalsely : Prop := spanSumsRow.holds Try.pinned (OpenSpec.ofChange spanSumsWrong)

/-- 'stirruplaw03.SpanRules': WHATEVER THE INPUT: true; the input reads as it did. -/
def spanRulesSpec : ChangeSpec := { name := "spanRules", fn := fun _ => fun
  | [d1, d2] => { results := [.lit (.bool true)], args := [d1, d2] }
  | _ => none }
def spanRulesRow : OpenClaim := { program := "ytgipfmleefojbaa", sum := "4306b27e598e3dbdfb4e5ecb5ba8ce9bb937dbfd50681a8a9fef5f8de76b5ef9", func := "stirrup/stirruplaw03.SpanRules", spec := "spanRules", named := ["math/bits.divideError", "math/bits.overflowError"], apart := false }
def SpanRulesSaid : Prop := spanRulesRow.holds Try.pinned (OpenSpec.ofChange spanRulesSpec)

/-- ITS FALSE NEIGHBOUR: 'it returns false'. Refute it at one input. -/
def spanRulesWrong : ChangeSpec := { name := "spanRules", fn := fun _ => fun
  | [d1, d2] => { results := [.lit (.bool false)], args := [d1, d2] }
  | _ => none }
def SpanRulesWrongFalsely : Prop := spanRulesRow.holds Try.pinned (OpenSpec.ofChange spanRulesWrong)

/-- 'stirruplaw03.SpanFractions': WHATEVER THE INPUT: true; the input reads as it did. -/
def spanFractionsSpec : ChangeSpec := { name := "spanFractions", fn := fun _ => fun
  | [d1, d2] => { results := [.lit (.bool true)], args := [d1, d2] }
  | _ => none }
def spanFractionsRow : OpenClaim := { program := "ytgipfmleefojbaa", sum := "4306b27e598e3dbdfb4e5ecb5ba8ce9bb937dbfd50681a8a9fef5f8de76b5ef9", func := "stirrup/stirruplaw03.SpanFractions", spec := "spanFractions", named := ["math/bits.divideError", "math/bits.overflowError"], apart := false }
def SpanFractionsSaid : Prop := spanFractionsRow.holds Try.pinned (OpenSpec.ofChange spanFractionsSpec)

/-- ITS FALSE NEIGHBOUR: 'it returns false'. Refute it at one input. -/
def spanFractionsWrong : ChangeSpec := { name := "spanFractions", fn := fun _ => fun
  | [d1, d2] => { results := [.lit (.bool false)], args := [d1, d2] }
  | _ => none }
def SpanFractionsWrongFalsely : Prop := spanFractionsRow.holds Try.pinned (OpenSpec.ofChange spanFractionsWrong)

/- THE SECOND FORM. 'bulk': how many values and letters a reading holds, each counted each time it is reached (what is shared counts as often as it is met; a slice's spare places count too). A statement '..UptoSaid' is the law's where the arguments, and the package variables that the reading takes, are together of bulk at most 1048576: NARROWER than '..Said'. Prove '..Said' where nothing that the law and all that it calls make is longer than what came in: it says more and counts as full. Else prove '..UptoSaid'. A law counts once. -/
mutual
def uptoBulk {H : Type} : DataW H → Nat
  | .lit (.string bytes) => bytes.length + 1
  | .lit _ => 1
  | .nil => 1
  | .ptr d => uptoBulk d + 1
  | .slice elems spare => uptoBulkAll elems + uptoBulkAll spare + 1
  | .agg parts => uptoBulkAll parts + 1
  | .iface _ d => uptoBulk d + 1
  | .map entries => uptoBulkEntries entries + 1
  | .held _ => 1
def uptoBulkAll {H : Type} : List (DataW H) → Nat
  | [] => 0
  | d :: r => uptoBulk d + uptoBulkAll r
def uptoBulkEntries {H : Type} : List (Lit × DataW H) → Nat
  | [] => 0
  | x :: r => uptoBulkEntry x + uptoBulkEntries r
def uptoBulkEntry {H : Type} : Lit × DataW H → Nat
  | (.string bytes, d) => bytes.length + uptoBulk d + 1
  | (_, d) => uptoBulk d + 1
 end
def uptoSmall : (H : Type) → List (DataW H) → Bool := fun _ ds => decide (uptoBulkAll ds ≤ 1048576)
def OpenSpec.upto (s : _root_.Go.ChangeSpec) : _root_.Go.OpenSpec := { _root_.Go.OpenSpec.ofChange s with cond := some uptoSmall }

/-- 'stirruplaw03.SpanProducts', WHERE WHAT IT READS IS OF BULK AT MOST 1048576: true; the input reads as it did. -/
def spanProductsUptoRow : OpenClaim := { program := "ytgipfmleefojbaa", sum := "4306b27e598e3dbdfb4e5ecb5ba8ce9bb937dbfd50681a8a9fef5f8de76b5ef9", func := "stirrup/stirruplaw03.SpanProducts", spec := "spanProducts", named := ["math/bits.divideError", "math/bits.overflowError"], apart := false, narrowed := true }
def SpanProductsUptoSaid : Prop := spanProductsUptoRow.holds Try.pinned (OpenSpec.upto spanProductsSpec)

/-- 'stirruplaw03.SpanScales', WHERE WHAT IT READS IS OF BULK AT MOST 1048576: true; the input reads as it did. -/
def spanScalesUptoRow : OpenClaim := { program := "ytgipfmleefojbaa", sum := "4306b27e598e3dbdfb4e5ecb5ba8ce9bb937dbfd50681a8a9fef5f8de76b5ef9", func := "stirrup/stirruplaw03.SpanScales", spec := "spanScales", named := ["math/bits.divideError", "math/bits.overflowError"], apart := false, narrowed := true }
def SpanScalesUptoSaid : Prop := spanScalesUptoRow.holds Try.pinned (OpenSpec.upto spanScalesSpec)

/-- 'stirruplaw03.SpanRoots', WHERE WHAT IT READS IS OF BULK AT MOST 1048576: true; the input reads as it did. -/
def spanRootsUptoRow : OpenClaim := { program := "ytgipfmleefojbaa", sum := "4306b27e598e3dbdfb4e5ecb5ba8ce9bb937dbfd50681a8a9fef5f8de76b5ef9", func := "stirrup/stirruplaw03.SpanRoots", spec := "spanRoots", named := ["math/bits.divideError", "math/bits.overflowError"], apart := false, narrowed := true }
def SpanRootsUptoSaid : Prop := spanRootsUptoRow.holds Try.pinned (OpenSpec.upto spanRootsSpec)

/-- 'stirruplaw03.SpanInside', WHERE WHAT IT READS IS OF BULK AT MOST 1048576: true; the input reads as it did. -/
def spanInsideUptoRow : OpenClaim := { program := "ytgipfmleefojbaa", sum := "4306b27e598e3dbdfb4e5ecb5ba8ce9bb937dbfd50681a8a9fef5f8de76b5ef9", func := "stirrup/stirruplaw03.SpanInside", spec := "spanInside", named := ["math/bits.divideError", "math/bits.overflowError"], apart := false, narrowed := true }
def SpanInsideUptoSaid : Prop := spanInsideUptoRow.holds Try.pinned (OpenSpec.upto spanInsideSpec)

/-- 'stirruplaw03.SpanNarrow', WHERE WHAT IT READS IS OF BULK AT MOST 1048576: true; the input reads as it did. -/
def spanNarrowUptoRow : OpenClaim := { program := "ytgipfmleefojbaa", sum := "4306b27e598e3dbdfb4e5ecb5ba8ce9bb937dbfd50681a8a9fef5f8de76b5ef9", func := "stirrup/stirruplaw03.SpanNarrow", spec := "spanNarrow", unfollowed := true, recurses := true, named := ["math/bits.divideError", "math/bits.overflowError"], apart := false, narrowed := true }
def SpanNarrowUptoSaid : Prop := spanNarrowUptoRow.holds Try.pinned (OpenSpec.upto spanNarrowSpec)

/-- 'stirruplaw03.SpanSums', WHERE WHAT IT READS IS OF BULK AT MOST 1048576: true; the input reads as it did. -/
def spanSumsUptoRow : OpenClaim := { program := "ytgipfmleefojbaa", sum := "4306b27e598e3dbdfb4e5ecb5ba8ce9bb937dbfd50681a8a9fef5f8de76b5ef9", func := "stirrup/stirruplaw03.SpanSums", spec := "spanSums", named := ["math/bits.divideError", "math/bits.overflowError"], apart := false, narrowed := true }
def SpanSumsUptoSaid : Prop := spanSumsUptoRow.holds Try.pinned (OpenSpec.upto spanSumsSpec)

/-- 'stirruplaw03.SpanRules', WHERE WHAT IT READS IS OF BULK AT MOST 1048576: true; the input reads as it did. -/
def spanRulesUptoRow : OpenClaim := { program := "ytgipfmleefojbaa", sum := "4306b27e598e3dbdfb4e5ecb5ba8ce9bb937dbfd50681a8a9fef5f8de76b5ef9", func := "stirrup/stirruplaw03.SpanRules", spec := "spanRules", named := ["math/bits.divideError", "math/bits.overflowError"], apart := false, narrowed := true }
def SpanRulesUptoSaid : Prop := spanRulesUptoRow.holds Try.pinned (OpenSpec.upto spanRulesSpec)

/-- 'stirruplaw03.SpanFractions', WHERE WHAT IT READS IS OF BULK AT MOST 1048576: true; the input reads as it did. -/
def spanFractionsUptoRow : OpenClaim := { program := "ytgipfmleefojbaa", sum := "4306b27e598e3dbdfb4e5ecb5ba8ce9bb937dbfd50681a8a9fef5f8de76b5ef9", func := "stirrup/stirruplaw03.SpanFractions", spec := "spanFractions", named := ["math/bits.divideError", "math/bits.overflowError"], apart := false, narrowed := true }
def SpanFractionsUptoSaid : Prop := spanFractionsUptoRow.holds Try.pinned (OpenSpec.upto spanFractionsSpec)

end Rows
end Go.Proofs.Ytgipfmleefojbaa
