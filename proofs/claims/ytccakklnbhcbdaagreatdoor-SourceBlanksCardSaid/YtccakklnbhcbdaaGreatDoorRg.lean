/- A region that only reads beside calls that end in Below: two words for its worlds. -/
import Derived.Test.YtccakklnbhcbdaaGreatDoorBase
set_option linter.unusedVariables false
namespace Go.Proofs.YtccakklnbhcbdaaGreatDoor
open Go.ChangeShapes Go.WideShapes Go.ChangeAt Go.RowKit

theorem below_of_regrown {w v : World} (h : ∃ p : Regrown, v = Go.Sort.grow (redrawn w p.d) p.os) : Below w.heap.size w v := by
  obtain ⟨p, rfl⟩ := h
  exact below_regrown _ _ _
theorem regrown_call {P : Program} {f : FuncId} {args : Array Value} {w : World} {d : Nat} {os : Array Obj} {v : Value}
    (h : ∀ W : World, Calls P f args W fun e w' => e = .returned v ∧ Below W.heap.size W w') : Calls P f args (Go.Sort.grow (redrawn w d) os) fun e w'' => e = .returned v ∧ ∃ p : Regrown, w'' = Go.Sort.grow (redrawn w p.d) p.os :=
  Calls.regrown_of (h _)
end Go.Proofs.YtccakklnbhcbdaaGreatDoor
