/- The reference's Inside and Has. -/
import Derived.Test.YtgipfmleefojbaaSpB
set_option linter.unusedVariables false
namespace Go.Proofs.Ytgipfmleefojbaa
open Go.ChangeShapes Go.WideShapes Go.ChangeAt Go.RowKit

theorem inside_yes (al ah bl bh : Int) (h1 : bl ≤ al) (h2 : ah ≤ bh) (w : World) :
    Calls Try.prog 34 #[sp al ah, sp bl bh] w fun e w' => e = .returned (.bool true) ∧ Below w.heap.size w w' := by
  go_enter Try.func34, Try.ntmps34
  go_wp2
  go_ret
  exact ⟨rfl, (by repeat (first | with_reducible exact Below.refl _ _ | with_reducible refine below_al ?_ _ | with_reducible refine below_drew ?_ | with_reducible refine below_drewN ?_ _))⟩

def hasB (al ah n : Int) : Bool := decide (al ≤ n) && decide (n ≤ ah)
theorem has_any (al ah n : Int) (w : World) :
    Calls Try.prog 28 #[sp al ah, .int .i64 n] w fun e w' => e = .returned (.bool (hasB al ah n)) ∧ Below w.heap.size w w' := by
  by_cases h1 : al ≤ n
  · by_cases h2 : n ≤ ah
    · rw [show hasB al ah n = true from by simp [hasB]; omega]
      go_enter Try.func28, Try.ntmps28
      go_wp2
      go_ret
      exact ⟨rfl, (by repeat (first | with_reducible exact Below.refl _ _ | with_reducible refine below_al ?_ _ | with_reducible refine below_drew ?_ | with_reducible refine below_drewN ?_ _))⟩
    · rw [show hasB al ah n = false from by simp [hasB]; omega]
      go_enter Try.func28, Try.ntmps28
      go_wp2
      go_ret
      exact ⟨rfl, (by repeat (first | with_reducible exact Below.refl _ _ | with_reducible refine below_al ?_ _ | with_reducible refine below_drew ?_ | with_reducible refine below_drewN ?_ _))⟩
  · rw [show hasB al ah n = false from by simp [hasB]; omega]
    go_enter Try.func28, Try.ntmps28
    go_wp2
    go_ret
    exact ⟨rfl, (by repeat (first | with_reducible exact Below.refl _ _ | with_reducible refine below_al ?_ _ | with_reducible refine below_drew ?_ | with_reducible refine below_drewN ?_ _))⟩

end Go.Proofs.Ytgipfmleefojbaa
