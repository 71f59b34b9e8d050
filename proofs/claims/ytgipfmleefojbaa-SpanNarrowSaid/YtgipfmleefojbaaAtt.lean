/- A number of a valid span. -/
import Derived.Test.YtgipfmleefojbaaSpB
set_option linter.unusedVariables false
namespace Go.Proofs.Ytgipfmleefojbaa
open Go.ChangeShapes Go.WideShapes Go.ChangeAt Go.RowKit

def atF (al ah n : Int) : Int := al + n % (ah - al + 1)
theorem atF_mid {al ah n : Int} (h : al ≤ ah) : al ≤ atF al ah n ∧ atF al ah n ≤ ah := by
  unfold atF
  have h1 := Int.emod_nonneg n (show ah - al + 1 ≠ 0 by omega)
  have h2 := Int.emod_lt_of_pos n (show 0 < ah - al + 1 by omega)
  omega
theorem at_any (al ah n : Int) (h : validB al ah = true) (h0 : 0 ≤ n) (hn : n ≤ 18446744073709551615) (w : World) :
    Calls Try.prog 25 #[sp al ah, .int .u64 n] w fun e w' => e = .returned (.int .i64 (atF al ah n)) ∧ Below w.heap.size w w' := by
  rw [validB_iff] at h
  have hb := atF_mid (n := n) h.1
  have e1 : IntKind.i64.wrap (ah - al) = ah - al := IntWalk.i64_in _ (by omega)
  have e2 : IntKind.i64.wrap (ah - al + 1) = ah - al + 1 := IntWalk.i64_in _ (by omega)
  have e3 : IntKind.u64.wrap (ah - al + 1) = ah - al + 1 := by rw [IntKind.wrap_u64]; omega
  have h1 := Int.emod_nonneg n (show ah - al + 1 ≠ 0 by omega)
  have h2 := Int.emod_lt_of_pos n (show 0 < ah - al + 1 by omega)
  have e4 : IntKind.i64.wrap (n % (ah - al + 1)) = n % (ah - al + 1) := IntWalk.i64_in _ (by omega)
  have e5 : IntKind.i64.wrap (al + n % (ah - al + 1)) = atF al ah n := IntWalk.i64_in _ (by unfold atF at hb; omega)
  have e6 : ((ah - al + 1 : Int) == 0) = false := by simp; omega
  have e7 : n.tmod (ah - al + 1) = n % (ah - al + 1) := Int.tmod_eq_emod_of_nonneg h0
  have e8 : ¬ (ah - al + 1 = 0) := by omega
  clear h h1 h2 hb
  generalize atF al ah n = x at *
  go_enter Try.func25, Try.ntmps25
  go_wp2
  go_quiet (fail)
  go_wp2
  go_ret
  exact ⟨rfl, (by repeat (first | with_reducible exact Below.refl _ _ | with_reducible refine below_al ?_ _ | with_reducible refine below_drew ?_ | with_reducible refine below_drewN ?_ _))⟩
#print axioms at_any

end Go.Proofs.Ytgipfmleefojbaa
