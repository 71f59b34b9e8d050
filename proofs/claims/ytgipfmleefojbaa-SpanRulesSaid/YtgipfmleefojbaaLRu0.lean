/- SpanRules: what the plain functions answer. -/
import Derived.Test.YtgipfmleefojbaaAw
import Derived.Test.YtgipfmleefojbaaSpD
import Derived.Test.YtgipfmleefojbaaIns
set_option linter.unusedVariables false
namespace Go.Proofs.Ytgipfmleefojbaa
open Go.ChangeShapes Go.WideShapes Go.ChangeAt Go.RowKit

theorem min3 (x a b : Int) : minI (minI x a) b = minI (minI x b) a := by unfold minI; (repeat' split) <;> omega
theorem max3 (x a b : Int) : maxI (maxI x a) b = maxI (maxI x b) a := by unfold maxI; (repeat' split) <;> omega

theorem minI_comm (a b : Int) : minI a b = minI b a := by unfold minI; split <;> split <;> omega
theorem maxI_comm (a b : Int) : maxI a b = maxI b a := by unfold maxI; split <;> split <;> omega
theorem addS_comm (al ah bl bh : Int) : addS bl bh al ah = addS al ah bl bh := by
  unfold addS
  rw [Bool.and_comm, Int.add_comm bl, Int.add_comm bh]
theorem mulS_comm (al ah bl bh : Int) : mulS bl bh al ah = mulS al ah bl bh := by
  unfold mulS
  rw [Bool.and_comm (validB bl bh)]
  have e : hullS (mulL bl bh al ah) = hullS (mulL al ah bl bh) := by
    have d : ∀ a b : Int, dnS a b 1 = dnS b a 1 := fun a b => by rw [(by_one a b).1, (by_one b a).1, Int.mul_comm]
    have u : ∀ a b : Int, upS a b 1 = upS b a 1 := fun a b => by rw [(by_one a b).2, (by_one b a).2, Int.mul_comm]
    have e1 : hullOk (mulL bl bh al ah) = hullOk (mulL al ah bl bh) := by
      simp only [hullOk, mulL, List.all_cons, List.all_nil, okS, d bl, d bh, u bl, u bh]
      cases (withinB (dnS al bh 1) && withinB (upS al bh 1)) <;> cases (withinB (dnS ah bl 1) && withinB (upS ah bl 1)) <;> simp
    have e2 : hullLo (mulL bl bh al ah) = hullLo (mulL al ah bl bh) := by
      simp only [hullLo, mulL, List.foldl_cons, List.foldl_nil, d bl, d bh]
      generalize minI 1152921504606846976 (dnS al bl 1) = x
      rw [min3 x]
    have e3 : hullHi (mulL bl bh al ah) = hullHi (mulL al ah bl bh) := by
      simp only [hullHi, mulL, List.foldl_cons, List.foldl_nil, u bl, u bh]
      generalize maxI (-1152921504606846976) (upS al bl 1) = x
      rw [max3 x]
    unfold hullS
    rw [e1, e2, e3]
  rw [e]

end Go.Proofs.Ytgipfmleefojbaa
