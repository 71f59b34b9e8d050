/- Contracts of the small functions of package span, of its reference, and of the statements' own. -/
import Derived.Test.YtgipfmleefojbaaBase
import Derived.Test.YtgipfmleefojbaaMSp
import Derived.WalkLawsBesides
set_option linter.unusedVariables false
namespace Go.Proofs.Ytgipfmleefojbaa
open Go.ChangeShapes Go.WideShapes Go.ChangeAt Go.RowKit

theorem within_any (n : Int) (w : World) :
    Calls Try.prog 49 #[.int .i64 n] w fun e w' => e = .returned (.bool (withinB n)) ∧ w = w' := by
  by_cases h1 : -1152921504606846976 ≤ n
  · by_cases h2 : n ≤ 1152921504606846976
    · have e : withinB n = true := withinB_iff.2 ⟨h1, h2⟩
      rw [e]
      go_enter Try.func49, Try.ntmps49
      go_wp2
      go_ret
      exact ⟨rfl, rfl⟩
    · have e : withinB n = false := withinB_not.2 (by omega)
      rw [e]
      go_enter Try.func49, Try.ntmps49
      go_wp2
      go_ret
      exact ⟨rfl, rfl⟩
  · have e : withinB n = false := withinB_not.2 (by omega)
    rw [e]
    go_enter Try.func49, Try.ntmps49
    go_wp2
    go_ret
    exact ⟨rfl, rfl⟩

theorem valid_at (lo hi : Int) (w : World) :
    Calls Try.prog 37 #[.agg #[.int .i64 lo, .int .i64 hi]] w fun e w' => e = .returned (.bool (validB lo hi)) ∧ w.alloc (.cells #[.int .i64 lo, .int .i64 hi] 23) = w' := by
  by_cases h0 : lo ≤ hi
  · by_cases h1 : -1152921504606846976 ≤ lo
    · by_cases h2 : hi ≤ 1152921504606846976
      · rw [validB_iff.2 ⟨h0, h1, h2⟩]
        go_enter Try.func37, Try.ntmps37
        go_wp2
        go_ret
        exact ⟨rfl, rfl⟩
      · rw [show validB lo hi = false from by simp [validB]; omega]
        go_enter Try.func37, Try.ntmps37
        go_wp2
        go_ret
        exact ⟨rfl, rfl⟩
    · rw [show validB lo hi = false from by simp [validB]; omega]
      go_enter Try.func37, Try.ntmps37
      go_wp2
      go_ret
      exact ⟨rfl, rfl⟩
  · rw [show validB lo hi = false from by simp [validB]; omega]
    go_enter Try.func37, Try.ntmps37
    go_wp2
    go_ret
    exact ⟨rfl, rfl⟩
theorem valid_any (lo hi : Int) (w : World) :
    Calls Try.prog 37 #[.agg #[.int .i64 lo, .int .i64 hi]] w fun e w' => e = .returned (.bool (validB lo hi)) ∧ Below w.heap.size w w' :=
  (valid_at lo hi w).mono fun _ _ ⟨h, k⟩ => ⟨h, by rw [← k]; exact below_al (Below.refl _ _) _⟩

theorem refvalid_at (lo hi : Int) (w : World) :
    Calls Try.prog 14 #[.agg #[.int .i64 lo, .int .i64 hi]] w fun e w' => e = .returned (.bool (validB lo hi)) ∧ w.alloc (.cells #[.int .i64 lo, .int .i64 hi] 23) = w' := by
  by_cases h0 : lo ≤ hi
  · by_cases h1 : -1152921504606846976 ≤ lo
    · by_cases h2 : hi ≤ 1152921504606846976
      · rw [validB_iff.2 ⟨h0, h1, h2⟩]
        go_enter Try.func14, Try.ntmps14
        go_wp2
        go_ret
        exact ⟨rfl, rfl⟩
      · rw [show validB lo hi = false from by simp [validB]; omega]
        go_enter Try.func14, Try.ntmps14
        go_wp2
        go_ret
        exact ⟨rfl, rfl⟩
    · rw [show validB lo hi = false from by simp [validB]; omega]
      go_enter Try.func14, Try.ntmps14
      go_wp2
      go_ret
      exact ⟨rfl, rfl⟩
  · rw [show validB lo hi = false from by simp [validB]; omega]
    go_enter Try.func14, Try.ntmps14
    go_wp2
    go_ret
    exact ⟨rfl, rfl⟩
theorem refvalid_any (lo hi : Int) (w : World) :
    Calls Try.prog 14 #[.agg #[.int .i64 lo, .int .i64 hi]] w fun e w' => e = .returned (.bool (validB lo hi)) ∧ Below w.heap.size w w' :=
  (refvalid_at lo hi w).mono fun _ _ ⟨h, k⟩ => ⟨h, by rw [← k]; exact below_al (Below.refl _ _) _⟩

/-! ### what the functions give: the ends and the error -/
def fitS (lo hi : Int) : Int × Int × Int := if withinB lo && withinB hi then (lo, hi, 0) else (0, 0, 5)
def addS (al ah bl bh : Int) : Int × Int × Int := if validB al ah && validB bl bh then fitS (al + bl) (ah + bh) else (0, 0, 1)
def subS (al ah bl bh : Int) : Int × Int × Int := if validB al ah && validB bl bh then fitS (al - bh) (ah - bl) else (0, 0, 1)
def hulS (al ah bl bh : Int) : Int × Int × Int := if validB al ah && validB bl bh then (minI al bl, maxI ah bh, 0) else (0, 0, 1)
def meeS (al ah bl bh : Int) : Int × Int × Int := if validB al ah && validB bl bh then (if minI ah bh < maxI al bl then (0, 0, 12) else (maxI al bl, minI ah bh, 0)) else (0, 0, 1)
/-- The value that a function hands back. -/
abbrev spv (r : Int × Int × Int) : Value := .tuple #[.agg #[.int .i64 r.1, .int .i64 r.2.1], .int .i64 r.2.2]
abbrev sp (lo hi : Int) : Value := .agg #[.int .i64 lo, .int .i64 hi]

theorem made_any (lo hi : Int) (w : World) :
    Calls Try.prog 55 #[.int .i64 lo, .int .i64 hi] w fun e w' => e = .returned (spv (fitS lo hi)) ∧ Below w.heap.size w w' := by
  cases h1 : withinB lo
  · rw [show fitS lo hi = (0, 0, 5) from by simp [fitS, h1]]
    go_enter Try.func55, Try.ntmps55
    go_wp2_with (first | (go_at_call 49; refine (within_any _ _).mono ?_; rintro e w' ⟨rfl, rfl⟩))
    exact bodyPost_ret (v := .tuple #[.agg #[.int .i64 (0), .int .i64 (0)], .int .i64 5]) (by simp [results, Try.results55, go_sem]) rfl ⟨rfl, (by repeat (first | with_reducible exact Below.refl _ _ | with_reducible refine below_al ?_ _ | with_reducible refine below_drew ?_ | with_reducible refine below_drewN ?_ _))⟩
  · cases h2 : withinB hi
    · rw [show fitS lo hi = (0, 0, 5) from by simp [fitS, h2]]
      go_enter Try.func55, Try.ntmps55
      go_wp2_with (first | (go_at_call 49; refine (within_any _ _).mono ?_; rintro e w' ⟨rfl, rfl⟩))
      exact bodyPost_ret (v := .tuple #[.agg #[.int .i64 (0), .int .i64 (0)], .int .i64 5]) (by simp [results, Try.results55, go_sem]) rfl ⟨rfl, (by repeat (first | with_reducible exact Below.refl _ _ | with_reducible refine below_al ?_ _ | with_reducible refine below_drew ?_ | with_reducible refine below_drewN ?_ _))⟩
    · rw [show fitS lo hi = (lo, hi, 0) from by simp [fitS, h1, h2]]
      go_enter Try.func55, Try.ntmps55
      go_wp2_with (first | (go_at_call 49; refine (within_any _ _).mono ?_; rintro e w' ⟨rfl, rfl⟩))
      exact bodyPost_ret (v := .tuple #[.agg #[.int .i64 (lo), .int .i64 (hi)], .int .i64 0]) (by simp [results, Try.results55, go_sem]) rfl ⟨rfl, (by repeat (first | with_reducible exact Below.refl _ _ | with_reducible refine below_al ?_ _ | with_reducible refine below_drew ?_ | with_reducible refine below_drewN ?_ _))⟩

theorem reffits_any (lo hi : Int) (hle : lo ≤ hi) (w : World) :
    Calls Try.prog 46 #[.int .i64 lo, .int .i64 hi] w fun e w' => e = .returned (spv (fitS lo hi)) ∧ Below w.heap.size w w' := by
  cases h1 : validB lo hi
  · rw [show fitS lo hi = (0, 0, 5) from by simp [validB, hle] at h1; simp [fitS, withinB]; omega]
    go_enter Try.func46, Try.ntmps46
    go_wp2_with (first | (go_at_call 14; refine (refvalid_at _ _ _).mono ?_; rintro e w' ⟨rfl, rfl⟩))
    exact bodyPost_ret (v := .tuple #[.agg #[.int .i64 (0), .int .i64 (0)], .int .i64 5]) (by simp [results, Try.results46, go_sem]) rfl ⟨rfl, (by repeat (first | with_reducible exact Below.refl _ _ | with_reducible refine below_al ?_ _ | with_reducible refine below_drew ?_ | with_reducible refine below_drewN ?_ _))⟩
  · rw [show fitS lo hi = (lo, hi, 0) from by rw [validB_iff] at h1; simp [fitS, withinB]; omega]
    go_enter Try.func46, Try.ntmps46
    go_wp2_with (first | (go_at_call 14; refine (refvalid_at _ _ _).mono ?_; rintro e w' ⟨rfl, rfl⟩))
    exact bodyPost_ret (v := .tuple #[.agg #[.int .i64 (lo), .int .i64 (hi)], .int .i64 0]) (by simp [results, Try.results46, go_sem]) rfl ⟨rfl, (by repeat (first | with_reducible exact Below.refl _ _ | with_reducible refine below_al ?_ _ | with_reducible refine below_drew ?_ | with_reducible refine below_drewN ?_ _))⟩

#print axioms reffits_any
end Go.Proofs.Ytgipfmleefojbaa