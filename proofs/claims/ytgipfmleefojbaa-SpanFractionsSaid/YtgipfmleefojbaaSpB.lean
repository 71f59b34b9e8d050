/- Contracts of span.Add, Sub, Hull, Meet, of their reference, and of the statements' own helpers. -/
import Derived.Test.YtgipfmleefojbaaSpA
import Derived.WalkLawsBesides
import Derived.Deep.RegionHeld3
set_option linter.unusedVariables false
namespace Go.Proofs.Ytgipfmleefojbaa
open Go.ChangeShapes Go.WideShapes Go.ChangeAt Go.RowKit

theorem fitS_no1 {lo hi : Int} (h : withinB lo = false) : fitS lo hi = (0, 0, 5) := by simp [fitS, h]
theorem fitS_no2 {lo hi : Int} (h : withinB hi = false) : fitS lo hi = (0, 0, 5) := by simp [fitS, h]
theorem fitS_yes {lo hi : Int} (h : withinB lo = true) (h' : withinB hi = true) : fitS lo hi = (lo, hi, 0) := by simp [fitS, h, h']

theorem made_at (lo hi : Int) (w : World) :
    Calls Try.prog 55 #[.int .i64 lo, .int .i64 hi] w fun e w' => e = .returned (spv (fitS lo hi)) ∧ w.alloc (.cells #[.int .i64 (fitS lo hi).1, .int .i64 (fitS lo hi).2.1] 23) = w' := by
  cases h1 : withinB lo
  · rw [fitS_no1 h1]
    go_enter Try.func55, Try.ntmps55
    go_wp2_with (first | (go_at_call 49; refine (within_any _ _).mono ?_; rintro e w' ⟨rfl, rfl⟩))
    exact bodyPost_ret (v := .tuple #[.agg #[.int .i64 (0), .int .i64 (0)], .int .i64 5]) (by simp [results, Try.results55, go_sem]) rfl ⟨rfl, rfl⟩
  · cases h2 : withinB hi
    · rw [fitS_no2 h2]
      go_enter Try.func55, Try.ntmps55
      go_wp2_with (first | (go_at_call 49; refine (within_any _ _).mono ?_; rintro e w' ⟨rfl, rfl⟩))
      exact bodyPost_ret (v := .tuple #[.agg #[.int .i64 (0), .int .i64 (0)], .int .i64 5]) (by simp [results, Try.results55, go_sem]) rfl ⟨rfl, rfl⟩
    · rw [fitS_yes h1 h2]
      go_enter Try.func55, Try.ntmps55
      go_wp2_with (first | (go_at_call 49; refine (within_any _ _).mono ?_; rintro e w' ⟨rfl, rfl⟩))
      exact bodyPost_ret (v := .tuple #[.agg #[.int .i64 (lo), .int .i64 (hi)], .int .i64 0]) (by simp [results, Try.results55, go_sem]) rfl ⟨rfl, rfl⟩

theorem add_any (al ah bl bh : Int) (w : World) :
    Calls Try.prog 26 #[sp al ah, sp bl bh] w fun e w' => e = .returned (spv (addS al ah bl bh)) ∧ Below w.heap.size w w' := by
  cases h1 : validB al ah
  · rw [show addS al ah bl bh = (0, 0, 1) from by simp [addS, h1]]
    go_enter Try.func26, Try.ntmps26
    go_wp2_with (first | (go_at_call 37; refine (valid_at _ _ _).mono ?_; rintro e w' ⟨rfl, rfl⟩))
    exact bodyPost_ret (v := .tuple #[.agg #[.int .i64 (0), .int .i64 (0)], .int .i64 1]) (by simp [results, Try.results26, go_sem]) rfl ⟨rfl, (by repeat (first | with_reducible exact Below.refl _ _ | with_reducible refine below_al ?_ _ | with_reducible refine below_drew ?_ | with_reducible refine below_drewN ?_ _))⟩
  · cases h2 : validB bl bh
    · rw [show addS al ah bl bh = (0, 0, 1) from by simp [addS, h2]]
      go_enter Try.func26, Try.ntmps26
      go_wp2_with (first | (go_at_call 37; refine (valid_at _ _ _).mono ?_; rintro e w' ⟨rfl, rfl⟩))
      exact bodyPost_ret (v := .tuple #[.agg #[.int .i64 (0), .int .i64 (0)], .int .i64 1]) (by simp [results, Try.results26, go_sem]) rfl ⟨rfl, (by repeat (first | with_reducible exact Below.refl _ _ | with_reducible refine below_al ?_ _ | with_reducible refine below_drew ?_ | with_reducible refine below_drewN ?_ _))⟩
    · rw [show addS al ah bl bh = fitS (al + bl) (ah + bh) from by simp [addS, h1, h2]]
      rw [validB_iff] at h1 h2
      have g1 := validB_iff.2 h1
      have g2 := validB_iff.2 h2
      obtain ⟨h10, h11, h12⟩ := h1
      obtain ⟨h20, h21, h22⟩ := h2
      go_enter Try.func26, Try.ntmps26
      go_wp2_with (first | (go_at_call 37; refine (valid_at _ _ _).mono ?_; rintro e w' ⟨rfl, rfl⟩) | (go_at_call 55; refine (made_at _ _ _).mono ?_; rintro e w' ⟨rfl, rfl⟩))
      exact bodyPost_ret (v := spv (fitS (al + bl) (ah + bh))) (by simp [results, Try.results26, go_sem]) rfl ⟨rfl, (by repeat (first | with_reducible exact Below.refl _ _ | with_reducible refine below_al ?_ _ | with_reducible refine below_drew ?_ | with_reducible refine below_drewN ?_ _))⟩

theorem sub_any (al ah bl bh : Int) (w : World) :
    Calls Try.prog 27 #[sp al ah, sp bl bh] w fun e w' => e = .returned (spv (subS al ah bl bh)) ∧ Below w.heap.size w w' := by
  cases h1 : validB al ah
  · rw [show subS al ah bl bh = (0, 0, 1) from by simp [subS, h1]]
    go_enter Try.func27, Try.ntmps27
    go_wp2_with (first | (go_at_call 37; refine (valid_at _ _ _).mono ?_; rintro e w' ⟨rfl, rfl⟩))
    exact bodyPost_ret (v := .tuple #[.agg #[.int .i64 (0), .int .i64 (0)], .int .i64 1]) (by simp [results, Try.results27, go_sem]) rfl ⟨rfl, (by repeat (first | with_reducible exact Below.refl _ _ | with_reducible refine below_al ?_ _ | with_reducible refine below_drew ?_ | with_reducible refine below_drewN ?_ _))⟩
  · cases h2 : validB bl bh
    · rw [show subS al ah bl bh = (0, 0, 1) from by simp [subS, h2]]
      go_enter Try.func27, Try.ntmps27
      go_wp2_with (first | (go_at_call 37; refine (valid_at _ _ _).mono ?_; rintro e w' ⟨rfl, rfl⟩))
      exact bodyPost_ret (v := .tuple #[.agg #[.int .i64 (0), .int .i64 (0)], .int .i64 1]) (by simp [results, Try.results27, go_sem]) rfl ⟨rfl, (by repeat (first | with_reducible exact Below.refl _ _ | with_reducible refine below_al ?_ _ | with_reducible refine below_drew ?_ | with_reducible refine below_drewN ?_ _))⟩
    · rw [show subS al ah bl bh = fitS (al - bh) (ah - bl) from by simp [subS, h1, h2]]
      rw [validB_iff] at h1 h2
      have g1 := validB_iff.2 h1
      have g2 := validB_iff.2 h2
      obtain ⟨h10, h11, h12⟩ := h1
      obtain ⟨h20, h21, h22⟩ := h2
      go_enter Try.func27, Try.ntmps27
      go_wp2_with (first | (go_at_call 37; refine (valid_at _ _ _).mono ?_; rintro e w' ⟨rfl, rfl⟩) | (go_at_call 55; refine (made_at _ _ _).mono ?_; rintro e w' ⟨rfl, rfl⟩))
      exact bodyPost_ret (v := spv (fitS (al - bh) (ah - bl))) (by simp [results, Try.results27, go_sem]) rfl ⟨rfl, (by repeat (first | with_reducible exact Below.refl _ _ | with_reducible refine below_al ?_ _ | with_reducible refine below_drew ?_ | with_reducible refine below_drewN ?_ _))⟩

theorem hul_any (al ah bl bh : Int) (w : World) :
    Calls Try.prog 35 #[sp al ah, sp bl bh] w fun e w' => e = .returned (spv (hulS al ah bl bh)) ∧ Below w.heap.size w w' := by
  cases h1 : validB al ah
  · rw [show hulS al ah bl bh = (0, 0, 1) from by simp [hulS, h1]]
    go_enter Try.func35, Try.ntmps35
    go_wp2_with (first | (go_at_call 37; refine (valid_at _ _ _).mono ?_; rintro e w' ⟨rfl, rfl⟩))
    exact bodyPost_ret (v := .tuple #[.agg #[.int .i64 (0), .int .i64 (0)], .int .i64 1]) (by simp [results, Try.results35, go_sem]) rfl ⟨rfl, (by repeat (first | with_reducible exact Below.refl _ _ | with_reducible refine below_al ?_ _ | with_reducible refine below_drew ?_ | with_reducible refine below_drewN ?_ _))⟩
  · cases h2 : validB bl bh
    · rw [show hulS al ah bl bh = (0, 0, 1) from by simp [hulS, h2]]
      go_enter Try.func35, Try.ntmps35
      go_wp2_with (first | (go_at_call 37; refine (valid_at _ _ _).mono ?_; rintro e w' ⟨rfl, rfl⟩))
      exact bodyPost_ret (v := .tuple #[.agg #[.int .i64 (0), .int .i64 (0)], .int .i64 1]) (by simp [results, Try.results35, go_sem]) rfl ⟨rfl, (by repeat (first | with_reducible exact Below.refl _ _ | with_reducible refine below_al ?_ _ | with_reducible refine below_drew ?_ | with_reducible refine below_drewN ?_ _))⟩
    · rw [show hulS al ah bl bh = (if bl < al then bl else al, if ah < bh then bh else ah, 0) from by simp [hulS, h1, h2, minI, maxI]]
      obtain ⟨lo, hlo⟩ : ∃ m, (if bl < al then bl else al) = m := ⟨_, rfl⟩
      obtain ⟨hi, hhi⟩ : ∃ m, (if ah < bh then bh else ah) = m := ⟨_, rfl⟩
      rw [hlo, hhi]
      go_enter Try.func35, Try.ntmps35
      go_wp2_with (first | (go_at_call 37; refine (valid_at _ _ _).mono ?_; rintro e w' ⟨rfl, rfl⟩))
      exact bodyPost_ret (v := .tuple #[.agg #[.int .i64 (lo), .int .i64 (hi)], .int .i64 0]) (by simp [results, Try.results35, go_sem]) rfl ⟨rfl, (by repeat (first | with_reducible exact Below.refl _ _ | with_reducible refine below_al ?_ _ | with_reducible refine below_drew ?_ | with_reducible refine below_drewN ?_ _))⟩

theorem mee_any (al ah bl bh : Int) (w : World) :
    Calls Try.prog 36 #[sp al ah, sp bl bh] w fun e w' => e = .returned (spv (meeS al ah bl bh)) ∧ Below w.heap.size w w' := by
  cases h1 : validB al ah
  · rw [show meeS al ah bl bh = (0, 0, 1) from by simp [meeS, h1]]
    go_enter Try.func36, Try.ntmps36
    go_wp2_with (first | (go_at_call 37; refine (valid_at _ _ _).mono ?_; rintro e w' ⟨rfl, rfl⟩))
    exact bodyPost_ret (v := .tuple #[.agg #[.int .i64 (0), .int .i64 (0)], .int .i64 1]) (by simp [results, Try.results36, go_sem]) rfl ⟨rfl, (by repeat (first | with_reducible exact Below.refl _ _ | with_reducible refine below_al ?_ _ | with_reducible refine below_drew ?_ | with_reducible refine below_drewN ?_ _))⟩
  · cases h2 : validB bl bh
    · rw [show meeS al ah bl bh = (0, 0, 1) from by simp [meeS, h2]]
      go_enter Try.func36, Try.ntmps36
      go_wp2_with (first | (go_at_call 37; refine (valid_at _ _ _).mono ?_; rintro e w' ⟨rfl, rfl⟩))
      exact bodyPost_ret (v := .tuple #[.agg #[.int .i64 (0), .int .i64 (0)], .int .i64 1]) (by simp [results, Try.results36, go_sem]) rfl ⟨rfl, (by repeat (first | with_reducible exact Below.refl _ _ | with_reducible refine below_al ?_ _ | with_reducible refine below_drew ?_ | with_reducible refine below_drewN ?_ _))⟩
    · obtain ⟨lo, hlo⟩ : ∃ m, (if al < bl then bl else al) = m := ⟨_, rfl⟩
      obtain ⟨hi, hhi⟩ : ∃ m, (if bh < ah then bh else ah) = m := ⟨_, rfl⟩
      by_cases hc : hi < lo
      · rw [show meeS al ah bl bh = (0, 0, 12) from by simp [meeS, h1, h2, minI, maxI, hlo, hhi, hc]]
        go_enter Try.func36, Try.ntmps36
        go_wp2_with (first | (go_at_call 37; refine (valid_at _ _ _).mono ?_; rintro e w' ⟨rfl, rfl⟩))
        exact bodyPost_ret (v := .tuple #[.agg #[.int .i64 (0), .int .i64 (0)], .int .i64 12]) (by simp [results, Try.results36, go_sem]) rfl ⟨rfl, (by repeat (first | with_reducible exact Below.refl _ _ | with_reducible refine below_al ?_ _ | with_reducible refine below_drew ?_ | with_reducible refine below_drewN ?_ _))⟩
      · rw [show meeS al ah bl bh = (lo, hi, 0) from by simp [meeS, h1, h2, minI, maxI, hlo, hhi, hc]]
        go_enter Try.func36, Try.ntmps36
        go_wp2_with (first | (go_at_call 37; refine (valid_at _ _ _).mono ?_; rintro e w' ⟨rfl, rfl⟩))
        exact bodyPost_ret (v := .tuple #[.agg #[.int .i64 (lo), .int .i64 (hi)], .int .i64 0]) (by simp [results, Try.results36, go_sem]) rfl ⟨rfl, (by repeat (first | with_reducible exact Below.refl _ _ | with_reducible refine below_al ?_ _ | with_reducible refine below_drew ?_ | with_reducible refine below_drewN ?_ _))⟩

theorem of_any (a b : Int) (w : World) :
    Calls Try.prog 32 #[.int .i64 a, .int .i64 b] w fun e w' => e = .returned (sp (minI a b) (maxI a b)) ∧ Below w.heap.size w w' := by
  obtain ⟨lo, hlo⟩ : ∃ m, (if b < a then b else a) = m := ⟨_, rfl⟩
  obtain ⟨hi, hhi⟩ : ∃ m, (if a < b then b else a) = m := ⟨_, rfl⟩
  rw [show minI a b = lo from hlo, show maxI a b = hi from hhi]
  go_enter Try.func32, Try.ntmps32
  go_wp2
  exact bodyPost_ret (v := sp lo hi) (by simp [results, Try.results32, go_sem]) rfl ⟨rfl, (by repeat (first | with_reducible exact Below.refl _ _ | with_reducible refine below_al ?_ _ | with_reducible refine below_drew ?_ | with_reducible refine below_drewN ?_ _))⟩

theorem wrong_yes (w : World) :
    Calls Try.prog 15 #[sp 0 0, .int .i64 1] w fun e w' => e = .returned (.bool true) ∧ Below w.heap.size w w' := by
  go_enter Try.func15, Try.ntmps15
  go_wp2
  go_ret
  exact ⟨rfl, (by repeat (first | with_reducible exact Below.refl _ _ | with_reducible refine below_al ?_ _ | with_reducible refine below_drew ?_ | with_reducible refine below_drewN ?_ _))⟩

#print axioms mee_any
end Go.Proofs.Ytgipfmleefojbaa
