/- span.Mul, span.Div, span.Times. -/
import Derived.Test.YtgipfmleefojbaaHu
import Derived.Deep.DeepMust
set_option linter.unusedVariables false
namespace Go.Proofs.Ytgipfmleefojbaa
open Go.ChangeShapes Go.WideShapes Go.ChangeAt Go.RowKit

theorem rows3_1 {w : World} {g : Nat} {t : TypeId} {x0 y0 z0 : Int} (h : At w g t #[.int .i64 x0, .int .i64 y0, .int .i64 z0]) : Rows3 w g [(x0, y0, z0)] := by
  intro k hk
  match k, hk with
  | 0, _ => exact ⟨h.c 0, h.c 1, h.c 2⟩

theorem rows3_2 {w : World} {g : Nat} {t : TypeId} {x0 y0 z0 x1 y1 z1 : Int} (h : At w g t #[.int .i64 x0, .int .i64 y0, .int .i64 z0, .int .i64 x1, .int .i64 y1, .int .i64 z1]) : Rows3 w g [(x0, y0, z0), (x1, y1, z1)] := by
  intro k hk
  match k, hk with
  | 0, _ => exact ⟨h.c 0, h.c 1, h.c 2⟩
  | 1, _ => exact ⟨h.c 3, h.c 4, h.c 5⟩

theorem rows3_4 {w : World} {g : Nat} {t : TypeId} {x0 y0 z0 x1 y1 z1 x2 y2 z2 x3 y3 z3 : Int} (h : At w g t #[.int .i64 x0, .int .i64 y0, .int .i64 z0, .int .i64 x1, .int .i64 y1, .int .i64 z1, .int .i64 x2, .int .i64 y2, .int .i64 z2, .int .i64 x3, .int .i64 y3, .int .i64 z3]) : Rows3 w g [(x0, y0, z0), (x1, y1, z1), (x2, y2, z2), (x3, y3, z3)] := by
  intro k hk
  match k, hk with
  | 0, _ => exact ⟨h.c 0, h.c 1, h.c 2⟩
  | 1, _ => exact ⟨h.c 3, h.c 4, h.c 5⟩
  | 2, _ => exact ⟨h.c 6, h.c 7, h.c 8⟩
  | 3, _ => exact ⟨h.c 9, h.c 10, h.c 11⟩

def mulL (al ah bl bh : Int) : List (Int × Int × Int) := [(al, bl, 1), (al, bh, 1), (ah, bl, 1), (ah, bh, 1)]
def divL (al ah bl bh : Int) : List (Int × Int × Int) := [(al, 1, bl), (al, 1, bh), (ah, 1, bl), (ah, 1, bh)]
def timL (al ah num den : Int) : List (Int × Int × Int) := [(al, num, den), (ah, num, den)]
def mulS (al ah bl bh : Int) : Int × Int × Int := if validB al ah && validB bl bh then hullS (mulL al ah bl bh) else (0, 0, 1)
def divS (al ah bl bh : Int) : Int × Int × Int := if validB al ah && validB bl bh then (if decide (bl ≤ 0) && decide (0 ≤ bh) then (0, 0, 16) else hullS (divL al ah bl bh)) else (0, 0, 1)
def timS (al ah num den : Int) : Int × Int × Int := if validB al ah then (if den = 0 then (0, 0, 16) else if withinB num && withinB den then hullS (timL al ah num den) else (0, 0, 2)) else (0, 0, 1)
theorem fit_mul {al ah bl bh : Int} (h1 : validB al ah = true) (h2 : validB bl bh = true) : Fit3 (mulL al ah bl bh) := by
  rw [validB_iff] at h1 h2
  intro x hx
  simp only [mulL, List.mem_cons, List.not_mem_nil, or_false] at hx
  rcases hx with rfl | rfl | rfl | rfl <;> (dsimp only; omega)
theorem fit_div {al ah bl bh : Int} (h1 : validB al ah = true) (h2 : validB bl bh = true) (h : ¬ (bl ≤ 0 ∧ 0 ≤ bh)) : Fit3 (divL al ah bl bh) := by
  rw [validB_iff] at h1 h2
  intro x hx
  simp only [divL, List.mem_cons, List.not_mem_nil, or_false] at hx
  rcases hx with rfl | rfl | rfl | rfl <;> (dsimp only; omega)
theorem fit_tim {al ah num den : Int} (h1 : validB al ah = true) (h2 : withinB num = true) (h3 : withinB den = true) (h : den ≠ 0) : Fit3 (timL al ah num den) := by
  rw [validB_iff] at h1
  rw [withinB_iff] at h2 h3
  intro x hx
  simp only [timL, List.mem_cons, List.not_mem_nil, or_false] at hx
  rcases hx with rfl | rfl <;> (dsimp only; omega)

set_option maxHeartbeats 1000000 in
theorem mul_any (al ah bl bh : Int) (w : World) :
    Calls Try.prog 12 #[sp al ah, sp bl bh] w fun e w' => e = .returned (spv (mulS al ah bl bh)) ∧ Below w.heap.size w w' := by
  cases h1 : validB al ah
  · rw [show mulS al ah bl bh = (0, 0, 1) from by simp [mulS, h1]]
    go_enter Try.func12, Try.ntmps12
    go_wp2_with (first | (go_at_call 37; refine (valid_at _ _ _).mono ?_; rintro e w' ⟨rfl, rfl⟩))
    exact bodyPost_ret (v := .tuple #[.agg #[.int .i64 (0), .int .i64 (0)], .int .i64 1]) (by simp [results, Try.results12, go_sem]) rfl ⟨rfl, (by repeat (first | with_reducible exact Below.refl _ _ | with_reducible refine below_al ?_ _ | with_reducible refine below_drew ?_ | with_reducible refine below_drewN ?_ _))⟩
  · cases h2 : validB bl bh
    · rw [show mulS al ah bl bh = (0, 0, 1) from by simp [mulS, h2]]
      go_enter Try.func12, Try.ntmps12
      go_wp2_with (first | (go_at_call 37; refine (valid_at _ _ _).mono ?_; rintro e w' ⟨rfl, rfl⟩))
      exact bodyPost_ret (v := .tuple #[.agg #[.int .i64 (0), .int .i64 (0)], .int .i64 1]) (by simp [results, Try.results12, go_sem]) rfl ⟨rfl, (by repeat (first | with_reducible exact Below.refl _ _ | with_reducible refine below_al ?_ _ | with_reducible refine below_drew ?_ | with_reducible refine below_drewN ?_ _))⟩
    · have hf := fit_mul h1 h2
      rw [show mulS al ah bl bh = hullS (mulL al ah bl bh) from by simp [mulS, h1, h2]]
      have HH := Lib.hid (fun (g : Nat) (w : World) (hr : Rows3 w g (mulL al ah bl bh)) (hg : g < w.heap.size) => hull_any (mulL al ah bl bh) g 4 rfl (by omega) w hr hg hf)
      clear hf
      generalize hullS (mulL al ah bl bh) = r at *
      go_enter Try.func12, Try.ntmps12
      go_wp2_with (first | (go_at_call 37; refine (valid_at _ _ _).mono ?_; rintro e w' ⟨rfl, rfl⟩))
      refine (HH.out _ _ ?_ ?_).mono ?_
      focus
        refine rows3_4 (t := 60) ?_
        (repeat (first | (with_reducible apply At.new'; (focus (simp; done))) | with_reducible apply At.al | with_reducible apply At.drw | with_reducible apply At.dr))
      focus
        simp
      rintro e w1 ⟨rfl, hb⟩
      have oc := oldc hb
      have of := oldf hb
      go_wp2_with fail
      exact bodyPost_ret (v := spv r) (by simp [results, Try.results12, go_sem, oc]) rfl ⟨rfl, (by repeat (first | with_reducible exact Below.refl _ _ | with_reducible refine below_al ?_ _ | with_reducible refine below_drew ?_ | with_reducible refine below_drewN ?_ _ | with_reducible refine below_set ?_ (by dsimp only; omega) _ | with_reducible refine below_then ?_ hb))⟩

set_option maxHeartbeats 1000000 in
theorem div_any (al ah bl bh : Int) (w : World) :
    Calls Try.prog 13 #[sp al ah, sp bl bh] w fun e w' => e = .returned (spv (divS al ah bl bh)) ∧ Below w.heap.size w w' := by
  cases h1 : validB al ah
  · rw [show divS al ah bl bh = (0, 0, 1) from by simp [divS, h1]]
    go_enter Try.func13, Try.ntmps13
    go_wp2_with (first | (go_at_call 37; refine (valid_at _ _ _).mono ?_; rintro e w' ⟨rfl, rfl⟩))
    exact bodyPost_ret (v := .tuple #[.agg #[.int .i64 (0), .int .i64 (0)], .int .i64 1]) (by simp [results, Try.results13, go_sem]) rfl ⟨rfl, (by repeat (first | with_reducible exact Below.refl _ _ | with_reducible refine below_al ?_ _ | with_reducible refine below_drew ?_ | with_reducible refine below_drewN ?_ _))⟩
  · cases h2 : validB bl bh
    · rw [show divS al ah bl bh = (0, 0, 1) from by simp [divS, h2]]
      go_enter Try.func13, Try.ntmps13
      go_wp2_with (first | (go_at_call 37; refine (valid_at _ _ _).mono ?_; rintro e w' ⟨rfl, rfl⟩))
      exact bodyPost_ret (v := .tuple #[.agg #[.int .i64 (0), .int .i64 (0)], .int .i64 1]) (by simp [results, Try.results13, go_sem]) rfl ⟨rfl, (by repeat (first | with_reducible exact Below.refl _ _ | with_reducible refine below_al ?_ _ | with_reducible refine below_drew ?_ | with_reducible refine below_drewN ?_ _))⟩
    · by_cases hz : bl ≤ 0 ∧ 0 ≤ bh
      · rw [show divS al ah bl bh = (0, 0, 16) from by simp [divS, h1, h2, hz]]
        obtain ⟨z1, z2⟩ := hz
        go_enter Try.func13, Try.ntmps13
        go_wp2_with (first | (go_at_call 37; refine (valid_at _ _ _).mono ?_; rintro e w' ⟨rfl, rfl⟩))
        exact bodyPost_ret (v := .tuple #[.agg #[.int .i64 (0), .int .i64 (0)], .int .i64 16]) (by simp [results, Try.results13, go_sem]) rfl ⟨rfl, (by repeat (first | with_reducible exact Below.refl _ _ | with_reducible refine below_al ?_ _ | with_reducible refine below_drew ?_ | with_reducible refine below_drewN ?_ _))⟩
      · have hf := fit_div h1 h2 hz
        rw [show divS al ah bl bh = hullS (divL al ah bl bh) from by simp [divS, h1, h2]; intro a b; exact absurd ⟨a, b⟩ hz]
        have HH := Lib.hid (fun (g : Nat) (w : World) (hr : Rows3 w g (divL al ah bl bh)) (hg : g < w.heap.size) => hull_any (divL al ah bl bh) g 4 rfl (by omega) w hr hg hf)
        clear hf
        generalize hullS (divL al ah bl bh) = r at *
        by_cases z1 : bl ≤ 0
        · have z2 : ¬ 0 ≤ bh := fun h => hz ⟨z1, h⟩
          clear hz
          go_enter Try.func13, Try.ntmps13
          go_wp2_with (first | (go_at_call 37; refine (valid_at _ _ _).mono ?_; rintro e w' ⟨rfl, rfl⟩))
          refine (HH.out _ _ ?_ ?_).mono ?_
          focus
            refine rows3_4 (t := 60) ?_
            (repeat (first | (with_reducible apply At.new'; (focus (simp; done))) | with_reducible apply At.al | with_reducible apply At.drw | with_reducible apply At.dr))
          focus
            simp
          rintro e w1 ⟨rfl, hb⟩
          have oc := oldc hb
          have of := oldf hb
          go_wp2_with fail
          exact bodyPost_ret (v := spv r) (by simp [results, Try.results13, go_sem, oc]) rfl ⟨rfl, (by repeat (first | with_reducible exact Below.refl _ _ | with_reducible refine below_al ?_ _ | with_reducible refine below_drew ?_ | with_reducible refine below_drewN ?_ _ | with_reducible refine below_set ?_ (by dsimp only; omega) _ | with_reducible refine below_then ?_ hb))⟩
        · clear hz
          go_enter Try.func13, Try.ntmps13
          go_wp2_with (first | (go_at_call 37; refine (valid_at _ _ _).mono ?_; rintro e w' ⟨rfl, rfl⟩))
          refine (HH.out _ _ ?_ ?_).mono ?_
          focus
            refine rows3_4 (t := 60) ?_
            (repeat (first | (with_reducible apply At.new'; (focus (simp; done))) | with_reducible apply At.al | with_reducible apply At.drw | with_reducible apply At.dr))
          focus
            simp
          rintro e w1 ⟨rfl, hb⟩
          have oc := oldc hb
          have of := oldf hb
          go_wp2_with fail
          exact bodyPost_ret (v := spv r) (by simp [results, Try.results13, go_sem, oc]) rfl ⟨rfl, (by repeat (first | with_reducible exact Below.refl _ _ | with_reducible refine below_al ?_ _ | with_reducible refine below_drew ?_ | with_reducible refine below_drewN ?_ _ | with_reducible refine below_set ?_ (by dsimp only; omega) _ | with_reducible refine below_then ?_ hb))⟩

set_option maxHeartbeats 1000000 in
theorem tim_any (al ah num den : Int) (w : World) :
    Calls Try.prog 18 #[sp al ah, .int .i64 num, .int .i64 den] w fun e w' => e = .returned (spv (timS al ah num den)) ∧ Below w.heap.size w w' := by
  cases h1 : validB al ah
  · rw [show timS al ah num den = (0, 0, 1) from by simp [timS, h1]]
    go_enter Try.func18, Try.ntmps18
    go_wp2_with (first | (go_at_call 37; refine (valid_at _ _ _).mono ?_; rintro e w' ⟨rfl, rfl⟩))
    exact bodyPost_ret (v := .tuple #[.agg #[.int .i64 (0), .int .i64 (0)], .int .i64 1]) (by simp [results, Try.results18, go_sem]) rfl ⟨rfl, (by repeat (first | with_reducible exact Below.refl _ _ | with_reducible refine below_al ?_ _ | with_reducible refine below_drew ?_ | with_reducible refine below_drewN ?_ _))⟩
  · by_cases hd : den = 0
    · rw [show timS al ah num den = (0, 0, 16) from by simp [timS, h1, hd]]
      subst hd
      go_enter Try.func18, Try.ntmps18
      go_wp2_with (first | (go_at_call 37; refine (valid_at _ _ _).mono ?_; rintro e w' ⟨rfl, rfl⟩))
      exact bodyPost_ret (v := .tuple #[.agg #[.int .i64 (0), .int .i64 (0)], .int .i64 16]) (by simp [results, Try.results18, go_sem]) rfl ⟨rfl, (by repeat (first | with_reducible exact Below.refl _ _ | with_reducible refine below_al ?_ _ | with_reducible refine below_drew ?_ | with_reducible refine below_drewN ?_ _))⟩
    · have hd' : (den == 0) = false := by simpa using hd
      cases h2 : withinB num
      · rw [show timS al ah num den = (0, 0, 2) from by simp [timS, h1, h2, hd]]
        clear hd
        go_enter Try.func18, Try.ntmps18
        go_wp2_with (first | (go_at_call 37; refine (valid_at _ _ _).mono ?_; rintro e w' ⟨rfl, rfl⟩) | (go_at_call 49; refine (within_any _ _).mono ?_; rintro e w' ⟨rfl, rfl⟩))
        exact bodyPost_ret (v := .tuple #[.agg #[.int .i64 (0), .int .i64 (0)], .int .i64 2]) (by simp [results, Try.results18, go_sem]) rfl ⟨rfl, (by repeat (first | with_reducible exact Below.refl _ _ | with_reducible refine below_al ?_ _ | with_reducible refine below_drew ?_ | with_reducible refine below_drewN ?_ _))⟩
      · cases h3 : withinB den
        · rw [show timS al ah num den = (0, 0, 2) from by simp [timS, h1, h2, h3, hd]]
          clear hd
          go_enter Try.func18, Try.ntmps18
          go_wp2_with (first | (go_at_call 37; refine (valid_at _ _ _).mono ?_; rintro e w' ⟨rfl, rfl⟩) | (go_at_call 49; refine (within_any _ _).mono ?_; rintro e w' ⟨rfl, rfl⟩))
          exact bodyPost_ret (v := .tuple #[.agg #[.int .i64 (0), .int .i64 (0)], .int .i64 2]) (by simp [results, Try.results18, go_sem]) rfl ⟨rfl, (by repeat (first | with_reducible exact Below.refl _ _ | with_reducible refine below_al ?_ _ | with_reducible refine below_drew ?_ | with_reducible refine below_drewN ?_ _))⟩
        · have hf := fit_tim h1 h2 h3 hd
          rw [show timS al ah num den = hullS (timL al ah num den) from by simp [timS, h1, h2, h3, hd]]
          have HH := Lib.hid (fun (g : Nat) (w : World) (hr : Rows3 w g (timL al ah num den)) (hg : g < w.heap.size) => hull_any (timL al ah num den) g 2 rfl (by omega) w hr hg hf)
          clear hf hd
          generalize hullS (timL al ah num den) = r at *
          go_enter Try.func18, Try.ntmps18
          go_wp2_with (first | (go_at_call 37; refine (valid_at _ _ _).mono ?_; rintro e w' ⟨rfl, rfl⟩) | (go_at_call 49; refine (within_any _ _).mono ?_; rintro e w' ⟨rfl, rfl⟩))
          refine (HH.out _ _ ?_ ?_).mono ?_
          focus
            refine rows3_2 (t := 60) ?_
            (repeat (first | (with_reducible apply At.new'; (focus (simp; done))) | with_reducible apply At.al | with_reducible apply At.drw | with_reducible apply At.dr))
          focus
            simp
          rintro e w1 ⟨rfl, hb⟩
          have oc := oldc hb
          have of := oldf hb
          go_wp2_with fail
          exact bodyPost_ret (v := spv r) (by simp [results, Try.results18, go_sem, oc]) rfl ⟨rfl, (by repeat (first | with_reducible exact Below.refl _ _ | with_reducible refine below_al ?_ _ | with_reducible refine below_drew ?_ | with_reducible refine below_drewN ?_ _ | with_reducible refine below_set ?_ (by dsimp only; omega) _ | with_reducible refine below_then ?_ hb))⟩

#print axioms tim_any

end Go.Proofs.Ytgipfmleefojbaa
