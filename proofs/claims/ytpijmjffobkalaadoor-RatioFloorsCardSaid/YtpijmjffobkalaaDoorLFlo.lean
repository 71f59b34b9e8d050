/- RatioFloors' walk: it returns true. -/
import Derived.Test.YtpijmjffobkalaaDoorRaTx
import Derived.Test.YtpijmjffobkalaaDoorRaRef3
set_option linter.unusedVariables false
namespace Go.Proofs.YtpijmjffobkalaaDoor
open Go.ChangeShapes Go.WideShapes Go.ChangeAt Go.RowKit

set_option maxRecDepth 100000 in
set_option maxHeartbeats 1000000 in
theorem floors_bad (an ad : Int) (w : World)
    (HW : Hid (∀ u, Below w.heap.size w u → Calls Tryd.prog 11 #[] u fun e w' => e = .returned (.bool true) ∧ Below u.heap.size u w'))
    (HF : Hid (∀ w, Calls Tryd.prog 19 #[.agg #[.int .i64 an, .int .i64 ad]] w fun e w' => e = .returned (.tuple #[.int .i64 0, .int .i64 1]) ∧ Below w.heap.size w w'))
    (HC : Hid (∀ w, Calls Tryd.prog 20 #[.agg #[.int .i64 an, .int .i64 ad]] w fun e w' => e = .returned (.tuple #[.int .i64 0, .int .i64 1]) ∧ Below w.heap.size w w'))
    (HV : Hid (∀ w, Calls Tryd.prog 15 #[.agg #[.int .i64 an, .int .i64 ad]] w fun e w' => e = .returned (.bool false) ∧ Below w.heap.size w w')) :
    Calls Tryd.prog 8 #[.agg #[.int .i64 an, .int .i64 ad]] w fun e w' => e = .returned (.bool true) ∧ Below w.heap.size w w' := by
  go_enter Tryd.func8, Tryd.ntmps8
  go_wp2_with fail
  refine (HW.out _ (by repeat (first | with_reducible assumption | with_reducible exact Below.refl _ _ | with_reducible refine below_al ?_ _ | with_reducible refine below_drew ?_ | with_reducible refine below_drewN ?_ _ | with_reducible refine below_set ?_ (by dsimp only; omega) _))).mono ?_
  rintro e v1 ⟨rfl, hb1⟩
  have k_a : At v1 (w.heap.size) 23 #[.int .i64 an, .int .i64 ad] := At.bel (by (repeat (first | (with_reducible apply At.new'; (focus (simp; done))) | with_reducible apply At.al | with_reducible apply At.drw | with_reducible apply At.dr))) hb1
  have HB : Below w.heap.size w v1 := below_then (by repeat (first | with_reducible assumption | with_reducible exact Below.refl _ _ | with_reducible refine below_al ?_ _ | with_reducible refine below_drew ?_ | with_reducible refine below_drewN ?_ _ | with_reducible refine below_set ?_ (by dsimp only; omega) _)) hb1
  clear hb1
  have Lk_a := k_a.lt
  obtain ⟨k_a0, k_a1, k_a2, k_a3⟩ := k_a.two
  go_wp2_with fail
  refine (HF.out _).mono ?_
  rintro e v2 ⟨rfl, hb2⟩
  clear k_a0 k_a1 k_a2 k_a3 Lk_a
  replace k_a : At v2 (w.heap.size) 23 #[.int .i64 an, .int .i64 ad] := At.bel (by repeat (first | with_reducible assumption | with_reducible apply At.put0 | with_reducible apply At.put1 | with_reducible refine At.far ?_ (by dsimp only; omega) _ | with_reducible apply At.al | with_reducible apply At.drw | with_reducible apply At.dr)) hb2
  replace HB : Below w.heap.size w v2 := below_then (by repeat (first | with_reducible assumption | with_reducible exact Below.refl _ _ | with_reducible refine below_al ?_ _ | with_reducible refine below_drew ?_ | with_reducible refine below_drewN ?_ _ | with_reducible refine below_set ?_ (by dsimp only; omega) _)) hb2
  clear hb2
  have Lk_a := k_a.lt
  obtain ⟨k_a0, k_a1, k_a2, k_a3⟩ := k_a.two
  go_wp2_with fail
  refine (HC.out _).mono ?_
  rintro e v3 ⟨rfl, hb3⟩
  clear k_a0 k_a1 k_a2 k_a3 Lk_a
  replace k_a : At v3 (w.heap.size) 23 #[.int .i64 an, .int .i64 ad] := At.bel (by repeat (first | with_reducible assumption | with_reducible apply At.put0 | with_reducible apply At.put1 | with_reducible refine At.far ?_ (by dsimp only; omega) _ | with_reducible apply At.al | with_reducible apply At.drw | with_reducible apply At.dr)) hb3
  replace HB : Below w.heap.size w v3 := below_then (by repeat (first | with_reducible assumption | with_reducible exact Below.refl _ _ | with_reducible refine below_al ?_ _ | with_reducible refine below_drew ?_ | with_reducible refine below_drewN ?_ _ | with_reducible refine below_set ?_ (by dsimp only; omega) _)) hb3
  clear hb3
  have Lk_a := k_a.lt
  obtain ⟨k_a0, k_a1, k_a2, k_a3⟩ := k_a.two
  go_wp2_with fail
  refine (HV.out _).mono ?_
  rintro e v4 ⟨rfl, hb4⟩
  clear k_a0 k_a1 k_a2 k_a3 Lk_a
  replace k_a : At v4 (w.heap.size) 23 #[.int .i64 an, .int .i64 ad] := At.bel (by repeat (first | with_reducible assumption | with_reducible apply At.put0 | with_reducible apply At.put1 | with_reducible refine At.far ?_ (by dsimp only; omega) _ | with_reducible apply At.al | with_reducible apply At.drw | with_reducible apply At.dr)) hb4
  replace HB : Below w.heap.size w v4 := below_then (by repeat (first | with_reducible assumption | with_reducible exact Below.refl _ _ | with_reducible refine below_al ?_ _ | with_reducible refine below_drew ?_ | with_reducible refine below_drewN ?_ _ | with_reducible refine below_set ?_ (by dsimp only; omega) _)) hb4
  clear hb4
  have Lk_a := k_a.lt
  obtain ⟨k_a0, k_a1, k_a2, k_a3⟩ := k_a.two
  go_wp2_with fail
  go_ret
  exact ⟨rfl, (by repeat (first | with_reducible assumption | with_reducible exact Below.refl _ _ | with_reducible refine below_al ?_ _ | with_reducible refine below_drew ?_ | with_reducible refine below_drewN ?_ _ | with_reducible refine below_set ?_ (by dsimp only; omega) _))⟩

set_option maxRecDepth 100000 in
set_option maxHeartbeats 1000000 in
theorem floors_whole (an : Int) (w : World)
    (HW : Hid (∀ u, Below w.heap.size w u → Calls Tryd.prog 11 #[] u fun e w' => e = .returned (.bool true) ∧ Below u.heap.size u w'))
    (HF : Hid (∀ w, Calls Tryd.prog 19 #[.agg #[.int .i64 an, .int .i64 1]] w fun e w' => e = .returned (.tuple #[.int .i64 an, .int .i64 0]) ∧ Below w.heap.size w w'))
    (HC : Hid (∀ w, Calls Tryd.prog 20 #[.agg #[.int .i64 an, .int .i64 1]] w fun e w' => e = .returned (.tuple #[.int .i64 an, .int .i64 0]) ∧ Below w.heap.size w w'))
    (HP : Hid (∀ w, Calls Tryd.prog 17 #[.int .i64 an, .int .i64 1] w fun e w' => e = .returned (frv (an, 1, 0)) ∧ Below w.heap.size w w'))
    (HQ : Hid (∀ w, Calls Tryd.prog 17 #[.int .i64 an, .int .i64 1] w fun e w' => e = .returned (frv (an, 1, 0)) ∧ Below w.heap.size w w'))
    (HX : Hid (∀ w, Calls Tryd.prog 25 #[.agg #[.int .i64 an, .int .i64 1], .agg #[.int .i64 an, .int .i64 1]] w fun e w' => e = .returned (cmv (0, 0)) ∧ Below w.heap.size w w'))
    (HY : Hid (∀ w, Calls Tryd.prog 25 #[.agg #[.int .i64 an, .int .i64 1], .agg #[.int .i64 an, .int .i64 1]] w fun e w' => e = .returned (cmv (0, 0)) ∧ Below w.heap.size w w')) :
    Calls Tryd.prog 8 #[.agg #[.int .i64 an, .int .i64 1]] w fun e w' => e = .returned (.bool true) ∧ Below w.heap.size w w' := by
  go_enter Tryd.func8, Tryd.ntmps8
  go_wp2_with fail
  refine (HW.out _ (by repeat (first | with_reducible assumption | with_reducible exact Below.refl _ _ | with_reducible refine below_al ?_ _ | with_reducible refine below_drew ?_ | with_reducible refine below_drewN ?_ _ | with_reducible refine below_set ?_ (by dsimp only; omega) _))).mono ?_
  rintro e v1 ⟨rfl, hb1⟩
  have k_a : At v1 (w.heap.size) 23 #[.int .i64 an, .int .i64 1] := At.bel (by (repeat (first | (with_reducible apply At.new'; (focus (simp; done))) | with_reducible apply At.al | with_reducible apply At.drw | with_reducible apply At.dr))) hb1
  have HB : Below w.heap.size w v1 := below_then (by repeat (first | with_reducible assumption | with_reducible exact Below.refl _ _ | with_reducible refine below_al ?_ _ | with_reducible refine below_drew ?_ | with_reducible refine below_drewN ?_ _ | with_reducible refine below_set ?_ (by dsimp only; omega) _)) hb1
  clear hb1
  have Lk_a := k_a.lt
  obtain ⟨k_a0, k_a1, k_a2, k_a3⟩ := k_a.two
  go_wp2_with fail
  refine (HF.out _).mono ?_
  rintro e v2 ⟨rfl, hb2⟩
  clear k_a0 k_a1 k_a2 k_a3 Lk_a
  replace k_a : At v2 (w.heap.size) 23 #[.int .i64 an, .int .i64 1] := At.bel (by repeat (first | with_reducible assumption | with_reducible apply At.put0 | with_reducible apply At.put1 | with_reducible refine At.far ?_ (by dsimp only; omega) _ | with_reducible apply At.al | with_reducible apply At.drw | with_reducible apply At.dr)) hb2
  replace HB : Below w.heap.size w v2 := below_then (by repeat (first | with_reducible assumption | with_reducible exact Below.refl _ _ | with_reducible refine below_al ?_ _ | with_reducible refine below_drew ?_ | with_reducible refine below_drewN ?_ _ | with_reducible refine below_set ?_ (by dsimp only; omega) _)) hb2
  clear hb2
  have Lk_a := k_a.lt
  obtain ⟨k_a0, k_a1, k_a2, k_a3⟩ := k_a.two
  go_wp2_with fail
  refine (HC.out _).mono ?_
  rintro e v3 ⟨rfl, hb3⟩
  clear k_a0 k_a1 k_a2 k_a3 Lk_a
  replace k_a : At v3 (w.heap.size) 23 #[.int .i64 an, .int .i64 1] := At.bel (by repeat (first | with_reducible assumption | with_reducible apply At.put0 | with_reducible apply At.put1 | with_reducible refine At.far ?_ (by dsimp only; omega) _ | with_reducible apply At.al | with_reducible apply At.drw | with_reducible apply At.dr)) hb3
  replace HB : Below w.heap.size w v3 := below_then (by repeat (first | with_reducible assumption | with_reducible exact Below.refl _ _ | with_reducible refine below_al ?_ _ | with_reducible refine below_drew ?_ | with_reducible refine below_drewN ?_ _ | with_reducible refine below_set ?_ (by dsimp only; omega) _)) hb3
  clear hb3
  have Lk_a := k_a.lt
  obtain ⟨k_a0, k_a1, k_a2, k_a3⟩ := k_a.two
  go_wp2_with fail
  refine (HP.out _).mono ?_
  rintro e v4 ⟨rfl, hb4⟩
  clear k_a0 k_a1 k_a2 k_a3 Lk_a
  replace k_a : At v4 (w.heap.size) 23 #[.int .i64 an, .int .i64 1] := At.bel (by repeat (first | with_reducible assumption | with_reducible apply At.put0 | with_reducible apply At.put1 | with_reducible refine At.far ?_ (by dsimp only; omega) _ | with_reducible apply At.al | with_reducible apply At.drw | with_reducible apply At.dr)) hb4
  replace HB : Below w.heap.size w v4 := below_then (by repeat (first | with_reducible assumption | with_reducible exact Below.refl _ _ | with_reducible refine below_al ?_ _ | with_reducible refine below_drew ?_ | with_reducible refine below_drewN ?_ _ | with_reducible refine below_set ?_ (by dsimp only; omega) _)) hb4
  clear hb4
  have Lk_a := k_a.lt
  obtain ⟨k_a0, k_a1, k_a2, k_a3⟩ := k_a.two
  go_wp2_with fail
  refine (HQ.out _).mono ?_
  rintro e v5 ⟨rfl, hb5⟩
  clear k_a0 k_a1 k_a2 k_a3 Lk_a
  replace k_a : At v5 (w.heap.size) 23 #[.int .i64 an, .int .i64 1] := At.bel (by repeat (first | with_reducible assumption | with_reducible apply At.put0 | with_reducible apply At.put1 | with_reducible refine At.far ?_ (by dsimp only; omega) _ | with_reducible apply At.al | with_reducible apply At.drw | with_reducible apply At.dr)) hb5
  have k_x : At v5 (v4.heap.size) 23 #[.int .i64 an, .int .i64 1] := At.bel (by (repeat (first | (with_reducible apply At.new'; (focus (simp; done))) | with_reducible apply At.al | with_reducible apply At.drw | with_reducible apply At.dr))) hb5
  replace HB : Below w.heap.size w v5 := below_then (by repeat (first | with_reducible assumption | with_reducible exact Below.refl _ _ | with_reducible refine below_al ?_ _ | with_reducible refine below_drew ?_ | with_reducible refine below_drewN ?_ _ | with_reducible refine below_set ?_ (by dsimp only; omega) _)) hb5
  clear hb5
  have Lk_a := k_a.lt
  obtain ⟨k_a0, k_a1, k_a2, k_a3⟩ := k_a.two
  have Lk_x := k_x.lt
  obtain ⟨k_x0, k_x1, k_x2, k_x3⟩ := k_x.two
  go_wp2_with fail
  refine (HX.out _).mono ?_
  rintro e v6 ⟨rfl, hb6⟩
  clear k_a0 k_a1 k_a2 k_a3 Lk_a k_x0 k_x1 k_x2 k_x3 Lk_x
  replace k_a : At v6 (w.heap.size) 23 #[.int .i64 an, .int .i64 1] := At.bel (by repeat (first | with_reducible assumption | with_reducible apply At.put0 | with_reducible apply At.put1 | with_reducible refine At.far ?_ (by dsimp only; omega) _ | with_reducible apply At.al | with_reducible apply At.drw | with_reducible apply At.dr)) hb6
  replace k_x : At v6 (v4.heap.size) 23 #[.int .i64 an, .int .i64 1] := At.bel (by repeat (first | with_reducible assumption | with_reducible apply At.put0 | with_reducible apply At.put1 | with_reducible refine At.far ?_ (by dsimp only; omega) _ | with_reducible apply At.al | with_reducible apply At.drw | with_reducible apply At.dr)) hb6
  have k_y : At v6 (v5.heap.size) 23 #[.int .i64 an, .int .i64 1] := At.bel (by (repeat (first | (with_reducible apply At.new'; (focus (simp; done))) | with_reducible apply At.al | with_reducible apply At.drw | with_reducible apply At.dr))) hb6
  replace HB : Below w.heap.size w v6 := below_then (by repeat (first | with_reducible assumption | with_reducible exact Below.refl _ _ | with_reducible refine below_al ?_ _ | with_reducible refine below_drew ?_ | with_reducible refine below_drewN ?_ _ | with_reducible refine below_set ?_ (by dsimp only; omega) _)) hb6
  clear hb6
  have Lk_a := k_a.lt
  obtain ⟨k_a0, k_a1, k_a2, k_a3⟩ := k_a.two
  have Lk_x := k_x.lt
  obtain ⟨k_x0, k_x1, k_x2, k_x3⟩ := k_x.two
  have Lk_y := k_y.lt
  obtain ⟨k_y0, k_y1, k_y2, k_y3⟩ := k_y.two
  go_wp2_with fail
  refine (HY.out _).mono ?_
  rintro e v7 ⟨rfl, hb7⟩
  clear k_a0 k_a1 k_a2 k_a3 Lk_a k_x0 k_x1 k_x2 k_x3 Lk_x k_y0 k_y1 k_y2 k_y3 Lk_y
  replace k_a : At v7 (w.heap.size) 23 #[.int .i64 an, .int .i64 1] := At.bel (by repeat (first | with_reducible assumption | with_reducible apply At.put0 | with_reducible apply At.put1 | with_reducible refine At.far ?_ (by dsimp only; omega) _ | with_reducible apply At.al | with_reducible apply At.drw | with_reducible apply At.dr)) hb7
  replace k_x : At v7 (v4.heap.size) 23 #[.int .i64 an, .int .i64 1] := At.bel (by repeat (first | with_reducible assumption | with_reducible apply At.put0 | with_reducible apply At.put1 | with_reducible refine At.far ?_ (by dsimp only; omega) _ | with_reducible apply At.al | with_reducible apply At.drw | with_reducible apply At.dr)) hb7
  replace k_y : At v7 (v5.heap.size) 23 #[.int .i64 an, .int .i64 1] := At.bel (by repeat (first | with_reducible assumption | with_reducible apply At.put0 | with_reducible apply At.put1 | with_reducible refine At.far ?_ (by dsimp only; omega) _ | with_reducible apply At.al | with_reducible apply At.drw | with_reducible apply At.dr)) hb7
  replace HB : Below w.heap.size w v7 := below_then (by repeat (first | with_reducible assumption | with_reducible exact Below.refl _ _ | with_reducible refine below_al ?_ _ | with_reducible refine below_drew ?_ | with_reducible refine below_drewN ?_ _ | with_reducible refine below_set ?_ (by dsimp only; omega) _)) hb7
  clear hb7
  have Lk_a := k_a.lt
  obtain ⟨k_a0, k_a1, k_a2, k_a3⟩ := k_a.two
  have Lk_x := k_x.lt
  obtain ⟨k_x0, k_x1, k_x2, k_x3⟩ := k_x.two
  have Lk_y := k_y.lt
  obtain ⟨k_y0, k_y1, k_y2, k_y3⟩ := k_y.two
  go_wp2_with fail
  go_ret
  exact ⟨rfl, (by repeat (first | with_reducible assumption | with_reducible exact Below.refl _ _ | with_reducible refine below_al ?_ _ | with_reducible refine below_drew ?_ | with_reducible refine below_drewN ?_ _ | with_reducible refine below_set ?_ (by dsimp only; omega) _))⟩

set_option maxRecDepth 100000 in
set_option maxHeartbeats 1000000 in
theorem floors_part (an ad p q : Int) (w : World)
    (HW : Hid (∀ u, Below w.heap.size w u → Calls Tryd.prog 11 #[] u fun e w' => e = .returned (.bool true) ∧ Below u.heap.size u w'))
    (HF : Hid (∀ w, Calls Tryd.prog 19 #[.agg #[.int .i64 an, .int .i64 ad]] w fun e w' => e = .returned (.tuple #[.int .i64 p, .int .i64 0]) ∧ Below w.heap.size w w'))
    (HC : Hid (∀ w, Calls Tryd.prog 20 #[.agg #[.int .i64 an, .int .i64 ad]] w fun e w' => e = .returned (.tuple #[.int .i64 q, .int .i64 0]) ∧ Below w.heap.size w w'))
    (HP : Hid (∀ w, Calls Tryd.prog 17 #[.int .i64 p, .int .i64 1] w fun e w' => e = .returned (frv (p, 1, 0)) ∧ Below w.heap.size w w'))
    (HQ : Hid (∀ w, Calls Tryd.prog 17 #[.int .i64 q, .int .i64 1] w fun e w' => e = .returned (frv (q, 1, 0)) ∧ Below w.heap.size w w'))
    (HX : Hid (∀ w, Calls Tryd.prog 25 #[.agg #[.int .i64 p, .int .i64 1], .agg #[.int .i64 an, .int .i64 ad]] w fun e w' => e = .returned (cmv ((-1), 0)) ∧ Below w.heap.size w w'))
    (HY : Hid (∀ w, Calls Tryd.prog 25 #[.agg #[.int .i64 an, .int .i64 ad], .agg #[.int .i64 q, .int .i64 1]] w fun e w' => e = .returned (cmv ((-1), 0)) ∧ Below w.heap.size w w'))
    (E1 : IntKind.i64.wrap (q - p) = 1) (N1 : (p == q) = false) (N2 : (ad == 1) = false) :
    Calls Tryd.prog 8 #[.agg #[.int .i64 an, .int .i64 ad]] w fun e w' => e = .returned (.bool true) ∧ Below w.heap.size w w' := by
  go_enter Tryd.func8, Tryd.ntmps8
  go_wp2_with fail
  refine (HW.out _ (by repeat (first | with_reducible assumption | with_reducible exact Below.refl _ _ | with_reducible refine below_al ?_ _ | with_reducible refine below_drew ?_ | with_reducible refine below_drewN ?_ _ | with_reducible refine below_set ?_ (by dsimp only; omega) _))).mono ?_
  rintro e v1 ⟨rfl, hb1⟩
  have k_a : At v1 (w.heap.size) 23 #[.int .i64 an, .int .i64 ad] := At.bel (by (repeat (first | (with_reducible apply At.new'; (focus (simp; done))) | with_reducible apply At.al | with_reducible apply At.drw | with_reducible apply At.dr))) hb1
  have HB : Below w.heap.size w v1 := below_then (by repeat (first | with_reducible assumption | with_reducible exact Below.refl _ _ | with_reducible refine below_al ?_ _ | with_reducible refine below_drew ?_ | with_reducible refine below_drewN ?_ _ | with_reducible refine below_set ?_ (by dsimp only; omega) _)) hb1
  clear hb1
  have Lk_a := k_a.lt
  obtain ⟨k_a0, k_a1, k_a2, k_a3⟩ := k_a.two
  go_wp2_with fail
  refine (HF.out _).mono ?_
  rintro e v2 ⟨rfl, hb2⟩
  clear k_a0 k_a1 k_a2 k_a3 Lk_a
  replace k_a : At v2 (w.heap.size) 23 #[.int .i64 an, .int .i64 ad] := At.bel (by repeat (first | with_reducible assumption | with_reducible apply At.put0 | with_reducible apply At.put1 | with_reducible refine At.far ?_ (by dsimp only; omega) _ | with_reducible apply At.al | with_reducible apply At.drw | with_reducible apply At.dr)) hb2
  replace HB : Below w.heap.size w v2 := below_then (by repeat (first | with_reducible assumption | with_reducible exact Below.refl _ _ | with_reducible refine below_al ?_ _ | with_reducible refine below_drew ?_ | with_reducible refine below_drewN ?_ _ | with_reducible refine below_set ?_ (by dsimp only; omega) _)) hb2
  clear hb2
  have Lk_a := k_a.lt
  obtain ⟨k_a0, k_a1, k_a2, k_a3⟩ := k_a.two
  go_wp2_with fail
  refine (HC.out _).mono ?_
  rintro e v3 ⟨rfl, hb3⟩
  clear k_a0 k_a1 k_a2 k_a3 Lk_a
  replace k_a : At v3 (w.heap.size) 23 #[.int .i64 an, .int .i64 ad] := At.bel (by repeat (first | with_reducible assumption | with_reducible apply At.put0 | with_reducible apply At.put1 | with_reducible refine At.far ?_ (by dsimp only; omega) _ | with_reducible apply At.al | with_reducible apply At.drw | with_reducible apply At.dr)) hb3
  replace HB : Below w.heap.size w v3 := below_then (by repeat (first | with_reducible assumption | with_reducible exact Below.refl _ _ | with_reducible refine below_al ?_ _ | with_reducible refine below_drew ?_ | with_reducible refine below_drewN ?_ _ | with_reducible refine below_set ?_ (by dsimp only; omega) _)) hb3
  clear hb3
  have Lk_a := k_a.lt
  obtain ⟨k_a0, k_a1, k_a2, k_a3⟩ := k_a.two
  go_wp2_with fail
  refine (HP.out _).mono ?_
  rintro e v4 ⟨rfl, hb4⟩
  clear k_a0 k_a1 k_a2 k_a3 Lk_a
  replace k_a : At v4 (w.heap.size) 23 #[.int .i64 an, .int .i64 ad] := At.bel (by repeat (first | with_reducible assumption | with_reducible apply At.put0 | with_reducible apply At.put1 | with_reducible refine At.far ?_ (by dsimp only; omega) _ | with_reducible apply At.al | with_reducible apply At.drw | with_reducible apply At.dr)) hb4
  replace HB : Below w.heap.size w v4 := below_then (by repeat (first | with_reducible assumption | with_reducible exact Below.refl _ _ | with_reducible refine below_al ?_ _ | with_reducible refine below_drew ?_ | with_reducible refine below_drewN ?_ _ | with_reducible refine below_set ?_ (by dsimp only; omega) _)) hb4
  clear hb4
  have Lk_a := k_a.lt
  obtain ⟨k_a0, k_a1, k_a2, k_a3⟩ := k_a.two
  go_wp2_with fail
  refine (HQ.out _).mono ?_
  rintro e v5 ⟨rfl, hb5⟩
  clear k_a0 k_a1 k_a2 k_a3 Lk_a
  replace k_a : At v5 (w.heap.size) 23 #[.int .i64 an, .int .i64 ad] := At.bel (by repeat (first | with_reducible assumption | with_reducible apply At.put0 | with_reducible apply At.put1 | with_reducible refine At.far ?_ (by dsimp only; omega) _ | with_reducible apply At.al | with_reducible apply At.drw | with_reducible apply At.dr)) hb5
  have k_x : At v5 (v4.heap.size) 23 #[.int .i64 p, .int .i64 1] := At.bel (by (repeat (first | (with_reducible apply At.new'; (focus (simp; done))) | with_reducible apply At.al | with_reducible apply At.drw | with_reducible apply At.dr))) hb5
  replace HB : Below w.heap.size w v5 := below_then (by repeat (first | with_reducible assumption | with_reducible exact Below.refl _ _ | with_reducible refine below_al ?_ _ | with_reducible refine below_drew ?_ | with_reducible refine below_drewN ?_ _ | with_reducible refine below_set ?_ (by dsimp only; omega) _)) hb5
  clear hb5
  have Lk_a := k_a.lt
  obtain ⟨k_a0, k_a1, k_a2, k_a3⟩ := k_a.two
  have Lk_x := k_x.lt
  obtain ⟨k_x0, k_x1, k_x2, k_x3⟩ := k_x.two
  go_wp2_with fail
  refine (HX.out _).mono ?_
  rintro e v6 ⟨rfl, hb6⟩
  clear k_a0 k_a1 k_a2 k_a3 Lk_a k_x0 k_x1 k_x2 k_x3 Lk_x
  replace k_a : At v6 (w.heap.size) 23 #[.int .i64 an, .int .i64 ad] := At.bel (by repeat (first | with_reducible assumption | with_reducible apply At.put0 | with_reducible apply At.put1 | with_reducible refine At.far ?_ (by dsimp only; omega) _ | with_reducible apply At.al | with_reducible apply At.drw | with_reducible apply At.dr)) hb6
  replace k_x : At v6 (v4.heap.size) 23 #[.int .i64 p, .int .i64 1] := At.bel (by repeat (first | with_reducible assumption | with_reducible apply At.put0 | with_reducible apply At.put1 | with_reducible refine At.far ?_ (by dsimp only; omega) _ | with_reducible apply At.al | with_reducible apply At.drw | with_reducible apply At.dr)) hb6
  have k_y : At v6 (v5.heap.size) 23 #[.int .i64 q, .int .i64 1] := At.bel (by (repeat (first | (with_reducible apply At.new'; (focus (simp; done))) | with_reducible apply At.al | with_reducible apply At.drw | with_reducible apply At.dr))) hb6
  replace HB : Below w.heap.size w v6 := below_then (by repeat (first | with_reducible assumption | with_reducible exact Below.refl _ _ | with_reducible refine below_al ?_ _ | with_reducible refine below_drew ?_ | with_reducible refine below_drewN ?_ _ | with_reducible refine below_set ?_ (by dsimp only; omega) _)) hb6
  clear hb6
  have Lk_a := k_a.lt
  obtain ⟨k_a0, k_a1, k_a2, k_a3⟩ := k_a.two
  have Lk_x := k_x.lt
  obtain ⟨k_x0, k_x1, k_x2, k_x3⟩ := k_x.two
  have Lk_y := k_y.lt
  obtain ⟨k_y0, k_y1, k_y2, k_y3⟩ := k_y.two
  go_wp2_with fail
  refine (HY.out _).mono ?_
  rintro e v7 ⟨rfl, hb7⟩
  clear k_a0 k_a1 k_a2 k_a3 Lk_a k_x0 k_x1 k_x2 k_x3 Lk_x k_y0 k_y1 k_y2 k_y3 Lk_y
  replace k_a : At v7 (w.heap.size) 23 #[.int .i64 an, .int .i64 ad] := At.bel (by repeat (first | with_reducible assumption | with_reducible apply At.put0 | with_reducible apply At.put1 | with_reducible refine At.far ?_ (by dsimp only; omega) _ | with_reducible apply At.al | with_reducible apply At.drw | with_reducible apply At.dr)) hb7
  replace k_x : At v7 (v4.heap.size) 23 #[.int .i64 p, .int .i64 1] := At.bel (by repeat (first | with_reducible assumption | with_reducible apply At.put0 | with_reducible apply At.put1 | with_reducible refine At.far ?_ (by dsimp only; omega) _ | with_reducible apply At.al | with_reducible apply At.drw | with_reducible apply At.dr)) hb7
  replace k_y : At v7 (v5.heap.size) 23 #[.int .i64 q, .int .i64 1] := At.bel (by repeat (first | with_reducible assumption | with_reducible apply At.put0 | with_reducible apply At.put1 | with_reducible refine At.far ?_ (by dsimp only; omega) _ | with_reducible apply At.al | with_reducible apply At.drw | with_reducible apply At.dr)) hb7
  replace HB : Below w.heap.size w v7 := below_then (by repeat (first | with_reducible assumption | with_reducible exact Below.refl _ _ | with_reducible refine below_al ?_ _ | with_reducible refine below_drew ?_ | with_reducible refine below_drewN ?_ _ | with_reducible refine below_set ?_ (by dsimp only; omega) _)) hb7
  clear hb7
  have Lk_a := k_a.lt
  obtain ⟨k_a0, k_a1, k_a2, k_a3⟩ := k_a.two
  have Lk_x := k_x.lt
  obtain ⟨k_x0, k_x1, k_x2, k_x3⟩ := k_x.two
  have Lk_y := k_y.lt
  obtain ⟨k_y0, k_y1, k_y2, k_y3⟩ := k_y.two
  go_wp2_with fail
  go_ret
  exact ⟨rfl, (by repeat (first | with_reducible assumption | with_reducible exact Below.refl _ _ | with_reducible refine below_al ?_ _ | with_reducible refine below_drew ?_ | with_reducible refine below_drewN ?_ _ | with_reducible refine below_set ?_ (by dsimp only; omega) _))⟩

theorem rmakeS_one {p : Int} (h : -1152921504606846976 ≤ p ∧ p ≤ 1152921504606846976) : rmakeS p 1 = (p, 1, 0) := by
  have e : rmakeS p 1 = redI p (1 : Int).natAbs := by unfold rmakeS redI; simp
  rw [e]
  exact redI_frc ⟨by decide, by decide, h.1, h.2, by simp⟩
/-- A fraction in lowest terms that is no integer lies strictly between its floor and its ceiling. -/
theorem floor_part {n d : Int} (hd : 1 < d) (hg : Nat.gcd n.natAbs d.natAbs = 1) : n / d * d < n ∧ n < -(-n / d) * d ∧ -(-n / d) = n / d + 1 := by
  have nd : ¬ d ∣ n := fun h => by
    have := Nat.gcd_eq_right (Int.natAbs_dvd_natAbs.2 h)
    omega
  have h1 := Int.emod_add_ediv_mul n d
  have h2 := Int.emod_add_ediv_mul (-n) d
  have b1 := Int.emod_nonneg n (show d ≠ 0 by omega)
  have b2 := Int.emod_nonneg (-n) (show d ≠ 0 by omega)
  have c1 := Int.emod_lt_of_pos n (show 0 < d by omega)
  have c2 := Int.emod_lt_of_pos (-n) (show 0 < d by omega)
  have n1 : n % d ≠ 0 := fun h => nd (Int.dvd_of_emod_eq_zero h)
  have n2 : -n % d ≠ 0 := fun h => nd (Int.dvd_neg.1 (Int.dvd_of_emod_eq_zero h))
  generalize n / d = p at *
  generalize -n / d = s at *
  generalize n % d = r at *
  generalize -n % d = t at *
  have e : (p + s) * d = -(r + t) := by rw [Int.add_mul]; omega
  have k1 : p + s = -1 := by
    by_cases g1 : 0 ≤ p + s
    · have := Int.mul_nonneg g1 (show 0 ≤ d by omega)
      omega
    · by_cases g2 : p + s ≤ -2
      · have := Int.mul_le_mul_of_nonneg_right g2 (show 0 ≤ d by omega)
        omega
      · omega
  have k2 : -s * d = -(s * d) := Int.neg_mul ..
  refine ⟨by omega, by omega, by omega⟩
theorem ratioFloors_walk (an ad : Int) (_ : (Lit.int .i64 an).wf = true) (_ : (Lit.int .i64 ad).wf = true) (w : World) (ht : Tab w) :
    Calls Tryd.prog 8 #[.agg #[.int .i64 an, .int .i64 ad]] w fun e w' => e = .returned (.bool true) ∧ Below w.heap.size w w' := by
  have HW := Lib.hid (fun u (hb : Below w.heap.size w u) => awake_any u (ht.bel hb))
  have HV := Lib.hid (fun w => fvalid_any an ad w)
  cases h : fracB an ad
  · rw [h] at HV
    exact floors_bad an ad w HW (Lib.hid (fun w => rFloor_bad an ad h w)) (Lib.hid (fun w => rCeil_bad an ad h w)) HV
  have g := fracB_iff.1 h
  have one : (Lit.int .i64 1).wf = true := by decide
  have wf : ∀ n : Int, -1152921504606846976 ≤ n ∧ n ≤ 1152921504606846976 → (Lit.int .i64 n).wf = true := fun n h => by
    have e1 : IntKind.i64.min = -9223372036854775808 := by decide
    have e2 : IntKind.i64.max = 9223372036854775807 := by decide
    simp only [Lit.wf, Bool.and_eq_true, decide_eq_true_eq, e1, e2]
    omega
  have fo : ∀ n : Int, -1152921504606846976 ≤ n ∧ n ≤ 1152921504606846976 → fracB n 1 = true := fun n h => fracB_iff.2 ⟨by omega, by omega, h.1, h.2, by simp⟩
  have HF := fun w => rFloor_any an ad h w
  have HC := fun w => rCeil_any an ad h w
  by_cases c : ad = 1
  · subst c
    have e1 : an / 1 = an := Int.ediv_one _
    have e2 : -(-an / 1) = an := by rw [Int.ediv_one]; omega
    rw [e1] at HF
    rw [e2] at HC
    have HM := Lib.hid (fun w => by have := rmake_any an 1 (wf an (by omega)) one w; rw [rmakeS_one (by omega)] at this; exact this)
    have HX := Lib.hid (fun w => by have := rcmp_any an 1 an 1 w; rw [show rcmpS an 1 an 1 = (0, 0) from by simp [rcmpS, h, cmpI]] at this; exact this)
    exact floors_whole an w HW (Lib.hid HF) (Lib.hid HC) HM HM HX HX
  · have fp := floor_part (n := an) (d := ad) (by omega) g.2.2.2.2
    have b : -1152921504606846976 ≤ an / ad ∧ an / ad ≤ 1152921504606846976 := by
      have := Int.natAbs_ediv_le_natAbs an ad
      omega
    have b' : -1152921504606846976 ≤ -(-an / ad) ∧ -(-an / ad) ≤ 1152921504606846976 := by
      have := Int.natAbs_ediv_le_natAbs (-an) ad
      omega
    generalize an / ad = p at *
    generalize -(-an / ad) = q at *
    refine floors_part an ad p q w HW (Lib.hid HF) (Lib.hid HC)
      (Lib.hid (fun w => by have := rmake_any p 1 (wf p (by omega)) one w; rw [rmakeS_one (by omega)] at this; exact this))
      (Lib.hid (fun w => by have := rmake_any q 1 (wf q (by omega)) one w; rw [rmakeS_one (by omega)] at this; exact this))
      (Lib.hid (fun w => by have := rcmp_any p 1 an ad w; rw [show rcmpS p 1 an ad = (-1, 0) from by simp [rcmpS, h, fo p b, cmpI, fp.1]] at this; exact this))
      (Lib.hid (fun w => by have := rcmp_any an ad q 1 w; rw [show rcmpS an ad q 1 = (-1, 0) from by simp [rcmpS, h, fo q b', cmpI, fp.2.1]] at this; exact this)) ?_ ?_ ?_
    · rw [fp.2.2, show p + 1 - p = 1 from by omega]; decide
    · simp; omega
    · simp; omega

end Go.Proofs.YtpijmjffobkalaaDoor
