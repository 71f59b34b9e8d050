/- SpanProducts' walk: it returns true. -/
import Derived.Test.YtgipfmleefojbaaAw
import Derived.Test.YtgipfmleefojbaaRMul
import Derived.Test.YtgipfmleefojbaaRDiv
set_option linter.unusedVariables false
namespace Go.Proofs.Ytgipfmleefojbaa
open Go.ChangeShapes Go.WideShapes Go.ChangeAt Go.RowKit

set_option maxRecDepth 100000 in
set_option maxHeartbeats 4000000 in
theorem spanProducts_good (al ah bl bh : Int) (h1 : validB al ah = true) (h2 : validB bl bh = true) (w : World) :
    Calls Try.prog 3 #[sp al ah, sp bl bh] w fun e w' => e = .returned (.bool true) ∧ Below w.heap.size w w' := by
    have HA := Lib.hid (fun w => mul_any al ah bl bh w)
    have HS := Lib.hid (fun w => div_any al ah bl bh w)
    have HW1 := Lib.hid (fun w => refvalid_any al ah w)
    have HW2 := Lib.hid (fun w => refvalid_any bl bh w)
    have RA := Lib.hid (fun w => refmul_span al ah bl bh h1 h2 w)
    have RS := Lib.hid (fun w => refdiv_span al ah bl bh h1 h2 w)
    rw [h1] at HW1
    rw [h2] at HW2
    clear h1 h2
    generalize mulS al ah bl bh = x at *
    generalize divS al ah bl bh = y at *
    go_enter Try.func3, Try.ntmps3
    go_wp2_with fail
    refine (awake_any _).mono ?_
    rintro e v1 ⟨rfl, hb1⟩
    have k_a : At v1 (w.heap.size) 23 #[.int .i64 al, .int .i64 ah] := At.bel (by (repeat (first | (with_reducible apply At.new'; (focus (simp; done))) | with_reducible apply At.al | with_reducible apply At.drw | with_reducible apply At.dr))) hb1
    have k_b : At v1 (w.heap.size + 1) 23 #[.int .i64 bl, .int .i64 bh] := At.bel (by (repeat (first | (with_reducible apply At.new'; (focus (simp; done))) | with_reducible apply At.al | with_reducible apply At.drw | with_reducible apply At.dr))) hb1
    have HB : Below w.heap.size w v1 := below_then (by repeat (first | with_reducible assumption | with_reducible exact Below.refl _ _ | with_reducible refine below_al ?_ _ | with_reducible refine below_drew ?_ | with_reducible refine below_drewN ?_ _ | with_reducible refine below_set ?_ (by dsimp only; omega) _)) hb1
    clear hb1
    have Lk_a := k_a.lt
    obtain ⟨k_a0, k_a1, k_a2, k_a3⟩ := k_a.two
    have Lk_b := k_b.lt
    obtain ⟨k_b0, k_b1, k_b2, k_b3⟩ := k_b.two
    go_wp2_with fail
    refine (HA.out _).mono ?_
    rintro e v2 ⟨rfl, hb2⟩
    clear k_a0 k_a1 k_a2 k_a3 Lk_a k_b0 k_b1 k_b2 k_b3 Lk_b
    replace k_a : At v2 (w.heap.size) 23 #[.int .i64 al, .int .i64 ah] := At.bel (by repeat (first | with_reducible assumption | with_reducible apply At.put0 | with_reducible apply At.put1 | with_reducible refine At.far ?_ (by dsimp only; omega) _ | with_reducible apply At.al | with_reducible apply At.drw | with_reducible apply At.dr)) hb2
    replace k_b : At v2 (w.heap.size + 1) 23 #[.int .i64 bl, .int .i64 bh] := At.bel (by repeat (first | with_reducible assumption | with_reducible apply At.put0 | with_reducible apply At.put1 | with_reducible refine At.far ?_ (by dsimp only; omega) _ | with_reducible apply At.al | with_reducible apply At.drw | with_reducible apply At.dr)) hb2
    replace HB : Below w.heap.size w v2 := below_then (by repeat (first | with_reducible assumption | with_reducible exact Below.refl _ _ | with_reducible refine below_al ?_ _ | with_reducible refine below_drew ?_ | with_reducible refine below_drewN ?_ _ | with_reducible refine below_set ?_ (by dsimp only; omega) _)) hb2
    clear hb2
    have Lk_a := k_a.lt
    obtain ⟨k_a0, k_a1, k_a2, k_a3⟩ := k_a.two
    have Lk_b := k_b.lt
    obtain ⟨k_b0, k_b1, k_b2, k_b3⟩ := k_b.two
    go_wp2_with fail
    refine (HS.out _).mono ?_
    rintro e v3 ⟨rfl, hb3⟩
    clear k_a0 k_a1 k_a2 k_a3 Lk_a k_b0 k_b1 k_b2 k_b3 Lk_b
    replace k_a : At v3 (w.heap.size) 23 #[.int .i64 al, .int .i64 ah] := At.bel (by repeat (first | with_reducible assumption | with_reducible apply At.put0 | with_reducible apply At.put1 | with_reducible refine At.far ?_ (by dsimp only; omega) _ | with_reducible apply At.al | with_reducible apply At.drw | with_reducible apply At.dr)) hb3
    replace k_b : At v3 (w.heap.size + 1) 23 #[.int .i64 bl, .int .i64 bh] := At.bel (by repeat (first | with_reducible assumption | with_reducible apply At.put0 | with_reducible apply At.put1 | with_reducible refine At.far ?_ (by dsimp only; omega) _ | with_reducible apply At.al | with_reducible apply At.drw | with_reducible apply At.dr)) hb3
    have k_x : At v3 (v2.heap.size) 23 #[.int .i64 x.1, .int .i64 x.2.1] := At.bel (by (repeat (first | (with_reducible apply At.new'; (focus (simp; done))) | with_reducible apply At.al | with_reducible apply At.drw | with_reducible apply At.dr))) hb3
    replace HB : Below w.heap.size w v3 := below_then (by repeat (first | with_reducible assumption | with_reducible exact Below.refl _ _ | with_reducible refine below_al ?_ _ | with_reducible refine below_drew ?_ | with_reducible refine below_drewN ?_ _ | with_reducible refine below_set ?_ (by dsimp only; omega) _)) hb3
    clear hb3
    have Lk_a := k_a.lt
    obtain ⟨k_a0, k_a1, k_a2, k_a3⟩ := k_a.two
    have Lk_b := k_b.lt
    obtain ⟨k_b0, k_b1, k_b2, k_b3⟩ := k_b.two
    go_wp2_with fail
    refine (HW1.out _).mono ?_
    rintro e v4 ⟨rfl, hb4⟩
    clear k_a0 k_a1 k_a2 k_a3 Lk_a k_b0 k_b1 k_b2 k_b3 Lk_b
    replace k_a : At v4 (w.heap.size) 23 #[.int .i64 al, .int .i64 ah] := At.bel (by repeat (first | with_reducible assumption | with_reducible apply At.put0 | with_reducible apply At.put1 | with_reducible refine At.far ?_ (by dsimp only; omega) _ | with_reducible apply At.al | with_reducible apply At.drw | with_reducible apply At.dr)) hb4
    replace k_b : At v4 (w.heap.size + 1) 23 #[.int .i64 bl, .int .i64 bh] := At.bel (by repeat (first | with_reducible assumption | with_reducible apply At.put0 | with_reducible apply At.put1 | with_reducible refine At.far ?_ (by dsimp only; omega) _ | with_reducible apply At.al | with_reducible apply At.drw | with_reducible apply At.dr)) hb4
    replace k_x : At v4 (v2.heap.size) 23 #[.int .i64 x.1, .int .i64 x.2.1] := At.bel (by repeat (first | with_reducible assumption | with_reducible apply At.put0 | with_reducible apply At.put1 | with_reducible refine At.far ?_ (by dsimp only; omega) _ | with_reducible apply At.al | with_reducible apply At.drw | with_reducible apply At.dr)) hb4
    have k_y : At v4 (v3.heap.size) 23 #[.int .i64 y.1, .int .i64 y.2.1] := At.bel (by (repeat (first | (with_reducible apply At.new'; (focus (simp; done))) | with_reducible apply At.al | with_reducible apply At.drw | with_reducible apply At.dr))) hb4
    replace HB : Below w.heap.size w v4 := below_then (by repeat (first | with_reducible assumption | with_reducible exact Below.refl _ _ | with_reducible refine below_al ?_ _ | with_reducible refine below_drew ?_ | with_reducible refine below_drewN ?_ _ | with_reducible refine below_set ?_ (by dsimp only; omega) _)) hb4
    clear hb4
    have Lk_a := k_a.lt
    obtain ⟨k_a0, k_a1, k_a2, k_a3⟩ := k_a.two
    have Lk_b := k_b.lt
    obtain ⟨k_b0, k_b1, k_b2, k_b3⟩ := k_b.two
    go_wp2_with fail
    refine (HW2.out _).mono ?_
    rintro e v5 ⟨rfl, hb5⟩
    clear k_a0 k_a1 k_a2 k_a3 Lk_a k_b0 k_b1 k_b2 k_b3 Lk_b
    replace k_a : At v5 (w.heap.size) 23 #[.int .i64 al, .int .i64 ah] := At.bel (by repeat (first | with_reducible assumption | with_reducible apply At.put0 | with_reducible apply At.put1 | with_reducible refine At.far ?_ (by dsimp only; omega) _ | with_reducible apply At.al | with_reducible apply At.drw | with_reducible apply At.dr)) hb5
    replace k_b : At v5 (w.heap.size + 1) 23 #[.int .i64 bl, .int .i64 bh] := At.bel (by repeat (first | with_reducible assumption | with_reducible apply At.put0 | with_reducible apply At.put1 | with_reducible refine At.far ?_ (by dsimp only; omega) _ | with_reducible apply At.al | with_reducible apply At.drw | with_reducible apply At.dr)) hb5
    replace k_x : At v5 (v2.heap.size) 23 #[.int .i64 x.1, .int .i64 x.2.1] := At.bel (by repeat (first | with_reducible assumption | with_reducible apply At.put0 | with_reducible apply At.put1 | with_reducible refine At.far ?_ (by dsimp only; omega) _ | with_reducible apply At.al | with_reducible apply At.drw | with_reducible apply At.dr)) hb5
    replace k_y : At v5 (v3.heap.size) 23 #[.int .i64 y.1, .int .i64 y.2.1] := At.bel (by repeat (first | with_reducible assumption | with_reducible apply At.put0 | with_reducible apply At.put1 | with_reducible refine At.far ?_ (by dsimp only; omega) _ | with_reducible apply At.al | with_reducible apply At.drw | with_reducible apply At.dr)) hb5
    replace HB : Below w.heap.size w v5 := below_then (by repeat (first | with_reducible assumption | with_reducible exact Below.refl _ _ | with_reducible refine below_al ?_ _ | with_reducible refine below_drew ?_ | with_reducible refine below_drewN ?_ _ | with_reducible refine below_set ?_ (by dsimp only; omega) _)) hb5
    clear hb5
    have Lk_a := k_a.lt
    obtain ⟨k_a0, k_a1, k_a2, k_a3⟩ := k_a.two
    have Lk_b := k_b.lt
    obtain ⟨k_b0, k_b1, k_b2, k_b3⟩ := k_b.two
    go_wp2_with fail
    refine (RA.out _).mono ?_
    rintro e v6 ⟨rfl, hb6⟩
    clear k_a0 k_a1 k_a2 k_a3 Lk_a k_b0 k_b1 k_b2 k_b3 Lk_b
    replace k_a : At v6 (w.heap.size) 23 #[.int .i64 al, .int .i64 ah] := At.bel (by repeat (first | with_reducible assumption | with_reducible apply At.put0 | with_reducible apply At.put1 | with_reducible refine At.far ?_ (by dsimp only; omega) _ | with_reducible apply At.al | with_reducible apply At.drw | with_reducible apply At.dr)) hb6
    replace k_b : At v6 (w.heap.size + 1) 23 #[.int .i64 bl, .int .i64 bh] := At.bel (by repeat (first | with_reducible assumption | with_reducible apply At.put0 | with_reducible apply At.put1 | with_reducible refine At.far ?_ (by dsimp only; omega) _ | with_reducible apply At.al | with_reducible apply At.drw | with_reducible apply At.dr)) hb6
    replace k_x : At v6 (v2.heap.size) 23 #[.int .i64 x.1, .int .i64 x.2.1] := At.bel (by repeat (first | with_reducible assumption | with_reducible apply At.put0 | with_reducible apply At.put1 | with_reducible refine At.far ?_ (by dsimp only; omega) _ | with_reducible apply At.al | with_reducible apply At.drw | with_reducible apply At.dr)) hb6
    replace k_y : At v6 (v3.heap.size) 23 #[.int .i64 y.1, .int .i64 y.2.1] := At.bel (by repeat (first | with_reducible assumption | with_reducible apply At.put0 | with_reducible apply At.put1 | with_reducible refine At.far ?_ (by dsimp only; omega) _ | with_reducible apply At.al | with_reducible apply At.drw | with_reducible apply At.dr)) hb6
    replace HB : Below w.heap.size w v6 := below_then (by repeat (first | with_reducible assumption | with_reducible exact Below.refl _ _ | with_reducible refine below_al ?_ _ | with_reducible refine below_drew ?_ | with_reducible refine below_drewN ?_ _ | with_reducible refine below_set ?_ (by dsimp only; omega) _)) hb6
    clear hb6
    have Lk_a := k_a.lt
    obtain ⟨k_a0, k_a1, k_a2, k_a3⟩ := k_a.two
    have Lk_b := k_b.lt
    obtain ⟨k_b0, k_b1, k_b2, k_b3⟩ := k_b.two
    go_wp2_with fail
    refine (RS.out _).mono ?_
    rintro e v7 ⟨rfl, hb7⟩
    clear k_a0 k_a1 k_a2 k_a3 Lk_a k_b0 k_b1 k_b2 k_b3 Lk_b
    replace k_a : At v7 (w.heap.size) 23 #[.int .i64 al, .int .i64 ah] := At.bel (by repeat (first | with_reducible assumption | with_reducible apply At.put0 | with_reducible apply At.put1 | with_reducible refine At.far ?_ (by dsimp only; omega) _ | with_reducible apply At.al | with_reducible apply At.drw | with_reducible apply At.dr)) hb7
    replace k_b : At v7 (w.heap.size + 1) 23 #[.int .i64 bl, .int .i64 bh] := At.bel (by repeat (first | with_reducible assumption | with_reducible apply At.put0 | with_reducible apply At.put1 | with_reducible refine At.far ?_ (by dsimp only; omega) _ | with_reducible apply At.al | with_reducible apply At.drw | with_reducible apply At.dr)) hb7
    replace k_x : At v7 (v2.heap.size) 23 #[.int .i64 x.1, .int .i64 x.2.1] := At.bel (by repeat (first | with_reducible assumption | with_reducible apply At.put0 | with_reducible apply At.put1 | with_reducible refine At.far ?_ (by dsimp only; omega) _ | with_reducible apply At.al | with_reducible apply At.drw | with_reducible apply At.dr)) hb7
    replace k_y : At v7 (v3.heap.size) 23 #[.int .i64 y.1, .int .i64 y.2.1] := At.bel (by repeat (first | with_reducible assumption | with_reducible apply At.put0 | with_reducible apply At.put1 | with_reducible refine At.far ?_ (by dsimp only; omega) _ | with_reducible apply At.al | with_reducible apply At.drw | with_reducible apply At.dr)) hb7
    have k_p : At v7 (v6.heap.size) 23 #[.int .i64 x.1, .int .i64 x.2.1] := At.bel (by (repeat (first | (with_reducible apply At.new'; (focus (simp; done))) | with_reducible apply At.al | with_reducible apply At.drw | with_reducible apply At.dr))) hb7
    replace HB : Below w.heap.size w v7 := below_then (by repeat (first | with_reducible assumption | with_reducible exact Below.refl _ _ | with_reducible refine below_al ?_ _ | with_reducible refine below_drew ?_ | with_reducible refine below_drewN ?_ _ | with_reducible refine below_set ?_ (by dsimp only; omega) _)) hb7
    clear hb7
    have Lk_a := k_a.lt
    obtain ⟨k_a0, k_a1, k_a2, k_a3⟩ := k_a.two
    have Lk_b := k_b.lt
    obtain ⟨k_b0, k_b1, k_b2, k_b3⟩ := k_b.two
    clear k_a0 k_a1 k_a2 k_a3 Lk_a k_b0 k_b1 k_b2 k_b3 Lk_b
    have Lk_x := k_x.lt
    obtain ⟨k_x0, k_x1, k_x2, k_x3⟩ := k_x.two
    have Lk_y := k_y.lt
    obtain ⟨k_y0, k_y1, k_y2, k_y3⟩ := k_y.two
    have Lk_p := k_p.lt
    obtain ⟨k_p0, k_p1, k_p2, k_p3⟩ := k_p.two
    go_wp2_with fail
    go_ret
    exact ⟨rfl, (by repeat (first | with_reducible assumption | with_reducible exact Below.refl _ _ | with_reducible refine below_al ?_ _ | with_reducible refine below_drew ?_ | with_reducible refine below_drewN ?_ _ | with_reducible refine below_set ?_ (by dsimp only; omega) _))⟩

set_option maxRecDepth 100000 in
set_option maxHeartbeats 4000000 in
theorem spanProducts_bad1 (al ah bl bh : Int) (h1 : validB al ah = false) (w : World) :
    Calls Try.prog 3 #[sp al ah, sp bl bh] w fun e w' => e = .returned (.bool true) ∧ Below w.heap.size w w' := by
    have HA := Lib.hid (fun w => mul_any al ah bl bh w)
    have HS := Lib.hid (fun w => div_any al ah bl bh w)
    have HW1 := Lib.hid (fun w => refvalid_any al ah w)
    have HW2 := Lib.hid (fun w => refvalid_any bl bh w)
    rw [h1] at HW1
    skip
    rw [show mulS al ah bl bh = (0, 0, 1) from by simp [mulS, h1]] at HA
    rw [show divS al ah bl bh = (0, 0, 1) from by simp [divS, h1]] at HS
    clear h1 
    go_enter Try.func3, Try.ntmps3
    go_wp2_with fail
    refine (awake_any _).mono ?_
    rintro e v1 ⟨rfl, hb1⟩
    have k_a : At v1 (w.heap.size) 23 #[.int .i64 al, .int .i64 ah] := At.bel (by (repeat (first | (with_reducible apply At.new'; (focus (simp; done))) | with_reducible apply At.al | with_reducible apply At.drw | with_reducible apply At.dr))) hb1
    have k_b : At v1 (w.heap.size + 1) 23 #[.int .i64 bl, .int .i64 bh] := At.bel (by (repeat (first | (with_reducible apply At.new'; (focus (simp; done))) | with_reducible apply At.al | with_reducible apply At.drw | with_reducible apply At.dr))) hb1
    have HB : Below w.heap.size w v1 := below_then (by repeat (first | with_reducible assumption | with_reducible exact Below.refl _ _ | with_reducible refine below_al ?_ _ | with_reducible refine below_drew ?_ | with_reducible refine below_drewN ?_ _ | with_reducible refine below_set ?_ (by dsimp only; omega) _)) hb1
    clear hb1
    have Lk_a := k_a.lt
    obtain ⟨k_a0, k_a1, k_a2, k_a3⟩ := k_a.two
    have Lk_b := k_b.lt
    obtain ⟨k_b0, k_b1, k_b2, k_b3⟩ := k_b.two
    go_wp2_with fail
    refine (HA.out _).mono ?_
    rintro e v2 ⟨rfl, hb2⟩
    clear k_a0 k_a1 k_a2 k_a3 Lk_a k_b0 k_b1 k_b2 k_b3 Lk_b
    replace k_a : At v2 (w.heap.size) 23 #[.int .i64 al, .int .i64 ah] := At.bel (by repeat (first | with_reducible assumption | with_reducible apply At.put0 | with_reducible apply At.put1 | with_reducible refine At.far ?_ (by dsimp only; omega) _ | with_reducible apply At.al | with_reducible apply At.drw | with_reducible apply At.dr)) hb2
    replace k_b : At v2 (w.heap.size + 1) 23 #[.int .i64 bl, .int .i64 bh] := At.bel (by repeat (first | with_reducible assumption | with_reducible apply At.put0 | with_reducible apply At.put1 | with_reducible refine At.far ?_ (by dsimp only; omega) _ | with_reducible apply At.al | with_reducible apply At.drw | with_reducible apply At.dr)) hb2
    replace HB : Below w.heap.size w v2 := below_then (by repeat (first | with_reducible assumption | with_reducible exact Below.refl _ _ | with_reducible refine below_al ?_ _ | with_reducible refine below_drew ?_ | with_reducible refine below_drewN ?_ _ | with_reducible refine below_set ?_ (by dsimp only; omega) _)) hb2
    clear hb2
    have Lk_a := k_a.lt
    obtain ⟨k_a0, k_a1, k_a2, k_a3⟩ := k_a.two
    have Lk_b := k_b.lt
    obtain ⟨k_b0, k_b1, k_b2, k_b3⟩ := k_b.two
    go_wp2_with fail
    refine (HS.out _).mono ?_
    rintro e v3 ⟨rfl, hb3⟩
    clear k_a0 k_a1 k_a2 k_a3 Lk_a k_b0 k_b1 k_b2 k_b3 Lk_b
    replace k_a : At v3 (w.heap.size) 23 #[.int .i64 al, .int .i64 ah] := At.bel (by repeat (first | with_reducible assumption | with_reducible apply At.put0 | with_reducible apply At.put1 | with_reducible refine At.far ?_ (by dsimp only; omega) _ | with_reducible apply At.al | with_reducible apply At.drw | with_reducible apply At.dr)) hb3
    replace k_b : At v3 (w.heap.size + 1) 23 #[.int .i64 bl, .int .i64 bh] := At.bel (by repeat (first | with_reducible assumption | with_reducible apply At.put0 | with_reducible apply At.put1 | with_reducible refine At.far ?_ (by dsimp only; omega) _ | with_reducible apply At.al | with_reducible apply At.drw | with_reducible apply At.dr)) hb3
    have k_x : At v3 (v2.heap.size) 23 #[.int .i64 0, .int .i64 0] := At.bel (by (repeat (first | (with_reducible apply At.new'; (focus (simp; done))) | with_reducible apply At.al | with_reducible apply At.drw | with_reducible apply At.dr))) hb3
    replace HB : Below w.heap.size w v3 := below_then (by repeat (first | with_reducible assumption | with_reducible exact Below.refl _ _ | with_reducible refine below_al ?_ _ | with_reducible refine below_drew ?_ | with_reducible refine below_drewN ?_ _ | with_reducible refine below_set ?_ (by dsimp only; omega) _)) hb3
    clear hb3
    have Lk_a := k_a.lt
    obtain ⟨k_a0, k_a1, k_a2, k_a3⟩ := k_a.two
    have Lk_b := k_b.lt
    obtain ⟨k_b0, k_b1, k_b2, k_b3⟩ := k_b.two
    go_wp2_with fail
    refine (HW1.out _).mono ?_
    rintro e v4 ⟨rfl, hb4⟩
    clear k_a0 k_a1 k_a2 k_a3 Lk_a k_b0 k_b1 k_b2 k_b3 Lk_b
    replace k_a : At v4 (w.heap.size) 23 #[.int .i64 al, .int .i64 ah] := At.bel (by repeat (first | with_reducible assumption | with_reducible apply At.put0 | with_reducible apply At.put1 | with_reducible refine At.far ?_ (by dsimp only; omega) _ | with_reducible apply At.al | with_reducible apply At.drw | with_reducible apply At.dr)) hb4
    replace k_b : At v4 (w.heap.size + 1) 23 #[.int .i64 bl, .int .i64 bh] := At.bel (by repeat (first | with_reducible assumption | with_reducible apply At.put0 | with_reducible apply At.put1 | with_reducible refine At.far ?_ (by dsimp only; omega) _ | with_reducible apply At.al | with_reducible apply At.drw | with_reducible apply At.dr)) hb4
    replace k_x : At v4 (v2.heap.size) 23 #[.int .i64 0, .int .i64 0] := At.bel (by repeat (first | with_reducible assumption | with_reducible apply At.put0 | with_reducible apply At.put1 | with_reducible refine At.far ?_ (by dsimp only; omega) _ | with_reducible apply At.al | with_reducible apply At.drw | with_reducible apply At.dr)) hb4
    have k_y : At v4 (v3.heap.size) 23 #[.int .i64 0, .int .i64 0] := At.bel (by (repeat (first | (with_reducible apply At.new'; (focus (simp; done))) | with_reducible apply At.al | with_reducible apply At.drw | with_reducible apply At.dr))) hb4
    replace HB : Below w.heap.size w v4 := below_then (by repeat (first | with_reducible assumption | with_reducible exact Below.refl _ _ | with_reducible refine below_al ?_ _ | with_reducible refine below_drew ?_ | with_reducible refine below_drewN ?_ _ | with_reducible refine below_set ?_ (by dsimp only; omega) _)) hb4
    clear hb4
    have Lk_a := k_a.lt
    obtain ⟨k_a0, k_a1, k_a2, k_a3⟩ := k_a.two
    have Lk_b := k_b.lt
    obtain ⟨k_b0, k_b1, k_b2, k_b3⟩ := k_b.two
    clear k_a0 k_a1 k_a2 k_a3 Lk_a k_b0 k_b1 k_b2 k_b3 Lk_b
    have Lk_x := k_x.lt
    obtain ⟨k_x0, k_x1, k_x2, k_x3⟩ := k_x.two
    have Lk_y := k_y.lt
    obtain ⟨k_y0, k_y1, k_y2, k_y3⟩ := k_y.two
    go_wp2_with fail
    refine (wrong_yes _).mono ?_
    rintro e v5 ⟨rfl, hb5⟩
    clear k_x0 k_x1 k_x2 k_x3 Lk_x k_y0 k_y1 k_y2 k_y3 Lk_y
    replace k_a : At v5 (w.heap.size) 23 #[.int .i64 al, .int .i64 ah] := At.bel (by repeat (first | with_reducible assumption | with_reducible apply At.put0 | with_reducible apply At.put1 | with_reducible refine At.far ?_ (by dsimp only; omega) _ | with_reducible apply At.al | with_reducible apply At.drw | with_reducible apply At.dr)) hb5
    replace k_b : At v5 (w.heap.size + 1) 23 #[.int .i64 bl, .int .i64 bh] := At.bel (by repeat (first | with_reducible assumption | with_reducible apply At.put0 | with_reducible apply At.put1 | with_reducible refine At.far ?_ (by dsimp only; omega) _ | with_reducible apply At.al | with_reducible apply At.drw | with_reducible apply At.dr)) hb5
    replace k_x : At v5 (v2.heap.size) 23 #[.int .i64 0, .int .i64 0] := At.bel (by repeat (first | with_reducible assumption | with_reducible apply At.put0 | with_reducible apply At.put1 | with_reducible refine At.far ?_ (by dsimp only; omega) _ | with_reducible apply At.al | with_reducible apply At.drw | with_reducible apply At.dr)) hb5
    replace k_y : At v5 (v3.heap.size) 23 #[.int .i64 0, .int .i64 0] := At.bel (by repeat (first | with_reducible assumption | with_reducible apply At.put0 | with_reducible apply At.put1 | with_reducible refine At.far ?_ (by dsimp only; omega) _ | with_reducible apply At.al | with_reducible apply At.drw | with_reducible apply At.dr)) hb5
    replace HB : Below w.heap.size w v5 := below_then (by repeat (first | with_reducible assumption | with_reducible exact Below.refl _ _ | with_reducible refine below_al ?_ _ | with_reducible refine below_drew ?_ | with_reducible refine below_drewN ?_ _ | with_reducible refine below_set ?_ (by dsimp only; omega) _)) hb5
    clear hb5
    have Lk_x := k_x.lt
    obtain ⟨k_x0, k_x1, k_x2, k_x3⟩ := k_x.two
    have Lk_y := k_y.lt
    obtain ⟨k_y0, k_y1, k_y2, k_y3⟩ := k_y.two
    go_wp2_with fail
    refine (wrong_yes _).mono ?_
    rintro e v6 ⟨rfl, hb6⟩
    clear k_x0 k_x1 k_x2 k_x3 Lk_x k_y0 k_y1 k_y2 k_y3 Lk_y
    replace k_a : At v6 (w.heap.size) 23 #[.int .i64 al, .int .i64 ah] := At.bel (by repeat (first | with_reducible assumption | with_reducible apply At.put0 | with_reducible apply At.put1 | with_reducible refine At.far ?_ (by dsimp only; omega) _ | with_reducible apply At.al | with_reducible apply At.drw | with_reducible apply At.dr)) hb6
    replace k_b : At v6 (w.heap.size + 1) 23 #[.int .i64 bl, .int .i64 bh] := At.bel (by repeat (first | with_reducible assumption | with_reducible apply At.put0 | with_reducible apply At.put1 | with_reducible refine At.far ?_ (by dsimp only; omega) _ | with_reducible apply At.al | with_reducible apply At.drw | with_reducible apply At.dr)) hb6
    replace k_x : At v6 (v2.heap.size) 23 #[.int .i64 0, .int .i64 0] := At.bel (by repeat (first | with_reducible assumption | with_reducible apply At.put0 | with_reducible apply At.put1 | with_reducible refine At.far ?_ (by dsimp only; omega) _ | with_reducible apply At.al | with_reducible apply At.drw | with_reducible apply At.dr)) hb6
    replace k_y : At v6 (v3.heap.size) 23 #[.int .i64 0, .int .i64 0] := At.bel (by repeat (first | with_reducible assumption | with_reducible apply At.put0 | with_reducible apply At.put1 | with_reducible refine At.far ?_ (by dsimp only; omega) _ | with_reducible apply At.al | with_reducible apply At.drw | with_reducible apply At.dr)) hb6
    replace HB : Below w.heap.size w v6 := below_then (by repeat (first | with_reducible assumption | with_reducible exact Below.refl _ _ | with_reducible refine below_al ?_ _ | with_reducible refine below_drew ?_ | with_reducible refine below_drewN ?_ _ | with_reducible refine below_set ?_ (by dsimp only; omega) _)) hb6
    clear hb6
    have Lk_x := k_x.lt
    obtain ⟨k_x0, k_x1, k_x2, k_x3⟩ := k_x.two
    have Lk_y := k_y.lt
    obtain ⟨k_y0, k_y1, k_y2, k_y3⟩ := k_y.two
    go_wp2_with fail
    go_ret
    exact ⟨rfl, (by repeat (first | with_reducible assumption | with_reducible exact Below.refl _ _ | with_reducible refine below_al ?_ _ | with_reducible refine below_drew ?_ | with_reducible refine below_drewN ?_ _ | with_reducible refine below_set ?_ (by dsimp only; omega) _))⟩

set_option maxRecDepth 100000 in
set_option maxHeartbeats 4000000 in
theorem spanProducts_bad2 (al ah bl bh : Int) (h1 : validB al ah = true) (h2 : validB bl bh = false) (w : World) :
    Calls Try.prog 3 #[sp al ah, sp bl bh] w fun e w' => e = .returned (.bool true) ∧ Below w.heap.size w w' := by
    have HA := Lib.hid (fun w => mul_any al ah bl bh w)
    have HS := Lib.hid (fun w => div_any al ah bl bh w)
    have HW1 := Lib.hid (fun w => refvalid_any al ah w)
    have HW2 := Lib.hid (fun w => refvalid_any bl bh w)
    rw [h1] at HW1
    rw [h2] at HW2
    rw [show mulS al ah bl bh = (0, 0, 1) from by simp [mulS, h2]] at HA
    rw [show divS al ah bl bh = (0, 0, 1) from by simp [divS, h2]] at HS
    clear h1 h2
    go_enter Try.func3, Try.ntmps3
    go_wp2_with fail
    refine (awake_any _).mono ?_
    rintro e v1 ⟨rfl, hb1⟩
    have k_a : At v1 (w.heap.size) 23 #[.int .i64 al, .int .i64 ah] := At.bel (by (repeat (first | (with_reducible apply At.new'; (focus (simp; done))) | with_reducible apply At.al | with_reducible apply At.drw | with_reducible apply At.dr))) hb1
    have k_b : At v1 (w.heap.size + 1) 23 #[.int .i64 bl, .int .i64 bh] := At.bel (by (repeat (first | (with_reducible apply At.new'; (focus (simp; done))) | with_reducible apply At.al | with_reducible apply At.drw | with_reducible apply At.dr))) hb1
    have HB : Below w.heap.size w v1 := below_then (by repeat (first | with_reducible assumption | with_reducible exact Below.refl _ _ | with_reducible refine below_al ?_ _ | with_reducible refine below_drew ?_ | with_reducible refine below_drewN ?_ _ | with_reducible refine below_set ?_ (by dsimp only; omega) _)) hb1
    clear hb1
    have Lk_a := k_a.lt
    obtain ⟨k_a0, k_a1, k_a2, k_a3⟩ := k_a.two
    have Lk_b := k_b.lt
    obtain ⟨k_b0, k_b1, k_b2, k_b3⟩ := k_b.two
    go_wp2_with fail
    refine (HA.out _).mono ?_
    rintro e v2 ⟨rfl, hb2⟩
    clear k_a0 k_a1 k_a2 k_a3 Lk_a k_b0 k_b1 k_b2 k_b3 Lk_b
    replace k_a : At v2 (w.heap.size) 23 #[.int .i64 al, .int .i64 ah] := At.bel (by repeat (first | with_reducible assumption | with_reducible apply At.put0 | with_reducible apply At.put1 | with_reducible refine At.far ?_ (by dsimp only; omega) _ | with_reducible apply At.al | with_reducible apply At.drw | with_reducible apply At.dr)) hb2
    replace k_b : At v2 (w.heap.size + 1) 23 #[.int .i64 bl, .int .i64 bh] := At.bel (by repeat (first | with_reducible assumption | with_reducible apply At.put0 | with_reducible apply At.put1 | with_reducible refine At.far ?_ (by dsimp only; omega) _ | with_reducible apply At.al | with_reducible apply At.drw | with_reducible apply At.dr)) hb2
    replace HB : Below w.heap.size w v2 := below_then (by repeat (first | with_reducible assumption | with_reducible exact Below.refl _ _ | with_reducible refine below_al ?_ _ | with_reducible refine below_drew ?_ | with_reducible refine below_drewN ?_ _ | with_reducible refine below_set ?_ (by dsimp only; omega) _)) hb2
    clear hb2
    have Lk_a := k_a.lt
    obtain ⟨k_a0, k_a1, k_a2, k_a3⟩ := k_a.two
    have Lk_b := k_b.lt
    obtain ⟨k_b0, k_b1, k_b2, k_b3⟩ := k_b.two
    go_wp2_with fail
    refine (HS.out _).mono ?_
    rintro e v3 ⟨rfl, hb3⟩
    clear k_a0 k_a1 k_a2 k_a3 Lk_a k_b0 k_b1 k_b2 k_b3 Lk_b
    replace k_a : At v3 (w.heap.size) 23 #[.int .i64 al, .int .i64 ah] := At.bel (by repeat (first | with_reducible assumption | with_reducible apply At.put0 | with_reducible apply At.put1 | with_reducible refine At.far ?_ (by dsimp only; omega) _ | with_reducible apply At.al | with_reducible apply At.drw | with_reducible apply At.dr)) hb3
    replace k_b : At v3 (w.heap.size + 1) 23 #[.int .i64 bl, .int .i64 bh] := At.bel (by repeat (first | with_reducible assumption | with_reducible apply At.put0 | with_reducible apply At.put1 | with_reducible refine At.far ?_ (by dsimp only; omega) _ | with_reducible apply At.al | with_reducible apply At.drw | with_reducible apply At.dr)) hb3
    have k_x : At v3 (v2.heap.size) 23 #[.int .i64 0, .int .i64 0] := At.bel (by (repeat (first | (with_reducible apply At.new'; (focus (simp; done))) | with_reducible apply At.al | with_reducible apply At.drw | with_reducible apply At.dr))) hb3
    replace HB : Below w.heap.size w v3 := below_then (by repeat (first | with_reducible assumption | with_reducible exact Below.refl _ _ | with_reducible refine below_al ?_ _ | with_reducible refine below_drew ?_ | with_reducible refine below_drewN ?_ _ | with_reducible refine below_set ?_ (by dsimp only; omega) _)) hb3
    clear hb3
    have Lk_a := k_a.lt
    obtain ⟨k_a0, k_a1, k_a2, k_a3⟩ := k_a.two
    have Lk_b := k_b.lt
    obtain ⟨k_b0, k_b1, k_b2, k_b3⟩ := k_b.two
    go_wp2_with fail
    refine (HW1.out _).mono ?_
    rintro e v4 ⟨rfl, hb4⟩
    clear k_a0 k_a1 k_a2 k_a3 Lk_a k_b0 k_b1 k_b2 k_b3 Lk_b
    replace k_a : At v4 (w.heap.size) 23 #[.int .i64 al, .int .i64 ah] := At.bel (by repeat (first | with_reducible assumption | with_reducible apply At.put0 | with_reducible apply At.put1 | with_reducible refine At.far ?_ (by dsimp only; omega) _ | with_reducible apply At.al | with_reducible apply At.drw | with_reducible apply At.dr)) hb4
    replace k_b : At v4 (w.heap.size + 1) 23 #[.int .i64 bl, .int .i64 bh] := At.bel (by repeat (first | with_reducible assumption | with_reducible apply At.put0 | with_reducible apply At.put1 | with_reducible refine At.far ?_ (by dsimp only; omega) _ | with_reducible apply At.al | with_reducible apply At.drw | with_reducible apply At.dr)) hb4
    replace k_x : At v4 (v2.heap.size) 23 #[.int .i64 0, .int .i64 0] := At.bel (by repeat (first | with_reducible assumption | with_reducible apply At.put0 | with_reducible apply At.put1 | with_reducible refine At.far ?_ (by dsimp only; omega) _ | with_reducible apply At.al | with_reducible apply At.drw | with_reducible apply At.dr)) hb4
    have k_y : At v4 (v3.heap.size) 23 #[.int .i64 0, .int .i64 0] := At.bel (by (repeat (first | (with_reducible apply At.new'; (focus (simp; done))) | with_reducible apply At.al | with_reducible apply At.drw | with_reducible apply At.dr))) hb4
    replace HB : Below w.heap.size w v4 := below_then (by repeat (first | with_reducible assumption | with_reducible exact Below.refl _ _ | with_reducible refine below_al ?_ _ | with_reducible refine below_drew ?_ | with_reducible refine below_drewN ?_ _ | with_reducible refine below_set ?_ (by dsimp only; omega) _)) hb4
    clear hb4
    have Lk_a := k_a.lt
    obtain ⟨k_a0, k_a1, k_a2, k_a3⟩ := k_a.two
    have Lk_b := k_b.lt
    obtain ⟨k_b0, k_b1, k_b2, k_b3⟩ := k_b.two
    go_wp2_with fail
    refine (HW2.out _).mono ?_
    rintro e v5 ⟨rfl, hb5⟩
    clear k_a0 k_a1 k_a2 k_a3 Lk_a k_b0 k_b1 k_b2 k_b3 Lk_b
    replace k_a : At v5 (w.heap.size) 23 #[.int .i64 al, .int .i64 ah] := At.bel (by repeat (first | with_reducible assumption | with_reducible apply At.put0 | with_reducible apply At.put1 | with_reducible refine At.far ?_ (by dsimp only; omega) _ | with_reducible apply At.al | with_reducible apply At.drw | with_reducible apply At.dr)) hb5
    replace k_b : At v5 (w.heap.size + 1) 23 #[.int .i64 bl, .int .i64 bh] := At.bel (by repeat (first | with_reducible assumption | with_reducible apply At.put0 | with_reducible apply At.put1 | with_reducible refine At.far ?_ (by dsimp only; omega) _ | with_reducible apply At.al | with_reducible apply At.drw | with_reducible apply At.dr)) hb5
    replace k_x : At v5 (v2.heap.size) 23 #[.int .i64 0, .int .i64 0] := At.bel (by repeat (first | with_reducible assumption | with_reducible apply At.put0 | with_reducible apply At.put1 | with_reducible refine At.far ?_ (by dsimp only; omega) _ | with_reducible apply At.al | with_reducible apply At.drw | with_reducible apply At.dr)) hb5
    replace k_y : At v5 (v3.heap.size) 23 #[.int .i64 0, .int .i64 0] := At.bel (by repeat (first | with_reducible assumption | with_reducible apply At.put0 | with_reducible apply At.put1 | with_reducible refine At.far ?_ (by dsimp only; omega) _ | with_reducible apply At.al | with_reducible apply At.drw | with_reducible apply At.dr)) hb5
    replace HB : Below w.heap.size w v5 := below_then (by repeat (first | with_reducible assumption | with_reducible exact Below.refl _ _ | with_reducible refine below_al ?_ _ | with_reducible refine below_drew ?_ | with_reducible refine below_drewN ?_ _ | with_reducible refine below_set ?_ (by dsimp only; omega) _)) hb5
    clear hb5
    have Lk_a := k_a.lt
    obtain ⟨k_a0, k_a1, k_a2, k_a3⟩ := k_a.two
    have Lk_b := k_b.lt
    obtain ⟨k_b0, k_b1, k_b2, k_b3⟩ := k_b.two
    clear k_a0 k_a1 k_a2 k_a3 Lk_a k_b0 k_b1 k_b2 k_b3 Lk_b
    have Lk_x := k_x.lt
    obtain ⟨k_x0, k_x1, k_x2, k_x3⟩ := k_x.two
    have Lk_y := k_y.lt
    obtain ⟨k_y0, k_y1, k_y2, k_y3⟩ := k_y.two
    go_wp2_with fail
    refine (wrong_yes _).mono ?_
    rintro e v6 ⟨rfl, hb6⟩
    clear k_x0 k_x1 k_x2 k_x3 Lk_x k_y0 k_y1 k_y2 k_y3 Lk_y
    replace k_a : At v6 (w.heap.size) 23 #[.int .i64 al, .int .i64 ah] := At.bel (by repeat (first | with_reducible assumption | with_reducible apply At.put0 | with_reducible apply At.put1 | with_reducible refine At.far ?_ (by dsimp only; omega) _ | with_reducible apply At.al | with_reducible apply At.drw | with_reducible apply At.dr)) hb6
    replace k_b : At v6 (w.heap.size + 1) 23 #[.int .i64 bl, .int .i64 bh] := At.bel (by repeat (first | with_reducible assumption | with_reducible apply At.put0 | with_reducible apply At.put1 | with_reducible refine At.far ?_ (by dsimp only; omega) _ | with_reducible apply At.al | with_reducible apply At.drw | with_reducible apply At.dr)) hb6
    replace k_x : At v6 (v2.heap.size) 23 #[.int .i64 0, .int .i64 0] := At.bel (by repeat (first | with_reducible assumption | with_reducible apply At.put0 | with_reducible apply At.put1 | with_reducible refine At.far ?_ (by dsimp only; omega) _ | with_reducible apply At.al | with_reducible apply At.drw | with_reducible apply At.dr)) hb6
    replace k_y : At v6 (v3.heap.size) 23 #[.int .i64 0, .int .i64 0] := At.bel (by repeat (first | with_reducible assumption | with_reducible apply At.put0 | with_reducible apply At.put1 | with_reducible refine At.far ?_ (by dsimp only; omega) _ | with_reducible apply At.al | with_reducible apply At.drw | with_reducible apply At.dr)) hb6
    replace HB : Below w.heap.size w v6 := below_then (by repeat (first | with_reducible assumption | with_reducible exact Below.refl _ _ | with_reducible refine below_al ?_ _ | with_reducible refine below_drew ?_ | with_reducible refine below_drewN ?_ _ | with_reducible refine below_set ?_ (by dsimp only; omega) _)) hb6
    clear hb6
    have Lk_x := k_x.lt
    obtain ⟨k_x0, k_x1, k_x2, k_x3⟩ := k_x.two
    have Lk_y := k_y.lt
    obtain ⟨k_y0, k_y1, k_y2, k_y3⟩ := k_y.two
    go_wp2_with fail
    refine (wrong_yes _).mono ?_
    rintro e v7 ⟨rfl, hb7⟩
    clear k_x0 k_x1 k_x2 k_x3 Lk_x k_y0 k_y1 k_y2 k_y3 Lk_y
    replace k_a : At v7 (w.heap.size) 23 #[.int .i64 al, .int .i64 ah] := At.bel (by repeat (first | with_reducible assumption | with_reducible apply At.put0 | with_reducible apply At.put1 | with_reducible refine At.far ?_ (by dsimp only; omega) _ | with_reducible apply At.al | with_reducible apply At.drw | with_reducible apply At.dr)) hb7
    replace k_b : At v7 (w.heap.size + 1) 23 #[.int .i64 bl, .int .i64 bh] := At.bel (by repeat (first | with_reducible assumption | with_reducible apply At.put0 | with_reducible apply At.put1 | with_reducible refine At.far ?_ (by dsimp only; omega) _ | with_reducible apply At.al | with_reducible apply At.drw | with_reducible apply At.dr)) hb7
    replace k_x : At v7 (v2.heap.size) 23 #[.int .i64 0, .int .i64 0] := At.bel (by repeat (first | with_reducible assumption | with_reducible apply At.put0 | with_reducible apply At.put1 | with_reducible refine At.far ?_ (by dsimp only; omega) _ | with_reducible apply At.al | with_reducible apply At.drw | with_reducible apply At.dr)) hb7
    replace k_y : At v7 (v3.heap.size) 23 #[.int .i64 0, .int .i64 0] := At.bel (by repeat (first | with_reducible assumption | with_reducible apply At.put0 | with_reducible apply At.put1 | with_reducible refine At.far ?_ (by dsimp only; omega) _ | with_reducible apply At.al | with_reducible apply At.drw | with_reducible apply At.dr)) hb7
    replace HB : Below w.heap.size w v7 := below_then (by repeat (first | with_reducible assumption | with_reducible exact Below.refl _ _ | with_reducible refine below_al ?_ _ | with_reducible refine below_drew ?_ | with_reducible refine below_drewN ?_ _ | with_reducible refine below_set ?_ (by dsimp only; omega) _)) hb7
    clear hb7
    have Lk_x := k_x.lt
    obtain ⟨k_x0, k_x1, k_x2, k_x3⟩ := k_x.two
    have Lk_y := k_y.lt
    obtain ⟨k_y0, k_y1, k_y2, k_y3⟩ := k_y.two
    go_wp2_with fail
    go_ret
    exact ⟨rfl, (by repeat (first | with_reducible assumption | with_reducible exact Below.refl _ _ | with_reducible refine below_al ?_ _ | with_reducible refine below_drew ?_ | with_reducible refine below_drewN ?_ _ | with_reducible refine below_set ?_ (by dsimp only; omega) _))⟩

theorem spanProducts_walk (al ah bl bh : Int) (_ : (Lit.int .i64 al).wf = true) (_ : (Lit.int .i64 ah).wf = true) (_ : (Lit.int .i64 bl).wf = true) (_ : (Lit.int .i64 bh).wf = true) (w : World) :
    Calls Try.prog 3 #[sp al ah, sp bl bh] w fun e w' => e = .returned (.bool true) ∧ Below w.heap.size w w' := by
  cases h1 : validB al ah
  · exact spanProducts_bad1 al ah bl bh h1 w
  · cases h2 : validB bl bh
    · exact spanProducts_bad2 al ah bl bh h1 h2 w
    · exact spanProducts_good al ah bl bh h1 h2 w

#print axioms spanProducts_walk

end Go.Proofs.Ytgipfmleefojbaa
