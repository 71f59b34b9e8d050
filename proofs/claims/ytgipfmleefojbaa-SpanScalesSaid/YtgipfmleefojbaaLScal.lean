/- SpanScales' walk: it returns true. -/
import Derived.Test.YtgipfmleefojbaaAw
import Derived.Test.YtgipfmleefojbaaRt
import Derived.Test.YtgipfmleefojbaaFv
set_option linter.unusedVariables false
namespace Go.Proofs.Ytgipfmleefojbaa
open Go.ChangeShapes Go.WideShapes Go.ChangeAt Go.RowKit

set_option maxRecDepth 100000 in
set_option maxHeartbeats 4000000 in
theorem spanScales_11 (al ah num den fn fd unit : Int) (h1 : validB al ah = true) (h2 : fracB fn fd = true) (w : World) :
    Calls Try.prog 4 #[sp al ah, .int .i64 num, .int .i64 den, .agg #[.int .i64 fn, .int .i64 fd], .int .i64 unit] w fun e w' => e = .returned (.bool true) ∧ Below w.heap.size w w' := by
    have HA := Lib.hid (fun w => tim_any al ah num den w)
    have HS := Lib.hid (fun w => rootI_any al ah w)
    have HO := Lib.hid (fun w => of_span_any fn fd unit w)
    have HW1 := Lib.hid (fun w => refvalid_any al ah w)
    have HW2 := Lib.hid (fun w => reffvalid_any fn fd w)
    have RA := Lib.hid (fun w => reftim_any al ah num den h1 w)
    have RS := Lib.hid (fun w => refrootI_any al ah h1 w)
    have RO := Lib.hid (fun w => refof_any fn fd unit h2 w)
    rw [h1] at HW1
    rw [h2] at HW2
    clear h1 h2
    generalize timS al ah num den = x at *
    generalize rootV al ah = y at *
    generalize ofS fn fd unit = z at *
    go_enter Try.func4, Try.ntmps4
    go_wp2_with fail
    refine (awake_any _).mono ?_
    rintro e v1 ⟨rfl, hb1⟩
    have k_a : At v1 (w.heap.size) 23 #[.int .i64 al, .int .i64 ah] := At.bel (by (repeat (first | (with_reducible apply At.new'; (focus (simp; done))) | with_reducible apply At.al | with_reducible apply At.drw | with_reducible apply At.dr))) hb1
    have k_n : At v1 (w.heap.size + 1) 34 #[.int .i64 fn, .int .i64 fd] := At.bel (by (repeat (first | (with_reducible apply At.new'; (focus (simp; done))) | with_reducible apply At.al | with_reducible apply At.drw | with_reducible apply At.dr))) hb1
    have HB : Below w.heap.size w v1 := below_then (by repeat (first | with_reducible assumption | with_reducible exact Below.refl _ _ | with_reducible refine below_al ?_ _ | with_reducible refine below_drew ?_ | with_reducible refine below_drewN ?_ _ | with_reducible refine below_set ?_ (by dsimp only; omega) _)) hb1
    clear hb1
    have Lk_a := k_a.lt
    obtain ⟨k_a0, k_a1, k_a2, k_a3⟩ := k_a.two
    have Lk_n := k_n.lt
    obtain ⟨k_n0, k_n1, k_n2, k_n3⟩ := k_n.two
    go_wp2_with fail
    refine (HA.out _).mono ?_
    rintro e v2 ⟨rfl, hb2⟩
    clear k_a0 k_a1 k_a2 k_a3 Lk_a k_n0 k_n1 k_n2 k_n3 Lk_n
    replace k_a : At v2 (w.heap.size) 23 #[.int .i64 al, .int .i64 ah] := At.bel (by repeat (first | with_reducible assumption | with_reducible apply At.put0 | with_reducible apply At.put1 | with_reducible refine At.far ?_ (by dsimp only; omega) _ | with_reducible apply At.al | with_reducible apply At.drw | with_reducible apply At.dr)) hb2
    replace k_n : At v2 (w.heap.size + 1) 34 #[.int .i64 fn, .int .i64 fd] := At.bel (by repeat (first | with_reducible assumption | with_reducible apply At.put0 | with_reducible apply At.put1 | with_reducible refine At.far ?_ (by dsimp only; omega) _ | with_reducible apply At.al | with_reducible apply At.drw | with_reducible apply At.dr)) hb2
    replace HB : Below w.heap.size w v2 := below_then (by repeat (first | with_reducible assumption | with_reducible exact Below.refl _ _ | with_reducible refine below_al ?_ _ | with_reducible refine below_drew ?_ | with_reducible refine below_drewN ?_ _ | with_reducible refine below_set ?_ (by dsimp only; omega) _)) hb2
    clear hb2
    have Lk_a := k_a.lt
    obtain ⟨k_a0, k_a1, k_a2, k_a3⟩ := k_a.two
    have Lk_n := k_n.lt
    obtain ⟨k_n0, k_n1, k_n2, k_n3⟩ := k_n.two
    go_wp2_with fail
    refine (HS.out _).mono ?_
    rintro e v3 ⟨rfl, hb3⟩
    clear k_a0 k_a1 k_a2 k_a3 Lk_a k_n0 k_n1 k_n2 k_n3 Lk_n
    replace k_a : At v3 (w.heap.size) 23 #[.int .i64 al, .int .i64 ah] := At.bel (by repeat (first | with_reducible assumption | with_reducible apply At.put0 | with_reducible apply At.put1 | with_reducible refine At.far ?_ (by dsimp only; omega) _ | with_reducible apply At.al | with_reducible apply At.drw | with_reducible apply At.dr)) hb3
    replace k_n : At v3 (w.heap.size + 1) 34 #[.int .i64 fn, .int .i64 fd] := At.bel (by repeat (first | with_reducible assumption | with_reducible apply At.put0 | with_reducible apply At.put1 | with_reducible refine At.far ?_ (by dsimp only; omega) _ | with_reducible apply At.al | with_reducible apply At.drw | with_reducible apply At.dr)) hb3
    have k_x : At v3 (v2.heap.size) 23 #[.int .i64 x.1, .int .i64 x.2.1] := At.bel (by (repeat (first | (with_reducible apply At.new'; (focus (simp; done))) | with_reducible apply At.al | with_reducible apply At.drw | with_reducible apply At.dr))) hb3
    replace HB : Below w.heap.size w v3 := below_then (by repeat (first | with_reducible assumption | with_reducible exact Below.refl _ _ | with_reducible refine below_al ?_ _ | with_reducible refine below_drew ?_ | with_reducible refine below_drewN ?_ _ | with_reducible refine below_set ?_ (by dsimp only; omega) _)) hb3
    clear hb3
    have Lk_a := k_a.lt
    obtain ⟨k_a0, k_a1, k_a2, k_a3⟩ := k_a.two
    have Lk_n := k_n.lt
    obtain ⟨k_n0, k_n1, k_n2, k_n3⟩ := k_n.two
    go_wp2_with fail
    refine (HO.out _).mono ?_
    rintro e v4 ⟨rfl, hb4⟩
    clear k_a0 k_a1 k_a2 k_a3 Lk_a k_n0 k_n1 k_n2 k_n3 Lk_n
    replace k_a : At v4 (w.heap.size) 23 #[.int .i64 al, .int .i64 ah] := At.bel (by repeat (first | with_reducible assumption | with_reducible apply At.put0 | with_reducible apply At.put1 | with_reducible refine At.far ?_ (by dsimp only; omega) _ | with_reducible apply At.al | with_reducible apply At.drw | with_reducible apply At.dr)) hb4
    replace k_n : At v4 (w.heap.size + 1) 34 #[.int .i64 fn, .int .i64 fd] := At.bel (by repeat (first | with_reducible assumption | with_reducible apply At.put0 | with_reducible apply At.put1 | with_reducible refine At.far ?_ (by dsimp only; omega) _ | with_reducible apply At.al | with_reducible apply At.drw | with_reducible apply At.dr)) hb4
    replace k_x : At v4 (v2.heap.size) 23 #[.int .i64 x.1, .int .i64 x.2.1] := At.bel (by repeat (first | with_reducible assumption | with_reducible apply At.put0 | with_reducible apply At.put1 | with_reducible refine At.far ?_ (by dsimp only; omega) _ | with_reducible apply At.al | with_reducible apply At.drw | with_reducible apply At.dr)) hb4
    have k_y : At v4 (v3.heap.size) 23 #[.int .i64 y.1, .int .i64 y.2.1] := At.bel (by (repeat (first | (with_reducible apply At.new'; (focus (simp; done))) | with_reducible apply At.al | with_reducible apply At.drw | with_reducible apply At.dr))) hb4
    replace HB : Below w.heap.size w v4 := below_then (by repeat (first | with_reducible assumption | with_reducible exact Below.refl _ _ | with_reducible refine below_al ?_ _ | with_reducible refine below_drew ?_ | with_reducible refine below_drewN ?_ _ | with_reducible refine below_set ?_ (by dsimp only; omega) _)) hb4
    clear hb4
    have Lk_a := k_a.lt
    obtain ⟨k_a0, k_a1, k_a2, k_a3⟩ := k_a.two
    have Lk_n := k_n.lt
    obtain ⟨k_n0, k_n1, k_n2, k_n3⟩ := k_n.two
    go_wp2_with fail
    refine (HW1.out _).mono ?_
    rintro e v5 ⟨rfl, hb5⟩
    clear k_a0 k_a1 k_a2 k_a3 Lk_a k_n0 k_n1 k_n2 k_n3 Lk_n
    replace k_a : At v5 (w.heap.size) 23 #[.int .i64 al, .int .i64 ah] := At.bel (by repeat (first | with_reducible assumption | with_reducible apply At.put0 | with_reducible apply At.put1 | with_reducible refine At.far ?_ (by dsimp only; omega) _ | with_reducible apply At.al | with_reducible apply At.drw | with_reducible apply At.dr)) hb5
    replace k_n : At v5 (w.heap.size + 1) 34 #[.int .i64 fn, .int .i64 fd] := At.bel (by repeat (first | with_reducible assumption | with_reducible apply At.put0 | with_reducible apply At.put1 | with_reducible refine At.far ?_ (by dsimp only; omega) _ | with_reducible apply At.al | with_reducible apply At.drw | with_reducible apply At.dr)) hb5
    replace k_x : At v5 (v2.heap.size) 23 #[.int .i64 x.1, .int .i64 x.2.1] := At.bel (by repeat (first | with_reducible assumption | with_reducible apply At.put0 | with_reducible apply At.put1 | with_reducible refine At.far ?_ (by dsimp only; omega) _ | with_reducible apply At.al | with_reducible apply At.drw | with_reducible apply At.dr)) hb5
    replace k_y : At v5 (v3.heap.size) 23 #[.int .i64 y.1, .int .i64 y.2.1] := At.bel (by repeat (first | with_reducible assumption | with_reducible apply At.put0 | with_reducible apply At.put1 | with_reducible refine At.far ?_ (by dsimp only; omega) _ | with_reducible apply At.al | with_reducible apply At.drw | with_reducible apply At.dr)) hb5
    have k_z : At v5 (v4.heap.size) 23 #[.int .i64 z.1, .int .i64 z.2.1] := At.bel (by (repeat (first | (with_reducible apply At.new'; (focus (simp; done))) | with_reducible apply At.al | with_reducible apply At.drw | with_reducible apply At.dr))) hb5
    replace HB : Below w.heap.size w v5 := below_then (by repeat (first | with_reducible assumption | with_reducible exact Below.refl _ _ | with_reducible refine below_al ?_ _ | with_reducible refine below_drew ?_ | with_reducible refine below_drewN ?_ _ | with_reducible refine below_set ?_ (by dsimp only; omega) _)) hb5
    clear hb5
    have Lk_a := k_a.lt
    obtain ⟨k_a0, k_a1, k_a2, k_a3⟩ := k_a.two
    have Lk_n := k_n.lt
    obtain ⟨k_n0, k_n1, k_n2, k_n3⟩ := k_n.two
    go_wp2_with fail
    refine (RA.out _).mono ?_
    rintro e v6 ⟨rfl, hb6⟩
    clear k_a0 k_a1 k_a2 k_a3 Lk_a k_n0 k_n1 k_n2 k_n3 Lk_n
    replace k_a : At v6 (w.heap.size) 23 #[.int .i64 al, .int .i64 ah] := At.bel (by repeat (first | with_reducible assumption | with_reducible apply At.put0 | with_reducible apply At.put1 | with_reducible refine At.far ?_ (by dsimp only; omega) _ | with_reducible apply At.al | with_reducible apply At.drw | with_reducible apply At.dr)) hb6
    replace k_n : At v6 (w.heap.size + 1) 34 #[.int .i64 fn, .int .i64 fd] := At.bel (by repeat (first | with_reducible assumption | with_reducible apply At.put0 | with_reducible apply At.put1 | with_reducible refine At.far ?_ (by dsimp only; omega) _ | with_reducible apply At.al | with_reducible apply At.drw | with_reducible apply At.dr)) hb6
    replace k_x : At v6 (v2.heap.size) 23 #[.int .i64 x.1, .int .i64 x.2.1] := At.bel (by repeat (first | with_reducible assumption | with_reducible apply At.put0 | with_reducible apply At.put1 | with_reducible refine At.far ?_ (by dsimp only; omega) _ | with_reducible apply At.al | with_reducible apply At.drw | with_reducible apply At.dr)) hb6
    replace k_y : At v6 (v3.heap.size) 23 #[.int .i64 y.1, .int .i64 y.2.1] := At.bel (by repeat (first | with_reducible assumption | with_reducible apply At.put0 | with_reducible apply At.put1 | with_reducible refine At.far ?_ (by dsimp only; omega) _ | with_reducible apply At.al | with_reducible apply At.drw | with_reducible apply At.dr)) hb6
    replace k_z : At v6 (v4.heap.size) 23 #[.int .i64 z.1, .int .i64 z.2.1] := At.bel (by repeat (first | with_reducible assumption | with_reducible apply At.put0 | with_reducible apply At.put1 | with_reducible refine At.far ?_ (by dsimp only; omega) _ | with_reducible apply At.al | with_reducible apply At.drw | with_reducible apply At.dr)) hb6
    replace HB : Below w.heap.size w v6 := below_then (by repeat (first | with_reducible assumption | with_reducible exact Below.refl _ _ | with_reducible refine below_al ?_ _ | with_reducible refine below_drew ?_ | with_reducible refine below_drewN ?_ _ | with_reducible refine below_set ?_ (by dsimp only; omega) _)) hb6
    clear hb6
    have Lk_a := k_a.lt
    obtain ⟨k_a0, k_a1, k_a2, k_a3⟩ := k_a.two
    have Lk_n := k_n.lt
    obtain ⟨k_n0, k_n1, k_n2, k_n3⟩ := k_n.two
    go_wp2_with fail
    refine (RS.out _).mono ?_
    rintro e v7 ⟨rfl, hb7⟩
    clear k_a0 k_a1 k_a2 k_a3 Lk_a k_n0 k_n1 k_n2 k_n3 Lk_n
    replace k_a : At v7 (w.heap.size) 23 #[.int .i64 al, .int .i64 ah] := At.bel (by repeat (first | with_reducible assumption | with_reducible apply At.put0 | with_reducible apply At.put1 | with_reducible refine At.far ?_ (by dsimp only; omega) _ | with_reducible apply At.al | with_reducible apply At.drw | with_reducible apply At.dr)) hb7
    replace k_n : At v7 (w.heap.size + 1) 34 #[.int .i64 fn, .int .i64 fd] := At.bel (by repeat (first | with_reducible assumption | with_reducible apply At.put0 | with_reducible apply At.put1 | with_reducible refine At.far ?_ (by dsimp only; omega) _ | with_reducible apply At.al | with_reducible apply At.drw | with_reducible apply At.dr)) hb7
    replace k_x : At v7 (v2.heap.size) 23 #[.int .i64 x.1, .int .i64 x.2.1] := At.bel (by repeat (first | with_reducible assumption | with_reducible apply At.put0 | with_reducible apply At.put1 | with_reducible refine At.far ?_ (by dsimp only; omega) _ | with_reducible apply At.al | with_reducible apply At.drw | with_reducible apply At.dr)) hb7
    replace k_y : At v7 (v3.heap.size) 23 #[.int .i64 y.1, .int .i64 y.2.1] := At.bel (by repeat (first | with_reducible assumption | with_reducible apply At.put0 | with_reducible apply At.put1 | with_reducible refine At.far ?_ (by dsimp only; omega) _ | with_reducible apply At.al | with_reducible apply At.drw | with_reducible apply At.dr)) hb7
    replace k_z : At v7 (v4.heap.size) 23 #[.int .i64 z.1, .int .i64 z.2.1] := At.bel (by repeat (first | with_reducible assumption | with_reducible apply At.put0 | with_reducible apply At.put1 | with_reducible refine At.far ?_ (by dsimp only; omega) _ | with_reducible apply At.al | with_reducible apply At.drw | with_reducible apply At.dr)) hb7
    have k_p : At v7 (v6.heap.size) 23 #[.int .i64 x.1, .int .i64 x.2.1] := At.bel (by (repeat (first | (with_reducible apply At.new'; (focus (simp; done))) | with_reducible apply At.al | with_reducible apply At.drw | with_reducible apply At.dr))) hb7
    replace HB : Below w.heap.size w v7 := below_then (by repeat (first | with_reducible assumption | with_reducible exact Below.refl _ _ | with_reducible refine below_al ?_ _ | with_reducible refine below_drew ?_ | with_reducible refine below_drewN ?_ _ | with_reducible refine below_set ?_ (by dsimp only; omega) _)) hb7
    clear hb7
    have Lk_a := k_a.lt
    obtain ⟨k_a0, k_a1, k_a2, k_a3⟩ := k_a.two
    have Lk_n := k_n.lt
    obtain ⟨k_n0, k_n1, k_n2, k_n3⟩ := k_n.two
    clear k_a0 k_a1 k_a2 k_a3 Lk_a
    have Lk_x := k_x.lt
    obtain ⟨k_x0, k_x1, k_x2, k_x3⟩ := k_x.two
    have Lk_y := k_y.lt
    obtain ⟨k_y0, k_y1, k_y2, k_y3⟩ := k_y.two
    have Lk_p := k_p.lt
    obtain ⟨k_p0, k_p1, k_p2, k_p3⟩ := k_p.two
    go_wp2_with fail
    refine (HW2.out _).mono ?_
    rintro e v8 ⟨rfl, hb8⟩
    clear k_n0 k_n1 k_n2 k_n3 Lk_n k_x0 k_x1 k_x2 k_x3 Lk_x k_y0 k_y1 k_y2 k_y3 Lk_y k_p0 k_p1 k_p2 k_p3 Lk_p
    replace k_a : At v8 (w.heap.size) 23 #[.int .i64 al, .int .i64 ah] := At.bel (by repeat (first | with_reducible assumption | with_reducible apply At.put0 | with_reducible apply At.put1 | with_reducible refine At.far ?_ (by dsimp only; omega) _ | with_reducible apply At.al | with_reducible apply At.drw | with_reducible apply At.dr)) hb8
    replace k_n : At v8 (w.heap.size + 1) 34 #[.int .i64 fn, .int .i64 fd] := At.bel (by repeat (first | with_reducible assumption | with_reducible apply At.put0 | with_reducible apply At.put1 | with_reducible refine At.far ?_ (by dsimp only; omega) _ | with_reducible apply At.al | with_reducible apply At.drw | with_reducible apply At.dr)) hb8
    replace k_x : At v8 (v2.heap.size) 23 #[.int .i64 x.1, .int .i64 x.2.1] := At.bel (by repeat (first | with_reducible assumption | with_reducible apply At.put0 | with_reducible apply At.put1 | with_reducible refine At.far ?_ (by dsimp only; omega) _ | with_reducible apply At.al | with_reducible apply At.drw | with_reducible apply At.dr)) hb8
    replace k_y : At v8 (v3.heap.size) 23 #[.int .i64 y.1, .int .i64 y.2.1] := At.bel (by repeat (first | with_reducible assumption | with_reducible apply At.put0 | with_reducible apply At.put1 | with_reducible refine At.far ?_ (by dsimp only; omega) _ | with_reducible apply At.al | with_reducible apply At.drw | with_reducible apply At.dr)) hb8
    replace k_z : At v8 (v4.heap.size) 23 #[.int .i64 z.1, .int .i64 z.2.1] := At.bel (by repeat (first | with_reducible assumption | with_reducible apply At.put0 | with_reducible apply At.put1 | with_reducible refine At.far ?_ (by dsimp only; omega) _ | with_reducible apply At.al | with_reducible apply At.drw | with_reducible apply At.dr)) hb8
    replace k_p : At v8 (v6.heap.size) 23 #[.int .i64 x.1, .int .i64 x.2.1] := At.bel (by repeat (first | with_reducible assumption | with_reducible apply At.put0 | with_reducible apply At.put1 | with_reducible refine At.far ?_ (by dsimp only; omega) _ | with_reducible apply At.al | with_reducible apply At.drw | with_reducible apply At.dr)) hb8
    have k_q : At v8 (v7.heap.size) 23 #[.int .i64 y.1, .int .i64 y.2.1] := At.bel (by (repeat (first | (with_reducible apply At.new'; (focus (simp; done))) | with_reducible apply At.al | with_reducible apply At.drw | with_reducible apply At.dr))) hb8
    replace HB : Below w.heap.size w v8 := below_then (by repeat (first | with_reducible assumption | with_reducible exact Below.refl _ _ | with_reducible refine below_al ?_ _ | with_reducible refine below_drew ?_ | with_reducible refine below_drewN ?_ _ | with_reducible refine below_set ?_ (by dsimp only; omega) _)) hb8
    clear hb8
    have Lk_n := k_n.lt
    obtain ⟨k_n0, k_n1, k_n2, k_n3⟩ := k_n.two
    have Lk_x := k_x.lt
    obtain ⟨k_x0, k_x1, k_x2, k_x3⟩ := k_x.two
    have Lk_y := k_y.lt
    obtain ⟨k_y0, k_y1, k_y2, k_y3⟩ := k_y.two
    have Lk_p := k_p.lt
    obtain ⟨k_p0, k_p1, k_p2, k_p3⟩ := k_p.two
    clear k_x0 k_x1 k_x2 k_x3 Lk_x k_y0 k_y1 k_y2 k_y3 Lk_y
    clear k_p0 k_p1 k_p2 k_p3 Lk_p
    go_wp2_with fail
    refine (RO.out _).mono ?_
    rintro e v9 ⟨rfl, hb9⟩
    clear k_n0 k_n1 k_n2 k_n3 Lk_n
    replace k_a : At v9 (w.heap.size) 23 #[.int .i64 al, .int .i64 ah] := At.bel (by repeat (first | with_reducible assumption | with_reducible apply At.put0 | with_reducible apply At.put1 | with_reducible refine At.far ?_ (by dsimp only; omega) _ | with_reducible apply At.al | with_reducible apply At.drw | with_reducible apply At.dr)) hb9
    replace k_n : At v9 (w.heap.size + 1) 34 #[.int .i64 fn, .int .i64 fd] := At.bel (by repeat (first | with_reducible assumption | with_reducible apply At.put0 | with_reducible apply At.put1 | with_reducible refine At.far ?_ (by dsimp only; omega) _ | with_reducible apply At.al | with_reducible apply At.drw | with_reducible apply At.dr)) hb9
    replace k_x : At v9 (v2.heap.size) 23 #[.int .i64 x.1, .int .i64 x.2.1] := At.bel (by repeat (first | with_reducible assumption | with_reducible apply At.put0 | with_reducible apply At.put1 | with_reducible refine At.far ?_ (by dsimp only; omega) _ | with_reducible apply At.al | with_reducible apply At.drw | with_reducible apply At.dr)) hb9
    replace k_y : At v9 (v3.heap.size) 23 #[.int .i64 y.1, .int .i64 y.2.1] := At.bel (by repeat (first | with_reducible assumption | with_reducible apply At.put0 | with_reducible apply At.put1 | with_reducible refine At.far ?_ (by dsimp only; omega) _ | with_reducible apply At.al | with_reducible apply At.drw | with_reducible apply At.dr)) hb9
    replace k_z : At v9 (v4.heap.size) 23 #[.int .i64 z.1, .int .i64 z.2.1] := At.bel (by repeat (first | with_reducible assumption | with_reducible apply At.put0 | with_reducible apply At.put1 | with_reducible refine At.far ?_ (by dsimp only; omega) _ | with_reducible apply At.al | with_reducible apply At.drw | with_reducible apply At.dr)) hb9
    replace k_p : At v9 (v6.heap.size) 23 #[.int .i64 x.1, .int .i64 x.2.1] := At.bel (by repeat (first | with_reducible assumption | with_reducible apply At.put0 | with_reducible apply At.put1 | with_reducible refine At.far ?_ (by dsimp only; omega) _ | with_reducible apply At.al | with_reducible apply At.drw | with_reducible apply At.dr)) hb9
    replace k_q : At v9 (v7.heap.size) 23 #[.int .i64 y.1, .int .i64 y.2.1] := At.bel (by repeat (first | with_reducible assumption | with_reducible apply At.put0 | with_reducible apply At.put1 | with_reducible refine At.far ?_ (by dsimp only; omega) _ | with_reducible apply At.al | with_reducible apply At.drw | with_reducible apply At.dr)) hb9
    replace HB : Below w.heap.size w v9 := below_then (by repeat (first | with_reducible assumption | with_reducible exact Below.refl _ _ | with_reducible refine below_al ?_ _ | with_reducible refine below_drew ?_ | with_reducible refine below_drewN ?_ _ | with_reducible refine below_set ?_ (by dsimp only; omega) _)) hb9
    clear hb9
    have Lk_n := k_n.lt
    obtain ⟨k_n0, k_n1, k_n2, k_n3⟩ := k_n.two
    have Lk_z := k_z.lt
    obtain ⟨k_z0, k_z1, k_z2, k_z3⟩ := k_z.two
    go_wp2_with fail
    go_ret
    exact ⟨rfl, (by repeat (first | with_reducible assumption | with_reducible exact Below.refl _ _ | with_reducible refine below_al ?_ _ | with_reducible refine below_drew ?_ | with_reducible refine below_drewN ?_ _ | with_reducible refine below_set ?_ (by dsimp only; omega) _))⟩

set_option maxRecDepth 100000 in
set_option maxHeartbeats 4000000 in
theorem spanScales_10 (al ah num den fn fd unit : Int) (h1 : validB al ah = true) (h2 : fracB fn fd = false) (w : World) :
    Calls Try.prog 4 #[sp al ah, .int .i64 num, .int .i64 den, .agg #[.int .i64 fn, .int .i64 fd], .int .i64 unit] w fun e w' => e = .returned (.bool true) ∧ Below w.heap.size w w' := by
    have HA := Lib.hid (fun w => tim_any al ah num den w)
    have HS := Lib.hid (fun w => rootI_any al ah w)
    have HO := Lib.hid (fun w => of_span_any fn fd unit w)
    have HW1 := Lib.hid (fun w => refvalid_any al ah w)
    have HW2 := Lib.hid (fun w => reffvalid_any fn fd w)
    have RA := Lib.hid (fun w => reftim_any al ah num den h1 w)
    have RS := Lib.hid (fun w => refrootI_any al ah h1 w)
    rw [show ofS fn fd unit = (0, 0, 1) from by simp [ofS, h2]] at HO
    rw [h1] at HW1
    rw [h2] at HW2
    clear h1 h2
    generalize timS al ah num den = x at *
    generalize rootV al ah = y at *
    go_enter Try.func4, Try.ntmps4
    go_wp2_with fail
    refine (awake_any _).mono ?_
    rintro e v1 ⟨rfl, hb1⟩
    have k_a : At v1 (w.heap.size) 23 #[.int .i64 al, .int .i64 ah] := At.bel (by (repeat (first | (with_reducible apply At.new'; (focus (simp; done))) | with_reducible apply At.al | with_reducible apply At.drw | with_reducible apply At.dr))) hb1
    have k_n : At v1 (w.heap.size + 1) 34 #[.int .i64 fn, .int .i64 fd] := At.bel (by (repeat (first | (with_reducible apply At.new'; (focus (simp; done))) | with_reducible apply At.al | with_reducible apply At.drw | with_reducible apply At.dr))) hb1
    have HB : Below w.heap.size w v1 := below_then (by repeat (first | with_reducible assumption | with_reducible exact Below.refl _ _ | with_reducible refine below_al ?_ _ | with_reducible refine below_drew ?_ | with_reducible refine below_drewN ?_ _ | with_reducible refine below_set ?_ (by dsimp only; omega) _)) hb1
    clear hb1
    have Lk_a := k_a.lt
    obtain ⟨k_a0, k_a1, k_a2, k_a3⟩ := k_a.two
    have Lk_n := k_n.lt
    obtain ⟨k_n0, k_n1, k_n2, k_n3⟩ := k_n.two
    go_wp2_with fail
    refine (HA.out _).mono ?_
    rintro e v2 ⟨rfl, hb2⟩
    clear k_a0 k_a1 k_a2 k_a3 Lk_a k_n0 k_n1 k_n2 k_n3 Lk_n
    replace k_a : At v2 (w.heap.size) 23 #[.int .i64 al, .int .i64 ah] := At.bel (by repeat (first | with_reducible assumption | with_reducible apply At.put0 | with_reducible apply At.put1 | with_reducible refine At.far ?_ (by dsimp only; omega) _ | with_reducible apply At.al | with_reducible apply At.drw | with_reducible apply At.dr)) hb2
    replace k_n : At v2 (w.heap.size + 1) 34 #[.int .i64 fn, .int .i64 fd] := At.bel (by repeat (first | with_reducible assumption | with_reducible apply At.put0 | with_reducible apply At.put1 | with_reducible refine At.far ?_ (by dsimp only; omega) _ | with_reducible apply At.al | with_reducible apply At.drw | with_reducible apply At.dr)) hb2
    replace HB : Below w.heap.size w v2 := below_then (by repeat (first | with_reducible assumption | with_reducible exact Below.refl _ _ | with_reducible refine below_al ?_ _ | with_reducible refine below_drew ?_ | with_reducible refine below_drewN ?_ _ | with_reducible refine below_set ?_ (by dsimp only; omega) _)) hb2
    clear hb2
    have Lk_a := k_a.lt
    obtain ⟨k_a0, k_a1, k_a2, k_a3⟩ := k_a.two
    have Lk_n := k_n.lt
    obtain ⟨k_n0, k_n1, k_n2, k_n3⟩ := k_n.two
    go_wp2_with fail
    refine (HS.out _).mono ?_
    rintro e v3 ⟨rfl, hb3⟩
    clear k_a0 k_a1 k_a2 k_a3 Lk_a k_n0 k_n1 k_n2 k_n3 Lk_n
    replace k_a : At v3 (w.heap.size) 23 #[.int .i64 al, .int .i64 ah] := At.bel (by repeat (first | with_reducible assumption | with_reducible apply At.put0 | with_reducible apply At.put1 | with_reducible refine At.far ?_ (by dsimp only; omega) _ | with_reducible apply At.al | with_reducible apply At.drw | with_reducible apply At.dr)) hb3
    replace k_n : At v3 (w.heap.size + 1) 34 #[.int .i64 fn, .int .i64 fd] := At.bel (by repeat (first | with_reducible assumption | with_reducible apply At.put0 | with_reducible apply At.put1 | with_reducible refine At.far ?_ (by dsimp only; omega) _ | with_reducible apply At.al | with_reducible apply At.drw | with_reducible apply At.dr)) hb3
    have k_x : At v3 (v2.heap.size) 23 #[.int .i64 x.1, .int .i64 x.2.1] := At.bel (by (repeat (first | (with_reducible apply At.new'; (focus (simp; done))) | with_reducible apply At.al | with_reducible apply At.drw | with_reducible apply At.dr))) hb3
    replace HB : Below w.heap.size w v3 := below_then (by repeat (first | with_reducible assumption | with_reducible exact Below.refl _ _ | with_reducible refine below_al ?_ _ | with_reducible refine below_drew ?_ | with_reducible refine below_drewN ?_ _ | with_reducible refine below_set ?_ (by dsimp only; omega) _)) hb3
    clear hb3
    have Lk_a := k_a.lt
    obtain ⟨k_a0, k_a1, k_a2, k_a3⟩ := k_a.two
    have Lk_n := k_n.lt
    obtain ⟨k_n0, k_n1, k_n2, k_n3⟩ := k_n.two
    go_wp2_with fail
    refine (HO.out _).mono ?_
    rintro e v4 ⟨rfl, hb4⟩
    clear k_a0 k_a1 k_a2 k_a3 Lk_a k_n0 k_n1 k_n2 k_n3 Lk_n
    replace k_a : At v4 (w.heap.size) 23 #[.int .i64 al, .int .i64 ah] := At.bel (by repeat (first | with_reducible assumption | with_reducible apply At.put0 | with_reducible apply At.put1 | with_reducible refine At.far ?_ (by dsimp only; omega) _ | with_reducible apply At.al | with_reducible apply At.drw | with_reducible apply At.dr)) hb4
    replace k_n : At v4 (w.heap.size + 1) 34 #[.int .i64 fn, .int .i64 fd] := At.bel (by repeat (first | with_reducible assumption | with_reducible apply At.put0 | with_reducible apply At.put1 | with_reducible refine At.far ?_ (by dsimp only; omega) _ | with_reducible apply At.al | with_reducible apply At.drw | with_reducible apply At.dr)) hb4
    replace k_x : At v4 (v2.heap.size) 23 #[.int .i64 x.1, .int .i64 x.2.1] := At.bel (by repeat (first | with_reducible assumption | with_reducible apply At.put0 | with_reducible apply At.put1 | with_reducible refine At.far ?_ (by dsimp only; omega) _ | with_reducible apply At.al | with_reducible apply At.drw | with_reducible apply At.dr)) hb4
    have k_y : At v4 (v3.heap.size) 23 #[.int .i64 y.1, .int .i64 y.2.1] := At.bel (by (repeat (first | (with_reducible apply At.new'; (focus (simp; done))) | with_reducible apply At.al | with_reducible apply At.drw | with_reducible apply At.dr))) hb4
    replace HB : Below w.heap.size w v4 := below_then (by repeat (first | with_reducible assumption | with_reducible exact Below.refl _ _ | with_reducible refine below_al ?_ _ | with_reducible refine below_drew ?_ | with_reducible refine below_drewN ?_ _ | with_reducible refine below_set ?_ (by dsimp only; omega) _)) hb4
    clear hb4
    have Lk_a := k_a.lt
    obtain ⟨k_a0, k_a1, k_a2, k_a3⟩ := k_a.two
    have Lk_n := k_n.lt
    obtain ⟨k_n0, k_n1, k_n2, k_n3⟩ := k_n.two
    go_wp2_with fail
    refine (HW1.out _).mono ?_
    rintro e v5 ⟨rfl, hb5⟩
    clear k_a0 k_a1 k_a2 k_a3 Lk_a k_n0 k_n1 k_n2 k_n3 Lk_n
    replace k_a : At v5 (w.heap.size) 23 #[.int .i64 al, .int .i64 ah] := At.bel (by repeat (first | with_reducible assumption | with_reducible apply At.put0 | with_reducible apply At.put1 | with_reducible refine At.far ?_ (by dsimp only; omega) _ | with_reducible apply At.al | with_reducible apply At.drw | with_reducible apply At.dr)) hb5
    replace k_n : At v5 (w.heap.size + 1) 34 #[.int .i64 fn, .int .i64 fd] := At.bel (by repeat (first | with_reducible assumption | with_reducible apply At.put0 | with_reducible apply At.put1 | with_reducible refine At.far ?_ (by dsimp only; omega) _ | with_reducible apply At.al | with_reducible apply At.drw | with_reducible apply At.dr)) hb5
    replace k_x : At v5 (v2.heap.size) 23 #[.int .i64 x.1, .int .i64 x.2.1] := At.bel (by repeat (first | with_reducible assumption | with_reducible apply At.put0 | with_reducible apply At.put1 | with_reducible refine At.far ?_ (by dsimp only; omega) _ | with_reducible apply At.al | with_reducible apply At.drw | with_reducible apply At.dr)) hb5
    replace k_y : At v5 (v3.heap.size) 23 #[.int .i64 y.1, .int .i64 y.2.1] := At.bel (by repeat (first | with_reducible assumption | with_reducible apply At.put0 | with_reducible apply At.put1 | with_reducible refine At.far ?_ (by dsimp only; omega) _ | with_reducible apply At.al | with_reducible apply At.drw | with_reducible apply At.dr)) hb5
    have k_z : At v5 (v4.heap.size) 23 #[.int .i64 0, .int .i64 0] := At.bel (by (repeat (first | (with_reducible apply At.new'; (focus (simp; done))) | with_reducible apply At.al | with_reducible apply At.drw | with_reducible apply At.dr))) hb5
    replace HB : Below w.heap.size w v5 := below_then (by repeat (first | with_reducible assumption | with_reducible exact Below.refl _ _ | with_reducible refine below_al ?_ _ | with_reducible refine below_drew ?_ | with_reducible refine below_drewN ?_ _ | with_reducible refine below_set ?_ (by dsimp only; omega) _)) hb5
    clear hb5
    have Lk_a := k_a.lt
    obtain ⟨k_a0, k_a1, k_a2, k_a3⟩ := k_a.two
    have Lk_n := k_n.lt
    obtain ⟨k_n0, k_n1, k_n2, k_n3⟩ := k_n.two
    go_wp2_with fail
    refine (RA.out _).mono ?_
    rintro e v6 ⟨rfl, hb6⟩
    clear k_a0 k_a1 k_a2 k_a3 Lk_a k_n0 k_n1 k_n2 k_n3 Lk_n
    replace k_a : At v6 (w.heap.size) 23 #[.int .i64 al, .int .i64 ah] := At.bel (by repeat (first | with_reducible assumption | with_reducible apply At.put0 | with_reducible apply At.put1 | with_reducible refine At.far ?_ (by dsimp only; omega) _ | with_reducible apply At.al | with_reducible apply At.drw | with_reducible apply At.dr)) hb6
    replace k_n : At v6 (w.heap.size + 1) 34 #[.int .i64 fn, .int .i64 fd] := At.bel (by repeat (first | with_reducible assumption | with_reducible apply At.put0 | with_reducible apply At.put1 | with_reducible refine At.far ?_ (by dsimp only; omega) _ | with_reducible apply At.al | with_reducible apply At.drw | with_reducible apply At.dr)) hb6
    replace k_x : At v6 (v2.heap.size) 23 #[.int .i64 x.1, .int .i64 x.2.1] := At.bel (by repeat (first | with_reducible assumption | with_reducible apply At.put0 | with_reducible apply At.put1 | with_reducible refine At.far ?_ (by dsimp only; omega) _ | with_reducible apply At.al | with_reducible apply At.drw | with_reducible apply At.dr)) hb6
    replace k_y : At v6 (v3.heap.size) 23 #[.int .i64 y.1, .int .i64 y.2.1] := At.bel (by repeat (first | with_reducible assumption | with_reducible apply At.put0 | with_reducible apply At.put1 | with_reducible refine At.far ?_ (by dsimp only; omega) _ | with_reducible apply At.al | with_reducible apply At.drw | with_reducible apply At.dr)) hb6
    replace k_z : At v6 (v4.heap.size) 23 #[.int .i64 0, .int .i64 0] := At.bel (by repeat (first | with_reducible assumption | with_reducible apply At.put0 | with_reducible apply At.put1 | with_reducible refine At.far ?_ (by dsimp only; omega) _ | with_reducible apply At.al | with_reducible apply At.drw | with_reducible apply At.dr)) hb6
    replace HB : Below w.heap.size w v6 := below_then (by repeat (first | with_reducible assumption | with_reducible exact Below.refl _ _ | with_reducible refine below_al ?_ _ | with_reducible refine below_drew ?_ | with_reducible refine below_drewN ?_ _ | with_reducible refine below_set ?_ (by dsimp only; omega) _)) hb6
    clear hb6
    have Lk_a := k_a.lt
    obtain ⟨k_a0, k_a1, k_a2, k_a3⟩ := k_a.two
    have Lk_n := k_n.lt
    obtain ⟨k_n0, k_n1, k_n2, k_n3⟩ := k_n.two
    go_wp2_with fail
    refine (RS.out _).mono ?_
    rintro e v7 ⟨rfl, hb7⟩
    clear k_a0 k_a1 k_a2 k_a3 Lk_a k_n0 k_n1 k_n2 k_n3 Lk_n
    replace k_a : At v7 (w.heap.size) 23 #[.int .i64 al, .int .i64 ah] := At.bel (by repeat (first | with_reducible assumption | with_reducible apply At.put0 | with_reducible apply At.put1 | with_reducible refine At.far ?_ (by dsimp only; omega) _ | with_reducible apply At.al | with_reducible apply At.drw | with_reducible apply At.dr)) hb7
    replace k_n : At v7 (w.heap.size + 1) 34 #[.int .i64 fn, .int .i64 fd] := At.bel (by repeat (first | with_reducible assumption | with_reducible apply At.put0 | with_reducible apply At.put1 | with_reducible refine At.far ?_ (by dsimp only; omega) _ | with_reducible apply At.al | with_reducible apply At.drw | with_reducible apply At.dr)) hb7
    replace k_x : At v7 (v2.heap.size) 23 #[.int .i64 x.1, .int .i64 x.2.1] := At.bel (by repeat (first | with_reducible assumption | with_reducible apply At.put0 | with_reducible apply At.put1 | with_reducible refine At.far ?_ (by dsimp only; omega) _ | with_reducible apply At.al | with_reducible apply At.drw | with_reducible apply At.dr)) hb7
    replace k_y : At v7 (v3.heap.size) 23 #[.int .i64 y.1, .int .i64 y.2.1] := At.bel (by repeat (first | with_reducible assumption | with_reducible apply At.put0 | with_reducible apply At.put1 | with_reducible refine At.far ?_ (by dsimp only; omega) _ | with_reducible apply At.al | with_reducible apply At.drw | with_reducible apply At.dr)) hb7
    replace k_z : At v7 (v4.heap.size) 23 #[.int .i64 0, .int .i64 0] := At.bel (by repeat (first | with_reducible assumption | with_reducible apply At.put0 | with_reducible apply At.put1 | with_reducible refine At.far ?_ (by dsimp only; omega) _ | with_reducible apply At.al | with_reducible apply At.drw | with_reducible apply At.dr)) hb7
    have k_p : At v7 (v6.heap.size) 23 #[.int .i64 x.1, .int .i64 x.2.1] := At.bel (by (repeat (first | (with_reducible apply At.new'; (focus (simp; done))) | with_reducible apply At.al | with_reducible apply At.drw | with_reducible apply At.dr))) hb7
    replace HB : Below w.heap.size w v7 := below_then (by repeat (first | with_reducible assumption | with_reducible exact Below.refl _ _ | with_reducible refine below_al ?_ _ | with_reducible refine below_drew ?_ | with_reducible refine below_drewN ?_ _ | with_reducible refine below_set ?_ (by dsimp only; omega) _)) hb7
    clear hb7
    have Lk_a := k_a.lt
    obtain ⟨k_a0, k_a1, k_a2, k_a3⟩ := k_a.two
    have Lk_n := k_n.lt
    obtain ⟨k_n0, k_n1, k_n2, k_n3⟩ := k_n.two
    clear k_a0 k_a1 k_a2 k_a3 Lk_a
    have Lk_x := k_x.lt
    obtain ⟨k_x0, k_x1, k_x2, k_x3⟩ := k_x.two
    have Lk_y := k_y.lt
    obtain ⟨k_y0, k_y1, k_y2, k_y3⟩ := k_y.two
    have Lk_p := k_p.lt
    obtain ⟨k_p0, k_p1, k_p2, k_p3⟩ := k_p.two
    go_wp2_with fail
    refine (HW2.out _).mono ?_
    rintro e v8 ⟨rfl, hb8⟩
    clear k_n0 k_n1 k_n2 k_n3 Lk_n k_x0 k_x1 k_x2 k_x3 Lk_x k_y0 k_y1 k_y2 k_y3 Lk_y k_p0 k_p1 k_p2 k_p3 Lk_p
    replace k_a : At v8 (w.heap.size) 23 #[.int .i64 al, .int .i64 ah] := At.bel (by repeat (first | with_reducible assumption | with_reducible apply At.put0 | with_reducible apply At.put1 | with_reducible refine At.far ?_ (by dsimp only; omega) _ | with_reducible apply At.al | with_reducible apply At.drw | with_reducible apply At.dr)) hb8
    replace k_n : At v8 (w.heap.size + 1) 34 #[.int .i64 fn, .int .i64 fd] := At.bel (by repeat (first | with_reducible assumption | with_reducible apply At.put0 | with_reducible apply At.put1 | with_reducible refine At.far ?_ (by dsimp only; omega) _ | with_reducible apply At.al | with_reducible apply At.drw | with_reducible apply At.dr)) hb8
    replace k_x : At v8 (v2.heap.size) 23 #[.int .i64 x.1, .int .i64 x.2.1] := At.bel (by repeat (first | with_reducible assumption | with_reducible apply At.put0 | with_reducible apply At.put1 | with_reducible refine At.far ?_ (by dsimp only; omega) _ | with_reducible apply At.al | with_reducible apply At.drw | with_reducible apply At.dr)) hb8
    replace k_y : At v8 (v3.heap.size) 23 #[.int .i64 y.1, .int .i64 y.2.1] := At.bel (by repeat (first | with_reducible assumption | with_reducible apply At.put0 | with_reducible apply At.put1 | with_reducible refine At.far ?_ (by dsimp only; omega) _ | with_reducible apply At.al | with_reducible apply At.drw | with_reducible apply At.dr)) hb8
    replace k_z : At v8 (v4.heap.size) 23 #[.int .i64 0, .int .i64 0] := At.bel (by repeat (first | with_reducible assumption | with_reducible apply At.put0 | with_reducible apply At.put1 | with_reducible refine At.far ?_ (by dsimp only; omega) _ | with_reducible apply At.al | with_reducible apply At.drw | with_reducible apply At.dr)) hb8
    replace k_p : At v8 (v6.heap.size) 23 #[.int .i64 x.1, .int .i64 x.2.1] := At.bel (by repeat (first | with_reducible assumption | with_reducible apply At.put0 | with_reducible apply At.put1 | with_reducible refine At.far ?_ (by dsimp only; omega) _ | with_reducible apply At.al | with_reducible apply At.drw | with_reducible apply At.dr)) hb8
    have k_q : At v8 (v7.heap.size) 23 #[.int .i64 y.1, .int .i64 y.2.1] := At.bel (by (repeat (first | (with_reducible apply At.new'; (focus (simp; done))) | with_reducible apply At.al | with_reducible apply At.drw | with_reducible apply At.dr))) hb8
    replace HB : Below w.heap.size w v8 := below_then (by repeat (first | with_reducible assumption | with_reducible exact Below.refl _ _ | with_reducible refine below_al ?_ _ | with_reducible refine below_drew ?_ | with_reducible refine below_drewN ?_ _ | with_reducible refine below_set ?_ (by dsimp only; omega) _)) hb8
    clear hb8
    have Lk_n := k_n.lt
    obtain ⟨k_n0, k_n1, k_n2, k_n3⟩ := k_n.two
    have Lk_x := k_x.lt
    obtain ⟨k_x0, k_x1, k_x2, k_x3⟩ := k_x.two
    have Lk_y := k_y.lt
    obtain ⟨k_y0, k_y1, k_y2, k_y3⟩ := k_y.two
    have Lk_p := k_p.lt
    obtain ⟨k_p0, k_p1, k_p2, k_p3⟩ := k_p.two
    clear k_x0 k_x1 k_x2 k_x3 Lk_x k_y0 k_y1 k_y2 k_y3 Lk_y
    clear k_p0 k_p1 k_p2 k_p3 Lk_p
    have Lk_z := k_z.lt
    obtain ⟨k_z0, k_z1, k_z2, k_z3⟩ := k_z.two
    go_wp2_with fail
    refine (wrong_yes _).mono ?_
    rintro e v9 ⟨rfl, hb9⟩
    clear k_n0 k_n1 k_n2 k_n3 Lk_n k_z0 k_z1 k_z2 k_z3 Lk_z
    replace k_a : At v9 (w.heap.size) 23 #[.int .i64 al, .int .i64 ah] := At.bel (by repeat (first | with_reducible assumption | with_reducible apply At.put0 | with_reducible apply At.put1 | with_reducible refine At.far ?_ (by dsimp only; omega) _ | with_reducible apply At.al | with_reducible apply At.drw | with_reducible apply At.dr)) hb9
    replace k_n : At v9 (w.heap.size + 1) 34 #[.int .i64 fn, .int .i64 fd] := At.bel (by repeat (first | with_reducible assumption | with_reducible apply At.put0 | with_reducible apply At.put1 | with_reducible refine At.far ?_ (by dsimp only; omega) _ | with_reducible apply At.al | with_reducible apply At.drw | with_reducible apply At.dr)) hb9
    replace k_x : At v9 (v2.heap.size) 23 #[.int .i64 x.1, .int .i64 x.2.1] := At.bel (by repeat (first | with_reducible assumption | with_reducible apply At.put0 | with_reducible apply At.put1 | with_reducible refine At.far ?_ (by dsimp only; omega) _ | with_reducible apply At.al | with_reducible apply At.drw | with_reducible apply At.dr)) hb9
    replace k_y : At v9 (v3.heap.size) 23 #[.int .i64 y.1, .int .i64 y.2.1] := At.bel (by repeat (first | with_reducible assumption | with_reducible apply At.put0 | with_reducible apply At.put1 | with_reducible refine At.far ?_ (by dsimp only; omega) _ | with_reducible apply At.al | with_reducible apply At.drw | with_reducible apply At.dr)) hb9
    replace k_z : At v9 (v4.heap.size) 23 #[.int .i64 0, .int .i64 0] := At.bel (by repeat (first | with_reducible assumption | with_reducible apply At.put0 | with_reducible apply At.put1 | with_reducible refine At.far ?_ (by dsimp only; omega) _ | with_reducible apply At.al | with_reducible apply At.drw | with_reducible apply At.dr)) hb9
    replace k_p : At v9 (v6.heap.size) 23 #[.int .i64 x.1, .int .i64 x.2.1] := At.bel (by repeat (first | with_reducible assumption | with_reducible apply At.put0 | with_reducible apply At.put1 | with_reducible refine At.far ?_ (by dsimp only; omega) _ | with_reducible apply At.al | with_reducible apply At.drw | with_reducible apply At.dr)) hb9
    replace k_q : At v9 (v7.heap.size) 23 #[.int .i64 y.1, .int .i64 y.2.1] := At.bel (by repeat (first | with_reducible assumption | with_reducible apply At.put0 | with_reducible apply At.put1 | with_reducible refine At.far ?_ (by dsimp only; omega) _ | with_reducible apply At.al | with_reducible apply At.drw | with_reducible apply At.dr)) hb9
    replace HB : Below w.heap.size w v9 := below_then (by repeat (first | with_reducible assumption | with_reducible exact Below.refl _ _ | with_reducible refine below_al ?_ _ | with_reducible refine below_drew ?_ | with_reducible refine below_drewN ?_ _ | with_reducible refine below_set ?_ (by dsimp only; omega) _)) hb9
    clear hb9
    have Lk_n := k_n.lt
    obtain ⟨k_n0, k_n1, k_n2, k_n3⟩ := k_n.two
    have Lk_z := k_z.lt
    obtain ⟨k_z0, k_z1, k_z2, k_z3⟩ := k_z.two
    go_wp2_with fail
    go_ret
    exact ⟨rfl, (by repeat (first | with_reducible assumption | with_reducible exact Below.refl _ _ | with_reducible refine below_al ?_ _ | with_reducible refine below_drew ?_ | with_reducible refine below_drewN ?_ _ | with_reducible refine below_set ?_ (by dsimp only; omega) _))⟩

set_option maxRecDepth 100000 in
set_option maxHeartbeats 4000000 in
theorem spanScales_01 (al ah num den fn fd unit : Int) (h1 : validB al ah = false) (h2 : fracB fn fd = true) (w : World) :
    Calls Try.prog 4 #[sp al ah, .int .i64 num, .int .i64 den, .agg #[.int .i64 fn, .int .i64 fd], .int .i64 unit] w fun e w' => e = .returned (.bool true) ∧ Below w.heap.size w w' := by
    have HA := Lib.hid (fun w => tim_any al ah num den w)
    have HS := Lib.hid (fun w => rootI_any al ah w)
    have HO := Lib.hid (fun w => of_span_any fn fd unit w)
    have HW1 := Lib.hid (fun w => refvalid_any al ah w)
    have HW2 := Lib.hid (fun w => reffvalid_any fn fd w)
    rw [show timS al ah num den = (0, 0, 1) from by simp [timS, h1]] at HA
    rw [show rootV al ah = (0, 0, 1) from by simp [rootV, h1]] at HS
    have RO := Lib.hid (fun w => refof_any fn fd unit h2 w)
    rw [h1] at HW1
    rw [h2] at HW2
    clear h1 h2
    generalize ofS fn fd unit = z at *
    go_enter Try.func4, Try.ntmps4
    go_wp2_with fail
    refine (awake_any _).mono ?_
    rintro e v1 ⟨rfl, hb1⟩
    have k_a : At v1 (w.heap.size) 23 #[.int .i64 al, .int .i64 ah] := At.bel (by (repeat (first | (with_reducible apply At.new'; (focus (simp; done))) | with_reducible apply At.al | with_reducible apply At.drw | with_reducible apply At.dr))) hb1
    have k_n : At v1 (w.heap.size + 1) 34 #[.int .i64 fn, .int .i64 fd] := At.bel (by (repeat (first | (with_reducible apply At.new'; (focus (simp; done))) | with_reducible apply At.al | with_reducible apply At.drw | with_reducible apply At.dr))) hb1
    have HB : Below w.heap.size w v1 := below_then (by repeat (first | with_reducible assumption | with_reducible exact Below.refl _ _ | with_reducible refine below_al ?_ _ | with_reducible refine below_drew ?_ | with_reducible refine below_drewN ?_ _ | with_reducible refine below_set ?_ (by dsimp only; omega) _)) hb1
    clear hb1
    have Lk_a := k_a.lt
    obtain ⟨k_a0, k_a1, k_a2, k_a3⟩ := k_a.two
    have Lk_n := k_n.lt
    obtain ⟨k_n0, k_n1, k_n2, k_n3⟩ := k_n.two
    go_wp2_with fail
    refine (HA.out _).mono ?_
    rintro e v2 ⟨rfl, hb2⟩
    clear k_a0 k_a1 k_a2 k_a3 Lk_a k_n0 k_n1 k_n2 k_n3 Lk_n
    replace k_a : At v2 (w.heap.size) 23 #[.int .i64 al, .int .i64 ah] := At.bel (by repeat (first | with_reducible assumption | with_reducible apply At.put0 | with_reducible apply At.put1 | with_reducible refine At.far ?_ (by dsimp only; omega) _ | with_reducible apply At.al | with_reducible apply At.drw | with_reducible apply At.dr)) hb2
    replace k_n : At v2 (w.heap.size + 1) 34 #[.int .i64 fn, .int .i64 fd] := At.bel (by repeat (first | with_reducible assumption | with_reducible apply At.put0 | with_reducible apply At.put1 | with_reducible refine At.far ?_ (by dsimp only; omega) _ | with_reducible apply At.al | with_reducible apply At.drw | with_reducible apply At.dr)) hb2
    replace HB : Below w.heap.size w v2 := below_then (by repeat (first | with_reducible assumption | with_reducible exact Below.refl _ _ | with_reducible refine below_al ?_ _ | with_reducible refine below_drew ?_ | with_reducible refine below_drewN ?_ _ | with_reducible refine below_set ?_ (by dsimp only; omega) _)) hb2
    clear hb2
    have Lk_a := k_a.lt
    obtain ⟨k_a0, k_a1, k_a2, k_a3⟩ := k_a.two
    have Lk_n := k_n.lt
    obtain ⟨k_n0, k_n1, k_n2, k_n3⟩ := k_n.two
    go_wp2_with fail
    refine (HS.out _).mono ?_
    rintro e v3 ⟨rfl, hb3⟩
    clear k_a0 k_a1 k_a2 k_a3 Lk_a k_n0 k_n1 k_n2 k_n3 Lk_n
    replace k_a : At v3 (w.heap.size) 23 #[.int .i64 al, .int .i64 ah] := At.bel (by repeat (first | with_reducible assumption | with_reducible apply At.put0 | with_reducible apply At.put1 | with_reducible refine At.far ?_ (by dsimp only; omega) _ | with_reducible apply At.al | with_reducible apply At.drw | with_reducible apply At.dr)) hb3
    replace k_n : At v3 (w.heap.size + 1) 34 #[.int .i64 fn, .int .i64 fd] := At.bel (by repeat (first | with_reducible assumption | with_reducible apply At.put0 | with_reducible apply At.put1 | with_reducible refine At.far ?_ (by dsimp only; omega) _ | with_reducible apply At.al | with_reducible apply At.drw | with_reducible apply At.dr)) hb3
    have k_x : At v3 (v2.heap.size) 23 #[.int .i64 0, .int .i64 0] := At.bel (by (repeat (first | (with_reducible apply At.new'; (focus (simp; done))) | with_reducible apply At.al | with_reducible apply At.drw | with_reducible apply At.dr))) hb3
    replace HB : Below w.heap.size w v3 := below_then (by repeat (first | with_reducible assumption | with_reducible exact Below.refl _ _ | with_reducible refine below_al ?_ _ | with_reducible refine below_drew ?_ | with_reducible refine below_drewN ?_ _ | with_reducible refine below_set ?_ (by dsimp only; omega) _)) hb3
    clear hb3
    have Lk_a := k_a.lt
    obtain ⟨k_a0, k_a1, k_a2, k_a3⟩ := k_a.two
    have Lk_n := k_n.lt
    obtain ⟨k_n0, k_n1, k_n2, k_n3⟩ := k_n.two
    go_wp2_with fail
    refine (HO.out _).mono ?_
    rintro e v4 ⟨rfl, hb4⟩
    clear k_a0 k_a1 k_a2 k_a3 Lk_a k_n0 k_n1 k_n2 k_n3 Lk_n
    replace k_a : At v4 (w.heap.size) 23 #[.int .i64 al, .int .i64 ah] := At.bel (by repeat (first | with_reducible assumption | with_reducible apply At.put0 | with_reducible apply At.put1 | with_reducible refine At.far ?_ (by dsimp only; omega) _ | with_reducible apply At.al | with_reducible apply At.drw | with_reducible apply At.dr)) hb4
    replace k_n : At v4 (w.heap.size + 1) 34 #[.int .i64 fn, .int .i64 fd] := At.bel (by repeat (first | with_reducible assumption | with_reducible apply At.put0 | with_reducible apply At.put1 | with_reducible refine At.far ?_ (by dsimp only; omega) _ | with_reducible apply At.al | with_reducible apply At.drw | with_reducible apply At.dr)) hb4
    replace k_x : At v4 (v2.heap.size) 23 #[.int .i64 0, .int .i64 0] := At.bel (by repeat (first | with_reducible assumption | with_reducible apply At.put0 | with_reducible apply At.put1 | with_reducible refine At.far ?_ (by dsimp only; omega) _ | with_reducible apply At.al | with_reducible apply At.drw | with_reducible apply At.dr)) hb4
    have k_y : At v4 (v3.heap.size) 23 #[.int .i64 0, .int .i64 0] := At.bel (by (repeat (first | (with_reducible apply At.new'; (focus (simp; done))) | with_reducible apply At.al | with_reducible apply At.drw | with_reducible apply At.dr))) hb4
    replace HB : Below w.heap.size w v4 := below_then (by repeat (first | with_reducible assumption | with_reducible exact Below.refl _ _ | with_reducible refine below_al ?_ _ | with_reducible refine below_drew ?_ | with_reducible refine below_drewN ?_ _ | with_reducible refine below_set ?_ (by dsimp only; omega) _)) hb4
    clear hb4
    have Lk_a := k_a.lt
    obtain ⟨k_a0, k_a1, k_a2, k_a3⟩ := k_a.two
    have Lk_n := k_n.lt
    obtain ⟨k_n0, k_n1, k_n2, k_n3⟩ := k_n.two
    go_wp2_with fail
    refine (HW1.out _).mono ?_
    rintro e v5 ⟨rfl, hb5⟩
    clear k_a0 k_a1 k_a2 k_a3 Lk_a k_n0 k_n1 k_n2 k_n3 Lk_n
    replace k_a : At v5 (w.heap.size) 23 #[.int .i64 al, .int .i64 ah] := At.bel (by repeat (first | with_reducible assumption | with_reducible apply At.put0 | with_reducible apply At.put1 | with_reducible refine At.far ?_ (by dsimp only; omega) _ | with_reducible apply At.al | with_reducible apply At.drw | with_reducible apply At.dr)) hb5
    replace k_n : At v5 (w.heap.size + 1) 34 #[.int .i64 fn, .int .i64 fd] := At.bel (by repeat (first | with_reducible assumption | with_reducible apply At.put0 | with_reducible apply At.put1 | with_reducible refine At.far ?_ (by dsimp only; omega) _ | with_reducible apply At.al | with_reducible apply At.drw | with_reducible apply At.dr)) hb5
    replace k_x : At v5 (v2.heap.size) 23 #[.int .i64 0, .int .i64 0] := At.bel (by repeat (first | with_reducible assumption | with_reducible apply At.put0 | with_reducible apply At.put1 | with_reducible refine At.far ?_ (by dsimp only; omega) _ | with_reducible apply At.al | with_reducible apply At.drw | with_reducible apply At.dr)) hb5
    replace k_y : At v5 (v3.heap.size) 23 #[.int .i64 0, .int .i64 0] := At.bel (by repeat (first | with_reducible assumption | with_reducible apply At.put0 | with_reducible apply At.put1 | with_reducible refine At.far ?_ (by dsimp only; omega) _ | with_reducible apply At.al | with_reducible apply At.drw | with_reducible apply At.dr)) hb5
    have k_z : At v5 (v4.heap.size) 23 #[.int .i64 z.1, .int .i64 z.2.1] := At.bel (by (repeat (first | (with_reducible apply At.new'; (focus (simp; done))) | with_reducible apply At.al | with_reducible apply At.drw | with_reducible apply At.dr))) hb5
    replace HB : Below w.heap.size w v5 := below_then (by repeat (first | with_reducible assumption | with_reducible exact Below.refl _ _ | with_reducible refine below_al ?_ _ | with_reducible refine below_drew ?_ | with_reducible refine below_drewN ?_ _ | with_reducible refine below_set ?_ (by dsimp only; omega) _)) hb5
    clear hb5
    have Lk_a := k_a.lt
    obtain ⟨k_a0, k_a1, k_a2, k_a3⟩ := k_a.two
    have Lk_n := k_n.lt
    obtain ⟨k_n0, k_n1, k_n2, k_n3⟩ := k_n.two
    have Lk_x := k_x.lt
    obtain ⟨k_x0, k_x1, k_x2, k_x3⟩ := k_x.two
    have Lk_y := k_y.lt
    obtain ⟨k_y0, k_y1, k_y2, k_y3⟩ := k_y.two
    go_wp2_with fail
    refine (wrong_yes _).mono ?_
    rintro e v6 ⟨rfl, hb6⟩
    clear k_a0 k_a1 k_a2 k_a3 Lk_a k_n0 k_n1 k_n2 k_n3 Lk_n k_x0 k_x1 k_x2 k_x3 Lk_x k_y0 k_y1 k_y2 k_y3 Lk_y
    replace k_a : At v6 (w.heap.size) 23 #[.int .i64 al, .int .i64 ah] := At.bel (by repeat (first | with_reducible assumption | with_reducible apply At.put0 | with_reducible apply At.put1 | with_reducible refine At.far ?_ (by dsimp only; omega) _ | with_reducible apply At.al | with_reducible apply At.drw | with_reducible apply At.dr)) hb6
    replace k_n : At v6 (w.heap.size + 1) 34 #[.int .i64 fn, .int .i64 fd] := At.bel (by repeat (first | with_reducible assumption | with_reducible apply At.put0 | with_reducible apply At.put1 | with_reducible refine At.far ?_ (by dsimp only; omega) _ | with_reducible apply At.al | with_reducible apply At.drw | with_reducible apply At.dr)) hb6
    replace k_x : At v6 (v2.heap.size) 23 #[.int .i64 0, .int .i64 0] := At.bel (by repeat (first | with_reducible assumption | with_reducible apply At.put0 | with_reducible apply At.put1 | with_reducible refine At.far ?_ (by dsimp only; omega) _ | with_reducible apply At.al | with_reducible apply At.drw | with_reducible apply At.dr)) hb6
    replace k_y : At v6 (v3.heap.size) 23 #[.int .i64 0, .int .i64 0] := At.bel (by repeat (first | with_reducible assumption | with_reducible apply At.put0 | with_reducible apply At.put1 | with_reducible refine At.far ?_ (by dsimp only; omega) _ | with_reducible apply At.al | with_reducible apply At.drw | with_reducible apply At.dr)) hb6
    replace k_z : At v6 (v4.heap.size) 23 #[.int .i64 z.1, .int .i64 z.2.1] := At.bel (by repeat (first | with_reducible assumption | with_reducible apply At.put0 | with_reducible apply At.put1 | with_reducible refine At.far ?_ (by dsimp only; omega) _ | with_reducible apply At.al | with_reducible apply At.drw | with_reducible apply At.dr)) hb6
    replace HB : Below w.heap.size w v6 := below_then (by repeat (first | with_reducible assumption | with_reducible exact Below.refl _ _ | with_reducible refine below_al ?_ _ | with_reducible refine below_drew ?_ | with_reducible refine below_drewN ?_ _ | with_reducible refine below_set ?_ (by dsimp only; omega) _)) hb6
    clear hb6
    have Lk_a := k_a.lt
    obtain ⟨k_a0, k_a1, k_a2, k_a3⟩ := k_a.two
    have Lk_n := k_n.lt
    obtain ⟨k_n0, k_n1, k_n2, k_n3⟩ := k_n.two
    have Lk_x := k_x.lt
    obtain ⟨k_x0, k_x1, k_x2, k_x3⟩ := k_x.two
    have Lk_y := k_y.lt
    obtain ⟨k_y0, k_y1, k_y2, k_y3⟩ := k_y.two
    go_wp2_with fail
    refine (wrong_yes _).mono ?_
    rintro e v7 ⟨rfl, hb7⟩
    clear k_a0 k_a1 k_a2 k_a3 Lk_a k_n0 k_n1 k_n2 k_n3 Lk_n k_x0 k_x1 k_x2 k_x3 Lk_x k_y0 k_y1 k_y2 k_y3 Lk_y
    replace k_a : At v7 (w.heap.size) 23 #[.int .i64 al, .int .i64 ah] := At.bel (by repeat (first | with_reducible assumption | with_reducible apply At.put0 | with_reducible apply At.put1 | with_reducible refine At.far ?_ (by dsimp only; omega) _ | with_reducible apply At.al | with_reducible apply At.drw | with_reducible apply At.dr)) hb7
    replace k_n : At v7 (w.heap.size + 1) 34 #[.int .i64 fn, .int .i64 fd] := At.bel (by repeat (first | with_reducible assumption | with_reducible apply At.put0 | with_reducible apply At.put1 | with_reducible refine At.far ?_ (by dsimp only; omega) _ | with_reducible apply At.al | with_reducible apply At.drw | with_reducible apply At.dr)) hb7
    replace k_x : At v7 (v2.heap.size) 23 #[.int .i64 0, .int .i64 0] := At.bel (by repeat (first | with_reducible assumption | with_reducible apply At.put0 | with_reducible apply At.put1 | with_reducible refine At.far ?_ (by dsimp only; omega) _ | with_reducible apply At.al | with_reducible apply At.drw | with_reducible apply At.dr)) hb7
    replace k_y : At v7 (v3.heap.size) 23 #[.int .i64 0, .int .i64 0] := At.bel (by repeat (first | with_reducible assumption | with_reducible apply At.put0 | with_reducible apply At.put1 | with_reducible refine At.far ?_ (by dsimp only; omega) _ | with_reducible apply At.al | with_reducible apply At.drw | with_reducible apply At.dr)) hb7
    replace k_z : At v7 (v4.heap.size) 23 #[.int .i64 z.1, .int .i64 z.2.1] := At.bel (by repeat (first | with_reducible assumption | with_reducible apply At.put0 | with_reducible apply At.put1 | with_reducible refine At.far ?_ (by dsimp only; omega) _ | with_reducible apply At.al | with_reducible apply At.drw | with_reducible apply At.dr)) hb7
    replace HB : Below w.heap.size w v7 := below_then (by repeat (first | with_reducible assumption | with_reducible exact Below.refl _ _ | with_reducible refine below_al ?_ _ | with_reducible refine below_drew ?_ | with_reducible refine below_drewN ?_ _ | with_reducible refine below_set ?_ (by dsimp only; omega) _)) hb7
    clear hb7
    have Lk_a := k_a.lt
    obtain ⟨k_a0, k_a1, k_a2, k_a3⟩ := k_a.two
    have Lk_n := k_n.lt
    obtain ⟨k_n0, k_n1, k_n2, k_n3⟩ := k_n.two
    have Lk_x := k_x.lt
    obtain ⟨k_x0, k_x1, k_x2, k_x3⟩ := k_x.two
    have Lk_y := k_y.lt
    obtain ⟨k_y0, k_y1, k_y2, k_y3⟩ := k_y.two
    go_wp2_with fail
    refine (HW2.out _).mono ?_
    rintro e v8 ⟨rfl, hb8⟩
    clear k_a0 k_a1 k_a2 k_a3 Lk_a k_n0 k_n1 k_n2 k_n3 Lk_n k_x0 k_x1 k_x2 k_x3 Lk_x k_y0 k_y1 k_y2 k_y3 Lk_y
    replace k_a : At v8 (w.heap.size) 23 #[.int .i64 al, .int .i64 ah] := At.bel (by repeat (first | with_reducible assumption | with_reducible apply At.put0 | with_reducible apply At.put1 | with_reducible refine At.far ?_ (by dsimp only; omega) _ | with_reducible apply At.al | with_reducible apply At.drw | with_reducible apply At.dr)) hb8
    replace k_n : At v8 (w.heap.size + 1) 34 #[.int .i64 fn, .int .i64 fd] := At.bel (by repeat (first | with_reducible assumption | with_reducible apply At.put0 | with_reducible apply At.put1 | with_reducible refine At.far ?_ (by dsimp only; omega) _ | with_reducible apply At.al | with_reducible apply At.drw | with_reducible apply At.dr)) hb8
    replace k_x : At v8 (v2.heap.size) 23 #[.int .i64 0, .int .i64 0] := At.bel (by repeat (first | with_reducible assumption | with_reducible apply At.put0 | with_reducible apply At.put1 | with_reducible refine At.far ?_ (by dsimp only; omega) _ | with_reducible apply At.al | with_reducible apply At.drw | with_reducible apply At.dr)) hb8
    replace k_y : At v8 (v3.heap.size) 23 #[.int .i64 0, .int .i64 0] := At.bel (by repeat (first | with_reducible assumption | with_reducible apply At.put0 | with_reducible apply At.put1 | with_reducible refine At.far ?_ (by dsimp only; omega) _ | with_reducible apply At.al | with_reducible apply At.drw | with_reducible apply At.dr)) hb8
    replace k_z : At v8 (v4.heap.size) 23 #[.int .i64 z.1, .int .i64 z.2.1] := At.bel (by repeat (first | with_reducible assumption | with_reducible apply At.put0 | with_reducible apply At.put1 | with_reducible refine At.far ?_ (by dsimp only; omega) _ | with_reducible apply At.al | with_reducible apply At.drw | with_reducible apply At.dr)) hb8
    replace HB : Below w.heap.size w v8 := below_then (by repeat (first | with_reducible assumption | with_reducible exact Below.refl _ _ | with_reducible refine below_al ?_ _ | with_reducible refine below_drew ?_ | with_reducible refine below_drewN ?_ _ | with_reducible refine below_set ?_ (by dsimp only; omega) _)) hb8
    clear hb8
    have Lk_a := k_a.lt
    obtain ⟨k_a0, k_a1, k_a2, k_a3⟩ := k_a.two
    have Lk_n := k_n.lt
    obtain ⟨k_n0, k_n1, k_n2, k_n3⟩ := k_n.two
    have Lk_x := k_x.lt
    obtain ⟨k_x0, k_x1, k_x2, k_x3⟩ := k_x.two
    have Lk_y := k_y.lt
    obtain ⟨k_y0, k_y1, k_y2, k_y3⟩ := k_y.two
    clear k_x0 k_x1 k_x2 k_x3 Lk_x k_y0 k_y1 k_y2 k_y3 Lk_y
    go_wp2_with fail
    refine (RO.out _).mono ?_
    rintro e v9 ⟨rfl, hb9⟩
    clear k_a0 k_a1 k_a2 k_a3 Lk_a k_n0 k_n1 k_n2 k_n3 Lk_n
    replace k_a : At v9 (w.heap.size) 23 #[.int .i64 al, .int .i64 ah] := At.bel (by repeat (first | with_reducible assumption | with_reducible apply At.put0 | with_reducible apply At.put1 | with_reducible refine At.far ?_ (by dsimp only; omega) _ | with_reducible apply At.al | with_reducible apply At.drw | with_reducible apply At.dr)) hb9
    replace k_n : At v9 (w.heap.size + 1) 34 #[.int .i64 fn, .int .i64 fd] := At.bel (by repeat (first | with_reducible assumption | with_reducible apply At.put0 | with_reducible apply At.put1 | with_reducible refine At.far ?_ (by dsimp only; omega) _ | with_reducible apply At.al | with_reducible apply At.drw | with_reducible apply At.dr)) hb9
    replace k_x : At v9 (v2.heap.size) 23 #[.int .i64 0, .int .i64 0] := At.bel (by repeat (first | with_reducible assumption | with_reducible apply At.put0 | with_reducible apply At.put1 | with_reducible refine At.far ?_ (by dsimp only; omega) _ | with_reducible apply At.al | with_reducible apply At.drw | with_reducible apply At.dr)) hb9
    replace k_y : At v9 (v3.heap.size) 23 #[.int .i64 0, .int .i64 0] := At.bel (by repeat (first | with_reducible assumption | with_reducible apply At.put0 | with_reducible apply At.put1 | with_reducible refine At.far ?_ (by dsimp only; omega) _ | with_reducible apply At.al | with_reducible apply At.drw | with_reducible apply At.dr)) hb9
    replace k_z : At v9 (v4.heap.size) 23 #[.int .i64 z.1, .int .i64 z.2.1] := At.bel (by repeat (first | with_reducible assumption | with_reducible apply At.put0 | with_reducible apply At.put1 | with_reducible refine At.far ?_ (by dsimp only; omega) _ | with_reducible apply At.al | with_reducible apply At.drw | with_reducible apply At.dr)) hb9
    replace HB : Below w.heap.size w v9 := below_then (by repeat (first | with_reducible assumption | with_reducible exact Below.refl _ _ | with_reducible refine below_al ?_ _ | with_reducible refine below_drew ?_ | with_reducible refine below_drewN ?_ _ | with_reducible refine below_set ?_ (by dsimp only; omega) _)) hb9
    clear hb9
    have Lk_a := k_a.lt
    obtain ⟨k_a0, k_a1, k_a2, k_a3⟩ := k_a.two
    have Lk_n := k_n.lt
    obtain ⟨k_n0, k_n1, k_n2, k_n3⟩ := k_n.two
    have Lk_z := k_z.lt
    obtain ⟨k_z0, k_z1, k_z2, k_z3⟩ := k_z.two
    go_wp2_with fail
    go_ret
    exact ⟨rfl, (by repeat (first | with_reducible assumption | with_reducible exact Below.refl _ _ | with_reducible refine below_al ?_ _ | with_reducible refine below_drew ?_ | with_reducible refine below_drewN ?_ _ | with_reducible refine below_set ?_ (by dsimp only; omega) _))⟩

set_option maxRecDepth 100000 in
set_option maxHeartbeats 4000000 in
theorem spanScales_00 (al ah num den fn fd unit : Int) (h1 : validB al ah = false) (h2 : fracB fn fd = false) (w : World) :
    Calls Try.prog 4 #[sp al ah, .int .i64 num, .int .i64 den, .agg #[.int .i64 fn, .int .i64 fd], .int .i64 unit] w fun e w' => e = .returned (.bool true) ∧ Below w.heap.size w w' := by
    have HA := Lib.hid (fun w => tim_any al ah num den w)
    have HS := Lib.hid (fun w => rootI_any al ah w)
    have HO := Lib.hid (fun w => of_span_any fn fd unit w)
    have HW1 := Lib.hid (fun w => refvalid_any al ah w)
    have HW2 := Lib.hid (fun w => reffvalid_any fn fd w)
    rw [show timS al ah num den = (0, 0, 1) from by simp [timS, h1]] at HA
    rw [show rootV al ah = (0, 0, 1) from by simp [rootV, h1]] at HS
    rw [show ofS fn fd unit = (0, 0, 1) from by simp [ofS, h2]] at HO
    rw [h1] at HW1
    rw [h2] at HW2
    clear h1 h2
    go_enter Try.func4, Try.ntmps4
    go_wp2_with fail
    refine (awake_any _).mono ?_
    rintro e v1 ⟨rfl, hb1⟩
    have k_a : At v1 (w.heap.size) 23 #[.int .i64 al, .int .i64 ah] := At.bel (by (repeat (first | (with_reducible apply At.new'; (focus (simp; done))) | with_reducible apply At.al | with_reducible apply At.drw | with_reducible apply At.dr))) hb1
    have k_n : At v1 (w.heap.size + 1) 34 #[.int .i64 fn, .int .i64 fd] := At.bel (by (repeat (first | (with_reducible apply At.new'; (focus (simp; done))) | with_reducible apply At.al | with_reducible apply At.drw | with_reducible apply At.dr))) hb1
    have HB : Below w.heap.size w v1 := below_then (by repeat (first | with_reducible assumption | with_reducible exact Below.refl _ _ | with_reducible refine below_al ?_ _ | with_reducible refine below_drew ?_ | with_reducible refine below_drewN ?_ _ | with_reducible refine below_set ?_ (by dsimp only; omega) _)) hb1
    clear hb1
    have Lk_a := k_a.lt
    obtain ⟨k_a0, k_a1, k_a2, k_a3⟩ := k_a.two
    have Lk_n := k_n.lt
    obtain ⟨k_n0, k_n1, k_n2, k_n3⟩ := k_n.two
    go_wp2_with fail
    refine (HA.out _).mono ?_
    rintro e v2 ⟨rfl, hb2⟩
    clear k_a0 k_a1 k_a2 k_a3 Lk_a k_n0 k_n1 k_n2 k_n3 Lk_n
    replace k_a : At v2 (w.heap.size) 23 #[.int .i64 al, .int .i64 ah] := At.bel (by repeat (first | with_reducible assumption | with_reducible apply At.put0 | with_reducible apply At.put1 | with_reducible refine At.far ?_ (by dsimp only; omega) _ | with_reducible apply At.al | with_reducible apply At.drw | with_reducible apply At.dr)) hb2
    replace k_n : At v2 (w.heap.size + 1) 34 #[.int .i64 fn, .int .i64 fd] := At.bel (by repeat (first | with_reducible assumption | with_reducible apply At.put0 | with_reducible apply At.put1 | with_reducible refine At.far ?_ (by dsimp only; omega) _ | with_reducible apply At.al | with_reducible apply At.drw | with_reducible apply At.dr)) hb2
    replace HB : Below w.heap.size w v2 := below_then (by repeat (first | with_reducible assumption | with_reducible exact Below.refl _ _ | with_reducible refine below_al ?_ _ | with_reducible refine below_drew ?_ | with_reducible refine below_drewN ?_ _ | with_reducible refine below_set ?_ (by dsimp only; omega) _)) hb2
    clear hb2
    have Lk_a := k_a.lt
    obtain ⟨k_a0, k_a1, k_a2, k_a3⟩ := k_a.two
    have Lk_n := k_n.lt
    obtain ⟨k_n0, k_n1, k_n2, k_n3⟩ := k_n.two
    go_wp2_with fail
    refine (HS.out _).mono ?_
    rintro e v3 ⟨rfl, hb3⟩
    clear k_a0 k_a1 k_a2 k_a3 Lk_a k_n0 k_n1 k_n2 k_n3 Lk_n
    replace k_a : At v3 (w.heap.size) 23 #[.int .i64 al, .int .i64 ah] := At.bel (by repeat (first | with_reducible assumption | with_reducible apply At.put0 | with_reducible apply At.put1 | with_reducible refine At.far ?_ (by dsimp only; omega) _ | with_reducible apply At.al | with_reducible apply At.drw | with_reducible apply At.dr)) hb3
    replace k_n : At v3 (w.heap.size + 1) 34 #[.int .i64 fn, .int .i64 fd] := At.bel (by repeat (first | with_reducible assumption | with_reducible apply At.put0 | with_reducible apply At.put1 | with_reducible refine At.far ?_ (by dsimp only; omega) _ | with_reducible apply At.al | with_reducible apply At.drw | with_reducible apply At.dr)) hb3
    have k_x : At v3 (v2.heap.size) 23 #[.int .i64 0, .int .i64 0] := At.bel (by (repeat (first | (with_reducible apply At.new'; (focus (simp; done))) | with_reducible apply At.al | with_reducible apply At.drw | with_reducible apply At.dr))) hb3
    replace HB : Below w.heap.size w v3 := below_then (by repeat (first | with_reducible assumption | with_reducible exact Below.refl _ _ | with_reducible refine below_al ?_ _ | with_reducible refine below_drew ?_ | with_reducible refine below_drewN ?_ _ | with_reducible refine below_set ?_ (by dsimp only; omega) _)) hb3
    clear hb3
    have Lk_a := k_a.lt
    obtain ⟨k_a0, k_a1, k_a2, k_a3⟩ := k_a.two
    have Lk_n := k_n.lt
    obtain ⟨k_n0, k_n1, k_n2, k_n3⟩ := k_n.two
    go_wp2_with fail
    refine (HO.out _).mono ?_
    rintro e v4 ⟨rfl, hb4⟩
    clear k_a0 k_a1 k_a2 k_a3 Lk_a k_n0 k_n1 k_n2 k_n3 Lk_n
    replace k_a : At v4 (w.heap.size) 23 #[.int .i64 al, .int .i64 ah] := At.bel (by repeat (first | with_reducible assumption | with_reducible apply At.put0 | with_reducible apply At.put1 | with_reducible refine At.far ?_ (by dsimp only; omega) _ | with_reducible apply At.al | with_reducible apply At.drw | with_reducible apply At.dr)) hb4
    replace k_n : At v4 (w.heap.size + 1) 34 #[.int .i64 fn, .int .i64 fd] := At.bel (by repeat (first | with_reducible assumption | with_reducible apply At.put0 | with_reducible apply At.put1 | with_reducible refine At.far ?_ (by dsimp only; omega) _ | with_reducible apply At.al | with_reducible apply At.drw | with_reducible apply At.dr)) hb4
    replace k_x : At v4 (v2.heap.size) 23 #[.int .i64 0, .int .i64 0] := At.bel (by repeat (first | with_reducible assumption | with_reducible apply At.put0 | with_reducible apply At.put1 | with_reducible refine At.far ?_ (by dsimp only; omega) _ | with_reducible apply At.al | with_reducible apply At.drw | with_reducible apply At.dr)) hb4
    have k_y : At v4 (v3.heap.size) 23 #[.int .i64 0, .int .i64 0] := At.bel (by (repeat (first | (with_reducible apply At.new'; (focus (simp; done))) | with_reducible apply At.al | with_reducible apply At.drw | with_reducible apply At.dr))) hb4
    replace HB : Below w.heap.size w v4 := below_then (by repeat (first | with_reducible assumption | with_reducible exact Below.refl _ _ | with_reducible refine below_al ?_ _ | with_reducible refine below_drew ?_ | with_reducible refine below_drewN ?_ _ | with_reducible refine below_set ?_ (by dsimp only; omega) _)) hb4
    clear hb4
    have Lk_a := k_a.lt
    obtain ⟨k_a0, k_a1, k_a2, k_a3⟩ := k_a.two
    have Lk_n := k_n.lt
    obtain ⟨k_n0, k_n1, k_n2, k_n3⟩ := k_n.two
    go_wp2_with fail
    refine (HW1.out _).mono ?_
    rintro e v5 ⟨rfl, hb5⟩
    clear k_a0 k_a1 k_a2 k_a3 Lk_a k_n0 k_n1 k_n2 k_n3 Lk_n
    replace k_a : At v5 (w.heap.size) 23 #[.int .i64 al, .int .i64 ah] := At.bel (by repeat (first | with_reducible assumption | with_reducible apply At.put0 | with_reducible apply At.put1 | with_reducible refine At.far ?_ (by dsimp only; omega) _ | with_reducible apply At.al | with_reducible apply At.drw | with_reducible apply At.dr)) hb5
    replace k_n : At v5 (w.heap.size + 1) 34 #[.int .i64 fn, .int .i64 fd] := At.bel (by repeat (first | with_reducible assumption | with_reducible apply At.put0 | with_reducible apply At.put1 | with_reducible refine At.far ?_ (by dsimp only; omega) _ | with_reducible apply At.al | with_reducible apply At.drw | with_reducible apply At.dr)) hb5
    replace k_x : At v5 (v2.heap.size) 23 #[.int .i64 0, .int .i64 0] := At.bel (by repeat (first | with_reducible assumption | with_reducible apply At.put0 | with_reducible apply At.put1 | with_reducible refine At.far ?_ (by dsimp only; omega) _ | with_reducible apply At.al | with_reducible apply At.drw | with_reducible apply At.dr)) hb5
    replace k_y : At v5 (v3.heap.size) 23 #[.int .i64 0, .int .i64 0] := At.bel (by repeat (first | with_reducible assumption | with_reducible apply At.put0 | with_reducible apply At.put1 | with_reducible refine At.far ?_ (by dsimp only; omega) _ | with_reducible apply At.al | with_reducible apply At.drw | with_reducible apply At.dr)) hb5
    have k_z : At v5 (v4.heap.size) 23 #[.int .i64 0, .int .i64 0] := At.bel (by (repeat (first | (with_reducible apply At.new'; (focus (simp; done))) | with_reducible apply At.al | with_reducible apply At.drw | with_reducible apply At.dr))) hb5
    replace HB : Below w.heap.size w v5 := below_then (by repeat (first | with_reducible assumption | with_reducible exact Below.refl _ _ | with_reducible refine below_al ?_ _ | with_reducible refine below_drew ?_ | with_reducible refine below_drewN ?_ _ | with_reducible refine below_set ?_ (by dsimp only; omega) _)) hb5
    clear hb5
    have Lk_a := k_a.lt
    obtain ⟨k_a0, k_a1, k_a2, k_a3⟩ := k_a.two
    have Lk_n := k_n.lt
    obtain ⟨k_n0, k_n1, k_n2, k_n3⟩ := k_n.two
    have Lk_x := k_x.lt
    obtain ⟨k_x0, k_x1, k_x2, k_x3⟩ := k_x.two
    have Lk_y := k_y.lt
    obtain ⟨k_y0, k_y1, k_y2, k_y3⟩ := k_y.two
    go_wp2_with fail
    refine (wrong_yes _).mono ?_
    rintro e v6 ⟨rfl, hb6⟩
    clear k_a0 k_a1 k_a2 k_a3 Lk_a k_n0 k_n1 k_n2 k_n3 Lk_n k_x0 k_x1 k_x2 k_x3 Lk_x k_y0 k_y1 k_y2 k_y3 Lk_y
    replace k_a : At v6 (w.heap.size) 23 #[.int .i64 al, .int .i64 ah] := At.bel (by repeat (first | with_reducible assumption | with_reducible apply At.put0 | with_reducible apply At.put1 | with_reducible refine At.far ?_ (by dsimp only; omega) _ | with_reducible apply At.al | with_reducible apply At.drw | with_reducible apply At.dr)) hb6
    replace k_n : At v6 (w.heap.size + 1) 34 #[.int .i64 fn, .int .i64 fd] := At.bel (by repeat (first | with_reducible assumption | with_reducible apply At.put0 | with_reducible apply At.put1 | with_reducible refine At.far ?_ (by dsimp only; omega) _ | with_reducible apply At.al | with_reducible apply At.drw | with_reducible apply At.dr)) hb6
    replace k_x : At v6 (v2.heap.size) 23 #[.int .i64 0, .int .i64 0] := At.bel (by repeat (first | with_reducible assumption | with_reducible apply At.put0 | with_reducible apply At.put1 | with_reducible refine At.far ?_ (by dsimp only; omega) _ | with_reducible apply At.al | with_reducible apply At.drw | with_reducible apply At.dr)) hb6
    replace k_y : At v6 (v3.heap.size) 23 #[.int .i64 0, .int .i64 0] := At.bel (by repeat (first | with_reducible assumption | with_reducible apply At.put0 | with_reducible apply At.put1 | with_reducible refine At.far ?_ (by dsimp only; omega) _ | with_reducible apply At.al | with_reducible apply At.drw | with_reducible apply At.dr)) hb6
    replace k_z : At v6 (v4.heap.size) 23 #[.int .i64 0, .int .i64 0] := At.bel (by repeat (first | with_reducible assumption | with_reducible apply At.put0 | with_reducible apply At.put1 | with_reducible refine At.far ?_ (by dsimp only; omega) _ | with_reducible apply At.al | with_reducible apply At.drw | with_reducible apply At.dr)) hb6
    replace HB : Below w.heap.size w v6 := below_then (by repeat (first | with_reducible assumption | with_reducible exact Below.refl _ _ | with_reducible refine below_al ?_ _ | with_reducible refine below_drew ?_ | with_reducible refine below_drewN ?_ _ | with_reducible refine below_set ?_ (by dsimp only; omega) _)) hb6
    clear hb6
    have Lk_a := k_a.lt
    obtain ⟨k_a0, k_a1, k_a2, k_a3⟩ := k_a.two
    have Lk_n := k_n.lt
    obtain ⟨k_n0, k_n1, k_n2, k_n3⟩ := k_n.two
    have Lk_x := k_x.lt
    obtain ⟨k_x0, k_x1, k_x2, k_x3⟩ := k_x.two
    have Lk_y := k_y.lt
    obtain ⟨k_y0, k_y1, k_y2, k_y3⟩ := k_y.two
    go_wp2_with fail
    refine (wrong_yes _).mono ?_
    rintro e v7 ⟨rfl, hb7⟩
    clear k_a0 k_a1 k_a2 k_a3 Lk_a k_n0 k_n1 k_n2 k_n3 Lk_n k_x0 k_x1 k_x2 k_x3 Lk_x k_y0 k_y1 k_y2 k_y3 Lk_y
    replace k_a : At v7 (w.heap.size) 23 #[.int .i64 al, .int .i64 ah] := At.bel (by repeat (first | with_reducible assumption | with_reducible apply At.put0 | with_reducible apply At.put1 | with_reducible refine At.far ?_ (by dsimp only; omega) _ | with_reducible apply At.al | with_reducible apply At.drw | with_reducible apply At.dr)) hb7
    replace k_n : At v7 (w.heap.size + 1) 34 #[.int .i64 fn, .int .i64 fd] := At.bel (by repeat (first | with_reducible assumption | with_reducible apply At.put0 | with_reducible apply At.put1 | with_reducible refine At.far ?_ (by dsimp only; omega) _ | with_reducible apply At.al | with_reducible apply At.drw | with_reducible apply At.dr)) hb7
    replace k_x : At v7 (v2.heap.size) 23 #[.int .i64 0, .int .i64 0] := At.bel (by repeat (first | with_reducible assumption | with_reducible apply At.put0 | with_reducible apply At.put1 | with_reducible refine At.far ?_ (by dsimp only; omega) _ | with_reducible apply At.al | with_reducible apply At.drw | with_reducible apply At.dr)) hb7
    replace k_y : At v7 (v3.heap.size) 23 #[.int .i64 0, .int .i64 0] := At.bel (by repeat (first | with_reducible assumption | with_reducible apply At.put0 | with_reducible apply At.put1 | with_reducible refine At.far ?_ (by dsimp only; omega) _ | with_reducible apply At.al | with_reducible apply At.drw | with_reducible apply At.dr)) hb7
    replace k_z : At v7 (v4.heap.size) 23 #[.int .i64 0, .int .i64 0] := At.bel (by repeat (first | with_reducible assumption | with_reducible apply At.put0 | with_reducible apply At.put1 | with_reducible refine At.far ?_ (by dsimp only; omega) _ | with_reducible apply At.al | with_reducible apply At.drw | with_reducible apply At.dr)) hb7
    replace HB : Below w.heap.size w v7 := below_then (by repeat (first | with_reducible assumption | with_reducible exact Below.refl _ _ | with_reducible refine below_al ?_ _ | with_reducible refine below_drew ?_ | with_reducible refine below_drewN ?_ _ | with_reducible refine below_set ?_ (by dsimp only; omega) _)) hb7
    clear hb7
    have Lk_a := k_a.lt
    obtain ⟨k_a0, k_a1, k_a2, k_a3⟩ := k_a.two
    have Lk_n := k_n.lt
    obtain ⟨k_n0, k_n1, k_n2, k_n3⟩ := k_n.two
    have Lk_x := k_x.lt
    obtain ⟨k_x0, k_x1, k_x2, k_x3⟩ := k_x.two
    have Lk_y := k_y.lt
    obtain ⟨k_y0, k_y1, k_y2, k_y3⟩ := k_y.two
    go_wp2_with fail
    refine (HW2.out _).mono ?_
    rintro e v8 ⟨rfl, hb8⟩
    clear k_a0 k_a1 k_a2 k_a3 Lk_a k_n0 k_n1 k_n2 k_n3 Lk_n k_x0 k_x1 k_x2 k_x3 Lk_x k_y0 k_y1 k_y2 k_y3 Lk_y
    replace k_a : At v8 (w.heap.size) 23 #[.int .i64 al, .int .i64 ah] := At.bel (by repeat (first | with_reducible assumption | with_reducible apply At.put0 | with_reducible apply At.put1 | with_reducible refine At.far ?_ (by dsimp only; omega) _ | with_reducible apply At.al | with_reducible apply At.drw | with_reducible apply At.dr)) hb8
    replace k_n : At v8 (w.heap.size + 1) 34 #[.int .i64 fn, .int .i64 fd] := At.bel (by repeat (first | with_reducible assumption | with_reducible apply At.put0 | with_reducible apply At.put1 | with_reducible refine At.far ?_ (by dsimp only; omega) _ | with_reducible apply At.al | with_reducible apply At.drw | with_reducible apply At.dr)) hb8
    replace k_x : At v8 (v2.heap.size) 23 #[.int .i64 0, .int .i64 0] := At.bel (by repeat (first | with_reducible assumption | with_reducible apply At.put0 | with_reducible apply At.put1 | with_reducible refine At.far ?_ (by dsimp only; omega) _ | with_reducible apply At.al | with_reducible apply At.drw | with_reducible apply At.dr)) hb8
    replace k_y : At v8 (v3.heap.size) 23 #[.int .i64 0, .int .i64 0] := At.bel (by repeat (first | with_reducible assumption | with_reducible apply At.put0 | with_reducible apply At.put1 | with_reducible refine At.far ?_ (by dsimp only; omega) _ | with_reducible apply At.al | with_reducible apply At.drw | with_reducible apply At.dr)) hb8
    replace k_z : At v8 (v4.heap.size) 23 #[.int .i64 0, .int .i64 0] := At.bel (by repeat (first | with_reducible assumption | with_reducible apply At.put0 | with_reducible apply At.put1 | with_reducible refine At.far ?_ (by dsimp only; omega) _ | with_reducible apply At.al | with_reducible apply At.drw | with_reducible apply At.dr)) hb8
    replace HB : Below w.heap.size w v8 := below_then (by repeat (first | with_reducible assumption | with_reducible exact Below.refl _ _ | with_reducible refine below_al ?_ _ | with_reducible refine below_drew ?_ | with_reducible refine below_drewN ?_ _ | with_reducible refine below_set ?_ (by dsimp only; omega) _)) hb8
    clear hb8
    have Lk_a := k_a.lt
    obtain ⟨k_a0, k_a1, k_a2, k_a3⟩ := k_a.two
    have Lk_n := k_n.lt
    obtain ⟨k_n0, k_n1, k_n2, k_n3⟩ := k_n.two
    have Lk_x := k_x.lt
    obtain ⟨k_x0, k_x1, k_x2, k_x3⟩ := k_x.two
    have Lk_y := k_y.lt
    obtain ⟨k_y0, k_y1, k_y2, k_y3⟩ := k_y.two
    clear k_x0 k_x1 k_x2 k_x3 Lk_x k_y0 k_y1 k_y2 k_y3 Lk_y
    have Lk_z := k_z.lt
    obtain ⟨k_z0, k_z1, k_z2, k_z3⟩ := k_z.two
    go_wp2_with fail
    refine (wrong_yes _).mono ?_
    rintro e v9 ⟨rfl, hb9⟩
    clear k_a0 k_a1 k_a2 k_a3 Lk_a k_n0 k_n1 k_n2 k_n3 Lk_n k_z0 k_z1 k_z2 k_z3 Lk_z
    replace k_a : At v9 (w.heap.size) 23 #[.int .i64 al, .int .i64 ah] := At.bel (by repeat (first | with_reducible assumption | with_reducible apply At.put0 | with_reducible apply At.put1 | with_reducible refine At.far ?_ (by dsimp only; omega) _ | with_reducible apply At.al | with_reducible apply At.drw | with_reducible apply At.dr)) hb9
    replace k_n : At v9 (w.heap.size + 1) 34 #[.int .i64 fn, .int .i64 fd] := At.bel (by repeat (first | with_reducible assumption | with_reducible apply At.put0 | with_reducible apply At.put1 | with_reducible refine At.far ?_ (by dsimp only; omega) _ | with_reducible apply At.al | with_reducible apply At.drw | with_reducible apply At.dr)) hb9
    replace k_x : At v9 (v2.heap.size) 23 #[.int .i64 0, .int .i64 0] := At.bel (by repeat (first | with_reducible assumption | with_reducible apply At.put0 | with_reducible apply At.put1 | with_reducible refine At.far ?_ (by dsimp only; omega) _ | with_reducible apply At.al | with_reducible apply At.drw | with_reducible apply At.dr)) hb9
    replace k_y : At v9 (v3.heap.size) 23 #[.int .i64 0, .int .i64 0] := At.bel (by repeat (first | with_reducible assumption | with_reducible apply At.put0 | with_reducible apply At.put1 | with_reducible refine At.far ?_ (by dsimp only; omega) _ | with_reducible apply At.al | with_reducible apply At.drw | with_reducible apply At.dr)) hb9
    replace k_z : At v9 (v4.heap.size) 23 #[.int .i64 0, .int .i64 0] := At.bel (by repeat (first | with_reducible assumption | with_reducible apply At.put0 | with_reducible apply At.put1 | with_reducible refine At.far ?_ (by dsimp only; omega) _ | with_reducible apply At.al | with_reducible apply At.drw | with_reducible apply At.dr)) hb9
    replace HB : Below w.heap.size w v9 := below_then (by repeat (first | with_reducible assumption | with_reducible exact Below.refl _ _ | with_reducible refine below_al ?_ _ | with_reducible refine below_drew ?_ | with_reducible refine below_drewN ?_ _ | with_reducible refine below_set ?_ (by dsimp only; omega) _)) hb9
    clear hb9
    have Lk_a := k_a.lt
    obtain ⟨k_a0, k_a1, k_a2, k_a3⟩ := k_a.two
    have Lk_n := k_n.lt
    obtain ⟨k_n0, k_n1, k_n2, k_n3⟩ := k_n.two
    have Lk_z := k_z.lt
    obtain ⟨k_z0, k_z1, k_z2, k_z3⟩ := k_z.two
    go_wp2_with fail
    go_ret
    exact ⟨rfl, (by repeat (first | with_reducible assumption | with_reducible exact Below.refl _ _ | with_reducible refine below_al ?_ _ | with_reducible refine below_drew ?_ | with_reducible refine below_drewN ?_ _ | with_reducible refine below_set ?_ (by dsimp only; omega) _))⟩

theorem spanScales_walk (al ah num den fn fd unit : Int) (_ : (Lit.int .i64 al).wf = true) (_ : (Lit.int .i64 ah).wf = true) (_ : (Lit.int .i64 num).wf = true) (_ : (Lit.int .i64 den).wf = true) (_ : (Lit.int .i64 fn).wf = true) (_ : (Lit.int .i64 fd).wf = true) (_ : (Lit.int .i64 unit).wf = true) (w : World) :
    Calls Try.prog 4 #[sp al ah, .int .i64 num, .int .i64 den, .agg #[.int .i64 fn, .int .i64 fd], .int .i64 unit] w fun e w' => e = .returned (.bool true) ∧ Below w.heap.size w w' := by
  cases h1 : validB al ah <;> cases h2 : fracB fn fd
  · exact spanScales_00 al ah num den fn fd unit h1 h2 w
  · exact spanScales_01 al ah num den fn fd unit h1 h2 w
  · exact spanScales_10 al ah num den fn fd unit h1 h2 w
  · exact spanScales_11 al ah num den fn fd unit h1 h2 w

#print axioms spanScales_walk

end Go.Proofs.Ytgipfmleefojbaa
