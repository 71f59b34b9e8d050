/- The examples of the chapter hold. -/
import Derived.Test.YtgipfmleefojbaaOf
import Derived.Test.YtgipfmleefojbaaRg
set_option linter.unusedVariables false
namespace Go.Proofs.Ytgipfmleefojbaa
open Go.ChangeShapes Go.WideShapes Go.ChangeAt Go.RowKit

set_option maxRecDepth 100000 in
set_option maxHeartbeats 2000000 in
theorem awake_any (w : World) :
    Calls Try.prog 11 #[] w fun e w' => e = .returned (.bool true) ∧ Below w.heap.size w w' := by
  have O0 := Lib.hid (fun w => of_any (-2 : Int) (3 : Int) w)
  rw [show minI (-2 : Int) (3 : Int) = -2 from by decide, show maxI (-2 : Int) (3 : Int) = 3 from by decide] at O0
  have O1 := Lib.hid (fun w => of_any (4 : Int) (5 : Int) w)
  rw [show minI (4 : Int) (5 : Int) = 4 from by decide, show maxI (4 : Int) (5 : Int) = 5 from by decide] at O1
  have O2 := Lib.hid (fun w => of_any (7 : Int) (8 : Int) w)
  rw [show minI (7 : Int) (8 : Int) = 7 from by decide, show maxI (7 : Int) (8 : Int) = 8 from by decide] at O2
  have O3 := Lib.hid (fun w => of_any (-3 : Int) (-2 : Int) w)
  rw [show minI (-3 : Int) (-2 : Int) = -3 from by decide, show maxI (-3 : Int) (-2 : Int) = -2 from by decide] at O3
  have O4 := Lib.hid (fun w => of_any (2 : Int) (17 : Int) w)
  rw [show minI (2 : Int) (17 : Int) = 2 from by decide, show maxI (2 : Int) (17 : Int) = 17 from by decide] at O4
  have O5 := Lib.hid (fun w => of_any (-1 : Int) (1 : Int) w)
  rw [show minI (-1 : Int) (1 : Int) = -1 from by decide, show maxI (-1 : Int) (1 : Int) = 1 from by decide] at O5
  have O6 := Lib.hid (fun w => of_any (-10 : Int) (15 : Int) w)
  rw [show minI (-10 : Int) (15 : Int) = -10 from by decide, show maxI (-10 : Int) (15 : Int) = 15 from by decide] at O6
  have O7 := Lib.hid (fun w => of_any (-4 : Int) (-2 : Int) w)
  rw [show minI (-4 : Int) (-2 : Int) = -4 from by decide, show maxI (-4 : Int) (-2 : Int) = -2 from by decide] at O7
  have O8 := Lib.hid (fun w => of_any (1 : Int) (5 : Int) w)
  rw [show minI (1 : Int) (5 : Int) = 1 from by decide, show maxI (1 : Int) (5 : Int) = 5 from by decide] at O8
  have O9 := Lib.hid (fun w => of_any (23 : Int) (24 : Int) w)
  rw [show minI (23 : Int) (24 : Int) = 23 from by decide, show maxI (23 : Int) (24 : Int) = 24 from by decide] at O9
  have O10 := Lib.hid (fun w => of_any (-2 : Int) (2 : Int) w)
  rw [show minI (-2 : Int) (2 : Int) = -2 from by decide, show maxI (-2 : Int) (2 : Int) = 2 from by decide] at O10
  have M := Lib.hid (fun w => mul_any (-2) 3 4 5 w)
  rw [show mulS (-2) 3 4 5 = (-10, 15, 0) from by decide] at M
  have D := Lib.hid (fun w => div_any 7 8 (-3) (-2) w)
  rw [show divS 7 8 (-3) (-2) = (-4, -2, 0) from by decide] at D
  have R := Lib.hid (fun w => rootI_any 2 17 w)
  rw [show rootV 2 17 = (1, 5, 0) from by decide] at R
  have F := Lib.hid (fun w => of_span_any 7 3 10 w)
  rw [show ofS 7 3 10 = (23, 24, 0) from by decide] at F
  have S := Lib.hid (fun w => tim_any (-1) 1 5 (-3) w)
  rw [show timS (-1) 1 5 (-3) = (-2, 2, 0) from by decide] at S
  go_enter Try.func11, Try.ntmps11
  go_wp2_with fail
  refine (O0.out _).mono ?_
  rintro e v1 ⟨rfl, hb1⟩
  have HB : Below w.heap.size w v1 := below_then (by repeat (first | with_reducible assumption | with_reducible exact Below.refl _ _ | with_reducible refine below_al ?_ _ | with_reducible refine below_drew ?_ | with_reducible refine below_drewN ?_ _ | with_reducible refine below_set ?_ (by dsimp only; omega) _)) hb1
  clear hb1
  go_wp2_with fail
  refine (O1.out _).mono ?_
  rintro e v2 ⟨rfl, hb2⟩
  replace HB : Below w.heap.size w v2 := below_then (by repeat (first | with_reducible assumption | with_reducible exact Below.refl _ _ | with_reducible refine below_al ?_ _ | with_reducible refine below_drew ?_ | with_reducible refine below_drewN ?_ _ | with_reducible refine below_set ?_ (by dsimp only; omega) _)) hb2
  clear hb2
  go_wp2_with fail
  refine (M.out _).mono ?_
  rintro e v3 ⟨rfl, hb3⟩
  replace HB : Below w.heap.size w v3 := below_then (by repeat (first | with_reducible assumption | with_reducible exact Below.refl _ _ | with_reducible refine below_al ?_ _ | with_reducible refine below_drew ?_ | with_reducible refine below_drewN ?_ _ | with_reducible refine below_set ?_ (by dsimp only; omega) _)) hb3
  clear hb3
  go_wp2_with fail
  refine (O2.out _).mono ?_
  rintro e v4 ⟨rfl, hb4⟩
  have k_a : At v4 (v3.heap.size) 23 #[.int .i64 (-10), .int .i64 15] := At.bel (by (repeat (first | (with_reducible apply At.new'; (focus (simp; done))) | with_reducible apply At.al | with_reducible apply At.drw | with_reducible apply At.dr))) hb4
  replace HB : Below w.heap.size w v4 := below_then (by repeat (first | with_reducible assumption | with_reducible exact Below.refl _ _ | with_reducible refine below_al ?_ _ | with_reducible refine below_drew ?_ | with_reducible refine below_drewN ?_ _ | with_reducible refine below_set ?_ (by dsimp only; omega) _)) hb4
  clear hb4
  go_wp2_with fail
  refine (O3.out _).mono ?_
  rintro e v5 ⟨rfl, hb5⟩
  replace k_a : At v5 (v3.heap.size) 23 #[.int .i64 (-10), .int .i64 15] := At.bel (by repeat (first | with_reducible assumption | with_reducible apply At.put0 | with_reducible apply At.put1 | with_reducible refine At.far ?_ (by dsimp only; omega) _ | with_reducible apply At.al | with_reducible apply At.drw | with_reducible apply At.dr)) hb5
  replace HB : Below w.heap.size w v5 := below_then (by repeat (first | with_reducible assumption | with_reducible exact Below.refl _ _ | with_reducible refine below_al ?_ _ | with_reducible refine below_drew ?_ | with_reducible refine below_drewN ?_ _ | with_reducible refine below_set ?_ (by dsimp only; omega) _)) hb5
  clear hb5
  go_wp2_with fail
  refine (D.out _).mono ?_
  rintro e v6 ⟨rfl, hb6⟩
  replace k_a : At v6 (v3.heap.size) 23 #[.int .i64 (-10), .int .i64 15] := At.bel (by repeat (first | with_reducible assumption | with_reducible apply At.put0 | with_reducible apply At.put1 | with_reducible refine At.far ?_ (by dsimp only; omega) _ | with_reducible apply At.al | with_reducible apply At.drw | with_reducible apply At.dr)) hb6
  replace HB : Below w.heap.size w v6 := below_then (by repeat (first | with_reducible assumption | with_reducible exact Below.refl _ _ | with_reducible refine below_al ?_ _ | with_reducible refine below_drew ?_ | with_reducible refine below_drewN ?_ _ | with_reducible refine below_set ?_ (by dsimp only; omega) _)) hb6
  clear hb6
  go_wp2_with fail
  refine (O4.out _).mono ?_
  rintro e v7 ⟨rfl, hb7⟩
  replace k_a : At v7 (v3.heap.size) 23 #[.int .i64 (-10), .int .i64 15] := At.bel (by repeat (first | with_reducible assumption | with_reducible apply At.put0 | with_reducible apply At.put1 | with_reducible refine At.far ?_ (by dsimp only; omega) _ | with_reducible apply At.al | with_reducible apply At.drw | with_reducible apply At.dr)) hb7
  have k_b : At v7 (v6.heap.size) 23 #[.int .i64 (-4), .int .i64 (-2)] := At.bel (by (repeat (first | (with_reducible apply At.new'; (focus (simp; done))) | with_reducible apply At.al | with_reducible apply At.drw | with_reducible apply At.dr))) hb7
  replace HB : Below w.heap.size w v7 := below_then (by repeat (first | with_reducible assumption | with_reducible exact Below.refl _ _ | with_reducible refine below_al ?_ _ | with_reducible refine below_drew ?_ | with_reducible refine below_drewN ?_ _ | with_reducible refine below_set ?_ (by dsimp only; omega) _)) hb7
  clear hb7
  go_wp2_with fail
  refine (R.out _).mono ?_
  rintro e v8 ⟨rfl, hb8⟩
  replace k_a : At v8 (v3.heap.size) 23 #[.int .i64 (-10), .int .i64 15] := At.bel (by repeat (first | with_reducible assumption | with_reducible apply At.put0 | with_reducible apply At.put1 | with_reducible refine At.far ?_ (by dsimp only; omega) _ | with_reducible apply At.al | with_reducible apply At.drw | with_reducible apply At.dr)) hb8
  replace k_b : At v8 (v6.heap.size) 23 #[.int .i64 (-4), .int .i64 (-2)] := At.bel (by repeat (first | with_reducible assumption | with_reducible apply At.put0 | with_reducible apply At.put1 | with_reducible refine At.far ?_ (by dsimp only; omega) _ | with_reducible apply At.al | with_reducible apply At.drw | with_reducible apply At.dr)) hb8
  replace HB : Below w.heap.size w v8 := below_then (by repeat (first | with_reducible assumption | with_reducible exact Below.refl _ _ | with_reducible refine below_al ?_ _ | with_reducible refine below_drew ?_ | with_reducible refine below_drewN ?_ _ | with_reducible refine below_set ?_ (by dsimp only; omega) _)) hb8
  clear hb8
  go_wp2_with fail
  refine (F.out _).mono ?_
  rintro e v9 ⟨rfl, hb9⟩
  replace k_a : At v9 (v3.heap.size) 23 #[.int .i64 (-10), .int .i64 15] := At.bel (by repeat (first | with_reducible assumption | with_reducible apply At.put0 | with_reducible apply At.put1 | with_reducible refine At.far ?_ (by dsimp only; omega) _ | with_reducible apply At.al | with_reducible apply At.drw | with_reducible apply At.dr)) hb9
  replace k_b : At v9 (v6.heap.size) 23 #[.int .i64 (-4), .int .i64 (-2)] := At.bel (by repeat (first | with_reducible assumption | with_reducible apply At.put0 | with_reducible apply At.put1 | with_reducible refine At.far ?_ (by dsimp only; omega) _ | with_reducible apply At.al | with_reducible apply At.drw | with_reducible apply At.dr)) hb9
  have k_c : At v9 (v8.heap.size) 23 #[.int .i64 1, .int .i64 5] := At.bel (by (repeat (first | (with_reducible apply At.new'; (focus (simp; done))) | with_reducible apply At.al | with_reducible apply At.drw | with_reducible apply At.dr))) hb9
  replace HB : Below w.heap.size w v9 := below_then (by repeat (first | with_reducible assumption | with_reducible exact Below.refl _ _ | with_reducible refine below_al ?_ _ | with_reducible refine below_drew ?_ | with_reducible refine below_drewN ?_ _ | with_reducible refine below_set ?_ (by dsimp only; omega) _)) hb9
  clear hb9
  go_wp2_with fail
  refine (O5.out _).mono ?_
  rintro e v10 ⟨rfl, hb10⟩
  replace k_a : At v10 (v3.heap.size) 23 #[.int .i64 (-10), .int .i64 15] := At.bel (by repeat (first | with_reducible assumption | with_reducible apply At.put0 | with_reducible apply At.put1 | with_reducible refine At.far ?_ (by dsimp only; omega) _ | with_reducible apply At.al | with_reducible apply At.drw | with_reducible apply At.dr)) hb10
  replace k_b : At v10 (v6.heap.size) 23 #[.int .i64 (-4), .int .i64 (-2)] := At.bel (by repeat (first | with_reducible assumption | with_reducible apply At.put0 | with_reducible apply At.put1 | with_reducible refine At.far ?_ (by dsimp only; omega) _ | with_reducible apply At.al | with_reducible apply At.drw | with_reducible apply At.dr)) hb10
  replace k_c : At v10 (v8.heap.size) 23 #[.int .i64 1, .int .i64 5] := At.bel (by repeat (first | with_reducible assumption | with_reducible apply At.put0 | with_reducible apply At.put1 | with_reducible refine At.far ?_ (by dsimp only; omega) _ | with_reducible apply At.al | with_reducible apply At.drw | with_reducible apply At.dr)) hb10
  have k_d : At v10 (v9.heap.size) 23 #[.int .i64 23, .int .i64 24] := At.bel (by (repeat (first | (with_reducible apply At.new'; (focus (simp; done))) | with_reducible apply At.al | with_reducible apply At.drw | with_reducible apply At.dr))) hb10
  replace HB : Below w.heap.size w v10 := below_then (by repeat (first | with_reducible assumption | with_reducible exact Below.refl _ _ | with_reducible refine below_al ?_ _ | with_reducible refine below_drew ?_ | with_reducible refine below_drewN ?_ _ | with_reducible refine below_set ?_ (by dsimp only; omega) _)) hb10
  clear hb10
  go_wp2_with fail
  refine (S.out _).mono ?_
  rintro e v11 ⟨rfl, hb11⟩
  replace k_a : At v11 (v3.heap.size) 23 #[.int .i64 (-10), .int .i64 15] := At.bel (by repeat (first | with_reducible assumption | with_reducible apply At.put0 | with_reducible apply At.put1 | with_reducible refine At.far ?_ (by dsimp only; omega) _ | with_reducible apply At.al | with_reducible apply At.drw | with_reducible apply At.dr)) hb11
  replace k_b : At v11 (v6.heap.size) 23 #[.int .i64 (-4), .int .i64 (-2)] := At.bel (by repeat (first | with_reducible assumption | with_reducible apply At.put0 | with_reducible apply At.put1 | with_reducible refine At.far ?_ (by dsimp only; omega) _ | with_reducible apply At.al | with_reducible apply At.drw | with_reducible apply At.dr)) hb11
  replace k_c : At v11 (v8.heap.size) 23 #[.int .i64 1, .int .i64 5] := At.bel (by repeat (first | with_reducible assumption | with_reducible apply At.put0 | with_reducible apply At.put1 | with_reducible refine At.far ?_ (by dsimp only; omega) _ | with_reducible apply At.al | with_reducible apply At.drw | with_reducible apply At.dr)) hb11
  replace k_d : At v11 (v9.heap.size) 23 #[.int .i64 23, .int .i64 24] := At.bel (by repeat (first | with_reducible assumption | with_reducible apply At.put0 | with_reducible apply At.put1 | with_reducible refine At.far ?_ (by dsimp only; omega) _ | with_reducible apply At.al | with_reducible apply At.drw | with_reducible apply At.dr)) hb11
  replace HB : Below w.heap.size w v11 := below_then (by repeat (first | with_reducible assumption | with_reducible exact Below.refl _ _ | with_reducible refine below_al ?_ _ | with_reducible refine below_drew ?_ | with_reducible refine below_drewN ?_ _ | with_reducible refine below_set ?_ (by dsimp only; omega) _)) hb11
  clear hb11
  go_wp2_with fail
  generalize hW : World.alloc _ _ = W
  replace k_a : At W (v3.heap.size) 23 #[.int .i64 (-10), .int .i64 15] := by rw [← hW]; repeat (first | with_reducible assumption | with_reducible apply At.put0 | with_reducible apply At.put1 | with_reducible refine At.far ?_ (by dsimp only; omega) _ | with_reducible apply At.al | with_reducible apply At.drw | with_reducible apply At.dr)
  replace k_b : At W (v6.heap.size) 23 #[.int .i64 (-4), .int .i64 (-2)] := by rw [← hW]; repeat (first | with_reducible assumption | with_reducible apply At.put0 | with_reducible apply At.put1 | with_reducible refine At.far ?_ (by dsimp only; omega) _ | with_reducible apply At.al | with_reducible apply At.drw | with_reducible apply At.dr)
  replace k_c : At W (v8.heap.size) 23 #[.int .i64 1, .int .i64 5] := by rw [← hW]; repeat (first | with_reducible assumption | with_reducible apply At.put0 | with_reducible apply At.put1 | with_reducible refine At.far ?_ (by dsimp only; omega) _ | with_reducible apply At.al | with_reducible apply At.drw | with_reducible apply At.dr)
  replace k_d : At W (v9.heap.size) 23 #[.int .i64 23, .int .i64 24] := by rw [← hW]; repeat (first | with_reducible assumption | with_reducible apply At.put0 | with_reducible apply At.put1 | with_reducible refine At.far ?_ (by dsimp only; omega) _ | with_reducible apply At.al | with_reducible apply At.drw | with_reducible apply At.dr)
  have k_x : At W (v11.heap.size) 23 #[.int .i64 (-2), .int .i64 2] := by rw [← hW]; (repeat (first | (with_reducible apply At.new'; (focus (simp; done))) | with_reducible apply At.al | with_reducible apply At.drw | with_reducible apply At.dr))
  replace HB : Below w.heap.size w W := by rw [← hW]; repeat (first | with_reducible assumption | with_reducible exact Below.refl _ _ | with_reducible refine below_al ?_ _ | with_reducible refine below_drew ?_ | with_reducible refine below_drewN ?_ _ | with_reducible refine below_set ?_ (by dsimp only; omega) _)
  clear hW
  have Kk_a0 := cell_regrown k_a.c0
  have Kk_a1 := cell_regrown k_a.c1
  have Kk_b0 := cell_regrown k_b.c0
  have Kk_b1 := cell_regrown k_b.c1
  have Kk_c0 := cell_regrown k_c.c0
  have Kk_c1 := cell_regrown k_c.c1
  have Kk_d0 := cell_regrown k_d.c0
  have Kk_d1 := cell_regrown k_d.c1
  have Kk_x0 := cell_regrown k_x.c0
  have Kk_x1 := cell_regrown k_x.c1
  refine wp_region_quiet_below (by kernel_rfl) (by kernel_rfl) ?_
  repeat (go_big_quiet_step ((first | with_reducible exact regrown_call O6.out | with_reducible exact regrown_call O7.out | with_reducible exact regrown_call O8.out | with_reducible exact regrown_call O9.out | with_reducible exact regrown_call O10.out)))
  refine wpQuiet_nil ?_
  intro v12 hb12'
  have hb12 := below_of_regrown hb12'
  clear hb12' Kk_a0 Kk_a1 Kk_b0 Kk_b1 Kk_c0 Kk_c1 Kk_d0 Kk_d1 Kk_x0 Kk_x1
  replace k_a : At v12 (v3.heap.size) 23 #[.int .i64 (-10), .int .i64 15] := At.bel (by repeat (first | with_reducible assumption | with_reducible apply At.put0 | with_reducible apply At.put1 | with_reducible refine At.far ?_ (by dsimp only; omega) _ | with_reducible apply At.al | with_reducible apply At.drw | with_reducible apply At.dr)) hb12
  replace k_b : At v12 (v6.heap.size) 23 #[.int .i64 (-4), .int .i64 (-2)] := At.bel (by repeat (first | with_reducible assumption | with_reducible apply At.put0 | with_reducible apply At.put1 | with_reducible refine At.far ?_ (by dsimp only; omega) _ | with_reducible apply At.al | with_reducible apply At.drw | with_reducible apply At.dr)) hb12
  replace k_c : At v12 (v8.heap.size) 23 #[.int .i64 1, .int .i64 5] := At.bel (by repeat (first | with_reducible assumption | with_reducible apply At.put0 | with_reducible apply At.put1 | with_reducible refine At.far ?_ (by dsimp only; omega) _ | with_reducible apply At.al | with_reducible apply At.drw | with_reducible apply At.dr)) hb12
  replace k_d : At v12 (v9.heap.size) 23 #[.int .i64 23, .int .i64 24] := At.bel (by repeat (first | with_reducible assumption | with_reducible apply At.put0 | with_reducible apply At.put1 | with_reducible refine At.far ?_ (by dsimp only; omega) _ | with_reducible apply At.al | with_reducible apply At.drw | with_reducible apply At.dr)) hb12
  replace k_x : At v12 (v11.heap.size) 23 #[.int .i64 (-2), .int .i64 2] := At.bel (by repeat (first | with_reducible assumption | with_reducible apply At.put0 | with_reducible apply At.put1 | with_reducible refine At.far ?_ (by dsimp only; omega) _ | with_reducible apply At.al | with_reducible apply At.drw | with_reducible apply At.dr)) hb12
  replace HB : Below w.heap.size w v12 := below_then (by repeat (first | with_reducible assumption | with_reducible exact Below.refl _ _ | with_reducible refine below_al ?_ _ | with_reducible refine below_drew ?_ | with_reducible refine below_drewN ?_ _ | with_reducible refine below_set ?_ (by dsimp only; omega) _)) hb12
  clear hb12
  go_wp2_with fail
  go_ret
  exact ⟨rfl, HB⟩

#print axioms awake_any

end Go.Proofs.Ytgipfmleefojbaa
