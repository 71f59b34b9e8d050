/- SpanInside's walk: it returns true. -/
import Derived.Test.YtgipfmleefojbaaAw
import Derived.Test.YtgipfmleefojbaaAtt
import Derived.Test.YtgipfmleefojbaaRMul
import Derived.Test.YtgipfmleefojbaaRDiv
import Derived.Test.YtgipfmleefojbaaMQ
import Derived.Deep.DeepCutAuto
import Derived.Deep.CutBlock
set_option linter.unusedVariables false
namespace Go.Proofs.Ytgipfmleefojbaa
open Go.ChangeShapes Go.WideShapes Go.ChangeAt Go.RowKit

set_option maxRecDepth 100000 in
set_option maxHeartbeats 8000000 in
theorem inside_core (al ah bl bh i k x y s1 s2 es d1 d2 fs p1 p2 gs q1 q2 qs n fl cl : Int) (bx1 : -1152921504606846976 ≤ x) (bx2 : x ≤ 1152921504606846976) (by1 : -1152921504606846976 ≤ y) (by2 : y ≤ 1152921504606846976)
    (HW1 : Hid (∀ w, Calls Try.prog 14 #[sp al ah] w fun e w' => e = .returned (.bool true) ∧ Below w.heap.size w w'))
    (HW2 : Hid (∀ w, Calls Try.prog 14 #[sp bl bh] w fun e w' => e = .returned (.bool true) ∧ Below w.heap.size w w'))
    (HX : Hid (∀ w, Calls Try.prog 25 #[sp al ah, .int .u64 i] w fun e w' => e = .returned (.int .i64 x) ∧ Below w.heap.size w w'))
    (HY : Hid (∀ w, Calls Try.prog 25 #[sp bl bh, .int .u64 k] w fun e w' => e = .returned (.int .i64 y) ∧ Below w.heap.size w w'))
    (HA : Hid (∀ w, Calls Try.prog 26 #[sp al ah, sp bl bh] w fun e w' => e = .returned (spv (s1, s2, es)) ∧ Below w.heap.size w w'))
    (HS : Hid (∀ w, Calls Try.prog 27 #[sp al ah, sp bl bh] w fun e w' => e = .returned (spv (d1, d2, fs)) ∧ Below w.heap.size w w'))
    (HM : Hid (∀ w, Calls Try.prog 12 #[sp al ah, sp bl bh] w fun e w' => e = .returned (spv (p1, p2, gs)) ∧ Below w.heap.size w w'))
    (HD : Hid (∀ w, Calls Try.prog 13 #[sp al ah, sp bl bh] w fun e w' => e = .returned (spv (q1, q2, qs)) ∧ Below w.heap.size w w'))
    (HE : Hid (es = 0 ∧ (∀ w, Calls Try.prog 28 #[sp s1 s2, .int .i64 (x + y)] w fun e w' => e = .returned (.bool true) ∧ Below w.heap.size w w') ∨ es = 5))
    (HF : Hid (fs = 0 ∧ (∀ w, Calls Try.prog 28 #[sp d1 d2, .int .i64 (x - y)] w fun e w' => e = .returned (.bool true) ∧ Below w.heap.size w w') ∨ fs = 5))
    (HG : Hid (gs = 0 ∧ (∀ w, Calls Try.prog 29 #[.int .i64 x, .int .i64 y, .int .i64 1, .bool false] w fun e w' => e = .returned (.tuple #[.int .i64 n, .bool true]) ∧ Below w.heap.size w w') ∧ (∀ w, Calls Try.prog 28 #[sp p1 p2, .int .i64 n] w fun e w' => e = .returned (.bool true) ∧ Below w.heap.size w w') ∨ gs = 5))
    (HQ : Hid ((∀ w, Calls Try.prog 28 #[sp bl bh, .int .i64 0] w fun e w' => e = .returned (.bool true) ∧ Below w.heap.size w w') ∧ qs = 16 ∨ (∀ w, Calls Try.prog 28 #[sp bl bh, .int .i64 0] w fun e w' => e = .returned (.bool false) ∧ Below w.heap.size w w') ∧ qs = 0 ∧ (∀ w, Calls Try.prog 30 #[.int .i64 x, .int .i64 y] w fun e w' => e = .returned (.int .i64 fl) ∧ Below w.heap.size w w') ∧ (∀ w, Calls Try.prog 31 #[.int .i64 x, .int .i64 y] w fun e w' => e = .returned (.int .i64 cl) ∧ Below w.heap.size w w') ∧ q1 ≤ fl ∧ cl ≤ q2)) (w : World) :
    Calls Try.prog 6 #[sp al ah, sp bl bh, .int .u64 i, .int .u64 k] w fun e w' => e = .returned (.bool true) ∧ Below w.heap.size w w' := by
  go_enter Try.func6, Try.ntmps6
  go_wp2_with fail
  refine (awake_any _).mono ?_
  rintro e v1 ⟨rfl, hb1⟩
  have k_a : At v1 (w.heap.size) 23 #[.int .i64 al, .int .i64 ah] := At.bel (by (repeat (first | (with_reducible apply At.new'; (focus (simp; done))) | with_reducible apply At.al | with_reducible apply At.drw | with_reducible apply At.dr))) hb1
  have k_b : At v1 (w.heap.size + 1) 23 #[.int .i64 bl, .int .i64 bh] := At.bel (by (repeat (first | (with_reducible apply At.new'; (focus (simp; done))) | with_reducible apply At.al | with_reducible apply At.drw | with_reducible apply At.dr))) hb1
  have HB : Below w.heap.size w v1 := below_then (by repeat (first | with_reducible assumption | with_reducible exact Below.refl _ _ | with_reducible refine below_al ?_ _ | with_reducible refine below_drew ?_ | with_reducible refine below_drewN ?_ _ | with_reducible refine below_set ?_ (by dsimp only; omega) _)) hb1
  clear hb1
  have Lk_a := k_a.lt
  obtain ⟨k_a0, k_a1, k_a2, k_a3⟩ := k_a.two
  have Lk_b := k_b.lt
  obtain ⟨k_b0, k_b1, k_b2, k_b3⟩ := k_b.two
  go_wp2_with fail
  refine (HW1.out _).mono ?_
  rintro e v2 ⟨rfl, hb2⟩
  clear k_a0 k_a1 k_a2 k_a3 Lk_a k_b0 k_b1 k_b2 k_b3 Lk_b
  replace k_a : At v2 (w.heap.size) 23 #[.int .i64 al, .int .i64 ah] := At.bel (by repeat (first | with_reducible assumption | with_reducible apply At.put0 | with_reducible apply At.put1 | with_reducible refine At.far ?_ (by dsimp only; omega) _ | with_reducible apply At.al | with_reducible apply At.drw | with_reducible apply At.dr)) hb2
  replace k_b : At v2 (w.heap.size + 1) 23 #[.int .i64 bl, .int .i64 bh] := At.bel (by repeat (first | with_reducible assumption | with_reducible apply At.put0 | with_reducible apply At.put1 | with_reducible refine At.far ?_ (by dsimp only; omega) _ | with_reducible apply At.al | with_reducible apply At.drw | with_reducible apply At.dr)) hb2
  replace HB : Below w.heap.size w v2 := below_then (by repeat (first | with_reducible assumption | with_reducible exact Below.refl _ _ | with_reducible refine below_al ?_ _ | with_reducible refine below_drew ?_ | with_reducible refine below_drewN ?_ _ | with_reducible refine below_set ?_ (by dsimp only; omega) _)) hb2
  clear hb2
  have Lk_a := k_a.lt
  obtain ⟨k_a0, k_a1, k_a2, k_a3⟩ := k_a.two
  have Lk_b := k_b.lt
  obtain ⟨k_b0, k_b1, k_b2, k_b3⟩ := k_b.two
  go_wp2_with fail
  refine (HW2.out _).mono ?_
  rintro e v3 ⟨rfl, hb3⟩
  clear k_a0 k_a1 k_a2 k_a3 Lk_a k_b0 k_b1 k_b2 k_b3 Lk_b
  replace k_a : At v3 (w.heap.size) 23 #[.int .i64 al, .int .i64 ah] := At.bel (by repeat (first | with_reducible assumption | with_reducible apply At.put0 | with_reducible apply At.put1 | with_reducible refine At.far ?_ (by dsimp only; omega) _ | with_reducible apply At.al | with_reducible apply At.drw | with_reducible apply At.dr)) hb3
  replace k_b : At v3 (w.heap.size + 1) 23 #[.int .i64 bl, .int .i64 bh] := At.bel (by repeat (first | with_reducible assumption | with_reducible apply At.put0 | with_reducible apply At.put1 | with_reducible refine At.far ?_ (by dsimp only; omega) _ | with_reducible apply At.al | with_reducible apply At.drw | with_reducible apply At.dr)) hb3
  replace HB : Below w.heap.size w v3 := below_then (by repeat (first | with_reducible assumption | with_reducible exact Below.refl _ _ | with_reducible refine below_al ?_ _ | with_reducible refine below_drew ?_ | with_reducible refine below_drewN ?_ _ | with_reducible refine below_set ?_ (by dsimp only; omega) _)) hb3
  clear hb3
  have Lk_a := k_a.lt
  obtain ⟨k_a0, k_a1, k_a2, k_a3⟩ := k_a.two
  have Lk_b := k_b.lt
  obtain ⟨k_b0, k_b1, k_b2, k_b3⟩ := k_b.two
  go_wp2_with fail
  clear k_a0 k_a1 k_a2 k_a3 Lk_a k_b0 k_b1 k_b2 k_b3 Lk_b
  have Kk_a0 := cell_regrown k_a.c0
  have Kk_a1 := cell_regrown k_a.c1
  have Kk_b0 := cell_regrown k_b.c0
  have Kk_b1 := cell_regrown k_b.c1
  refine wp_region_quiet_below (by kernel_rfl) (by kernel_rfl) ?_
  repeat (go_big_quiet_step ((first | with_reducible exact regrown_call HX.out | with_reducible exact regrown_call HY.out)))
  refine wpQuiet_nil ?_
  intro v4 hb4'
  have hb4 := below_of_regrown hb4'
  clear hb4' Kk_a0 Kk_a1 Kk_b0 Kk_b1
  replace k_a : At v4 (w.heap.size) 23 #[.int .i64 al, .int .i64 ah] := At.bel (by repeat (first | with_reducible assumption | with_reducible apply At.put0 | with_reducible apply At.put1 | with_reducible refine At.far ?_ (by dsimp only; omega) _ | with_reducible apply At.al | with_reducible apply At.drw | with_reducible apply At.dr)) hb4
  replace k_b : At v4 (w.heap.size + 1) 23 #[.int .i64 bl, .int .i64 bh] := At.bel (by repeat (first | with_reducible assumption | with_reducible apply At.put0 | with_reducible apply At.put1 | with_reducible refine At.far ?_ (by dsimp only; omega) _ | with_reducible apply At.al | with_reducible apply At.drw | with_reducible apply At.dr)) hb4
  replace HB : Below w.heap.size w v4 := below_then (by repeat (first | with_reducible assumption | with_reducible exact Below.refl _ _ | with_reducible refine below_al ?_ _ | with_reducible refine below_drew ?_ | with_reducible refine below_drewN ?_ _ | with_reducible refine below_set ?_ (by dsimp only; omega) _)) hb4
  clear hb4
  have Lk_a := k_a.lt
  obtain ⟨k_a0, k_a1, k_a2, k_a3⟩ := k_a.two
  have Lk_b := k_b.lt
  obtain ⟨k_b0, k_b1, k_b2, k_b3⟩ := k_b.two
  go_wp2_with fail
  refine (HA.out _).mono ?_
  rintro e v5 ⟨rfl, hb5⟩
  clear k_a0 k_a1 k_a2 k_a3 Lk_a k_b0 k_b1 k_b2 k_b3 Lk_b
  replace k_a : At v5 (w.heap.size) 23 #[.int .i64 al, .int .i64 ah] := At.bel (by repeat (first | with_reducible assumption | with_reducible apply At.put0 | with_reducible apply At.put1 | with_reducible refine At.far ?_ (by dsimp only; omega) _ | with_reducible apply At.al | with_reducible apply At.drw | with_reducible apply At.dr)) hb5
  replace k_b : At v5 (w.heap.size + 1) 23 #[.int .i64 bl, .int .i64 bh] := At.bel (by repeat (first | with_reducible assumption | with_reducible apply At.put0 | with_reducible apply At.put1 | with_reducible refine At.far ?_ (by dsimp only; omega) _ | with_reducible apply At.al | with_reducible apply At.drw | with_reducible apply At.dr)) hb5
  replace HB : Below w.heap.size w v5 := below_then (by repeat (first | with_reducible assumption | with_reducible exact Below.refl _ _ | with_reducible refine below_al ?_ _ | with_reducible refine below_drew ?_ | with_reducible refine below_drewN ?_ _ | with_reducible refine below_set ?_ (by dsimp only; omega) _)) hb5
  clear hb5
  have Lk_a := k_a.lt
  obtain ⟨k_a0, k_a1, k_a2, k_a3⟩ := k_a.two
  have Lk_b := k_b.lt
  obtain ⟨k_b0, k_b1, k_b2, k_b3⟩ := k_b.two
  go_wp2_with fail
  refine (HS.out _).mono ?_
  rintro e v6 ⟨rfl, hb6⟩
  clear k_a0 k_a1 k_a2 k_a3 Lk_a k_b0 k_b1 k_b2 k_b3 Lk_b
  replace k_a : At v6 (w.heap.size) 23 #[.int .i64 al, .int .i64 ah] := At.bel (by repeat (first | with_reducible assumption | with_reducible apply At.put0 | with_reducible apply At.put1 | with_reducible refine At.far ?_ (by dsimp only; omega) _ | with_reducible apply At.al | with_reducible apply At.drw | with_reducible apply At.dr)) hb6
  replace k_b : At v6 (w.heap.size + 1) 23 #[.int .i64 bl, .int .i64 bh] := At.bel (by repeat (first | with_reducible assumption | with_reducible apply At.put0 | with_reducible apply At.put1 | with_reducible refine At.far ?_ (by dsimp only; omega) _ | with_reducible apply At.al | with_reducible apply At.drw | with_reducible apply At.dr)) hb6
  have k_s : At v6 (v5.heap.size) 23 #[.int .i64 s1, .int .i64 s2] := At.bel (by (repeat (first | (with_reducible apply At.new'; (focus (simp; done))) | with_reducible apply At.al | with_reducible apply At.drw | with_reducible apply At.dr))) hb6
  replace HB : Below w.heap.size w v6 := below_then (by repeat (first | with_reducible assumption | with_reducible exact Below.refl _ _ | with_reducible refine below_al ?_ _ | with_reducible refine below_drew ?_ | with_reducible refine below_drewN ?_ _ | with_reducible refine below_set ?_ (by dsimp only; omega) _)) hb6
  clear hb6
  have Lk_a := k_a.lt
  obtain ⟨k_a0, k_a1, k_a2, k_a3⟩ := k_a.two
  have Lk_b := k_b.lt
  obtain ⟨k_b0, k_b1, k_b2, k_b3⟩ := k_b.two
  go_wp2_with fail
  refine (HM.out _).mono ?_
  rintro e v7 ⟨rfl, hb7⟩
  clear k_a0 k_a1 k_a2 k_a3 Lk_a k_b0 k_b1 k_b2 k_b3 Lk_b
  replace k_a : At v7 (w.heap.size) 23 #[.int .i64 al, .int .i64 ah] := At.bel (by repeat (first | with_reducible assumption | with_reducible apply At.put0 | with_reducible apply At.put1 | with_reducible refine At.far ?_ (by dsimp only; omega) _ | with_reducible apply At.al | with_reducible apply At.drw | with_reducible apply At.dr)) hb7
  replace k_b : At v7 (w.heap.size + 1) 23 #[.int .i64 bl, .int .i64 bh] := At.bel (by repeat (first | with_reducible assumption | with_reducible apply At.put0 | with_reducible apply At.put1 | with_reducible refine At.far ?_ (by dsimp only; omega) _ | with_reducible apply At.al | with_reducible apply At.drw | with_reducible apply At.dr)) hb7
  replace k_s : At v7 (v5.heap.size) 23 #[.int .i64 s1, .int .i64 s2] := At.bel (by repeat (first | with_reducible assumption | with_reducible apply At.put0 | with_reducible apply At.put1 | with_reducible refine At.far ?_ (by dsimp only; omega) _ | with_reducible apply At.al | with_reducible apply At.drw | with_reducible apply At.dr)) hb7
  have k_d : At v7 (v6.heap.size) 23 #[.int .i64 d1, .int .i64 d2] := At.bel (by (repeat (first | (with_reducible apply At.new'; (focus (simp; done))) | with_reducible apply At.al | with_reducible apply At.drw | with_reducible apply At.dr))) hb7
  replace HB : Below w.heap.size w v7 := below_then (by repeat (first | with_reducible assumption | with_reducible exact Below.refl _ _ | with_reducible refine below_al ?_ _ | with_reducible refine below_drew ?_ | with_reducible refine below_drewN ?_ _ | with_reducible refine below_set ?_ (by dsimp only; omega) _)) hb7
  clear hb7
  have Lk_a := k_a.lt
  obtain ⟨k_a0, k_a1, k_a2, k_a3⟩ := k_a.two
  have Lk_b := k_b.lt
  obtain ⟨k_b0, k_b1, k_b2, k_b3⟩ := k_b.two
  go_wp2_with fail
  refine (HD.out _).mono ?_
  rintro e v8 ⟨rfl, hb8⟩
  clear k_a0 k_a1 k_a2 k_a3 Lk_a k_b0 k_b1 k_b2 k_b3 Lk_b
  replace k_a : At v8 (w.heap.size) 23 #[.int .i64 al, .int .i64 ah] := At.bel (by repeat (first | with_reducible assumption | with_reducible apply At.put0 | with_reducible apply At.put1 | with_reducible refine At.far ?_ (by dsimp only; omega) _ | with_reducible apply At.al | with_reducible apply At.drw | with_reducible apply At.dr)) hb8
  replace k_b : At v8 (w.heap.size + 1) 23 #[.int .i64 bl, .int .i64 bh] := At.bel (by repeat (first | with_reducible assumption | with_reducible apply At.put0 | with_reducible apply At.put1 | with_reducible refine At.far ?_ (by dsimp only; omega) _ | with_reducible apply At.al | with_reducible apply At.drw | with_reducible apply At.dr)) hb8
  replace k_s : At v8 (v5.heap.size) 23 #[.int .i64 s1, .int .i64 s2] := At.bel (by repeat (first | with_reducible assumption | with_reducible apply At.put0 | with_reducible apply At.put1 | with_reducible refine At.far ?_ (by dsimp only; omega) _ | with_reducible apply At.al | with_reducible apply At.drw | with_reducible apply At.dr)) hb8
  replace k_d : At v8 (v6.heap.size) 23 #[.int .i64 d1, .int .i64 d2] := At.bel (by repeat (first | with_reducible assumption | with_reducible apply At.put0 | with_reducible apply At.put1 | with_reducible refine At.far ?_ (by dsimp only; omega) _ | with_reducible apply At.al | with_reducible apply At.drw | with_reducible apply At.dr)) hb8
  have k_p : At v8 (v7.heap.size) 23 #[.int .i64 p1, .int .i64 p2] := At.bel (by (repeat (first | (with_reducible apply At.new'; (focus (simp; done))) | with_reducible apply At.al | with_reducible apply At.drw | with_reducible apply At.dr))) hb8
  replace HB : Below w.heap.size w v8 := below_then (by repeat (first | with_reducible assumption | with_reducible exact Below.refl _ _ | with_reducible refine below_al ?_ _ | with_reducible refine below_drew ?_ | with_reducible refine below_drewN ?_ _ | with_reducible refine below_set ?_ (by dsimp only; omega) _)) hb8
  clear hb8
  have Lk_a := k_a.lt
  obtain ⟨k_a0, k_a1, k_a2, k_a3⟩ := k_a.two
  have Lk_b := k_b.lt
  obtain ⟨k_b0, k_b1, k_b2, k_b3⟩ := k_b.two
  clear k_a0 k_a1 k_a2 k_a3 Lk_a k_b0 k_b1 k_b2 k_b3 Lk_b
  have Lk_s := k_s.lt
  obtain ⟨k_s0, k_s1, k_s2, k_s3⟩ := k_s.two
  have Lk_d := k_d.lt
  obtain ⟨k_d0, k_d1, k_d2, k_d3⟩ := k_d.two
  go_upto_region 10 with fail
  go_cut [98] (fun s98 wc => s98 = .bool false ∧ Below w.heap.size w wc ∧ At wc (w.heap.size) 23 #[.int .i64 al, .int .i64 ah] ∧ At wc (w.heap.size + 1) 23 #[.int .i64 bl, .int .i64 bh] ∧ At wc (v5.heap.size) 23 #[.int .i64 s1, .int .i64 s2] ∧ At wc (v6.heap.size) 23 #[.int .i64 d1, .int .i64 d2] ∧ At wc (v7.heap.size) 23 #[.int .i64 p1, .int .i64 p2] ∧ At wc (v8.heap.size) 23 #[.int .i64 q1, .int .i64 q2])
  case first =>
    rcases HE.out with he | he <;> rcases HF.out with hf | hf
    · obtain ⟨rfl, he⟩ := he
      have He := Lib.hid he
      clear he
      obtain ⟨rfl, hf⟩ := hf
      have Hf := Lib.hid hf
      clear hf
      go_wp2_with fail
      refine (He.out _).mono ?_
      rintro e v9 ⟨rfl, hb9⟩
      clear k_s0 k_s1 k_s2 k_s3 Lk_s k_d0 k_d1 k_d2 k_d3 Lk_d
      replace k_a : At v9 (w.heap.size) 23 #[.int .i64 al, .int .i64 ah] := At.bel (by repeat (first | with_reducible assumption | with_reducible apply At.put0 | with_reducible apply At.put1 | with_reducible refine At.far ?_ (by dsimp only; omega) _ | with_reducible apply At.al | with_reducible apply At.drw | with_reducible apply At.dr)) hb9
      replace k_b : At v9 (w.heap.size + 1) 23 #[.int .i64 bl, .int .i64 bh] := At.bel (by repeat (first | with_reducible assumption | with_reducible apply At.put0 | with_reducible apply At.put1 | with_reducible refine At.far ?_ (by dsimp only; omega) _ | with_reducible apply At.al | with_reducible apply At.drw | with_reducible apply At.dr)) hb9
      replace k_s : At v9 (v5.heap.size) 23 #[.int .i64 s1, .int .i64 s2] := At.bel (by repeat (first | with_reducible assumption | with_reducible apply At.put0 | with_reducible apply At.put1 | with_reducible refine At.far ?_ (by dsimp only; omega) _ | with_reducible apply At.al | with_reducible apply At.drw | with_reducible apply At.dr)) hb9
      replace k_d : At v9 (v6.heap.size) 23 #[.int .i64 d1, .int .i64 d2] := At.bel (by repeat (first | with_reducible assumption | with_reducible apply At.put0 | with_reducible apply At.put1 | with_reducible refine At.far ?_ (by dsimp only; omega) _ | with_reducible apply At.al | with_reducible apply At.drw | with_reducible apply At.dr)) hb9
      replace k_p : At v9 (v7.heap.size) 23 #[.int .i64 p1, .int .i64 p2] := At.bel (by repeat (first | with_reducible assumption | with_reducible apply At.put0 | with_reducible apply At.put1 | with_reducible refine At.far ?_ (by dsimp only; omega) _ | with_reducible apply At.al | with_reducible apply At.drw | with_reducible apply At.dr)) hb9
      have k_q : At v9 (v8.heap.size) 23 #[.int .i64 q1, .int .i64 q2] := At.bel (by (repeat (first | (with_reducible apply At.new'; (focus (simp; done))) | with_reducible apply At.al | with_reducible apply At.drw | with_reducible apply At.dr))) hb9
      replace HB : Below w.heap.size w v9 := below_then (by repeat (first | with_reducible assumption | with_reducible exact Below.refl _ _ | with_reducible refine below_al ?_ _ | with_reducible refine below_drew ?_ | with_reducible refine below_drewN ?_ _ | with_reducible refine below_set ?_ (by dsimp only; omega) _)) hb9
      clear hb9
      have Lk_s := k_s.lt
      obtain ⟨k_s0, k_s1, k_s2, k_s3⟩ := k_s.two
      have Lk_d := k_d.lt
      obtain ⟨k_d0, k_d1, k_d2, k_d3⟩ := k_d.two
      go_wp2_with fail
      refine (Hf.out _).mono ?_
      rintro e v10 ⟨rfl, hb10⟩
      clear k_s0 k_s1 k_s2 k_s3 Lk_s k_d0 k_d1 k_d2 k_d3 Lk_d
      replace k_a : At v10 (w.heap.size) 23 #[.int .i64 al, .int .i64 ah] := At.bel (by repeat (first | with_reducible assumption | with_reducible apply At.put0 | with_reducible apply At.put1 | with_reducible refine At.far ?_ (by dsimp only; omega) _ | with_reducible apply At.al | with_reducible apply At.drw | with_reducible apply At.dr)) hb10
      replace k_b : At v10 (w.heap.size + 1) 23 #[.int .i64 bl, .int .i64 bh] := At.bel (by repeat (first | with_reducible assumption | with_reducible apply At.put0 | with_reducible apply At.put1 | with_reducible refine At.far ?_ (by dsimp only; omega) _ | with_reducible apply At.al | with_reducible apply At.drw | with_reducible apply At.dr)) hb10
      replace k_s : At v10 (v5.heap.size) 23 #[.int .i64 s1, .int .i64 s2] := At.bel (by repeat (first | with_reducible assumption | with_reducible apply At.put0 | with_reducible apply At.put1 | with_reducible refine At.far ?_ (by dsimp only; omega) _ | with_reducible apply At.al | with_reducible apply At.drw | with_reducible apply At.dr)) hb10
      replace k_d : At v10 (v6.heap.size) 23 #[.int .i64 d1, .int .i64 d2] := At.bel (by repeat (first | with_reducible assumption | with_reducible apply At.put0 | with_reducible apply At.put1 | with_reducible refine At.far ?_ (by dsimp only; omega) _ | with_reducible apply At.al | with_reducible apply At.drw | with_reducible apply At.dr)) hb10
      replace k_p : At v10 (v7.heap.size) 23 #[.int .i64 p1, .int .i64 p2] := At.bel (by repeat (first | with_reducible assumption | with_reducible apply At.put0 | with_reducible apply At.put1 | with_reducible refine At.far ?_ (by dsimp only; omega) _ | with_reducible apply At.al | with_reducible apply At.drw | with_reducible apply At.dr)) hb10
      replace k_q : At v10 (v8.heap.size) 23 #[.int .i64 q1, .int .i64 q2] := At.bel (by repeat (first | with_reducible assumption | with_reducible apply At.put0 | with_reducible apply At.put1 | with_reducible refine At.far ?_ (by dsimp only; omega) _ | with_reducible apply At.al | with_reducible apply At.drw | with_reducible apply At.dr)) hb10
      replace HB : Below w.heap.size w v10 := below_then (by repeat (first | with_reducible assumption | with_reducible exact Below.refl _ _ | with_reducible refine below_al ?_ _ | with_reducible refine below_drew ?_ | with_reducible refine below_drewN ?_ _ | with_reducible refine below_set ?_ (by dsimp only; omega) _)) hb10
      clear hb10
      have Lk_s := k_s.lt
      obtain ⟨k_s0, k_s1, k_s2, k_s3⟩ := k_s.two
      have Lk_d := k_d.lt
      obtain ⟨k_d0, k_d1, k_d2, k_d3⟩ := k_d.two
      go_wp2_with fail
      go_meet
      exact ⟨rfl, (by repeat (first | with_reducible assumption | with_reducible exact Below.refl _ _ | with_reducible refine below_al ?_ _ | with_reducible refine below_drew ?_ | with_reducible refine below_drewN ?_ _ | with_reducible refine below_set ?_ (by dsimp only; omega) _)), (by repeat (first | with_reducible assumption | with_reducible apply At.put0 | with_reducible apply At.put1 | with_reducible refine At.far ?_ (by dsimp only; omega) _ | with_reducible apply At.al | with_reducible apply At.drw | with_reducible apply At.dr)), (by repeat (first | with_reducible assumption | with_reducible apply At.put0 | with_reducible apply At.put1 | with_reducible refine At.far ?_ (by dsimp only; omega) _ | with_reducible apply At.al | with_reducible apply At.drw | with_reducible apply At.dr)), (by repeat (first | with_reducible assumption | with_reducible apply At.put0 | with_reducible apply At.put1 | with_reducible refine At.far ?_ (by dsimp only; omega) _ | with_reducible apply At.al | with_reducible apply At.drw | with_reducible apply At.dr)), (by repeat (first | with_reducible assumption | with_reducible apply At.put0 | with_reducible apply At.put1 | with_reducible refine At.far ?_ (by dsimp only; omega) _ | with_reducible apply At.al | with_reducible apply At.drw | with_reducible apply At.dr)), (by repeat (first | with_reducible assumption | with_reducible apply At.put0 | with_reducible apply At.put1 | with_reducible refine At.far ?_ (by dsimp only; omega) _ | with_reducible apply At.al | with_reducible apply At.drw | with_reducible apply At.dr)), (by repeat (first | with_reducible assumption | with_reducible apply At.put0 | with_reducible apply At.put1 | with_reducible refine At.far ?_ (by dsimp only; omega) _ | with_reducible apply At.al | with_reducible apply At.drw | with_reducible apply At.dr))⟩
    · obtain ⟨rfl, he⟩ := he
      have He := Lib.hid he
      clear he
      subst hf
      go_wp2_with fail
      refine (He.out _).mono ?_
      rintro e v9 ⟨rfl, hb9⟩
      clear k_s0 k_s1 k_s2 k_s3 Lk_s k_d0 k_d1 k_d2 k_d3 Lk_d
      replace k_a : At v9 (w.heap.size) 23 #[.int .i64 al, .int .i64 ah] := At.bel (by repeat (first | with_reducible assumption | with_reducible apply At.put0 | with_reducible apply At.put1 | with_reducible refine At.far ?_ (by dsimp only; omega) _ | with_reducible apply At.al | with_reducible apply At.drw | with_reducible apply At.dr)) hb9
      replace k_b : At v9 (w.heap.size + 1) 23 #[.int .i64 bl, .int .i64 bh] := At.bel (by repeat (first | with_reducible assumption | with_reducible apply At.put0 | with_reducible apply At.put1 | with_reducible refine At.far ?_ (by dsimp only; omega) _ | with_reducible apply At.al | with_reducible apply At.drw | with_reducible apply At.dr)) hb9
      replace k_s : At v9 (v5.heap.size) 23 #[.int .i64 s1, .int .i64 s2] := At.bel (by repeat (first | with_reducible assumption | with_reducible apply At.put0 | with_reducible apply At.put1 | with_reducible refine At.far ?_ (by dsimp only; omega) _ | with_reducible apply At.al | with_reducible apply At.drw | with_reducible apply At.dr)) hb9
      replace k_d : At v9 (v6.heap.size) 23 #[.int .i64 d1, .int .i64 d2] := At.bel (by repeat (first | with_reducible assumption | with_reducible apply At.put0 | with_reducible apply At.put1 | with_reducible refine At.far ?_ (by dsimp only; omega) _ | with_reducible apply At.al | with_reducible apply At.drw | with_reducible apply At.dr)) hb9
      replace k_p : At v9 (v7.heap.size) 23 #[.int .i64 p1, .int .i64 p2] := At.bel (by repeat (first | with_reducible assumption | with_reducible apply At.put0 | with_reducible apply At.put1 | with_reducible refine At.far ?_ (by dsimp only; omega) _ | with_reducible apply At.al | with_reducible apply At.drw | with_reducible apply At.dr)) hb9
      have k_q : At v9 (v8.heap.size) 23 #[.int .i64 q1, .int .i64 q2] := At.bel (by (repeat (first | (with_reducible apply At.new'; (focus (simp; done))) | with_reducible apply At.al | with_reducible apply At.drw | with_reducible apply At.dr))) hb9
      replace HB : Below w.heap.size w v9 := below_then (by repeat (first | with_reducible assumption | with_reducible exact Below.refl _ _ | with_reducible refine below_al ?_ _ | with_reducible refine below_drew ?_ | with_reducible refine below_drewN ?_ _ | with_reducible refine below_set ?_ (by dsimp only; omega) _)) hb9
      clear hb9
      have Lk_s := k_s.lt
      obtain ⟨k_s0, k_s1, k_s2, k_s3⟩ := k_s.two
      have Lk_d := k_d.lt
      obtain ⟨k_d0, k_d1, k_d2, k_d3⟩ := k_d.two
      go_wp2_with fail
      go_meet
      exact ⟨rfl, (by repeat (first | with_reducible assumption | with_reducible exact Below.refl _ _ | with_reducible refine below_al ?_ _ | with_reducible refine below_drew ?_ | with_reducible refine below_drewN ?_ _ | with_reducible refine below_set ?_ (by dsimp only; omega) _)), (by repeat (first | with_reducible assumption | with_reducible apply At.put0 | with_reducible apply At.put1 | with_reducible refine At.far ?_ (by dsimp only; omega) _ | with_reducible apply At.al | with_reducible apply At.drw | with_reducible apply At.dr)), (by repeat (first | with_reducible assumption | with_reducible apply At.put0 | with_reducible apply At.put1 | with_reducible refine At.far ?_ (by dsimp only; omega) _ | with_reducible apply At.al | with_reducible apply At.drw | with_reducible apply At.dr)), (by repeat (first | with_reducible assumption | with_reducible apply At.put0 | with_reducible apply At.put1 | with_reducible refine At.far ?_ (by dsimp only; omega) _ | with_reducible apply At.al | with_reducible apply At.drw | with_reducible apply At.dr)), (by repeat (first | with_reducible assumption | with_reducible apply At.put0 | with_reducible apply At.put1 | with_reducible refine At.far ?_ (by dsimp only; omega) _ | with_reducible apply At.al | with_reducible apply At.drw | with_reducible apply At.dr)), (by repeat (first | with_reducible assumption | with_reducible apply At.put0 | with_reducible apply At.put1 | with_reducible refine At.far ?_ (by dsimp only; omega) _ | with_reducible apply At.al | with_reducible apply At.drw | with_reducible apply At.dr)), (by repeat (first | with_reducible assumption | with_reducible apply At.put0 | with_reducible apply At.put1 | with_reducible refine At.far ?_ (by dsimp only; omega) _ | with_reducible apply At.al | with_reducible apply At.drw | with_reducible apply At.dr))⟩
    · subst he
      obtain ⟨rfl, hf⟩ := hf
      have Hf := Lib.hid hf
      clear hf
      go_wp2_with fail
      refine (Hf.out _).mono ?_
      rintro e v9 ⟨rfl, hb9⟩
      clear k_s0 k_s1 k_s2 k_s3 Lk_s k_d0 k_d1 k_d2 k_d3 Lk_d
      replace k_a : At v9 (w.heap.size) 23 #[.int .i64 al, .int .i64 ah] := At.bel (by repeat (first | with_reducible assumption | with_reducible apply At.put0 | with_reducible apply At.put1 | with_reducible refine At.far ?_ (by dsimp only; omega) _ | with_reducible apply At.al | with_reducible apply At.drw | with_reducible apply At.dr)) hb9
      replace k_b : At v9 (w.heap.size + 1) 23 #[.int .i64 bl, .int .i64 bh] := At.bel (by repeat (first | with_reducible assumption | with_reducible apply At.put0 | with_reducible apply At.put1 | with_reducible refine At.far ?_ (by dsimp only; omega) _ | with_reducible apply At.al | with_reducible apply At.drw | with_reducible apply At.dr)) hb9
      replace k_s : At v9 (v5.heap.size) 23 #[.int .i64 s1, .int .i64 s2] := At.bel (by repeat (first | with_reducible assumption | with_reducible apply At.put0 | with_reducible apply At.put1 | with_reducible refine At.far ?_ (by dsimp only; omega) _ | with_reducible apply At.al | with_reducible apply At.drw | with_reducible apply At.dr)) hb9
      replace k_d : At v9 (v6.heap.size) 23 #[.int .i64 d1, .int .i64 d2] := At.bel (by repeat (first | with_reducible assumption | with_reducible apply At.put0 | with_reducible apply At.put1 | with_reducible refine At.far ?_ (by dsimp only; omega) _ | with_reducible apply At.al | with_reducible apply At.drw | with_reducible apply At.dr)) hb9
      replace k_p : At v9 (v7.heap.size) 23 #[.int .i64 p1, .int .i64 p2] := At.bel (by repeat (first | with_reducible assumption | with_reducible apply At.put0 | with_reducible apply At.put1 | with_reducible refine At.far ?_ (by dsimp only; omega) _ | with_reducible apply At.al | with_reducible apply At.drw | with_reducible apply At.dr)) hb9
      have k_q : At v9 (v8.heap.size) 23 #[.int .i64 q1, .int .i64 q2] := At.bel (by (repeat (first | (with_reducible apply At.new'; (focus (simp; done))) | with_reducible apply At.al | with_reducible apply At.drw | with_reducible apply At.dr))) hb9
      replace HB : Below w.heap.size w v9 := below_then (by repeat (first | with_reducible assumption | with_reducible exact Below.refl _ _ | with_reducible refine below_al ?_ _ | with_reducible refine below_drew ?_ | with_reducible refine below_drewN ?_ _ | with_reducible refine below_set ?_ (by dsimp only; omega) _)) hb9
      clear hb9
      have Lk_s := k_s.lt
      obtain ⟨k_s0, k_s1, k_s2, k_s3⟩ := k_s.two
      have Lk_d := k_d.lt
      obtain ⟨k_d0, k_d1, k_d2, k_d3⟩ := k_d.two
      go_wp2_with fail
      go_meet
      exact ⟨rfl, (by repeat (first | with_reducible assumption | with_reducible exact Below.refl _ _ | with_reducible refine below_al ?_ _ | with_reducible refine below_drew ?_ | with_reducible refine below_drewN ?_ _ | with_reducible refine below_set ?_ (by dsimp only; omega) _)), (by repeat (first | with_reducible assumption | with_reducible apply At.put0 | with_reducible apply At.put1 | with_reducible refine At.far ?_ (by dsimp only; omega) _ | with_reducible apply At.al | with_reducible apply At.drw | with_reducible apply At.dr)), (by repeat (first | with_reducible assumption | with_reducible apply At.put0 | with_reducible apply At.put1 | with_reducible refine At.far ?_ (by dsimp only; omega) _ | with_reducible apply At.al | with_reducible apply At.drw | with_reducible apply At.dr)), (by repeat (first | with_reducible assumption | with_reducible apply At.put0 | with_reducible apply At.put1 | with_reducible refine At.far ?_ (by dsimp only; omega) _ | with_reducible apply At.al | with_reducible apply At.drw | with_reducible apply At.dr)), (by repeat (first | with_reducible assumption | with_reducible apply At.put0 | with_reducible apply At.put1 | with_reducible refine At.far ?_ (by dsimp only; omega) _ | with_reducible apply At.al | with_reducible apply At.drw | with_reducible apply At.dr)), (by repeat (first | with_reducible assumption | with_reducible apply At.put0 | with_reducible apply At.put1 | with_reducible refine At.far ?_ (by dsimp only; omega) _ | with_reducible apply At.al | with_reducible apply At.drw | with_reducible apply At.dr)), (by repeat (first | with_reducible assumption | with_reducible apply At.put0 | with_reducible apply At.put1 | with_reducible refine At.far ?_ (by dsimp only; omega) _ | with_reducible apply At.al | with_reducible apply At.drw | with_reducible apply At.dr))⟩
    · subst he
      subst hf
      go_wp2_with fail
      go_meet
      exact ⟨rfl, (by repeat (first | with_reducible assumption | with_reducible exact Below.refl _ _ | with_reducible refine below_al ?_ _ | with_reducible refine below_drew ?_ | with_reducible refine below_drewN ?_ _ | with_reducible refine below_set ?_ (by dsimp only; omega) _)), (by repeat (first | with_reducible assumption | with_reducible apply At.put0 | with_reducible apply At.put1 | with_reducible refine At.far ?_ (by dsimp only; omega) _ | with_reducible apply At.al | with_reducible apply At.drw | with_reducible apply At.dr)), (by repeat (first | with_reducible assumption | with_reducible apply At.put0 | with_reducible apply At.put1 | with_reducible refine At.far ?_ (by dsimp only; omega) _ | with_reducible apply At.al | with_reducible apply At.drw | with_reducible apply At.dr)), (by repeat (first | with_reducible assumption | with_reducible apply At.put0 | with_reducible apply At.put1 | with_reducible refine At.far ?_ (by dsimp only; omega) _ | with_reducible apply At.al | with_reducible apply At.drw | with_reducible apply At.dr)), (by repeat (first | with_reducible assumption | with_reducible apply At.put0 | with_reducible apply At.put1 | with_reducible refine At.far ?_ (by dsimp only; omega) _ | with_reducible apply At.al | with_reducible apply At.drw | with_reducible apply At.dr)), (by repeat (first | with_reducible assumption | with_reducible apply At.put0 | with_reducible apply At.put1 | with_reducible refine At.far ?_ (by dsimp only; omega) _ | with_reducible apply At.al | with_reducible apply At.drw | with_reducible apply At.dr)), (by (repeat (first | (with_reducible apply At.new'; (focus (simp; done))) | with_reducible apply At.al | with_reducible apply At.drw | with_reducible apply At.dr)))⟩
  case rest =>
    clear k_s0 k_s1 k_s2 k_s3 Lk_s k_d0 k_d1 k_d2 k_d3 Lk_d
    clear k_a k_b k_s k_d k_p
    clear HB
    obtain ⟨rfl, HB, k_a, k_b, k_s, k_d, k_p, k_q⟩ := hcut
    have Lk_s := k_s.lt
    obtain ⟨k_s0, k_s1, k_s2, k_s3⟩ := k_s.two
    have Lk_d := k_d.lt
    obtain ⟨k_d0, k_d1, k_d2, k_d3⟩ := k_d.two
    clear k_s0 k_s1 k_s2 k_s3 Lk_s k_d0 k_d1 k_d2 k_d3 Lk_d
    have Lk_b := k_b.lt
    obtain ⟨k_b0, k_b1, k_b2, k_b3⟩ := k_b.two
    have Lk_p := k_p.lt
    obtain ⟨k_p0, k_p1, k_p2, k_p3⟩ := k_p.two
    have Lk_q := k_q.lt
    obtain ⟨k_q0, k_q1, k_q2, k_q3⟩ := k_q.two
    rcases HG.out with hg | hg <;> rcases HQ.out with hz | hz
    · obtain ⟨rfl, hp, hh⟩ := hg
      have HP := Lib.hid hp
      have HH := Lib.hid hh
      clear hp hh
      obtain ⟨hz, rfl⟩ := hz
      have HZ := Lib.hid hz
      clear hz
      go_wp2_with fail
      refine (HP.out _).mono ?_
      rintro e v9 ⟨rfl, hb9⟩
      clear k_b0 k_b1 k_b2 k_b3 Lk_b k_p0 k_p1 k_p2 k_p3 Lk_p k_q0 k_q1 k_q2 k_q3 Lk_q
      replace k_a : At v9 (w.heap.size) 23 #[.int .i64 al, .int .i64 ah] := At.bel (by repeat (first | with_reducible assumption | with_reducible apply At.put0 | with_reducible apply At.put1 | with_reducible refine At.far ?_ (by dsimp only; omega) _ | with_reducible apply At.al | with_reducible apply At.drw | with_reducible apply At.dr)) hb9
      replace k_b : At v9 (w.heap.size + 1) 23 #[.int .i64 bl, .int .i64 bh] := At.bel (by repeat (first | with_reducible assumption | with_reducible apply At.put0 | with_reducible apply At.put1 | with_reducible refine At.far ?_ (by dsimp only; omega) _ | with_reducible apply At.al | with_reducible apply At.drw | with_reducible apply At.dr)) hb9
      replace k_s : At v9 (v5.heap.size) 23 #[.int .i64 s1, .int .i64 s2] := At.bel (by repeat (first | with_reducible assumption | with_reducible apply At.put0 | with_reducible apply At.put1 | with_reducible refine At.far ?_ (by dsimp only; omega) _ | with_reducible apply At.al | with_reducible apply At.drw | with_reducible apply At.dr)) hb9
      replace k_d : At v9 (v6.heap.size) 23 #[.int .i64 d1, .int .i64 d2] := At.bel (by repeat (first | with_reducible assumption | with_reducible apply At.put0 | with_reducible apply At.put1 | with_reducible refine At.far ?_ (by dsimp only; omega) _ | with_reducible apply At.al | with_reducible apply At.drw | with_reducible apply At.dr)) hb9
      replace k_p : At v9 (v7.heap.size) 23 #[.int .i64 p1, .int .i64 p2] := At.bel (by repeat (first | with_reducible assumption | with_reducible apply At.put0 | with_reducible apply At.put1 | with_reducible refine At.far ?_ (by dsimp only; omega) _ | with_reducible apply At.al | with_reducible apply At.drw | with_reducible apply At.dr)) hb9
      replace k_q : At v9 (v8.heap.size) 23 #[.int .i64 q1, .int .i64 q2] := At.bel (by repeat (first | with_reducible assumption | with_reducible apply At.put0 | with_reducible apply At.put1 | with_reducible refine At.far ?_ (by dsimp only; omega) _ | with_reducible apply At.al | with_reducible apply At.drw | with_reducible apply At.dr)) hb9
      replace HB : Below w.heap.size w v9 := below_then (by repeat (first | with_reducible assumption | with_reducible exact Below.refl _ _ | with_reducible refine below_al ?_ _ | with_reducible refine below_drew ?_ | with_reducible refine below_drewN ?_ _ | with_reducible refine below_set ?_ (by dsimp only; omega) _)) hb9
      clear hb9
      have Lk_b := k_b.lt
      obtain ⟨k_b0, k_b1, k_b2, k_b3⟩ := k_b.two
      have Lk_p := k_p.lt
      obtain ⟨k_p0, k_p1, k_p2, k_p3⟩ := k_p.two
      have Lk_q := k_q.lt
      obtain ⟨k_q0, k_q1, k_q2, k_q3⟩ := k_q.two
      go_wp2_with fail
      refine (HH.out _).mono ?_
      rintro e v10 ⟨rfl, hb10⟩
      clear k_b0 k_b1 k_b2 k_b3 Lk_b k_p0 k_p1 k_p2 k_p3 Lk_p k_q0 k_q1 k_q2 k_q3 Lk_q
      replace k_a : At v10 (w.heap.size) 23 #[.int .i64 al, .int .i64 ah] := At.bel (by repeat (first | with_reducible assumption | with_reducible apply At.put0 | with_reducible apply At.put1 | with_reducible refine At.far ?_ (by dsimp only; omega) _ | with_reducible apply At.al | with_reducible apply At.drw | with_reducible apply At.dr)) hb10
      replace k_b : At v10 (w.heap.size + 1) 23 #[.int .i64 bl, .int .i64 bh] := At.bel (by repeat (first | with_reducible assumption | with_reducible apply At.put0 | with_reducible apply At.put1 | with_reducible refine At.far ?_ (by dsimp only; omega) _ | with_reducible apply At.al | with_reducible apply At.drw | with_reducible apply At.dr)) hb10
      replace k_s : At v10 (v5.heap.size) 23 #[.int .i64 s1, .int .i64 s2] := At.bel (by repeat (first | with_reducible assumption | with_reducible apply At.put0 | with_reducible apply At.put1 | with_reducible refine At.far ?_ (by dsimp only; omega) _ | with_reducible apply At.al | with_reducible apply At.drw | with_reducible apply At.dr)) hb10
      replace k_d : At v10 (v6.heap.size) 23 #[.int .i64 d1, .int .i64 d2] := At.bel (by repeat (first | with_reducible assumption | with_reducible apply At.put0 | with_reducible apply At.put1 | with_reducible refine At.far ?_ (by dsimp only; omega) _ | with_reducible apply At.al | with_reducible apply At.drw | with_reducible apply At.dr)) hb10
      replace k_p : At v10 (v7.heap.size) 23 #[.int .i64 p1, .int .i64 p2] := At.bel (by repeat (first | with_reducible assumption | with_reducible apply At.put0 | with_reducible apply At.put1 | with_reducible refine At.far ?_ (by dsimp only; omega) _ | with_reducible apply At.al | with_reducible apply At.drw | with_reducible apply At.dr)) hb10
      replace k_q : At v10 (v8.heap.size) 23 #[.int .i64 q1, .int .i64 q2] := At.bel (by repeat (first | with_reducible assumption | with_reducible apply At.put0 | with_reducible apply At.put1 | with_reducible refine At.far ?_ (by dsimp only; omega) _ | with_reducible apply At.al | with_reducible apply At.drw | with_reducible apply At.dr)) hb10
      replace HB : Below w.heap.size w v10 := below_then (by repeat (first | with_reducible assumption | with_reducible exact Below.refl _ _ | with_reducible refine below_al ?_ _ | with_reducible refine below_drew ?_ | with_reducible refine below_drewN ?_ _ | with_reducible refine below_set ?_ (by dsimp only; omega) _)) hb10
      clear hb10
      have Lk_b := k_b.lt
      obtain ⟨k_b0, k_b1, k_b2, k_b3⟩ := k_b.two
      have Lk_p := k_p.lt
      obtain ⟨k_p0, k_p1, k_p2, k_p3⟩ := k_p.two
      have Lk_q := k_q.lt
      obtain ⟨k_q0, k_q1, k_q2, k_q3⟩ := k_q.two
      go_wp2_with fail
      refine (HZ.out _).mono ?_
      rintro e v11 ⟨rfl, hb11⟩
      clear k_b0 k_b1 k_b2 k_b3 Lk_b k_p0 k_p1 k_p2 k_p3 Lk_p k_q0 k_q1 k_q2 k_q3 Lk_q
      replace k_a : At v11 (w.heap.size) 23 #[.int .i64 al, .int .i64 ah] := At.bel (by repeat (first | with_reducible assumption | with_reducible apply At.put0 | with_reducible apply At.put1 | with_reducible refine At.far ?_ (by dsimp only; omega) _ | with_reducible apply At.al | with_reducible apply At.drw | with_reducible apply At.dr)) hb11
      replace k_b : At v11 (w.heap.size + 1) 23 #[.int .i64 bl, .int .i64 bh] := At.bel (by repeat (first | with_reducible assumption | with_reducible apply At.put0 | with_reducible apply At.put1 | with_reducible refine At.far ?_ (by dsimp only; omega) _ | with_reducible apply At.al | with_reducible apply At.drw | with_reducible apply At.dr)) hb11
      replace k_s : At v11 (v5.heap.size) 23 #[.int .i64 s1, .int .i64 s2] := At.bel (by repeat (first | with_reducible assumption | with_reducible apply At.put0 | with_reducible apply At.put1 | with_reducible refine At.far ?_ (by dsimp only; omega) _ | with_reducible apply At.al | with_reducible apply At.drw | with_reducible apply At.dr)) hb11
      replace k_d : At v11 (v6.heap.size) 23 #[.int .i64 d1, .int .i64 d2] := At.bel (by repeat (first | with_reducible assumption | with_reducible apply At.put0 | with_reducible apply At.put1 | with_reducible refine At.far ?_ (by dsimp only; omega) _ | with_reducible apply At.al | with_reducible apply At.drw | with_reducible apply At.dr)) hb11
      replace k_p : At v11 (v7.heap.size) 23 #[.int .i64 p1, .int .i64 p2] := At.bel (by repeat (first | with_reducible assumption | with_reducible apply At.put0 | with_reducible apply At.put1 | with_reducible refine At.far ?_ (by dsimp only; omega) _ | with_reducible apply At.al | with_reducible apply At.drw | with_reducible apply At.dr)) hb11
      replace k_q : At v11 (v8.heap.size) 23 #[.int .i64 q1, .int .i64 q2] := At.bel (by repeat (first | with_reducible assumption | with_reducible apply At.put0 | with_reducible apply At.put1 | with_reducible refine At.far ?_ (by dsimp only; omega) _ | with_reducible apply At.al | with_reducible apply At.drw | with_reducible apply At.dr)) hb11
      replace HB : Below w.heap.size w v11 := below_then (by repeat (first | with_reducible assumption | with_reducible exact Below.refl _ _ | with_reducible refine below_al ?_ _ | with_reducible refine below_drew ?_ | with_reducible refine below_drewN ?_ _ | with_reducible refine below_set ?_ (by dsimp only; omega) _)) hb11
      clear hb11
      have Lk_b := k_b.lt
      obtain ⟨k_b0, k_b1, k_b2, k_b3⟩ := k_b.two
      have Lk_p := k_p.lt
      obtain ⟨k_p0, k_p1, k_p2, k_p3⟩ := k_p.two
      have Lk_q := k_q.lt
      obtain ⟨k_q0, k_q1, k_q2, k_q3⟩ := k_q.two
      go_wp2_with fail
      go_ret
      exact ⟨rfl, (by repeat (first | with_reducible assumption | with_reducible exact Below.refl _ _ | with_reducible refine below_al ?_ _ | with_reducible refine below_drew ?_ | with_reducible refine below_drewN ?_ _ | with_reducible refine below_set ?_ (by dsimp only; omega) _))⟩
    · obtain ⟨rfl, hp, hh⟩ := hg
      have HP := Lib.hid hp
      have HH := Lib.hid hh
      clear hp hh
      obtain ⟨hz, rfl, hfl, hcl, hq1, hq2⟩ := hz
      have HZ := Lib.hid hz
      have HFl := Lib.hid hfl
      have HCl := Lib.hid hcl
      clear hz hfl hcl
      go_wp2_with fail
      refine (HP.out _).mono ?_
      rintro e v9 ⟨rfl, hb9⟩
      clear k_b0 k_b1 k_b2 k_b3 Lk_b k_p0 k_p1 k_p2 k_p3 Lk_p k_q0 k_q1 k_q2 k_q3 Lk_q
      replace k_a : At v9 (w.heap.size) 23 #[.int .i64 al, .int .i64 ah] := At.bel (by repeat (first | with_reducible assumption | with_reducible apply At.put0 | with_reducible apply At.put1 | with_reducible refine At.far ?_ (by dsimp only; omega) _ | with_reducible apply At.al | with_reducible apply At.drw | with_reducible apply At.dr)) hb9
      replace k_b : At v9 (w.heap.size + 1) 23 #[.int .i64 bl, .int .i64 bh] := At.bel (by repeat (first | with_reducible assumption | with_reducible apply At.put0 | with_reducible apply At.put1 | with_reducible refine At.far ?_ (by dsimp only; omega) _ | with_reducible apply At.al | with_reducible apply At.drw | with_reducible apply At.dr)) hb9
      replace k_s : At v9 (v5.heap.size) 23 #[.int .i64 s1, .int .i64 s2] := At.bel (by repeat (first | with_reducible assumption | with_reducible apply At.put0 | with_reducible apply At.put1 | with_reducible refine At.far ?_ (by dsimp only; omega) _ | with_reducible apply At.al | with_reducible apply At.drw | with_reducible apply At.dr)) hb9
      replace k_d : At v9 (v6.heap.size) 23 #[.int .i64 d1, .int .i64 d2] := At.bel (by repeat (first | with_reducible assumption | with_reducible apply At.put0 | with_reducible apply At.put1 | with_reducible refine At.far ?_ (by dsimp only; omega) _ | with_reducible apply At.al | with_reducible apply At.drw | with_reducible apply At.dr)) hb9
      replace k_p : At v9 (v7.heap.size) 23 #[.int .i64 p1, .int .i64 p2] := At.bel (by repeat (first | with_reducible assumption | with_reducible apply At.put0 | with_reducible apply At.put1 | with_reducible refine At.far ?_ (by dsimp only; omega) _ | with_reducible apply At.al | with_reducible apply At.drw | with_reducible apply At.dr)) hb9
      replace k_q : At v9 (v8.heap.size) 23 #[.int .i64 q1, .int .i64 q2] := At.bel (by repeat (first | with_reducible assumption | with_reducible apply At.put0 | with_reducible apply At.put1 | with_reducible refine At.far ?_ (by dsimp only; omega) _ | with_reducible apply At.al | with_reducible apply At.drw | with_reducible apply At.dr)) hb9
      replace HB : Below w.heap.size w v9 := below_then (by repeat (first | with_reducible assumption | with_reducible exact Below.refl _ _ | with_reducible refine below_al ?_ _ | with_reducible refine below_drew ?_ | with_reducible refine below_drewN ?_ _ | with_reducible refine below_set ?_ (by dsimp only; omega) _)) hb9
      clear hb9
      have Lk_b := k_b.lt
      obtain ⟨k_b0, k_b1, k_b2, k_b3⟩ := k_b.two
      have Lk_p := k_p.lt
      obtain ⟨k_p0, k_p1, k_p2, k_p3⟩ := k_p.two
      have Lk_q := k_q.lt
      obtain ⟨k_q0, k_q1, k_q2, k_q3⟩ := k_q.two
      go_wp2_with fail
      refine (HH.out _).mono ?_
      rintro e v10 ⟨rfl, hb10⟩
      clear k_b0 k_b1 k_b2 k_b3 Lk_b k_p0 k_p1 k_p2 k_p3 Lk_p k_q0 k_q1 k_q2 k_q3 Lk_q
      replace k_a : At v10 (w.heap.size) 23 #[.int .i64 al, .int .i64 ah] := At.bel (by repeat (first | with_reducible assumption | with_reducible apply At.put0 | with_reducible apply At.put1 | with_reducible refine At.far ?_ (by dsimp only; omega) _ | with_reducible apply At.al | with_reducible apply At.drw | with_reducible apply At.dr)) hb10
      replace k_b : At v10 (w.heap.size + 1) 23 #[.int .i64 bl, .int .i64 bh] := At.bel (by repeat (first | with_reducible assumption | with_reducible apply At.put0 | with_reducible apply At.put1 | with_reducible refine At.far ?_ (by dsimp only; omega) _ | with_reducible apply At.al | with_reducible apply At.drw | with_reducible apply At.dr)) hb10
      replace k_s : At v10 (v5.heap.size) 23 #[.int .i64 s1, .int .i64 s2] := At.bel (by repeat (first | with_reducible assumption | with_reducible apply At.put0 | with_reducible apply At.put1 | with_reducible refine At.far ?_ (by dsimp only; omega) _ | with_reducible apply At.al | with_reducible apply At.drw | with_reducible apply At.dr)) hb10
      replace k_d : At v10 (v6.heap.size) 23 #[.int .i64 d1, .int .i64 d2] := At.bel (by repeat (first | with_reducible assumption | with_reducible apply At.put0 | with_reducible apply At.put1 | with_reducible refine At.far ?_ (by dsimp only; omega) _ | with_reducible apply At.al | with_reducible apply At.drw | with_reducible apply At.dr)) hb10
      replace k_p : At v10 (v7.heap.size) 23 #[.int .i64 p1, .int .i64 p2] := At.bel (by repeat (first | with_reducible assumption | with_reducible apply At.put0 | with_reducible apply At.put1 | with_reducible refine At.far ?_ (by dsimp only; omega) _ | with_reducible apply At.al | with_reducible apply At.drw | with_reducible apply At.dr)) hb10
      replace k_q : At v10 (v8.heap.size) 23 #[.int .i64 q1, .int .i64 q2] := At.bel (by repeat (first | with_reducible assumption | with_reducible apply At.put0 | with_reducible apply At.put1 | with_reducible refine At.far ?_ (by dsimp only; omega) _ | with_reducible apply At.al | with_reducible apply At.drw | with_reducible apply At.dr)) hb10
      replace HB : Below w.heap.size w v10 := below_then (by repeat (first | with_reducible assumption | with_reducible exact Below.refl _ _ | with_reducible refine below_al ?_ _ | with_reducible refine below_drew ?_ | with_reducible refine below_drewN ?_ _ | with_reducible refine below_set ?_ (by dsimp only; omega) _)) hb10
      clear hb10
      have Lk_b := k_b.lt
      obtain ⟨k_b0, k_b1, k_b2, k_b3⟩ := k_b.two
      have Lk_p := k_p.lt
      obtain ⟨k_p0, k_p1, k_p2, k_p3⟩ := k_p.two
      have Lk_q := k_q.lt
      obtain ⟨k_q0, k_q1, k_q2, k_q3⟩ := k_q.two
      go_wp2_with fail
      refine (HZ.out _).mono ?_
      rintro e v11 ⟨rfl, hb11⟩
      clear k_b0 k_b1 k_b2 k_b3 Lk_b k_p0 k_p1 k_p2 k_p3 Lk_p k_q0 k_q1 k_q2 k_q3 Lk_q
      replace k_a : At v11 (w.heap.size) 23 #[.int .i64 al, .int .i64 ah] := At.bel (by repeat (first | with_reducible assumption | with_reducible apply At.put0 | with_reducible apply At.put1 | with_reducible refine At.far ?_ (by dsimp only; omega) _ | with_reducible apply At.al | with_reducible apply At.drw | with_reducible apply At.dr)) hb11
      replace k_b : At v11 (w.heap.size + 1) 23 #[.int .i64 bl, .int .i64 bh] := At.bel (by repeat (first | with_reducible assumption | with_reducible apply At.put0 | with_reducible apply At.put1 | with_reducible refine At.far ?_ (by dsimp only; omega) _ | with_reducible apply At.al | with_reducible apply At.drw | with_reducible apply At.dr)) hb11
      replace k_s : At v11 (v5.heap.size) 23 #[.int .i64 s1, .int .i64 s2] := At.bel (by repeat (first | with_reducible assumption | with_reducible apply At.put0 | with_reducible apply At.put1 | with_reducible refine At.far ?_ (by dsimp only; omega) _ | with_reducible apply At.al | with_reducible apply At.drw | with_reducible apply At.dr)) hb11
      replace k_d : At v11 (v6.heap.size) 23 #[.int .i64 d1, .int .i64 d2] := At.bel (by repeat (first | with_reducible assumption | with_reducible apply At.put0 | with_reducible apply At.put1 | with_reducible refine At.far ?_ (by dsimp only; omega) _ | with_reducible apply At.al | with_reducible apply At.drw | with_reducible apply At.dr)) hb11
      replace k_p : At v11 (v7.heap.size) 23 #[.int .i64 p1, .int .i64 p2] := At.bel (by repeat (first | with_reducible assumption | with_reducible apply At.put0 | with_reducible apply At.put1 | with_reducible refine At.far ?_ (by dsimp only; omega) _ | with_reducible apply At.al | with_reducible apply At.drw | with_reducible apply At.dr)) hb11
      replace k_q : At v11 (v8.heap.size) 23 #[.int .i64 q1, .int .i64 q2] := At.bel (by repeat (first | with_reducible assumption | with_reducible apply At.put0 | with_reducible apply At.put1 | with_reducible refine At.far ?_ (by dsimp only; omega) _ | with_reducible apply At.al | with_reducible apply At.drw | with_reducible apply At.dr)) hb11
      replace HB : Below w.heap.size w v11 := below_then (by repeat (first | with_reducible assumption | with_reducible exact Below.refl _ _ | with_reducible refine below_al ?_ _ | with_reducible refine below_drew ?_ | with_reducible refine below_drewN ?_ _ | with_reducible refine below_set ?_ (by dsimp only; omega) _)) hb11
      clear hb11
      have Lk_b := k_b.lt
      obtain ⟨k_b0, k_b1, k_b2, k_b3⟩ := k_b.two
      have Lk_p := k_p.lt
      obtain ⟨k_p0, k_p1, k_p2, k_p3⟩ := k_p.two
      have Lk_q := k_q.lt
      obtain ⟨k_q0, k_q1, k_q2, k_q3⟩ := k_q.two
      go_wp2_with fail
      have Kk_a0 := cell_regrown k_a.c0
      have Kk_a1 := cell_regrown k_a.c1
      have Kk_b0 := cell_regrown k_b.c0
      have Kk_b1 := cell_regrown k_b.c1
      have Kk_s0 := cell_regrown k_s.c0
      have Kk_s1 := cell_regrown k_s.c1
      have Kk_d0 := cell_regrown k_d.c0
      have Kk_d1 := cell_regrown k_d.c1
      have Kk_p0 := cell_regrown k_p.c0
      have Kk_p1 := cell_regrown k_p.c1
      have Kk_q0 := cell_regrown k_q.c0
      have Kk_q1 := cell_regrown k_q.c1
      refine wp_region_quiet_below (by kernel_rfl) (by kernel_rfl) ?_
      repeat (go_big_quiet_step ((first | with_reducible exact regrown_call HFl.out | with_reducible exact regrown_call HCl.out)))
      refine wpQuiet_nil ?_
      intro v12 hb12'
      have hb12 := below_of_regrown hb12'
      clear hb12' Kk_a0 Kk_a1 Kk_b0 Kk_b1 Kk_s0 Kk_s1 Kk_d0 Kk_d1 Kk_p0 Kk_p1 Kk_q0 Kk_q1
      clear k_b0 k_b1 k_b2 k_b3 Lk_b k_p0 k_p1 k_p2 k_p3 Lk_p k_q0 k_q1 k_q2 k_q3 Lk_q
      replace k_a : At v12 (w.heap.size) 23 #[.int .i64 al, .int .i64 ah] := At.bel (by repeat (first | with_reducible assumption | with_reducible apply At.put0 | with_reducible apply At.put1 | with_reducible refine At.far ?_ (by dsimp only; omega) _ | with_reducible apply At.al | with_reducible apply At.drw | with_reducible apply At.dr)) hb12
      replace k_b : At v12 (w.heap.size + 1) 23 #[.int .i64 bl, .int .i64 bh] := At.bel (by repeat (first | with_reducible assumption | with_reducible apply At.put0 | with_reducible apply At.put1 | with_reducible refine At.far ?_ (by dsimp only; omega) _ | with_reducible apply At.al | with_reducible apply At.drw | with_reducible apply At.dr)) hb12
      replace k_s : At v12 (v5.heap.size) 23 #[.int .i64 s1, .int .i64 s2] := At.bel (by repeat (first | with_reducible assumption | with_reducible apply At.put0 | with_reducible apply At.put1 | with_reducible refine At.far ?_ (by dsimp only; omega) _ | with_reducible apply At.al | with_reducible apply At.drw | with_reducible apply At.dr)) hb12
      replace k_d : At v12 (v6.heap.size) 23 #[.int .i64 d1, .int .i64 d2] := At.bel (by repeat (first | with_reducible assumption | with_reducible apply At.put0 | with_reducible apply At.put1 | with_reducible refine At.far ?_ (by dsimp only; omega) _ | with_reducible apply At.al | with_reducible apply At.drw | with_reducible apply At.dr)) hb12
      replace k_p : At v12 (v7.heap.size) 23 #[.int .i64 p1, .int .i64 p2] := At.bel (by repeat (first | with_reducible assumption | with_reducible apply At.put0 | with_reducible apply At.put1 | with_reducible refine At.far ?_ (by dsimp only; omega) _ | with_reducible apply At.al | with_reducible apply At.drw | with_reducible apply At.dr)) hb12
      replace k_q : At v12 (v8.heap.size) 23 #[.int .i64 q1, .int .i64 q2] := At.bel (by repeat (first | with_reducible assumption | with_reducible apply At.put0 | with_reducible apply At.put1 | with_reducible refine At.far ?_ (by dsimp only; omega) _ | with_reducible apply At.al | with_reducible apply At.drw | with_reducible apply At.dr)) hb12
      replace HB : Below w.heap.size w v12 := below_then (by repeat (first | with_reducible assumption | with_reducible exact Below.refl _ _ | with_reducible refine below_al ?_ _ | with_reducible refine below_drew ?_ | with_reducible refine below_drewN ?_ _ | with_reducible refine below_set ?_ (by dsimp only; omega) _)) hb12
      clear hb12
      have Lk_b := k_b.lt
      obtain ⟨k_b0, k_b1, k_b2, k_b3⟩ := k_b.two
      have Lk_p := k_p.lt
      obtain ⟨k_p0, k_p1, k_p2, k_p3⟩ := k_p.two
      have Lk_q := k_q.lt
      obtain ⟨k_q0, k_q1, k_q2, k_q3⟩ := k_q.two
      go_wp2_with fail
      go_ret
      exact ⟨rfl, (by repeat (first | with_reducible assumption | with_reducible exact Below.refl _ _ | with_reducible refine below_al ?_ _ | with_reducible refine below_drew ?_ | with_reducible refine below_drewN ?_ _ | with_reducible refine below_set ?_ (by dsimp only; omega) _))⟩
    · subst hg
      obtain ⟨hz, rfl⟩ := hz
      have HZ := Lib.hid hz
      clear hz
      go_wp2_with fail
      refine (HZ.out _).mono ?_
      rintro e v9 ⟨rfl, hb9⟩
      clear k_b0 k_b1 k_b2 k_b3 Lk_b k_p0 k_p1 k_p2 k_p3 Lk_p k_q0 k_q1 k_q2 k_q3 Lk_q
      replace k_a : At v9 (w.heap.size) 23 #[.int .i64 al, .int .i64 ah] := At.bel (by repeat (first | with_reducible assumption | with_reducible apply At.put0 | with_reducible apply At.put1 | with_reducible refine At.far ?_ (by dsimp only; omega) _ | with_reducible apply At.al | with_reducible apply At.drw | with_reducible apply At.dr)) hb9
      replace k_b : At v9 (w.heap.size + 1) 23 #[.int .i64 bl, .int .i64 bh] := At.bel (by repeat (first | with_reducible assumption | with_reducible apply At.put0 | with_reducible apply At.put1 | with_reducible refine At.far ?_ (by dsimp only; omega) _ | with_reducible apply At.al | with_reducible apply At.drw | with_reducible apply At.dr)) hb9
      replace k_s : At v9 (v5.heap.size) 23 #[.int .i64 s1, .int .i64 s2] := At.bel (by repeat (first | with_reducible assumption | with_reducible apply At.put0 | with_reducible apply At.put1 | with_reducible refine At.far ?_ (by dsimp only; omega) _ | with_reducible apply At.al | with_reducible apply At.drw | with_reducible apply At.dr)) hb9
      replace k_d : At v9 (v6.heap.size) 23 #[.int .i64 d1, .int .i64 d2] := At.bel (by repeat (first | with_reducible assumption | with_reducible apply At.put0 | with_reducible apply At.put1 | with_reducible refine At.far ?_ (by dsimp only; omega) _ | with_reducible apply At.al | with_reducible apply At.drw | with_reducible apply At.dr)) hb9
      replace k_p : At v9 (v7.heap.size) 23 #[.int .i64 p1, .int .i64 p2] := At.bel (by repeat (first | with_reducible assumption | with_reducible apply At.put0 | with_reducible apply At.put1 | with_reducible refine At.far ?_ (by dsimp only; omega) _ | with_reducible apply At.al | with_reducible apply At.drw | with_reducible apply At.dr)) hb9
      replace k_q : At v9 (v8.heap.size) 23 #[.int .i64 q1, .int .i64 q2] := At.bel (by repeat (first | with_reducible assumption | with_reducible apply At.put0 | with_reducible apply At.put1 | with_reducible refine At.far ?_ (by dsimp only; omega) _ | with_reducible apply At.al | with_reducible apply At.drw | with_reducible apply At.dr)) hb9
      replace HB : Below w.heap.size w v9 := below_then (by repeat (first | with_reducible assumption | with_reducible exact Below.refl _ _ | with_reducible refine below_al ?_ _ | with_reducible refine below_drew ?_ | with_reducible refine below_drewN ?_ _ | with_reducible refine below_set ?_ (by dsimp only; omega) _)) hb9
      clear hb9
      have Lk_b := k_b.lt
      obtain ⟨k_b0, k_b1, k_b2, k_b3⟩ := k_b.two
      have Lk_p := k_p.lt
      obtain ⟨k_p0, k_p1, k_p2, k_p3⟩ := k_p.two
      have Lk_q := k_q.lt
      obtain ⟨k_q0, k_q1, k_q2, k_q3⟩ := k_q.two
      go_wp2_with fail
      go_ret
      exact ⟨rfl, (by repeat (first | with_reducible assumption | with_reducible exact Below.refl _ _ | with_reducible refine below_al ?_ _ | with_reducible refine below_drew ?_ | with_reducible refine below_drewN ?_ _ | with_reducible refine below_set ?_ (by dsimp only; omega) _))⟩
    · subst hg
      obtain ⟨hz, rfl, hfl, hcl, hq1, hq2⟩ := hz
      have HZ := Lib.hid hz
      have HFl := Lib.hid hfl
      have HCl := Lib.hid hcl
      clear hz hfl hcl
      go_wp2_with fail
      refine (HZ.out _).mono ?_
      rintro e v9 ⟨rfl, hb9⟩
      clear k_b0 k_b1 k_b2 k_b3 Lk_b k_p0 k_p1 k_p2 k_p3 Lk_p k_q0 k_q1 k_q2 k_q3 Lk_q
      replace k_a : At v9 (w.heap.size) 23 #[.int .i64 al, .int .i64 ah] := At.bel (by repeat (first | with_reducible assumption | with_reducible apply At.put0 | with_reducible apply At.put1 | with_reducible refine At.far ?_ (by dsimp only; omega) _ | with_reducible apply At.al | with_reducible apply At.drw | with_reducible apply At.dr)) hb9
      replace k_b : At v9 (w.heap.size + 1) 23 #[.int .i64 bl, .int .i64 bh] := At.bel (by repeat (first | with_reducible assumption | with_reducible apply At.put0 | with_reducible apply At.put1 | with_reducible refine At.far ?_ (by dsimp only; omega) _ | with_reducible apply At.al | with_reducible apply At.drw | with_reducible apply At.dr)) hb9
      replace k_s : At v9 (v5.heap.size) 23 #[.int .i64 s1, .int .i64 s2] := At.bel (by repeat (first | with_reducible assumption | with_reducible apply At.put0 | with_reducible apply At.put1 | with_reducible refine At.far ?_ (by dsimp only; omega) _ | with_reducible apply At.al | with_reducible apply At.drw | with_reducible apply At.dr)) hb9
      replace k_d : At v9 (v6.heap.size) 23 #[.int .i64 d1, .int .i64 d2] := At.bel (by repeat (first | with_reducible assumption | with_reducible apply At.put0 | with_reducible apply At.put1 | with_reducible refine At.far ?_ (by dsimp only; omega) _ | with_reducible apply At.al | with_reducible apply At.drw | with_reducible apply At.dr)) hb9
      replace k_p : At v9 (v7.heap.size) 23 #[.int .i64 p1, .int .i64 p2] := At.bel (by repeat (first | with_reducible assumption | with_reducible apply At.put0 | with_reducible apply At.put1 | with_reducible refine At.far ?_ (by dsimp only; omega) _ | with_reducible apply At.al | with_reducible apply At.drw | with_reducible apply At.dr)) hb9
      replace k_q : At v9 (v8.heap.size) 23 #[.int .i64 q1, .int .i64 q2] := At.bel (by repeat (first | with_reducible assumption | with_reducible apply At.put0 | with_reducible apply At.put1 | with_reducible refine At.far ?_ (by dsimp only; omega) _ | with_reducible apply At.al | with_reducible apply At.drw | with_reducible apply At.dr)) hb9
      replace HB : Below w.heap.size w v9 := below_then (by repeat (first | with_reducible assumption | with_reducible exact Below.refl _ _ | with_reducible refine below_al ?_ _ | with_reducible refine below_drew ?_ | with_reducible refine below_drewN ?_ _ | with_reducible refine below_set ?_ (by dsimp only; omega) _)) hb9
      clear hb9
      have Lk_b := k_b.lt
      obtain ⟨k_b0, k_b1, k_b2, k_b3⟩ := k_b.two
      have Lk_p := k_p.lt
      obtain ⟨k_p0, k_p1, k_p2, k_p3⟩ := k_p.two
      have Lk_q := k_q.lt
      obtain ⟨k_q0, k_q1, k_q2, k_q3⟩ := k_q.two
      go_wp2_with fail
      have Kk_a0 := cell_regrown k_a.c0
      have Kk_a1 := cell_regrown k_a.c1
      have Kk_b0 := cell_regrown k_b.c0
      have Kk_b1 := cell_regrown k_b.c1
      have Kk_s0 := cell_regrown k_s.c0
      have Kk_s1 := cell_regrown k_s.c1
      have Kk_d0 := cell_regrown k_d.c0
      have Kk_d1 := cell_regrown k_d.c1
      have Kk_p0 := cell_regrown k_p.c0
      have Kk_p1 := cell_regrown k_p.c1
      have Kk_q0 := cell_regrown k_q.c0
      have Kk_q1 := cell_regrown k_q.c1
      refine wp_region_quiet_below (by kernel_rfl) (by kernel_rfl) ?_
      repeat (go_big_quiet_step ((first | with_reducible exact regrown_call HFl.out | with_reducible exact regrown_call HCl.out)))
      refine wpQuiet_nil ?_
      intro v10 hb10'
      have hb10 := below_of_regrown hb10'
      clear hb10' Kk_a0 Kk_a1 Kk_b0 Kk_b1 Kk_s0 Kk_s1 Kk_d0 Kk_d1 Kk_p0 Kk_p1 Kk_q0 Kk_q1
      clear k_b0 k_b1 k_b2 k_b3 Lk_b k_p0 k_p1 k_p2 k_p3 Lk_p k_q0 k_q1 k_q2 k_q3 Lk_q
      replace k_a : At v10 (w.heap.size) 23 #[.int .i64 al, .int .i64 ah] := At.bel (by repeat (first | with_reducible assumption | with_reducible apply At.put0 | with_reducible apply At.put1 | with_reducible refine At.far ?_ (by dsimp only; omega) _ | with_reducible apply At.al | with_reducible apply At.drw | with_reducible apply At.dr)) hb10
      replace k_b : At v10 (w.heap.size + 1) 23 #[.int .i64 bl, .int .i64 bh] := At.bel (by repeat (first | with_reducible assumption | with_reducible apply At.put0 | with_reducible apply At.put1 | with_reducible refine At.far ?_ (by dsimp only; omega) _ | with_reducible apply At.al | with_reducible apply At.drw | with_reducible apply At.dr)) hb10
      replace k_s : At v10 (v5.heap.size) 23 #[.int .i64 s1, .int .i64 s2] := At.bel (by repeat (first | with_reducible assumption | with_reducible apply At.put0 | with_reducible apply At.put1 | with_reducible refine At.far ?_ (by dsimp only; omega) _ | with_reducible apply At.al | with_reducible apply At.drw | with_reducible apply At.dr)) hb10
      replace k_d : At v10 (v6.heap.size) 23 #[.int .i64 d1, .int .i64 d2] := At.bel (by repeat (first | with_reducible assumption | with_reducible apply At.put0 | with_reducible apply At.put1 | with_reducible refine At.far ?_ (by dsimp only; omega) _ | with_reducible apply At.al | with_reducible apply At.drw | with_reducible apply At.dr)) hb10
      replace k_p : At v10 (v7.heap.size) 23 #[.int .i64 p1, .int .i64 p2] := At.bel (by repeat (first | with_reducible assumption | with_reducible apply At.put0 | with_reducible apply At.put1 | with_reducible refine At.far ?_ (by dsimp only; omega) _ | with_reducible apply At.al | with_reducible apply At.drw | with_reducible apply At.dr)) hb10
      replace k_q : At v10 (v8.heap.size) 23 #[.int .i64 q1, .int .i64 q2] := At.bel (by repeat (first | with_reducible assumption | with_reducible apply At.put0 | with_reducible apply At.put1 | with_reducible refine At.far ?_ (by dsimp only; omega) _ | with_reducible apply At.al | with_reducible apply At.drw | with_reducible apply At.dr)) hb10
      replace HB : Below w.heap.size w v10 := below_then (by repeat (first | with_reducible assumption | with_reducible exact Below.refl _ _ | with_reducible refine below_al ?_ _ | with_reducible refine below_drew ?_ | with_reducible refine below_drewN ?_ _ | with_reducible refine below_set ?_ (by dsimp only; omega) _)) hb10
      clear hb10
      have Lk_b := k_b.lt
      obtain ⟨k_b0, k_b1, k_b2, k_b3⟩ := k_b.two
      have Lk_p := k_p.lt
      obtain ⟨k_p0, k_p1, k_p2, k_p3⟩ := k_p.two
      have Lk_q := k_q.lt
      obtain ⟨k_q0, k_q1, k_q2, k_q3⟩ := k_q.two
      go_wp2_with fail
      go_ret
      exact ⟨rfl, (by repeat (first | with_reducible assumption | with_reducible exact Below.refl _ _ | with_reducible refine below_al ?_ _ | with_reducible refine below_drew ?_ | with_reducible refine below_drewN ?_ _ | with_reducible refine below_set ?_ (by dsimp only; omega) _))⟩

end Go.Proofs.Ytgipfmleefojbaa
