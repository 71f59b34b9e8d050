/- ratio.Cmp: what it returns. -/
import Derived.Test.YtpijmjffobkalaaDoorRaOps
import Derived.Deep.CutBlock
set_option linter.unusedVariables false
namespace Go.Proofs.YtpijmjffobkalaaDoor
open Go.ChangeShapes Go.WideShapes Go.ChangeAt Go.RowKit

set_option maxRecDepth 100000 in
set_option maxHeartbeats 8000000 in
theorem rcmp_core (an bn : Int) (x y p q X Y : Nat) (r : Int) (bp : p ≤ 1152921504606846976) (bq : q ≤ 1152921504606846976) (e5 : IntKind.u64.wrap (p : Int) = (p : Int)) (e6 : IntKind.u64.wrap (q : Int) = (q : Int))
    (HV1 : Hid (∀ w, Calls Tryd.prog 15 #[.agg #[.int .i64 an, .int .i64 (p : Int)]] w fun e w' => e = .returned (.bool true) ∧ Below w.heap.size w w'))
    (HV2 : Hid (∀ w, Calls Tryd.prog 15 #[.agg #[.int .i64 bn, .int .i64 (q : Int)]] w fun e w' => e = .returned (.bool true) ∧ Below w.heap.size w w'))
    (HX : Hid (∀ w, Calls Tryd.prog 42 #[.int .i64 an] w fun e w' => e = .returned (.int .u64 (x : Int)) ∧ Below w.heap.size w w'))
    (HY : Hid (∀ w, Calls Tryd.prog 42 #[.int .i64 bn] w fun e w' => e = .returned (.int .u64 (y : Int)) ∧ Below w.heap.size w w'))
    (HP : Hid (∀ w, Calls Tryd.prog 41 #[.int .u64 (x : Int), .int .u64 (q : Int)] w fun e w' => e = .returned (uv X) ∧ Below w.heap.size w w'))
    (HQ : Hid (∀ w, Calls Tryd.prog 41 #[.int .u64 (y : Int), .int .u64 (p : Int)] w fun e w' => e = .returned (uv Y) ∧ Below w.heap.size w w'))
    (HR : Hid (decide (bn < 0) = false ∧ decide (an < 0) = true ∧ r = -1 ∨ decide (bn < 0) = true ∧ decide (an < 0) = false ∧ r = 1 ∨ decide (bn < 0) = true ∧ decide (an < 0) = true ∧ ((∀ w, Calls Tryd.prog 44 #[uv Y, uv X] w fun e w' => e = .returned (.bool true) ∧ Below w.heap.size w w') ∧ r = -1 ∨ (∀ w, Calls Tryd.prog 44 #[uv Y, uv X] w fun e w' => e = .returned (.bool false) ∧ Below w.heap.size w w') ∧ (∀ w, Calls Tryd.prog 44 #[uv X, uv Y] w fun e w' => e = .returned (.bool true) ∧ Below w.heap.size w w') ∧ r = 1 ∨ (∀ w, Calls Tryd.prog 44 #[uv Y, uv X] w fun e w' => e = .returned (.bool false) ∧ Below w.heap.size w w') ∧ (∀ w, Calls Tryd.prog 44 #[uv X, uv Y] w fun e w' => e = .returned (.bool false) ∧ Below w.heap.size w w') ∧ r = 0) ∨ decide (bn < 0) = false ∧ decide (an < 0) = false ∧ ((∀ w, Calls Tryd.prog 44 #[uv X, uv Y] w fun e w' => e = .returned (.bool true) ∧ Below w.heap.size w w') ∧ r = -1 ∨ (∀ w, Calls Tryd.prog 44 #[uv X, uv Y] w fun e w' => e = .returned (.bool false) ∧ Below w.heap.size w w') ∧ (∀ w, Calls Tryd.prog 44 #[uv Y, uv X] w fun e w' => e = .returned (.bool true) ∧ Below w.heap.size w w') ∧ r = 1 ∨ (∀ w, Calls Tryd.prog 44 #[uv X, uv Y] w fun e w' => e = .returned (.bool false) ∧ Below w.heap.size w w') ∧ (∀ w, Calls Tryd.prog 44 #[uv Y, uv X] w fun e w' => e = .returned (.bool false) ∧ Below w.heap.size w w') ∧ r = 0))) (w : World) :
    Calls Tryd.prog 25 #[.agg #[.int .i64 an, .int .i64 (p : Int)], .agg #[.int .i64 bn, .int .i64 (q : Int)]] w fun e w' => e = .returned (.tuple #[.int .i64 r, .int .i64 0]) ∧ Below w.heap.size w w' := by
  go_enter Tryd.func25, Tryd.ntmps25
  go_wp2_with fail
  refine (HV1.out _).mono ?_
  rintro e v1 ⟨rfl, hb1⟩
  have k_a : At v1 (w.heap.size) 23 #[.int .i64 an, .int .i64 (p : Int)] := At.bel (by (repeat (first | (with_reducible apply At.new'; (focus (simp; done))) | with_reducible apply At.al | with_reducible apply At.drw | with_reducible apply At.dr))) hb1
  have k_b : At v1 (w.heap.size + 1) 23 #[.int .i64 bn, .int .i64 (q : Int)] := At.bel (by (repeat (first | (with_reducible apply At.new'; (focus (simp; done))) | with_reducible apply At.al | with_reducible apply At.drw | with_reducible apply At.dr))) hb1
  have HB : Below w.heap.size w v1 := below_then (by repeat (first | with_reducible assumption | with_reducible exact Below.refl _ _ | with_reducible refine below_al ?_ _ | with_reducible refine below_drew ?_ | with_reducible refine below_drewN ?_ _ | with_reducible refine below_set ?_ (by dsimp only; omega) _)) hb1
  clear hb1
  have Lk_a := k_a.lt
  obtain ⟨k_a0, k_a1, k_a2, k_a3⟩ := k_a.two
  have Lk_b := k_b.lt
  obtain ⟨k_b0, k_b1, k_b2, k_b3⟩ := k_b.two
  go_wp2_with fail
  refine (HV2.out _).mono ?_
  rintro e v2 ⟨rfl, hb2⟩
  clear k_a0 k_a1 k_a2 k_a3 Lk_a k_b0 k_b1 k_b2 k_b3 Lk_b
  replace k_a : At v2 (w.heap.size) 23 #[.int .i64 an, .int .i64 (p : Int)] := At.bel (by repeat (first | with_reducible assumption | with_reducible apply At.put0 | with_reducible apply At.put1 | with_reducible refine At.far ?_ (by dsimp only; omega) _ | with_reducible apply At.al | with_reducible apply At.drw | with_reducible apply At.dr)) hb2
  replace k_b : At v2 (w.heap.size + 1) 23 #[.int .i64 bn, .int .i64 (q : Int)] := At.bel (by repeat (first | with_reducible assumption | with_reducible apply At.put0 | with_reducible apply At.put1 | with_reducible refine At.far ?_ (by dsimp only; omega) _ | with_reducible apply At.al | with_reducible apply At.drw | with_reducible apply At.dr)) hb2
  replace HB : Below w.heap.size w v2 := below_then (by repeat (first | with_reducible assumption | with_reducible exact Below.refl _ _ | with_reducible refine below_al ?_ _ | with_reducible refine below_drew ?_ | with_reducible refine below_drewN ?_ _ | with_reducible refine below_set ?_ (by dsimp only; omega) _)) hb2
  clear hb2
  have Lk_a := k_a.lt
  obtain ⟨k_a0, k_a1, k_a2, k_a3⟩ := k_a.two
  have Lk_b := k_b.lt
  obtain ⟨k_b0, k_b1, k_b2, k_b3⟩ := k_b.two
  go_wp2_with fail
  clear k_a0 k_a1 k_a2 k_a3 Lk_a k_b0 k_b1 k_b2 k_b3 Lk_b
  refine wp_only ?_
  refine wp_region_grow2 14 (by kernel_rfl) (o1 := _) (o2 := _) (d1 := 6) (t1 := 59) (z1 := #[.int .u64 0, .int .u64 0]) (d2 := 7) (t2 := 59) (z2 := #[.int .u64 0, .int .u64 0]) rfl rfl ⟨rfl, rfl, fun _ _ => by rfl⟩ ⟨rfl, rfl, fun _ _ => by rfl⟩ (by decide) (by kernel_rfl) only_panic ?_
  apply Exists.intro
  refine And.intro (fun W' hW' => ?_) ?_
  focus
    have Kk_a := At.bel (show At _ (w.heap.size) 23 #[.int .i64 an, .int .i64 (p : Int)] from (by repeat (first | with_reducible assumption | with_reducible apply At.put0 | with_reducible apply At.put1 | with_reducible refine At.far ?_ (by dsimp only; omega) _ | with_reducible apply At.al | with_reducible apply At.drw | with_reducible apply At.dr))) hW'
    have Kk_a0 := cell_regrown Kk_a.c0
    have Kk_a1 := cell_regrown Kk_a.c1
    have Kk_b := At.bel (show At _ (w.heap.size + 1) 23 #[.int .i64 bn, .int .i64 (q : Int)] from (by repeat (first | with_reducible assumption | with_reducible apply At.put0 | with_reducible apply At.put1 | with_reducible refine At.far ?_ (by dsimp only; omega) _ | with_reducible apply At.al | with_reducible apply At.drw | with_reducible apply At.dr))) hW'
    have Kk_b0 := cell_regrown Kk_b.c0
    have Kk_b1 := cell_regrown Kk_b.c1
    simp only [List.take_succ_cons, List.take_zero]
    repeat (go_big_quiet_step ((first | with_reducible exact regrown_call HX.out | with_reducible exact regrown_call HY.out | with_reducible exact regrown_call HP.out | with_reducible exact regrown_call HQ.out)))
    exact wpQuiet_nil rfl
  intro g_x g_y v3 hb3 lb_x lb_y ne_xy k_x k_y
  have Mk_a := k_a.lt
  have Mk_b := k_b.lt
  replace k_a : At v3 (w.heap.size) 23 #[.int .i64 an, .int .i64 (p : Int)] := At.bel (by repeat (first | with_reducible assumption | with_reducible apply At.put0 | with_reducible apply At.put1 | with_reducible refine At.far ?_ (by dsimp only; omega) _ | with_reducible apply At.al | with_reducible apply At.drw | with_reducible apply At.dr)) hb3
  replace k_b : At v3 (w.heap.size + 1) 23 #[.int .i64 bn, .int .i64 (q : Int)] := At.bel (by repeat (first | with_reducible assumption | with_reducible apply At.put0 | with_reducible apply At.put1 | with_reducible refine At.far ?_ (by dsimp only; omega) _ | with_reducible apply At.al | with_reducible apply At.drw | with_reducible apply At.dr)) hb3
  replace HB : Below w.heap.size w v3 := below_then (by repeat (first | with_reducible assumption | with_reducible exact Below.refl _ _ | with_reducible refine below_al ?_ _ | with_reducible refine below_drew ?_ | with_reducible refine below_drewN ?_ _ | with_reducible refine below_set ?_ (by dsimp only; omega) _)) hb3
  clear hb3
  have Lk_a := k_a.lt
  obtain ⟨k_a0, k_a1, k_a2, k_a3⟩ := k_a.two
  have Lk_b := k_b.lt
  obtain ⟨k_b0, k_b1, k_b2, k_b3⟩ := k_b.two
  simp only [List.drop_succ_cons, List.drop_zero]
  have Lk_x := k_x.lt
  obtain ⟨k_x0, k_x1, k_x2, k_x3⟩ := k_x.two
  have Lk_y := k_y.lt
  obtain ⟨k_y0, k_y1, k_y2, k_y3⟩ := k_y.two
  go_upto_block 0 with fail
  generalize hWW : World.setCell _ _ _ = WW
  replace k_a : At WW (w.heap.size) 23 #[.int .i64 an, .int .i64 (p : Int)] := by rw [← hWW]; repeat (first | with_reducible assumption | with_reducible apply At.put0 | with_reducible apply At.put1 | with_reducible refine At.far ?_ (by dsimp only; omega) _ | with_reducible apply At.al | with_reducible apply At.drw | with_reducible apply At.dr)
  replace k_b : At WW (w.heap.size + 1) 23 #[.int .i64 bn, .int .i64 (q : Int)] := by rw [← hWW]; repeat (first | with_reducible assumption | with_reducible apply At.put0 | with_reducible apply At.put1 | with_reducible refine At.far ?_ (by dsimp only; omega) _ | with_reducible apply At.al | with_reducible apply At.drw | with_reducible apply At.dr)
  replace k_x : At WW (g_x) 59 #[.int .u64 (hiN X : Int), .int .u64 (loN X : Int)] := by rw [← hWW]; repeat (first | with_reducible assumption | with_reducible apply At.put0 | with_reducible apply At.put1 | with_reducible refine At.far ?_ (by dsimp only; omega) _ | with_reducible apply At.al | with_reducible apply At.drw | with_reducible apply At.dr)
  replace k_y : At WW (g_y) 59 #[.int .u64 (hiN Y : Int), .int .u64 (loN Y : Int)] := by rw [← hWW]; repeat (first | with_reducible assumption | with_reducible apply At.put0 | with_reducible apply At.put1 | with_reducible refine At.far ?_ (by dsimp only; omega) _ | with_reducible apply At.al | with_reducible apply At.drw | with_reducible apply At.dr)
  replace HB : Below w.heap.size w WW := by rw [← hWW]; repeat (first | with_reducible assumption | with_reducible exact Below.refl _ _ | with_reducible refine below_al ?_ _ | with_reducible refine below_drew ?_ | with_reducible refine below_drewN ?_ _ | with_reducible refine below_set ?_ (by dsimp only; omega) _)
  clear k_a0 k_a1 k_a2 k_a3 Lk_a k_b0 k_b1 k_b2 k_b3 Lk_b k_x0 k_x1 k_x2 k_x3 Lk_x k_y0 k_y1 k_y2 k_y3 Lk_y
  clear hWW
  have Lk_a := k_a.lt
  obtain ⟨k_a0, k_a1, k_a2, k_a3⟩ := k_a.two
  have Lk_b := k_b.lt
  obtain ⟨k_b0, k_b1, k_b2, k_b3⟩ := k_b.two
  have Lk_x := k_x.lt
  obtain ⟨k_x0, k_x1, k_x2, k_x3⟩ := k_x.two
  have Lk_y := k_y.lt
  obtain ⟨k_y0, k_y1, k_y2, k_y3⟩ := k_y.two
  rcases HR.out with ⟨hs, hn, hr⟩ | ⟨hs, hn, hr⟩ | ⟨hs, hn, h⟩ | ⟨hs, hn, h⟩
  · replace hr := Lib.hid hr
    go_wp2_with fail
    go_ret2
    exact ⟨by first | rfl | (rw [hr.out]; done) | (rw [hr.out]; rfl), (by repeat (first | with_reducible assumption | with_reducible exact Below.refl _ _ | with_reducible refine below_al ?_ _ | with_reducible refine below_drew ?_ | with_reducible refine below_drewN ?_ _ | with_reducible refine below_set ?_ (by dsimp only; omega) _))⟩
  · replace hr := Lib.hid hr
    go_wp2_with fail
    go_ret2
    exact ⟨by first | rfl | (rw [hr.out]; done) | (rw [hr.out]; rfl), (by repeat (first | with_reducible assumption | with_reducible exact Below.refl _ _ | with_reducible refine below_al ?_ _ | with_reducible refine below_drew ?_ | with_reducible refine below_drewN ?_ _ | with_reducible refine below_set ?_ (by dsimp only; omega) _))⟩
  · rcases h with ⟨hl, hr⟩ | ⟨hl, hm, hr⟩ | ⟨hl, hm, hr⟩
    · replace hr := Lib.hid hr
      have HL := Lib.hid hl
      clear hl
      go_upto_block 1 with fail
      generalize hWW : World.setCell _ _ _ = WX
      replace k_a : At WX (w.heap.size) 23 #[.int .i64 an, .int .i64 (p : Int)] := by rw [← hWW]; repeat (first | with_reducible assumption | with_reducible apply At.put0 | with_reducible apply At.put1 | with_reducible refine At.far ?_ (by dsimp only; omega) _ | with_reducible apply At.al | with_reducible apply At.drw | with_reducible apply At.dr)
      replace k_b : At WX (w.heap.size + 1) 23 #[.int .i64 bn, .int .i64 (q : Int)] := by rw [← hWW]; repeat (first | with_reducible assumption | with_reducible apply At.put0 | with_reducible apply At.put1 | with_reducible refine At.far ?_ (by dsimp only; omega) _ | with_reducible apply At.al | with_reducible apply At.drw | with_reducible apply At.dr)
      replace k_x : At WX (g_x) 59 #[.int .u64 (hiN Y : Int), .int .u64 (loN Y : Int)] := by rw [← hWW]; repeat (first | with_reducible assumption | with_reducible apply At.put0 | with_reducible apply At.put1 | with_reducible refine At.far ?_ (by dsimp only; omega) _ | with_reducible apply At.al | with_reducible apply At.drw | with_reducible apply At.dr)
      replace k_y : At WX (g_y) 59 #[.int .u64 (hiN X : Int), .int .u64 (loN X : Int)] := by rw [← hWW]; repeat (first | with_reducible assumption | with_reducible apply At.put0 | with_reducible apply At.put1 | with_reducible refine At.far ?_ (by dsimp only; omega) _ | with_reducible apply At.al | with_reducible apply At.drw | with_reducible apply At.dr)
      replace HB : Below w.heap.size w WX := by rw [← hWW]; repeat (first | with_reducible assumption | with_reducible exact Below.refl _ _ | with_reducible refine below_al ?_ _ | with_reducible refine below_drew ?_ | with_reducible refine below_drewN ?_ _ | with_reducible refine below_set ?_ (by dsimp only; omega) _)
      clear k_a0 k_a1 k_a2 k_a3 Lk_a k_b0 k_b1 k_b2 k_b3 Lk_b k_x0 k_x1 k_x2 k_x3 Lk_x k_y0 k_y1 k_y2 k_y3 Lk_y
      clear hWW
      have Lk_x := k_x.lt
      obtain ⟨k_x0, k_x1, k_x2, k_x3⟩ := k_x.two
      have Lk_y := k_y.lt
      obtain ⟨k_y0, k_y1, k_y2, k_y3⟩ := k_y.two
      go_wp2_with fail
      refine (HL.out _).mono ?_
      rintro e v4 ⟨rfl, hb4⟩
      clear k_x0 k_x1 k_x2 k_x3 Lk_x k_y0 k_y1 k_y2 k_y3 Lk_y
      replace k_a : At v4 (w.heap.size) 23 #[.int .i64 an, .int .i64 (p : Int)] := At.bel (by repeat (first | with_reducible assumption | with_reducible apply At.put0 | with_reducible apply At.put1 | with_reducible refine At.far ?_ (by dsimp only; omega) _ | with_reducible apply At.al | with_reducible apply At.drw | with_reducible apply At.dr)) hb4
      replace k_b : At v4 (w.heap.size + 1) 23 #[.int .i64 bn, .int .i64 (q : Int)] := At.bel (by repeat (first | with_reducible assumption | with_reducible apply At.put0 | with_reducible apply At.put1 | with_reducible refine At.far ?_ (by dsimp only; omega) _ | with_reducible apply At.al | with_reducible apply At.drw | with_reducible apply At.dr)) hb4
      replace k_x : At v4 (g_x) 59 #[.int .u64 (hiN Y : Int), .int .u64 (loN Y : Int)] := At.bel (by repeat (first | with_reducible assumption | with_reducible apply At.put0 | with_reducible apply At.put1 | with_reducible refine At.far ?_ (by dsimp only; omega) _ | with_reducible apply At.al | with_reducible apply At.drw | with_reducible apply At.dr)) hb4
      replace k_y : At v4 (g_y) 59 #[.int .u64 (hiN X : Int), .int .u64 (loN X : Int)] := At.bel (by repeat (first | with_reducible assumption | with_reducible apply At.put0 | with_reducible apply At.put1 | with_reducible refine At.far ?_ (by dsimp only; omega) _ | with_reducible apply At.al | with_reducible apply At.drw | with_reducible apply At.dr)) hb4
      replace HB : Below w.heap.size w v4 := below_then (by repeat (first | with_reducible assumption | with_reducible exact Below.refl _ _ | with_reducible refine below_al ?_ _ | with_reducible refine below_drew ?_ | with_reducible refine below_drewN ?_ _ | with_reducible refine below_set ?_ (by dsimp only; omega) _)) hb4
      clear hb4
      have Lk_x := k_x.lt
      obtain ⟨k_x0, k_x1, k_x2, k_x3⟩ := k_x.two
      have Lk_y := k_y.lt
      obtain ⟨k_y0, k_y1, k_y2, k_y3⟩ := k_y.two
      go_wp2_with fail
      go_ret2
      exact ⟨by first | rfl | (rw [hr.out]; done) | (rw [hr.out]; rfl), (by repeat (first | with_reducible assumption | with_reducible exact Below.refl _ _ | with_reducible refine below_al ?_ _ | with_reducible refine below_drew ?_ | with_reducible refine below_drewN ?_ _ | with_reducible refine below_set ?_ (by dsimp only; omega) _))⟩
    · replace hr := Lib.hid hr
      have HL := Lib.hid hl
      clear hl
      have HM := Lib.hid hm
      clear hm
      go_upto_block 1 with fail
      generalize hWW : World.setCell _ _ _ = WX
      replace k_a : At WX (w.heap.size) 23 #[.int .i64 an, .int .i64 (p : Int)] := by rw [← hWW]; repeat (first | with_reducible assumption | with_reducible apply At.put0 | with_reducible apply At.put1 | with_reducible refine At.far ?_ (by dsimp only; omega) _ | with_reducible apply At.al | with_reducible apply At.drw | with_reducible apply At.dr)
      replace k_b : At WX (w.heap.size + 1) 23 #[.int .i64 bn, .int .i64 (q : Int)] := by rw [← hWW]; repeat (first | with_reducible assumption | with_reducible apply At.put0 | with_reducible apply At.put1 | with_reducible refine At.far ?_ (by dsimp only; omega) _ | with_reducible apply At.al | with_reducible apply At.drw | with_reducible apply At.dr)
      replace k_x : At WX (g_x) 59 #[.int .u64 (hiN Y : Int), .int .u64 (loN Y : Int)] := by rw [← hWW]; repeat (first | with_reducible assumption | with_reducible apply At.put0 | with_reducible apply At.put1 | with_reducible refine At.far ?_ (by dsimp only; omega) _ | with_reducible apply At.al | with_reducible apply At.drw | with_reducible apply At.dr)
      replace k_y : At WX (g_y) 59 #[.int .u64 (hiN X : Int), .int .u64 (loN X : Int)] := by rw [← hWW]; repeat (first | with_reducible assumption | with_reducible apply At.put0 | with_reducible apply At.put1 | with_reducible refine At.far ?_ (by dsimp only; omega) _ | with_reducible apply At.al | with_reducible apply At.drw | with_reducible apply At.dr)
      replace HB : Below w.heap.size w WX := by rw [← hWW]; repeat (first | with_reducible assumption | with_reducible exact Below.refl _ _ | with_reducible refine below_al ?_ _ | with_reducible refine below_drew ?_ | with_reducible refine below_drewN ?_ _ | with_reducible refine below_set ?_ (by dsimp only; omega) _)
      clear k_a0 k_a1 k_a2 k_a3 Lk_a k_b0 k_b1 k_b2 k_b3 Lk_b k_x0 k_x1 k_x2 k_x3 Lk_x k_y0 k_y1 k_y2 k_y3 Lk_y
      clear hWW
      have Lk_x := k_x.lt
      obtain ⟨k_x0, k_x1, k_x2, k_x3⟩ := k_x.two
      have Lk_y := k_y.lt
      obtain ⟨k_y0, k_y1, k_y2, k_y3⟩ := k_y.two
      go_wp2_with fail
      refine (HL.out _).mono ?_
      rintro e v4 ⟨rfl, hb4⟩
      clear k_x0 k_x1 k_x2 k_x3 Lk_x k_y0 k_y1 k_y2 k_y3 Lk_y
      replace k_a : At v4 (w.heap.size) 23 #[.int .i64 an, .int .i64 (p : Int)] := At.bel (by repeat (first | with_reducible assumption | with_reducible apply At.put0 | with_reducible apply At.put1 | with_reducible refine At.far ?_ (by dsimp only; omega) _ | with_reducible apply At.al | with_reducible apply At.drw | with_reducible apply At.dr)) hb4
      replace k_b : At v4 (w.heap.size + 1) 23 #[.int .i64 bn, .int .i64 (q : Int)] := At.bel (by repeat (first | with_reducible assumption | with_reducible apply At.put0 | with_reducible apply At.put1 | with_reducible refine At.far ?_ (by dsimp only; omega) _ | with_reducible apply At.al | with_reducible apply At.drw | with_reducible apply At.dr)) hb4
      replace k_x : At v4 (g_x) 59 #[.int .u64 (hiN Y : Int), .int .u64 (loN Y : Int)] := At.bel (by repeat (first | with_reducible assumption | with_reducible apply At.put0 | with_reducible apply At.put1 | with_reducible refine At.far ?_ (by dsimp only; omega) _ | with_reducible apply At.al | with_reducible apply At.drw | with_reducible apply At.dr)) hb4
      replace k_y : At v4 (g_y) 59 #[.int .u64 (hiN X : Int), .int .u64 (loN X : Int)] := At.bel (by repeat (first | with_reducible assumption | with_reducible apply At.put0 | with_reducible apply At.put1 | with_reducible refine At.far ?_ (by dsimp only; omega) _ | with_reducible apply At.al | with_reducible apply At.drw | with_reducible apply At.dr)) hb4
      replace HB : Below w.heap.size w v4 := below_then (by repeat (first | with_reducible assumption | with_reducible exact Below.refl _ _ | with_reducible refine below_al ?_ _ | with_reducible refine below_drew ?_ | with_reducible refine below_drewN ?_ _ | with_reducible refine below_set ?_ (by dsimp only; omega) _)) hb4
      clear hb4
      have Lk_x := k_x.lt
      obtain ⟨k_x0, k_x1, k_x2, k_x3⟩ := k_x.two
      have Lk_y := k_y.lt
      obtain ⟨k_y0, k_y1, k_y2, k_y3⟩ := k_y.two
      go_wp2_with fail
      refine (HM.out _).mono ?_
      rintro e v5 ⟨rfl, hb5⟩
      clear k_x0 k_x1 k_x2 k_x3 Lk_x k_y0 k_y1 k_y2 k_y3 Lk_y
      replace k_a : At v5 (w.heap.size) 23 #[.int .i64 an, .int .i64 (p : Int)] := At.bel (by repeat (first | with_reducible assumption | with_reducible apply At.put0 | with_reducible apply At.put1 | with_reducible refine At.far ?_ (by dsimp only; omega) _ | with_reducible apply At.al | with_reducible apply At.drw | with_reducible apply At.dr)) hb5
      replace k_b : At v5 (w.heap.size + 1) 23 #[.int .i64 bn, .int .i64 (q : Int)] := At.bel (by repeat (first | with_reducible assumption | with_reducible apply At.put0 | with_reducible apply At.put1 | with_reducible refine At.far ?_ (by dsimp only; omega) _ | with_reducible apply At.al | with_reducible apply At.drw | with_reducible apply At.dr)) hb5
      replace k_x : At v5 (g_x) 59 #[.int .u64 (hiN Y : Int), .int .u64 (loN Y : Int)] := At.bel (by repeat (first | with_reducible assumption | with_reducible apply At.put0 | with_reducible apply At.put1 | with_reducible refine At.far ?_ (by dsimp only; omega) _ | with_reducible apply At.al | with_reducible apply At.drw | with_reducible apply At.dr)) hb5
      replace k_y : At v5 (g_y) 59 #[.int .u64 (hiN X : Int), .int .u64 (loN X : Int)] := At.bel (by repeat (first | with_reducible assumption | with_reducible apply At.put0 | with_reducible apply At.put1 | with_reducible refine At.far ?_ (by dsimp only; omega) _ | with_reducible apply At.al | with_reducible apply At.drw | with_reducible apply At.dr)) hb5
      replace HB : Below w.heap.size w v5 := below_then (by repeat (first | with_reducible assumption | with_reducible exact Below.refl _ _ | with_reducible refine below_al ?_ _ | with_reducible refine below_drew ?_ | with_reducible refine below_drewN ?_ _ | with_reducible refine below_set ?_ (by dsimp only; omega) _)) hb5
      clear hb5
      have Lk_x := k_x.lt
      obtain ⟨k_x0, k_x1, k_x2, k_x3⟩ := k_x.two
      have Lk_y := k_y.lt
      obtain ⟨k_y0, k_y1, k_y2, k_y3⟩ := k_y.two
      go_wp2_with fail
      go_ret2
      exact ⟨by first | rfl | (rw [hr.out]; done) | (rw [hr.out]; rfl), (by repeat (first | with_reducible assumption | with_reducible exact Below.refl _ _ | with_reducible refine below_al ?_ _ | with_reducible refine below_drew ?_ | with_reducible refine below_drewN ?_ _ | with_reducible refine below_set ?_ (by dsimp only; omega) _))⟩
    · replace hr := Lib.hid hr
      have HL := Lib.hid hl
      clear hl
      have HM := Lib.hid hm
      clear hm
      go_upto_block 1 with fail
      generalize hWW : World.setCell _ _ _ = WX
      replace k_a : At WX (w.heap.size) 23 #[.int .i64 an, .int .i64 (p : Int)] := by rw [← hWW]; repeat (first | with_reducible assumption | with_reducible apply At.put0 | with_reducible apply At.put1 | with_reducible refine At.far ?_ (by dsimp only; omega) _ | with_reducible apply At.al | with_reducible apply At.drw | with_reducible apply At.dr)
      replace k_b : At WX (w.heap.size + 1) 23 #[.int .i64 bn, .int .i64 (q : Int)] := by rw [← hWW]; repeat (first | with_reducible assumption | with_reducible apply At.put0 | with_reducible apply At.put1 | with_reducible refine At.far ?_ (by dsimp only; omega) _ | with_reducible apply At.al | with_reducible apply At.drw | with_reducible apply At.dr)
      replace k_x : At WX (g_x) 59 #[.int .u64 (hiN Y : Int), .int .u64 (loN Y : Int)] := by rw [← hWW]; repeat (first | with_reducible assumption | with_reducible apply At.put0 | with_reducible apply At.put1 | with_reducible refine At.far ?_ (by dsimp only; omega) _ | with_reducible apply At.al | with_reducible apply At.drw | with_reducible apply At.dr)
      replace k_y : At WX (g_y) 59 #[.int .u64 (hiN X : Int), .int .u64 (loN X : Int)] := by rw [← hWW]; repeat (first | with_reducible assumption | with_reducible apply At.put0 | with_reducible apply At.put1 | with_reducible refine At.far ?_ (by dsimp only; omega) _ | with_reducible apply At.al | with_reducible apply At.drw | with_reducible apply At.dr)
      replace HB : Below w.heap.size w WX := by rw [← hWW]; repeat (first | with_reducible assumption | with_reducible exact Below.refl _ _ | with_reducible refine below_al ?_ _ | with_reducible refine below_drew ?_ | with_reducible refine below_drewN ?_ _ | with_reducible refine below_set ?_ (by dsimp only; omega) _)
      clear k_a0 k_a1 k_a2 k_a3 Lk_a k_b0 k_b1 k_b2 k_b3 Lk_b k_x0 k_x1 k_x2 k_x3 Lk_x k_y0 k_y1 k_y2 k_y3 Lk_y
      clear hWW
      have Lk_x := k_x.lt
      obtain ⟨k_x0, k_x1, k_x2, k_x3⟩ := k_x.two
      have Lk_y := k_y.lt
      obtain ⟨k_y0, k_y1, k_y2, k_y3⟩ := k_y.two
      go_wp2_with fail
      refine (HL.out _).mono ?_
      rintro e v4 ⟨rfl, hb4⟩
      clear k_x0 k_x1 k_x2 k_x3 Lk_x k_y0 k_y1 k_y2 k_y3 Lk_y
      replace k_a : At v4 (w.heap.size) 23 #[.int .i64 an, .int .i64 (p : Int)] := At.bel (by repeat (first | with_reducible assumption | with_reducible apply At.put0 | with_reducible apply At.put1 | with_reducible refine At.far ?_ (by dsimp only; omega) _ | with_reducible apply At.al | with_reducible apply At.drw | with_reducible apply At.dr)) hb4
      replace k_b : At v4 (w.heap.size + 1) 23 #[.int .i64 bn, .int .i64 (q : Int)] := At.bel (by repeat (first | with_reducible assumption | with_reducible apply At.put0 | with_reducible apply At.put1 | with_reducible refine At.far ?_ (by dsimp only; omega) _ | with_reducible apply At.al | with_reducible apply At.drw | with_reducible apply At.dr)) hb4
      replace k_x : At v4 (g_x) 59 #[.int .u64 (hiN Y : Int), .int .u64 (loN Y : Int)] := At.bel (by repeat (first | with_reducible assumption | with_reducible apply At.put0 | with_reducible apply At.put1 | with_reducible refine At.far ?_ (by dsimp only; omega) _ | with_reducible apply At.al | with_reducible apply At.drw | with_reducible apply At.dr)) hb4
      replace k_y : At v4 (g_y) 59 #[.int .u64 (hiN X : Int), .int .u64 (loN X : Int)] := At.bel (by repeat (first | with_reducible assumption | with_reducible apply At.put0 | with_reducible apply At.put1 | with_reducible refine At.far ?_ (by dsimp only; omega) _ | with_reducible apply At.al | with_reducible apply At.drw | with_reducible apply At.dr)) hb4
      replace HB : Below w.heap.size w v4 := below_then (by repeat (first | with_reducible assumption | with_reducible exact Below.refl _ _ | with_reducible refine below_al ?_ _ | with_reducible refine below_drew ?_ | with_reducible refine below_drewN ?_ _ | with_reducible refine below_set ?_ (by dsimp only; omega) _)) hb4
      clear hb4
      have Lk_x := k_x.lt
      obtain ⟨k_x0, k_x1, k_x2, k_x3⟩ := k_x.two
      have Lk_y := k_y.lt
      obtain ⟨k_y0, k_y1, k_y2, k_y3⟩ := k_y.two
      go_wp2_with fail
      refine (HM.out _).mono ?_
      rintro e v5 ⟨rfl, hb5⟩
      clear k_x0 k_x1 k_x2 k_x3 Lk_x k_y0 k_y1 k_y2 k_y3 Lk_y
      replace k_a : At v5 (w.heap.size) 23 #[.int .i64 an, .int .i64 (p : Int)] := At.bel (by repeat (first | with_reducible assumption | with_reducible apply At.put0 | with_reducible apply At.put1 | with_reducible refine At.far ?_ (by dsimp only; omega) _ | with_reducible apply At.al | with_reducible apply At.drw | with_reducible apply At.dr)) hb5
      replace k_b : At v5 (w.heap.size + 1) 23 #[.int .i64 bn, .int .i64 (q : Int)] := At.bel (by repeat (first | with_reducible assumption | with_reducible apply At.put0 | with_reducible apply At.put1 | with_reducible refine At.far ?_ (by dsimp only; omega) _ | with_reducible apply At.al | with_reducible apply At.drw | with_reducible apply At.dr)) hb5
      replace k_x : At v5 (g_x) 59 #[.int .u64 (hiN Y : Int), .int .u64 (loN Y : Int)] := At.bel (by repeat (first | with_reducible assumption | with_reducible apply At.put0 | with_reducible apply At.put1 | with_reducible refine At.far ?_ (by dsimp only; omega) _ | with_reducible apply At.al | with_reducible apply At.drw | with_reducible apply At.dr)) hb5
      replace k_y : At v5 (g_y) 59 #[.int .u64 (hiN X : Int), .int .u64 (loN X : Int)] := At.bel (by repeat (first | with_reducible assumption | with_reducible apply At.put0 | with_reducible apply At.put1 | with_reducible refine At.far ?_ (by dsimp only; omega) _ | with_reducible apply At.al | with_reducible apply At.drw | with_reducible apply At.dr)) hb5
      replace HB : Below w.heap.size w v5 := below_then (by repeat (first | with_reducible assumption | with_reducible exact Below.refl _ _ | with_reducible refine below_al ?_ _ | with_reducible refine below_drew ?_ | with_reducible refine below_drewN ?_ _ | with_reducible refine below_set ?_ (by dsimp only; omega) _)) hb5
      clear hb5
      have Lk_x := k_x.lt
      obtain ⟨k_x0, k_x1, k_x2, k_x3⟩ := k_x.two
      have Lk_y := k_y.lt
      obtain ⟨k_y0, k_y1, k_y2, k_y3⟩ := k_y.two
      go_wp2_with fail
      go_ret2
      exact ⟨by first | rfl | (rw [hr.out]; done) | (rw [hr.out]; rfl), (by repeat (first | with_reducible assumption | with_reducible exact Below.refl _ _ | with_reducible refine below_al ?_ _ | with_reducible refine below_drew ?_ | with_reducible refine below_drewN ?_ _ | with_reducible refine below_set ?_ (by dsimp only; omega) _))⟩
  · rcases h with ⟨hl, hr⟩ | ⟨hl, hm, hr⟩ | ⟨hl, hm, hr⟩
    · replace hr := Lib.hid hr
      have HL := Lib.hid hl
      clear hl
      go_wp2_with fail
      refine (HL.out _).mono ?_
      rintro e v4 ⟨rfl, hb4⟩
      clear k_a0 k_a1 k_a2 k_a3 Lk_a k_b0 k_b1 k_b2 k_b3 Lk_b k_x0 k_x1 k_x2 k_x3 Lk_x k_y0 k_y1 k_y2 k_y3 Lk_y
      replace k_a : At v4 (w.heap.size) 23 #[.int .i64 an, .int .i64 (p : Int)] := At.bel (by repeat (first | with_reducible assumption | with_reducible apply At.put0 | with_reducible apply At.put1 | with_reducible refine At.far ?_ (by dsimp only; omega) _ | with_reducible apply At.al | with_reducible apply At.drw | with_reducible apply At.dr)) hb4
      replace k_b : At v4 (w.heap.size + 1) 23 #[.int .i64 bn, .int .i64 (q : Int)] := At.bel (by repeat (first | with_reducible assumption | with_reducible apply At.put0 | with_reducible apply At.put1 | with_reducible refine At.far ?_ (by dsimp only; omega) _ | with_reducible apply At.al | with_reducible apply At.drw | with_reducible apply At.dr)) hb4
      replace k_x : At v4 (g_x) 59 #[.int .u64 (hiN X : Int), .int .u64 (loN X : Int)] := At.bel (by repeat (first | with_reducible assumption | with_reducible apply At.put0 | with_reducible apply At.put1 | with_reducible refine At.far ?_ (by dsimp only; omega) _ | with_reducible apply At.al | with_reducible apply At.drw | with_reducible apply At.dr)) hb4
      replace k_y : At v4 (g_y) 59 #[.int .u64 (hiN Y : Int), .int .u64 (loN Y : Int)] := At.bel (by repeat (first | with_reducible assumption | with_reducible apply At.put0 | with_reducible apply At.put1 | with_reducible refine At.far ?_ (by dsimp only; omega) _ | with_reducible apply At.al | with_reducible apply At.drw | with_reducible apply At.dr)) hb4
      replace HB : Below w.heap.size w v4 := below_then (by repeat (first | with_reducible assumption | with_reducible exact Below.refl _ _ | with_reducible refine below_al ?_ _ | with_reducible refine below_drew ?_ | with_reducible refine below_drewN ?_ _ | with_reducible refine below_set ?_ (by dsimp only; omega) _)) hb4
      clear hb4
      have Lk_x := k_x.lt
      obtain ⟨k_x0, k_x1, k_x2, k_x3⟩ := k_x.two
      have Lk_y := k_y.lt
      obtain ⟨k_y0, k_y1, k_y2, k_y3⟩ := k_y.two
      go_wp2_with fail
      go_ret2
      exact ⟨by first | rfl | (rw [hr.out]; done) | (rw [hr.out]; rfl), (by repeat (first | with_reducible assumption | with_reducible exact Below.refl _ _ | with_reducible refine below_al ?_ _ | with_reducible refine below_drew ?_ | with_reducible refine below_drewN ?_ _ | with_reducible refine below_set ?_ (by dsimp only; omega) _))⟩
    · replace hr := Lib.hid hr
      have HL := Lib.hid hl
      clear hl
      have HM := Lib.hid hm
      clear hm
      go_wp2_with fail
      refine (HL.out _).mono ?_
      rintro e v4 ⟨rfl, hb4⟩
      clear k_a0 k_a1 k_a2 k_a3 Lk_a k_b0 k_b1 k_b2 k_b3 Lk_b k_x0 k_x1 k_x2 k_x3 Lk_x k_y0 k_y1 k_y2 k_y3 Lk_y
      replace k_a : At v4 (w.heap.size) 23 #[.int .i64 an, .int .i64 (p : Int)] := At.bel (by repeat (first | with_reducible assumption | with_reducible apply At.put0 | with_reducible apply At.put1 | with_reducible refine At.far ?_ (by dsimp only; omega) _ | with_reducible apply At.al | with_reducible apply At.drw | with_reducible apply At.dr)) hb4
      replace k_b : At v4 (w.heap.size + 1) 23 #[.int .i64 bn, .int .i64 (q : Int)] := At.bel (by repeat (first | with_reducible assumption | with_reducible apply At.put0 | with_reducible apply At.put1 | with_reducible refine At.far ?_ (by dsimp only; omega) _ | with_reducible apply At.al | with_reducible apply At.drw | with_reducible apply At.dr)) hb4
      replace k_x : At v4 (g_x) 59 #[.int .u64 (hiN X : Int), .int .u64 (loN X : Int)] := At.bel (by repeat (first | with_reducible assumption | with_reducible apply At.put0 | with_reducible apply At.put1 | with_reducible refine At.far ?_ (by dsimp only; omega) _ | with_reducible apply At.al | with_reducible apply At.drw | with_reducible apply At.dr)) hb4
      replace k_y : At v4 (g_y) 59 #[.int .u64 (hiN Y : Int), .int .u64 (loN Y : Int)] := At.bel (by repeat (first | with_reducible assumption | with_reducible apply At.put0 | with_reducible apply At.put1 | with_reducible refine At.far ?_ (by dsimp only; omega) _ | with_reducible apply At.al | with_reducible apply At.drw | with_reducible apply At.dr)) hb4
      replace HB : Below w.heap.size w v4 := below_then (by repeat (first | with_reducible assumption | with_reducible exact Below.refl _ _ | with_reducible refine below_al ?_ _ | with_reducible refine below_drew ?_ | with_reducible refine below_drewN ?_ _ | with_reducible refine below_set ?_ (by dsimp only; omega) _)) hb4
      clear hb4
      have Lk_x := k_x.lt
      obtain ⟨k_x0, k_x1, k_x2, k_x3⟩ := k_x.two
      have Lk_y := k_y.lt
      obtain ⟨k_y0, k_y1, k_y2, k_y3⟩ := k_y.two
      go_wp2_with fail
      refine (HM.out _).mono ?_
      rintro e v5 ⟨rfl, hb5⟩
      clear k_x0 k_x1 k_x2 k_x3 Lk_x k_y0 k_y1 k_y2 k_y3 Lk_y
      replace k_a : At v5 (w.heap.size) 23 #[.int .i64 an, .int .i64 (p : Int)] := At.bel (by repeat (first | with_reducible assumption | with_reducible apply At.put0 | with_reducible apply At.put1 | with_reducible refine At.far ?_ (by dsimp only; omega) _ | with_reducible apply At.al | with_reducible apply At.drw | with_reducible apply At.dr)) hb5
      replace k_b : At v5 (w.heap.size + 1) 23 #[.int .i64 bn, .int .i64 (q : Int)] := At.bel (by repeat (first | with_reducible assumption | with_reducible apply At.put0 | with_reducible apply At.put1 | with_reducible refine At.far ?_ (by dsimp only; omega) _ | with_reducible apply At.al | with_reducible apply At.drw | with_reducible apply At.dr)) hb5
      replace k_x : At v5 (g_x) 59 #[.int .u64 (hiN X : Int), .int .u64 (loN X : Int)] := At.bel (by repeat (first | with_reducible assumption | with_reducible apply At.put0 | with_reducible apply At.put1 | with_reducible refine At.far ?_ (by dsimp only; omega) _ | with_reducible apply At.al | with_reducible apply At.drw | with_reducible apply At.dr)) hb5
      replace k_y : At v5 (g_y) 59 #[.int .u64 (hiN Y : Int), .int .u64 (loN Y : Int)] := At.bel (by repeat (first | with_reducible assumption | with_reducible apply At.put0 | with_reducible apply At.put1 | with_reducible refine At.far ?_ (by dsimp only; omega) _ | with_reducible apply At.al | with_reducible apply At.drw | with_reducible apply At.dr)) hb5
      replace HB : Below w.heap.size w v5 := below_then (by repeat (first | with_reducible assumption | with_reducible exact Below.refl _ _ | with_reducible refine below_al ?_ _ | with_reducible refine below_drew ?_ | with_reducible refine below_drewN ?_ _ | with_reducible refine below_set ?_ (by dsimp only; omega) _)) hb5
      clear hb5
      have Lk_x := k_x.lt
      obtain ⟨k_x0, k_x1, k_x2, k_x3⟩ := k_x.two
      have Lk_y := k_y.lt
      obtain ⟨k_y0, k_y1, k_y2, k_y3⟩ := k_y.two
      go_wp2_with fail
      go_ret2
      exact ⟨by first | rfl | (rw [hr.out]; done) | (rw [hr.out]; rfl), (by repeat (first | with_reducible assumption | with_reducible exact Below.refl _ _ | with_reducible refine below_al ?_ _ | with_reducible refine below_drew ?_ | with_reducible refine below_drewN ?_ _ | with_reducible refine below_set ?_ (by dsimp only; omega) _))⟩
    · replace hr := Lib.hid hr
      have HL := Lib.hid hl
      clear hl
      have HM := Lib.hid hm
      clear hm
      go_wp2_with fail
      refine (HL.out _).mono ?_
      rintro e v4 ⟨rfl, hb4⟩
      clear k_a0 k_a1 k_a2 k_a3 Lk_a k_b0 k_b1 k_b2 k_b3 Lk_b k_x0 k_x1 k_x2 k_x3 Lk_x k_y0 k_y1 k_y2 k_y3 Lk_y
      replace k_a : At v4 (w.heap.size) 23 #[.int .i64 an, .int .i64 (p : Int)] := At.bel (by repeat (first | with_reducible assumption | with_reducible apply At.put0 | with_reducible apply At.put1 | with_reducible refine At.far ?_ (by dsimp only; omega) _ | with_reducible apply At.al | with_reducible apply At.drw | with_reducible apply At.dr)) hb4
      replace k_b : At v4 (w.heap.size + 1) 23 #[.int .i64 bn, .int .i64 (q : Int)] := At.bel (by repeat (first | with_reducible assumption | with_reducible apply At.put0 | with_reducible apply At.put1 | with_reducible refine At.far ?_ (by dsimp only; omega) _ | with_reducible apply At.al | with_reducible apply At.drw | with_reducible apply At.dr)) hb4
      replace k_x : At v4 (g_x) 59 #[.int .u64 (hiN X : Int), .int .u64 (loN X : Int)] := At.bel (by repeat (first | with_reducible assumption | with_reducible apply At.put0 | with_reducible apply At.put1 | with_reducible refine At.far ?_ (by dsimp only; omega) _ | with_reducible apply At.al | with_reducible apply At.drw | with_reducible apply At.dr)) hb4
      replace k_y : At v4 (g_y) 59 #[.int .u64 (hiN Y : Int), .int .u64 (loN Y : Int)] := At.bel (by repeat (first | with_reducible assumption | with_reducible apply At.put0 | with_reducible apply At.put1 | with_reducible refine At.far ?_ (by dsimp only; omega) _ | with_reducible apply At.al | with_reducible apply At.drw | with_reducible apply At.dr)) hb4
      replace HB : Below w.heap.size w v4 := below_then (by repeat (first | with_reducible assumption | with_reducible exact Below.refl _ _ | with_reducible refine below_al ?_ _ | with_reducible refine below_drew ?_ | with_reducible refine below_drewN ?_ _ | with_reducible refine below_set ?_ (by dsimp only; omega) _)) hb4
      clear hb4
      have Lk_x := k_x.lt
      obtain ⟨k_x0, k_x1, k_x2, k_x3⟩ := k_x.two
      have Lk_y := k_y.lt
      obtain ⟨k_y0, k_y1, k_y2, k_y3⟩ := k_y.two
      go_wp2_with fail
      refine (HM.out _).mono ?_
      rintro e v5 ⟨rfl, hb5⟩
      clear k_x0 k_x1 k_x2 k_x3 Lk_x k_y0 k_y1 k_y2 k_y3 Lk_y
      replace k_a : At v5 (w.heap.size) 23 #[.int .i64 an, .int .i64 (p : Int)] := At.bel (by repeat (first | with_reducible assumption | with_reducible apply At.put0 | with_reducible apply At.put1 | with_reducible refine At.far ?_ (by dsimp only; omega) _ | with_reducible apply At.al | with_reducible apply At.drw | with_reducible apply At.dr)) hb5
      replace k_b : At v5 (w.heap.size + 1) 23 #[.int .i64 bn, .int .i64 (q : Int)] := At.bel (by repeat (first | with_reducible assumption | with_reducible apply At.put0 | with_reducible apply At.put1 | with_reducible refine At.far ?_ (by dsimp only; omega) _ | with_reducible apply At.al | with_reducible apply At.drw | with_reducible apply At.dr)) hb5
      replace k_x : At v5 (g_x) 59 #[.int .u64 (hiN X : Int), .int .u64 (loN X : Int)] := At.bel (by repeat (first | with_reducible assumption | with_reducible apply At.put0 | with_reducible apply At.put1 | with_reducible refine At.far ?_ (by dsimp only; omega) _ | with_reducible apply At.al | with_reducible apply At.drw | with_reducible apply At.dr)) hb5
      replace k_y : At v5 (g_y) 59 #[.int .u64 (hiN Y : Int), .int .u64 (loN Y : Int)] := At.bel (by repeat (first | with_reducible assumption | with_reducible apply At.put0 | with_reducible apply At.put1 | with_reducible refine At.far ?_ (by dsimp only; omega) _ | with_reducible apply At.al | with_reducible apply At.drw | with_reducible apply At.dr)) hb5
      replace HB : Below w.heap.size w v5 := below_then (by repeat (first | with_reducible assumption | with_reducible exact Below.refl _ _ | with_reducible refine below_al ?_ _ | with_reducible refine below_drew ?_ | with_reducible refine below_drewN ?_ _ | with_reducible refine below_set ?_ (by dsimp only; omega) _)) hb5
      clear hb5
      have Lk_x := k_x.lt
      obtain ⟨k_x0, k_x1, k_x2, k_x3⟩ := k_x.two
      have Lk_y := k_y.lt
      obtain ⟨k_y0, k_y1, k_y2, k_y3⟩ := k_y.two
      go_wp2_with fail
      go_ret2
      exact ⟨by first | rfl | (rw [hr.out]; done) | (rw [hr.out]; rfl), (by repeat (first | with_reducible assumption | with_reducible exact Below.refl _ _ | with_reducible refine below_al ?_ _ | with_reducible refine below_drew ?_ | with_reducible refine below_drewN ?_ _ | with_reducible refine below_set ?_ (by dsimp only; omega) _))⟩

def cmpI (x y : Int) : Int := if x < y then -1 else if y < x then 1 else 0
def rcmpS (an ad bn bd : Int) : Int × Int := if fracB an ad && fracB bn bd then (cmpI (an * bd) (bn * ad), 0) else (0, 1)
abbrev cmv (r : Int × Int) : Value := .tuple #[.int .i64 r.1, .int .i64 r.2]

set_option maxRecDepth 100000 in
theorem rcmp_bad1 (an ad bn bd : Int) 
    (HV1 : Hid (∀ w, Calls Tryd.prog 15 #[.agg #[.int .i64 an, .int .i64 ad]] w fun e w' => e = .returned (.bool false) ∧ Below w.heap.size w w')) (w : World) :
    Calls Tryd.prog 25 #[.agg #[.int .i64 an, .int .i64 ad], .agg #[.int .i64 bn, .int .i64 bd]] w fun e w' => e = .returned (cmv (0, 1)) ∧ Below w.heap.size w w' := by
  go_enter Tryd.func25, Tryd.ntmps25
  go_wp2_with fail
  refine (HV1.out _).mono ?_
  rintro e v1 ⟨rfl, hb1⟩
  have k_a : At v1 (w.heap.size) 23 #[.int .i64 an, .int .i64 ad] := At.bel (by (repeat (first | (with_reducible apply At.new'; (focus (simp; done))) | with_reducible apply At.al | with_reducible apply At.drw | with_reducible apply At.dr))) hb1
  have k_b : At v1 (w.heap.size + 1) 23 #[.int .i64 bn, .int .i64 bd] := At.bel (by (repeat (first | (with_reducible apply At.new'; (focus (simp; done))) | with_reducible apply At.al | with_reducible apply At.drw | with_reducible apply At.dr))) hb1
  have HB : Below w.heap.size w v1 := below_then (by repeat (first | with_reducible assumption | with_reducible exact Below.refl _ _ | with_reducible refine below_al ?_ _ | with_reducible refine below_drew ?_ | with_reducible refine below_drewN ?_ _ | with_reducible refine below_set ?_ (by dsimp only; omega) _)) hb1
  clear hb1
  have Lk_a := k_a.lt
  obtain ⟨k_a0, k_a1, k_a2, k_a3⟩ := k_a.two
  have Lk_b := k_b.lt
  obtain ⟨k_b0, k_b1, k_b2, k_b3⟩ := k_b.two
  go_wp2_with fail
  go_ret2
  exact ⟨rfl, (by repeat (first | with_reducible assumption | with_reducible exact Below.refl _ _ | with_reducible refine below_al ?_ _ | with_reducible refine below_drew ?_ | with_reducible refine below_drewN ?_ _ | with_reducible refine below_set ?_ (by dsimp only; omega) _))⟩

set_option maxRecDepth 100000 in
theorem rcmp_bad2 (an ad bn bd : Int) 
    (HV1 : Hid (∀ w, Calls Tryd.prog 15 #[.agg #[.int .i64 an, .int .i64 ad]] w fun e w' => e = .returned (.bool true) ∧ Below w.heap.size w w'))
    (HV2 : Hid (∀ w, Calls Tryd.prog 15 #[.agg #[.int .i64 bn, .int .i64 bd]] w fun e w' => e = .returned (.bool false) ∧ Below w.heap.size w w')) (w : World) :
    Calls Tryd.prog 25 #[.agg #[.int .i64 an, .int .i64 ad], .agg #[.int .i64 bn, .int .i64 bd]] w fun e w' => e = .returned (cmv (0, 1)) ∧ Below w.heap.size w w' := by
  go_enter Tryd.func25, Tryd.ntmps25
  go_wp2_with fail
  refine (HV1.out _).mono ?_
  rintro e v1 ⟨rfl, hb1⟩
  have k_a : At v1 (w.heap.size) 23 #[.int .i64 an, .int .i64 ad] := At.bel (by (repeat (first | (with_reducible apply At.new'; (focus (simp; done))) | with_reducible apply At.al | with_reducible apply At.drw | with_reducible apply At.dr))) hb1
  have k_b : At v1 (w.heap.size + 1) 23 #[.int .i64 bn, .int .i64 bd] := At.bel (by (repeat (first | (with_reducible apply At.new'; (focus (simp; done))) | with_reducible apply At.al | with_reducible apply At.drw | with_reducible apply At.dr))) hb1
  have HB : Below w.heap.size w v1 := below_then (by repeat (first | with_reducible assumption | with_reducible exact Below.refl _ _ | with_reducible refine below_al ?_ _ | with_reducible refine below_drew ?_ | with_reducible refine below_drewN ?_ _ | with_reducible refine below_set ?_ (by dsimp only; omega) _)) hb1
  clear hb1
  have Lk_a := k_a.lt
  obtain ⟨k_a0, k_a1, k_a2, k_a3⟩ := k_a.two
  have Lk_b := k_b.lt
  obtain ⟨k_b0, k_b1, k_b2, k_b3⟩ := k_b.two
  go_wp2_with fail
  refine (HV2.out _).mono ?_
  rintro e v2 ⟨rfl, hb2⟩
  clear k_a0 k_a1 k_a2 k_a3 Lk_a k_b0 k_b1 k_b2 k_b3 Lk_b
  replace k_a : At v2 (w.heap.size) 23 #[.int .i64 an, .int .i64 ad] := At.bel (by repeat (first | with_reducible assumption | with_reducible apply At.put0 | with_reducible apply At.put1 | with_reducible refine At.far ?_ (by dsimp only; omega) _ | with_reducible apply At.al | with_reducible apply At.drw | with_reducible apply At.dr)) hb2
  replace k_b : At v2 (w.heap.size + 1) 23 #[.int .i64 bn, .int .i64 bd] := At.bel (by repeat (first | with_reducible assumption | with_reducible apply At.put0 | with_reducible apply At.put1 | with_reducible refine At.far ?_ (by dsimp only; omega) _ | with_reducible apply At.al | with_reducible apply At.drw | with_reducible apply At.dr)) hb2
  replace HB : Below w.heap.size w v2 := below_then (by repeat (first | with_reducible assumption | with_reducible exact Below.refl _ _ | with_reducible refine below_al ?_ _ | with_reducible refine below_drew ?_ | with_reducible refine below_drewN ?_ _ | with_reducible refine below_set ?_ (by dsimp only; omega) _)) hb2
  clear hb2
  have Lk_a := k_a.lt
  obtain ⟨k_a0, k_a1, k_a2, k_a3⟩ := k_a.two
  have Lk_b := k_b.lt
  obtain ⟨k_b0, k_b1, k_b2, k_b3⟩ := k_b.two
  go_wp2_with fail
  go_ret2
  exact ⟨rfl, (by repeat (first | with_reducible assumption | with_reducible exact Below.refl _ _ | with_reducible refine below_al ?_ _ | with_reducible refine below_drew ?_ | with_reducible refine below_drewN ?_ _ | with_reducible refine below_set ?_ (by dsimp only; omega) _))⟩

theorem rcmp_any (an ad bn bd : Int) (w : World) :
    Calls Tryd.prog 25 #[.agg #[.int .i64 an, .int .i64 ad], .agg #[.int .i64 bn, .int .i64 bd]] w fun e w' => e = .returned (cmv (rcmpS an ad bn bd)) ∧ Below w.heap.size w w' := by
  cases h1 : fracB an ad
  · rw [show rcmpS an ad bn bd = (0, 1) from by simp [rcmpS, h1]]
    exact rcmp_bad1 an ad bn bd (Lib.hid (fun w => by have := fvalid_any an ad w; rw [h1] at this; exact this)) w
  · cases h2 : fracB bn bd
    · rw [show rcmpS an ad bn bd = (0, 1) from by simp [rcmpS, h2]]
      exact rcmp_bad2 an ad bn bd (Lib.hid (fun w => by have := fvalid_any an ad w; rw [h1] at this; exact this)) (Lib.hid (fun w => by have := fvalid_any bn bd w; rw [h2] at this; exact this)) w
    · obtain ⟨p, rfl⟩ : ∃ p : Nat, ad = (p : Int) := ⟨ad.toNat, by have := (fracB_iff.1 h1).1; omega⟩
      obtain ⟨q, rfl⟩ : ∃ q : Nat, bd = (q : Int) := ⟨bd.toNat, by have := (fracB_iff.1 h2).1; omega⟩
      have g1 := fracB_iff.1 h1
      have g2 := fracB_iff.1 h2
      rw [show rcmpS an p bn q = (cmpI (an * q) (bn * p), 0) from by simp [rcmpS, h1, h2]]
      have HX := hid_same (fun w => rsize_any an (by omega) w)
      have HY := hid_same (fun w => rsize_any bn (by omega) w)
      have HP := Lib.hid (fun w => product_any an.natAbs q (by omega) (by omega) w)
      have HQ := Lib.hid (fun w => product_any bn.natAbs p (by omega) (by omega) w)
      have w1 : ∀ k : Nat, k ≤ 1152921504606846976 → IntKind.u64.wrap (k : Int) = (k : Int) := fun k hk => by rw [IntKind.wrap_u64]; omega
      refine rcmp_core an bn an.natAbs bn.natAbs p q (an.natAbs * q) (bn.natAbs * p) (cmpI (an * q) (bn * p)) (by omega) (by omega) (w1 _ (by omega)) (w1 _ (by omega)) (Lib.hid (fun w => by have := fvalid_any an p w; rw [h1] at this; exact this)) (Lib.hid (fun w => by have := fvalid_any bn q w; rw [h2] at this; exact this)) HX HY HP HQ (Lib.hid ?_) w
      have hL := fun A B w => rless_u A B w
      have ex : (an.natAbs : Int) * (q : Int) = ((an.natAbs * q : Nat) : Int) := by simp
      have ey : (bn.natAbs : Int) * (p : Int) = ((bn.natAbs * p : Nat) : Int) := by simp
      have tr : ∀ (A B : Nat), (∀ w, Calls Tryd.prog 44 #[uv A, uv B] w fun e w' => e = .returned (.bool (decide (A < B))) ∧ Below w.heap.size w w') := fun A B w => rless_u A B w
      have key : ∀ (A B : Nat), ((∀ w, Calls Tryd.prog 44 #[uv A, uv B] w fun e w' => e = .returned (.bool true) ∧ Below w.heap.size w w') ∧ cmpI (A : Int) (B : Int) = -1 ∨ (∀ w, Calls Tryd.prog 44 #[uv A, uv B] w fun e w' => e = .returned (.bool false) ∧ Below w.heap.size w w') ∧ (∀ w, Calls Tryd.prog 44 #[uv B, uv A] w fun e w' => e = .returned (.bool true) ∧ Below w.heap.size w w') ∧ cmpI (A : Int) (B : Int) = 1 ∨ (∀ w, Calls Tryd.prog 44 #[uv A, uv B] w fun e w' => e = .returned (.bool false) ∧ Below w.heap.size w w') ∧ (∀ w, Calls Tryd.prog 44 #[uv B, uv A] w fun e w' => e = .returned (.bool false) ∧ Below w.heap.size w w') ∧ cmpI (A : Int) (B : Int) = 0) := fun A B => by
        rcases Nat.lt_trichotomy A B with h | h | h
        · left
          exact ⟨fun w => by have := tr A B w; rw [decide_eq_true h] at this; exact this, by unfold cmpI; rw [if_pos (by omega)]⟩
        · right; right
          exact ⟨fun w => by have := tr A B w; rw [decide_eq_false (by omega)] at this; exact this, fun w => by have := tr B A w; rw [decide_eq_false (by omega)] at this; exact this, by unfold cmpI; rw [if_neg (by omega), if_neg (by omega)]⟩
        · right; left
          exact ⟨fun w => by have := tr A B w; rw [decide_eq_false (by omega)] at this; exact this, fun w => by have := tr B A w; rw [decide_eq_true h] at this; exact this, by unfold cmpI; rw [if_neg (by omega), if_pos (by omega)]⟩
      by_cases s1 : an < 0 <;> by_cases s2 : bn < 0
      · right; right; left
        have e1 : an * (q : Int) = -((an.natAbs * q : Nat) : Int) := by rw [← ex, ← Int.neg_mul]; congr 1; omega
        have e2 : bn * (p : Int) = -((bn.natAbs * p : Nat) : Int) := by rw [← ey, ← Int.neg_mul]; congr 1; omega
        have ec : cmpI (an * q) (bn * p) = cmpI ((bn.natAbs * p : Nat) : Int) ((an.natAbs * q : Nat) : Int) := by rw [e1, e2]; unfold cmpI; (repeat' split) <;> omega
        rw [ec]
        exact ⟨by simp [s2], by simp [s1], key _ _⟩
      · left
        have k1 := Int.mul_neg_of_neg_of_pos s1 (show (0 : Int) < (q : Int) by omega)
        have k2 := Int.mul_nonneg (show 0 ≤ bn by omega) (show (0 : Int) ≤ (p : Int) by omega)
        exact ⟨by simp [s2], by simp [s1], by unfold cmpI; rw [if_pos (by omega)]⟩
      · right; left
        have k1 := Int.mul_nonneg (show 0 ≤ an by omega) (show (0 : Int) ≤ (q : Int) by omega)
        have k2 := Int.mul_neg_of_neg_of_pos s2 (show (0 : Int) < (p : Int) by omega)
        exact ⟨by simp [s2], by simp [s1], by unfold cmpI; rw [if_neg (by omega), if_pos (by omega)]⟩
      · right; right; right
        have e1 : an * (q : Int) = ((an.natAbs * q : Nat) : Int) := by rw [← ex]; congr 1; omega
        have e2 : bn * (p : Int) = ((bn.natAbs * p : Nat) : Int) := by rw [← ey]; congr 1; omega
        rw [e1, e2]
        exact ⟨by simp [s2], by simp [s1], key _ _⟩

#print axioms rcmp_any

end Go.Proofs.YtpijmjffobkalaaDoor
