/- The reference's Cmp, Floor, Ceil; the statements' comparison. -/
import Derived.Test.YtpijmjffobkalaaDoorRaRef2
set_option linter.unusedVariables false
namespace Go.Proofs.YtpijmjffobkalaaDoor
open Go.ChangeShapes Go.WideShapes Go.ChangeAt Go.RowKit

set_option maxRecDepth 100000 in
set_option maxHeartbeats 4000000 in
theorem refcmp_core (an bn : Int) (x y p q X Y : Nat) (r : Int)
    (HX : Hid (∀ w, Calls Tryd.prog 49 #[.int .i64 an] w fun e w' => e = .returned (.int .u64 (x : Int)) ∧ Below w.heap.size w w'))
    (HY : Hid (∀ w, Calls Tryd.prog 49 #[.int .i64 bn] w fun e w' => e = .returned (.int .u64 (y : Int)) ∧ Below w.heap.size w w'))
    (HP : Hid (∀ w, Calls Tryd.prog 49 #[.int .i64 (p : Int)] w fun e w' => e = .returned (.int .u64 (p : Int)) ∧ Below w.heap.size w w'))
    (HQ : Hid (∀ w, Calls Tryd.prog 49 #[.int .i64 (q : Int)] w fun e w' => e = .returned (.int .u64 (q : Int)) ∧ Below w.heap.size w w'))
    (HMX : Hid (∀ w, Calls Tryd.prog 53 #[.int .u64 (x : Int), .int .u64 (q : Int)] w fun e w' => e = .returned (uv X) ∧ Below w.heap.size w w'))
    (HMY : Hid (∀ w, Calls Tryd.prog 53 #[.int .u64 (y : Int), .int .u64 (p : Int)] w fun e w' => e = .returned (uv Y) ∧ Below w.heap.size w w'))
    (HR : Hid (0 ≤ bn ∧ an < 0 ∧ r = -1 ∨ bn < 0 ∧ 0 ≤ an ∧ r = 1 ∨ 0 ≤ an ∧ 0 ≤ bn ∧ X = Y ∧ r = 0 ∨ an < 0 ∧ bn < 0 ∧ X = Y ∧ r = 0 ∨ an < 0 ∧ bn < 0 ∧ (((hiN X : Int) == (hiN Y : Int)) = false ∨ ((hiN X : Int) == (hiN Y : Int)) = true ∧ ((loN X : Int) == (loN Y : Int)) = false) ∧ (∀ w, Calls Tryd.prog 55 #[uv X, uv Y] w fun e w' => e = .returned (.bool true) ∧ Below w.heap.size w w') ∧ r = 1 ∨ an < 0 ∧ bn < 0 ∧ (((hiN X : Int) == (hiN Y : Int)) = false ∨ ((hiN X : Int) == (hiN Y : Int)) = true ∧ ((loN X : Int) == (loN Y : Int)) = false) ∧ (∀ w, Calls Tryd.prog 55 #[uv X, uv Y] w fun e w' => e = .returned (.bool false) ∧ Below w.heap.size w w') ∧ r = -1 ∨ 0 ≤ an ∧ 0 ≤ bn ∧ (((hiN X : Int) == (hiN Y : Int)) = false ∨ ((hiN X : Int) == (hiN Y : Int)) = true ∧ ((loN X : Int) == (loN Y : Int)) = false) ∧ (∀ w, Calls Tryd.prog 55 #[uv X, uv Y] w fun e w' => e = .returned (.bool true) ∧ Below w.heap.size w w') ∧ r = -1 ∨ 0 ≤ an ∧ 0 ≤ bn ∧ (((hiN X : Int) == (hiN Y : Int)) = false ∨ ((hiN X : Int) == (hiN Y : Int)) = true ∧ ((loN X : Int) == (loN Y : Int)) = false) ∧ (∀ w, Calls Tryd.prog 55 #[uv X, uv Y] w fun e w' => e = .returned (.bool false) ∧ Below w.heap.size w w') ∧ r = 1)) (w : World) :
    Calls Tryd.prog 30 #[.agg #[.int .i64 an, .int .i64 (p : Int)], .agg #[.int .i64 bn, .int .i64 (q : Int)]] w fun e w' => e = .returned (.int .i64 r) ∧ Below w.heap.size w w' := by
  go_enter Tryd.func30, Tryd.ntmps30
  go_wp2_with fail
  have HB : Below w.heap.size w w := Below.refl _ _
  generalize hWW : World.alloc _ _ = WW
  have k_a : At WW (w.heap.size) 23 #[.int .i64 an, .int .i64 (p : Int)] := by rw [← hWW]; (repeat (first | (with_reducible apply At.new'; (focus (simp; done))) | with_reducible apply At.al | with_reducible apply At.drw | with_reducible apply At.dr))
  have k_b : At WW (w.heap.size + 1) 23 #[.int .i64 bn, .int .i64 (q : Int)] := by rw [← hWW]; (repeat (first | (with_reducible apply At.new'; (focus (simp; done))) | with_reducible apply At.al | with_reducible apply At.drw | with_reducible apply At.dr))
  replace HB : Below w.heap.size w WW := by rw [← hWW]; repeat (first | with_reducible assumption | with_reducible exact Below.refl _ _ | with_reducible refine below_al ?_ _ | with_reducible refine below_drew ?_ | with_reducible refine below_drewN ?_ _ | with_reducible refine below_set ?_ (by dsimp only; omega) _)
  clear hWW
  refine wp_only ?_
  refine wp_region_grow2 14 (by kernel_rfl) (o1 := _) (o2 := _) (d1 := 5) (t1 := 69) (z1 := #[.int .u64 0, .int .u64 0]) (d2 := 6) (t2 := 69) (z2 := #[.int .u64 0, .int .u64 0]) rfl rfl ⟨rfl, rfl, fun _ _ => by rfl⟩ ⟨rfl, rfl, fun _ _ => by rfl⟩ (by decide) (by kernel_rfl) only_panic ?_
  apply Exists.intro
  refine And.intro (fun W' hW' => ?_) ?_
  focus
    have Kk_a := At.bel (show At _ (w.heap.size) 23 #[.int .i64 an, .int .i64 (p : Int)] from (by repeat (first | with_reducible assumption | with_reducible apply At.put0 | with_reducible apply At.put1 | with_reducible refine At.far ?_ (by dsimp only; omega) _ | with_reducible apply At.al | with_reducible apply At.drw | with_reducible apply At.dr))) hW'
    have Kk_a0 := cell_regrown Kk_a.c0
    have Kk_a1 := cell_regrown Kk_a.c1
    have Kk_b := At.bel (show At _ (w.heap.size + 1) 23 #[.int .i64 bn, .int .i64 (q : Int)] from (by repeat (first | with_reducible assumption | with_reducible apply At.put0 | with_reducible apply At.put1 | with_reducible refine At.far ?_ (by dsimp only; omega) _ | with_reducible apply At.al | with_reducible apply At.drw | with_reducible apply At.dr))) hW'
    have Kk_b0 := cell_regrown Kk_b.c0
    have Kk_b1 := cell_regrown Kk_b.c1
    simp only [List.take_succ_cons, List.take_zero]
    repeat (go_big_quiet_step ((first | with_reducible exact regrown_call HX.out | with_reducible exact regrown_call HY.out | with_reducible exact regrown_call HP.out | with_reducible exact regrown_call HQ.out | with_reducible exact regrown_call HMX.out | with_reducible exact regrown_call HMY.out)))
    exact wpQuiet_nil rfl
  intro g_x g_y v1 hb1 lb_x lb_y ne_xy k_x k_y
  have Mk_a := k_a.lt
  have Mk_b := k_b.lt
  replace k_a : At v1 (w.heap.size) 23 #[.int .i64 an, .int .i64 (p : Int)] := At.bel (by repeat (first | with_reducible assumption | with_reducible apply At.put0 | with_reducible apply At.put1 | with_reducible refine At.far ?_ (by dsimp only; omega) _ | with_reducible apply At.al | with_reducible apply At.drw | with_reducible apply At.dr)) hb1
  replace k_b : At v1 (w.heap.size + 1) 23 #[.int .i64 bn, .int .i64 (q : Int)] := At.bel (by repeat (first | with_reducible assumption | with_reducible apply At.put0 | with_reducible apply At.put1 | with_reducible refine At.far ?_ (by dsimp only; omega) _ | with_reducible apply At.al | with_reducible apply At.drw | with_reducible apply At.dr)) hb1
  replace HB : Below w.heap.size w v1 := below_then (by repeat (first | with_reducible assumption | with_reducible exact Below.refl _ _ | with_reducible refine below_al ?_ _ | with_reducible refine below_drew ?_ | with_reducible refine below_drewN ?_ _ | with_reducible refine below_set ?_ (by dsimp only; omega) _)) hb1
  clear hb1
  simp only [List.drop_succ_cons, List.drop_zero]
  have Lk_x := k_x.lt
  obtain ⟨k_x0, k_x1, k_x2, k_x3⟩ := k_x.two
  have Lk_y := k_y.lt
  obtain ⟨k_y0, k_y1, k_y2, k_y3⟩ := k_y.two
  go_upto_region 2 with fail
  generalize hWW : World.setCell _ _ _ = W0
  replace k_a : At W0 (w.heap.size) 23 #[.int .i64 an, .int .i64 (p : Int)] := by rw [← hWW]; repeat (first | with_reducible assumption | with_reducible apply At.put0 | with_reducible apply At.put1 | with_reducible refine At.far ?_ (by dsimp only; omega) _ | with_reducible apply At.al | with_reducible apply At.drw | with_reducible apply At.dr)
  replace k_b : At W0 (w.heap.size + 1) 23 #[.int .i64 bn, .int .i64 (q : Int)] := by rw [← hWW]; repeat (first | with_reducible assumption | with_reducible apply At.put0 | with_reducible apply At.put1 | with_reducible refine At.far ?_ (by dsimp only; omega) _ | with_reducible apply At.al | with_reducible apply At.drw | with_reducible apply At.dr)
  replace k_x : At W0 (g_x) 69 #[.int .u64 (hiN X : Int), .int .u64 (loN X : Int)] := by rw [← hWW]; repeat (first | with_reducible assumption | with_reducible apply At.put0 | with_reducible apply At.put1 | with_reducible refine At.far ?_ (by dsimp only; omega) _ | with_reducible apply At.al | with_reducible apply At.drw | with_reducible apply At.dr)
  replace k_y : At W0 (g_y) 69 #[.int .u64 (hiN Y : Int), .int .u64 (loN Y : Int)] := by rw [← hWW]; repeat (first | with_reducible assumption | with_reducible apply At.put0 | with_reducible apply At.put1 | with_reducible refine At.far ?_ (by dsimp only; omega) _ | with_reducible apply At.al | with_reducible apply At.drw | with_reducible apply At.dr)
  replace HB : Below w.heap.size w W0 := by rw [← hWW]; repeat (first | with_reducible assumption | with_reducible exact Below.refl _ _ | with_reducible refine below_al ?_ _ | with_reducible refine below_drew ?_ | with_reducible refine below_drewN ?_ _ | with_reducible refine below_set ?_ (by dsimp only; omega) _)
  clear k_x0 k_x1 k_x2 k_x3 Lk_x k_y0 k_y1 k_y2 k_y3 Lk_y
  clear hWW
  have Lk_a := k_a.lt
  obtain ⟨k_a0, k_a1, k_a2, k_a3⟩ := k_a.two
  have Lk_b := k_b.lt
  obtain ⟨k_b0, k_b1, k_b2, k_b3⟩ := k_b.two
  rcases HR.out with ⟨s2, s1, hr⟩ | ⟨s2, s1, hr⟩ | ⟨s1, s2, he, hr⟩ | ⟨s1, s2, he, hr⟩ | ⟨s1, s2, ne, hl, hr⟩ | ⟨s1, s2, ne, hl, hr⟩ | ⟨s1, s2, ne, hl, hr⟩ | ⟨s1, s2, ne, hl, hr⟩
  · replace hr := Lib.hid hr
    go_wp2_with fail
    go_ret
    exact ⟨by first | rfl | (rw [hr.out]; done) | (rw [hr.out]; rfl), (by repeat (first | with_reducible assumption | with_reducible exact Below.refl _ _ | with_reducible refine below_al ?_ _ | with_reducible refine below_drew ?_ | with_reducible refine below_drewN ?_ _ | with_reducible refine below_set ?_ (by dsimp only; omega) _))⟩
  · replace hr := Lib.hid hr
    go_wp2_with fail
    go_ret
    exact ⟨by first | rfl | (rw [hr.out]; done) | (rw [hr.out]; rfl), (by repeat (first | with_reducible assumption | with_reducible exact Below.refl _ _ | with_reducible refine below_al ?_ _ | with_reducible refine below_drew ?_ | with_reducible refine below_drewN ?_ _ | with_reducible refine below_set ?_ (by dsimp only; omega) _))⟩
  · replace hr := Lib.hid hr
    subst he
    have Lk_x := k_x.lt
    obtain ⟨k_x0, k_x1, k_x2, k_x3⟩ := k_x.two
    have Lk_y := k_y.lt
    obtain ⟨k_y0, k_y1, k_y2, k_y3⟩ := k_y.two
    go_wp2_with fail
    go_ret
    exact ⟨by first | rfl | (rw [hr.out]; done) | (rw [hr.out]; rfl), (by repeat (first | with_reducible assumption | with_reducible exact Below.refl _ _ | with_reducible refine below_al ?_ _ | with_reducible refine below_drew ?_ | with_reducible refine below_drewN ?_ _ | with_reducible refine below_set ?_ (by dsimp only; omega) _))⟩
  · replace hr := Lib.hid hr
    subst he
    have Lk_x := k_x.lt
    obtain ⟨k_x0, k_x1, k_x2, k_x3⟩ := k_x.two
    have Lk_y := k_y.lt
    obtain ⟨k_y0, k_y1, k_y2, k_y3⟩ := k_y.two
    go_wp2_with fail
    go_ret
    exact ⟨by first | rfl | (rw [hr.out]; done) | (rw [hr.out]; rfl), (by repeat (first | with_reducible assumption | with_reducible exact Below.refl _ _ | with_reducible refine below_al ?_ _ | with_reducible refine below_drew ?_ | with_reducible refine below_drewN ?_ _ | with_reducible refine below_set ?_ (by dsimp only; omega) _))⟩
  · replace hr := Lib.hid hr
    have Lk_x := k_x.lt
    obtain ⟨k_x0, k_x1, k_x2, k_x3⟩ := k_x.two
    have Lk_y := k_y.lt
    obtain ⟨k_y0, k_y1, k_y2, k_y3⟩ := k_y.two
    have HL := Lib.hid hl
    clear hl
    have d1 : decide (0 ≤ an) = false := by simp; omega
    rcases ne with ne | ⟨ne, ne2⟩
    all_goals
      go_wp2_with fail
      clear k_a0 k_a1 k_a2 k_a3 Lk_a k_b0 k_b1 k_b2 k_b3 Lk_b k_x0 k_x1 k_x2 k_x3 Lk_x k_y0 k_y1 k_y2 k_y3 Lk_y
      have Kk_a0 := cell_regrown k_a.c0
      have Kk_a1 := cell_regrown k_a.c1
      have Kk_b0 := cell_regrown k_b.c0
      have Kk_b1 := cell_regrown k_b.c1
      have Kk_x0 := cell_regrown k_x.c0
      have Kk_x1 := cell_regrown k_x.c1
      have Kk_y0 := cell_regrown k_y.c0
      have Kk_y1 := cell_regrown k_y.c1
      refine wp_region_quiet_below (by kernel_rfl) (by kernel_rfl) ?_
      repeat (go_big_quiet_step ((first | with_reducible exact regrown_call HL.out)))
      refine wpQuiet_nil ?_
      intro v2 hb2'
      have hb2 := below_of_regrown hb2'
      clear hb2' Kk_a0 Kk_a1 Kk_b0 Kk_b1 Kk_x0 Kk_x1 Kk_y0 Kk_y1
      replace k_a : At v2 (w.heap.size) 23 #[.int .i64 an, .int .i64 (p : Int)] := At.bel (by repeat (first | with_reducible assumption | with_reducible apply At.put0 | with_reducible apply At.put1 | with_reducible refine At.far ?_ (by dsimp only; omega) _ | with_reducible apply At.al | with_reducible apply At.drw | with_reducible apply At.dr)) hb2
      replace k_b : At v2 (w.heap.size + 1) 23 #[.int .i64 bn, .int .i64 (q : Int)] := At.bel (by repeat (first | with_reducible assumption | with_reducible apply At.put0 | with_reducible apply At.put1 | with_reducible refine At.far ?_ (by dsimp only; omega) _ | with_reducible apply At.al | with_reducible apply At.drw | with_reducible apply At.dr)) hb2
      replace k_x : At v2 (g_x) 69 #[.int .u64 (hiN X : Int), .int .u64 (loN X : Int)] := At.bel (by repeat (first | with_reducible assumption | with_reducible apply At.put0 | with_reducible apply At.put1 | with_reducible refine At.far ?_ (by dsimp only; omega) _ | with_reducible apply At.al | with_reducible apply At.drw | with_reducible apply At.dr)) hb2
      replace k_y : At v2 (g_y) 69 #[.int .u64 (hiN Y : Int), .int .u64 (loN Y : Int)] := At.bel (by repeat (first | with_reducible assumption | with_reducible apply At.put0 | with_reducible apply At.put1 | with_reducible refine At.far ?_ (by dsimp only; omega) _ | with_reducible apply At.al | with_reducible apply At.drw | with_reducible apply At.dr)) hb2
      replace HB : Below w.heap.size w v2 := below_then (by repeat (first | with_reducible assumption | with_reducible exact Below.refl _ _ | with_reducible refine below_al ?_ _ | with_reducible refine below_drew ?_ | with_reducible refine below_drewN ?_ _ | with_reducible refine below_set ?_ (by dsimp only; omega) _)) hb2
      clear hb2
      go_wp2_with fail
      go_ret
      exact ⟨by first | rfl | (rw [hr.out]; done) | (rw [hr.out]; rfl), (by repeat (first | with_reducible assumption | with_reducible exact Below.refl _ _ | with_reducible refine below_al ?_ _ | with_reducible refine below_drew ?_ | with_reducible refine below_drewN ?_ _ | with_reducible refine below_set ?_ (by dsimp only; omega) _))⟩
  · replace hr := Lib.hid hr
    have Lk_x := k_x.lt
    obtain ⟨k_x0, k_x1, k_x2, k_x3⟩ := k_x.two
    have Lk_y := k_y.lt
    obtain ⟨k_y0, k_y1, k_y2, k_y3⟩ := k_y.two
    have HL := Lib.hid hl
    clear hl
    have d1 : decide (0 ≤ an) = false := by simp; omega
    rcases ne with ne | ⟨ne, ne2⟩
    all_goals
      go_wp2_with fail
      clear k_a0 k_a1 k_a2 k_a3 Lk_a k_b0 k_b1 k_b2 k_b3 Lk_b k_x0 k_x1 k_x2 k_x3 Lk_x k_y0 k_y1 k_y2 k_y3 Lk_y
      have Kk_a0 := cell_regrown k_a.c0
      have Kk_a1 := cell_regrown k_a.c1
      have Kk_b0 := cell_regrown k_b.c0
      have Kk_b1 := cell_regrown k_b.c1
      have Kk_x0 := cell_regrown k_x.c0
      have Kk_x1 := cell_regrown k_x.c1
      have Kk_y0 := cell_regrown k_y.c0
      have Kk_y1 := cell_regrown k_y.c1
      refine wp_region_quiet_below (by kernel_rfl) (by kernel_rfl) ?_
      repeat (go_big_quiet_step ((first | with_reducible exact regrown_call HL.out)))
      refine wpQuiet_nil ?_
      intro v2 hb2'
      have hb2 := below_of_regrown hb2'
      clear hb2' Kk_a0 Kk_a1 Kk_b0 Kk_b1 Kk_x0 Kk_x1 Kk_y0 Kk_y1
      replace k_a : At v2 (w.heap.size) 23 #[.int .i64 an, .int .i64 (p : Int)] := At.bel (by repeat (first | with_reducible assumption | with_reducible apply At.put0 | with_reducible apply At.put1 | with_reducible refine At.far ?_ (by dsimp only; omega) _ | with_reducible apply At.al | with_reducible apply At.drw | with_reducible apply At.dr)) hb2
      replace k_b : At v2 (w.heap.size + 1) 23 #[.int .i64 bn, .int .i64 (q : Int)] := At.bel (by repeat (first | with_reducible assumption | with_reducible apply At.put0 | with_reducible apply At.put1 | with_reducible refine At.far ?_ (by dsimp only; omega) _ | with_reducible apply At.al | with_reducible apply At.drw | with_reducible apply At.dr)) hb2
      replace k_x : At v2 (g_x) 69 #[.int .u64 (hiN X : Int), .int .u64 (loN X : Int)] := At.bel (by repeat (first | with_reducible assumption | with_reducible apply At.put0 | with_reducible apply At.put1 | with_reducible refine At.far ?_ (by dsimp only; omega) _ | with_reducible apply At.al | with_reducible apply At.drw | with_reducible apply At.dr)) hb2
      replace k_y : At v2 (g_y) 69 #[.int .u64 (hiN Y : Int), .int .u64 (loN Y : Int)] := At.bel (by repeat (first | with_reducible assumption | with_reducible apply At.put0 | with_reducible apply At.put1 | with_reducible refine At.far ?_ (by dsimp only; omega) _ | with_reducible apply At.al | with_reducible apply At.drw | with_reducible apply At.dr)) hb2
      replace HB : Below w.heap.size w v2 := below_then (by repeat (first | with_reducible assumption | with_reducible exact Below.refl _ _ | with_reducible refine below_al ?_ _ | with_reducible refine below_drew ?_ | with_reducible refine below_drewN ?_ _ | with_reducible refine below_set ?_ (by dsimp only; omega) _)) hb2
      clear hb2
      go_wp2_with fail
      go_ret
      exact ⟨by first | rfl | (rw [hr.out]; done) | (rw [hr.out]; rfl), (by repeat (first | with_reducible assumption | with_reducible exact Below.refl _ _ | with_reducible refine below_al ?_ _ | with_reducible refine below_drew ?_ | with_reducible refine below_drewN ?_ _ | with_reducible refine below_set ?_ (by dsimp only; omega) _))⟩
  · replace hr := Lib.hid hr
    have Lk_x := k_x.lt
    obtain ⟨k_x0, k_x1, k_x2, k_x3⟩ := k_x.two
    have Lk_y := k_y.lt
    obtain ⟨k_y0, k_y1, k_y2, k_y3⟩ := k_y.two
    have HL := Lib.hid hl
    clear hl
    have d1 : decide (0 ≤ an) = true := by simp; omega
    rcases ne with ne | ⟨ne, ne2⟩
    all_goals
      go_wp2_with fail
      clear k_a0 k_a1 k_a2 k_a3 Lk_a k_b0 k_b1 k_b2 k_b3 Lk_b k_x0 k_x1 k_x2 k_x3 Lk_x k_y0 k_y1 k_y2 k_y3 Lk_y
      have Kk_a0 := cell_regrown k_a.c0
      have Kk_a1 := cell_regrown k_a.c1
      have Kk_b0 := cell_regrown k_b.c0
      have Kk_b1 := cell_regrown k_b.c1
      have Kk_x0 := cell_regrown k_x.c0
      have Kk_x1 := cell_regrown k_x.c1
      have Kk_y0 := cell_regrown k_y.c0
      have Kk_y1 := cell_regrown k_y.c1
      refine wp_region_quiet_below (by kernel_rfl) (by kernel_rfl) ?_
      repeat (go_big_quiet_step ((first | with_reducible exact regrown_call HL.out)))
      refine wpQuiet_nil ?_
      intro v2 hb2'
      have hb2 := below_of_regrown hb2'
      clear hb2' Kk_a0 Kk_a1 Kk_b0 Kk_b1 Kk_x0 Kk_x1 Kk_y0 Kk_y1
      replace k_a : At v2 (w.heap.size) 23 #[.int .i64 an, .int .i64 (p : Int)] := At.bel (by repeat (first | with_reducible assumption | with_reducible apply At.put0 | with_reducible apply At.put1 | with_reducible refine At.far ?_ (by dsimp only; omega) _ | with_reducible apply At.al | with_reducible apply At.drw | with_reducible apply At.dr)) hb2
      replace k_b : At v2 (w.heap.size + 1) 23 #[.int .i64 bn, .int .i64 (q : Int)] := At.bel (by repeat (first | with_reducible assumption | with_reducible apply At.put0 | with_reducible apply At.put1 | with_reducible refine At.far ?_ (by dsimp only; omega) _ | with_reducible apply At.al | with_reducible apply At.drw | with_reducible apply At.dr)) hb2
      replace k_x : At v2 (g_x) 69 #[.int .u64 (hiN X : Int), .int .u64 (loN X : Int)] := At.bel (by repeat (first | with_reducible assumption | with_reducible apply At.put0 | with_reducible apply At.put1 | with_reducible refine At.far ?_ (by dsimp only; omega) _ | with_reducible apply At.al | with_reducible apply At.drw | with_reducible apply At.dr)) hb2
      replace k_y : At v2 (g_y) 69 #[.int .u64 (hiN Y : Int), .int .u64 (loN Y : Int)] := At.bel (by repeat (first | with_reducible assumption | with_reducible apply At.put0 | with_reducible apply At.put1 | with_reducible refine At.far ?_ (by dsimp only; omega) _ | with_reducible apply At.al | with_reducible apply At.drw | with_reducible apply At.dr)) hb2
      replace HB : Below w.heap.size w v2 := below_then (by repeat (first | with_reducible assumption | with_reducible exact Below.refl _ _ | with_reducible refine below_al ?_ _ | with_reducible refine below_drew ?_ | with_reducible refine below_drewN ?_ _ | with_reducible refine below_set ?_ (by dsimp only; omega) _)) hb2
      clear hb2
      go_wp2_with fail
      go_ret
      exact ⟨by first | rfl | (rw [hr.out]; done) | (rw [hr.out]; rfl), (by repeat (first | with_reducible assumption | with_reducible exact Below.refl _ _ | with_reducible refine below_al ?_ _ | with_reducible refine below_drew ?_ | with_reducible refine below_drewN ?_ _ | with_reducible refine below_set ?_ (by dsimp only; omega) _))⟩
  · replace hr := Lib.hid hr
    have Lk_x := k_x.lt
    obtain ⟨k_x0, k_x1, k_x2, k_x3⟩ := k_x.two
    have Lk_y := k_y.lt
    obtain ⟨k_y0, k_y1, k_y2, k_y3⟩ := k_y.two
    have HL := Lib.hid hl
    clear hl
    have d1 : decide (0 ≤ an) = true := by simp; omega
    rcases ne with ne | ⟨ne, ne2⟩
    all_goals
      go_wp2_with fail
      clear k_a0 k_a1 k_a2 k_a3 Lk_a k_b0 k_b1 k_b2 k_b3 Lk_b k_x0 k_x1 k_x2 k_x3 Lk_x k_y0 k_y1 k_y2 k_y3 Lk_y
      have Kk_a0 := cell_regrown k_a.c0
      have Kk_a1 := cell_regrown k_a.c1
      have Kk_b0 := cell_regrown k_b.c0
      have Kk_b1 := cell_regrown k_b.c1
      have Kk_x0 := cell_regrown k_x.c0
      have Kk_x1 := cell_regrown k_x.c1
      have Kk_y0 := cell_regrown k_y.c0
      have Kk_y1 := cell_regrown k_y.c1
      refine wp_region_quiet_below (by kernel_rfl) (by kernel_rfl) ?_
      repeat (go_big_quiet_step ((first | with_reducible exact regrown_call HL.out)))
      refine wpQuiet_nil ?_
      intro v2 hb2'
      have hb2 := below_of_regrown hb2'
      clear hb2' Kk_a0 Kk_a1 Kk_b0 Kk_b1 Kk_x0 Kk_x1 Kk_y0 Kk_y1
      replace k_a : At v2 (w.heap.size) 23 #[.int .i64 an, .int .i64 (p : Int)] := At.bel (by repeat (first | with_reducible assumption | with_reducible apply At.put0 | with_reducible apply At.put1 | with_reducible refine At.far ?_ (by dsimp only; omega) _ | with_reducible apply At.al | with_reducible apply At.drw | with_reducible apply At.dr)) hb2
      replace k_b : At v2 (w.heap.size + 1) 23 #[.int .i64 bn, .int .i64 (q : Int)] := At.bel (by repeat (first | with_reducible assumption | with_reducible apply At.put0 | with_reducible apply At.put1 | with_reducible refine At.far ?_ (by dsimp only; omega) _ | with_reducible apply At.al | with_reducible apply At.drw | with_reducible apply At.dr)) hb2
      replace k_x : At v2 (g_x) 69 #[.int .u64 (hiN X : Int), .int .u64 (loN X : Int)] := At.bel (by repeat (first | with_reducible assumption | with_reducible apply At.put0 | with_reducible apply At.put1 | with_reducible refine At.far ?_ (by dsimp only; omega) _ | with_reducible apply At.al | with_reducible apply At.drw | with_reducible apply At.dr)) hb2
      replace k_y : At v2 (g_y) 69 #[.int .u64 (hiN Y : Int), .int .u64 (loN Y : Int)] := At.bel (by repeat (first | with_reducible assumption | with_reducible apply At.put0 | with_reducible apply At.put1 | with_reducible refine At.far ?_ (by dsimp only; omega) _ | with_reducible apply At.al | with_reducible apply At.drw | with_reducible apply At.dr)) hb2
      replace HB : Below w.heap.size w v2 := below_then (by repeat (first | with_reducible assumption | with_reducible exact Below.refl _ _ | with_reducible refine below_al ?_ _ | with_reducible refine below_drew ?_ | with_reducible refine below_drewN ?_ _ | with_reducible refine below_set ?_ (by dsimp only; omega) _)) hb2
      clear hb2
      go_wp2_with fail
      go_ret
      exact ⟨by first | rfl | (rw [hr.out]; done) | (rw [hr.out]; rfl), (by repeat (first | with_reducible assumption | with_reducible exact Below.refl _ _ | with_reducible refine below_al ?_ _ | with_reducible refine below_drew ?_ | with_reducible refine below_drewN ?_ _ | with_reducible refine below_set ?_ (by dsimp only; omega) _))⟩

theorem refcmp_ok (an bn : Int) (p q : Nat) (h1 : fracB an p = true) (h2 : fracB bn q = true) (w : World) :
    Calls Tryd.prog 30 #[.agg #[.int .i64 an, .int .i64 (p : Int)], .agg #[.int .i64 bn, .int .i64 (q : Int)]] w fun e w' => e = .returned (.int .i64 (cmpI (an * q) (bn * p))) ∧ Below w.heap.size w w' := by
  have g1 := fracB_iff.1 h1
  have g2 := fracB_iff.1 h2
  have HX := hid_same (fun w => rsz_any an (by omega) w)
  have HY := hid_same (fun w => rsz_any bn (by omega) w)
  have HP := hid_same (fun w => rsz_any (p : Int) (by omega) w)
  have HQ := hid_same (fun w => rsz_any (q : Int) (by omega) w)
  have x1 : an.natAbs ≤ 1152921504606846976 := by omega
  have y1 : bn.natAbs ≤ 1152921504606846976 := by omega
  have p1 : p ≤ 1152921504606846976 := by omega
  have q1 : q ≤ 1152921504606846976 := by omega
  have p0 : 0 < p := by omega
  have q0 : 0 < q := by omega
  simp only [Int.natAbs_natCast] at HP HQ
  have HMX := Lib.hid (fun w => mul_u an.natAbs q (by omega) (by omega) w)
  have HMY := Lib.hid (fun w => mul_u bn.natAbs p (by omega) (by omega) w)
  refine refcmp_core an bn _ _ p q _ _ _ HX HY HP HQ HMX HMY (Lib.hid ?_) w
  have ex : (an.natAbs : Int) * (q : Int) = ((an.natAbs * q : Nat) : Int) := by simp
  have ey : (bn.natAbs : Int) * (p : Int) = ((bn.natAbs * p : Nat) : Int) := by simp
  have hL := fun w => less_u (an.natAbs * q) (bn.natAbs * p) w
  have nee : an.natAbs * q ≠ bn.natAbs * p → (((hiN (an.natAbs * q) : Int) == (hiN (bn.natAbs * p) : Int)) = false ∨ ((hiN (an.natAbs * q) : Int) == (hiN (bn.natAbs * p) : Int)) = true ∧ ((loN (an.natAbs * q) : Int) == (loN (bn.natAbs * p) : Int)) = false) := fun h => by
    have a1 := hilo (an.natAbs * q); have b1 := hilo (bn.natAbs * p)
    by_cases hh : hiN (an.natAbs * q) = hiN (bn.natAbs * p)
    · right
      refine ⟨by simp [hh], ?_⟩
      simp only [beq_eq_false_iff_ne]
      omega
    · left
      simp only [beq_eq_false_iff_ne]
      omega
  rcases Int.lt_or_le an 0 with s1 | s1 <;> rcases Int.lt_or_le bn 0 with s2 | s2
  · have e1 : an * (q : Int) = -((an.natAbs * q : Nat) : Int) := by rw [← ex, ← Int.neg_mul]; congr 1; omega
    have e2 : bn * (p : Int) = -((bn.natAbs * p : Nat) : Int) := by rw [← ey, ← Int.neg_mul]; congr 1; omega
    rw [e1, e2]
    rcases Nat.lt_trichotomy (an.natAbs * q) (bn.natAbs * p) with h | h | h
    · right; right; right; right; left
      exact ⟨s1, s2, nee (by omega), fun w => by have := hL w; rw [decide_eq_true h] at this; exact this, by unfold cmpI; rw [if_neg (by omega), if_pos (by omega)]⟩
    · right; right; right; left
      exact ⟨s1, s2, h, by unfold cmpI; rw [if_neg (by omega), if_neg (by omega)]⟩
    · right; right; right; right; right; left
      exact ⟨s1, s2, nee (by omega), fun w => by have := hL w; rw [decide_eq_false (by omega)] at this; exact this, by unfold cmpI; rw [if_pos (by omega)]⟩
  · left
    have k1 := Int.mul_neg_of_neg_of_pos s1 (show (0 : Int) < (q : Int) by omega)
    have k2 := Int.mul_nonneg s2 (show (0 : Int) ≤ (p : Int) by omega)
    exact ⟨s2, s1, by unfold cmpI; rw [if_pos (by omega)]⟩
  · right; left
    have k1 := Int.mul_nonneg s1 (show (0 : Int) ≤ (q : Int) by omega)
    have k2 := Int.mul_neg_of_neg_of_pos s2 (show (0 : Int) < (p : Int) by omega)
    exact ⟨s2, s1, by unfold cmpI; rw [if_neg (by omega), if_pos (by omega)]⟩
  · have e1 : an * (q : Int) = ((an.natAbs * q : Nat) : Int) := by rw [← ex]; congr 1; omega
    have e2 : bn * (p : Int) = ((bn.natAbs * p : Nat) : Int) := by rw [← ey]; congr 1; omega
    rw [e1, e2]
    rcases Nat.lt_trichotomy (an.natAbs * q) (bn.natAbs * p) with h | h | h
    · right; right; right; right; right; right; left
      exact ⟨s1, s2, nee (by omega), fun w => by have := hL w; rw [decide_eq_true h] at this; exact this, by unfold cmpI; rw [if_pos (by omega)]⟩
    · right; right; left
      exact ⟨s1, s2, h, by unfold cmpI; rw [if_neg (by omega), if_neg (by omega)]⟩
    · right; right; right; right; right; right; right
      exact ⟨s1, s2, nee (by omega), fun w => by have := hL w; rw [decide_eq_false (by omega)] at this; exact this, by unfold cmpI; rw [if_neg (by omega), if_pos (by omega)]⟩

set_option maxRecDepth 100000 in
theorem reffl_any (n d : Int) (hn : -1152921504606846976 ≤ n ∧ n ≤ 1152921504606846976) (hd : 1 ≤ d ∧ d ≤ 1152921504606846976) (w : World) :
    Calls Tryd.prog 23 #[.agg #[.int .i64 n, .int .i64 d]] w fun e w' => e = .returned (.int .i64 (n / d)) ∧ Below w.heap.size w w' := by
  have h := floor_of (n := n) (d := d) (by omega)
  have b1 : -1152921504606846976 ≤ n.tdiv d ∧ n.tdiv d ≤ 1152921504606846976 := by
    have h1 : (n.tdiv d).natAbs = n.natAbs / d.natAbs := Int.natAbs_tdiv n d
    have h2 : n.natAbs / d.natAbs ≤ n.natAbs := Nat.div_le_self _ _
    omega
  have z1 : (d == 0) = false := by simp; omega
  have z2 : ¬ d = 0 := by omega
  have k := Int.tmod_add_tdiv_mul n d
  have l1 := Int.tmod_lt_of_pos n (show 0 < d by omega)
  have l2 := Int.lt_tmod_of_pos n (show 0 < d by omega)
  have e1 : IntKind.i64.wrap (n.tdiv d) = n.tdiv d := IntWalk.i64_in _ (by omega)
  have e2 : IntKind.i64.wrap (n.tdiv d - 1) = n.tdiv d - 1 := IntWalk.i64_in _ (by omega)
  have e3 : IntKind.i64.wrap (n.tdiv d * d) = n.tdiv d * d := IntWalk.i64_in _ (by omega)
  have b3 : -2305843009213693952 ≤ n.tdiv d * d ∧ n.tdiv d * d ≤ 2305843009213693952 := by omega
  by_cases hm : n.tmod d < 0
  · rw [if_pos hm] at h
    rw [h]
    have c1 : decide (n < n.tdiv d * d) = true := by simp; omega
    clear h k l1 l2 hm e1 e2 e3
    go_enter Tryd.func23, Tryd.ntmps23
    go_wp2
    go_ret
    exact ⟨rfl, (by repeat (first | with_reducible assumption | with_reducible exact Below.refl _ _ | with_reducible refine below_al ?_ _ | with_reducible refine below_drew ?_ | with_reducible refine below_drewN ?_ _ | with_reducible refine below_set ?_ (by dsimp only; omega) _))⟩
  · rw [if_neg hm] at h
    rw [h]
    have c1 : decide (n < n.tdiv d * d) = false := by simp; omega
    clear h k l1 l2 hm e1 e2 e3
    go_enter Tryd.func23, Tryd.ntmps23
    go_wp2
    go_ret
    exact ⟨rfl, (by repeat (first | with_reducible assumption | with_reducible exact Below.refl _ _ | with_reducible refine below_al ?_ _ | with_reducible refine below_drew ?_ | with_reducible refine below_drewN ?_ _ | with_reducible refine below_set ?_ (by dsimp only; omega) _))⟩

set_option maxRecDepth 100000 in
theorem refcl_any (an ad : Int) (hn : -1152921504606846976 ≤ an ∧ an ≤ 1152921504606846976) (hd : 1 ≤ ad ∧ ad ≤ 1152921504606846976) (w : World) :
    Calls Tryd.prog 24 #[.agg #[.int .i64 an, .int .i64 ad]] w fun e w' => e = .returned (.int .i64 (-(-an / ad))) ∧ Below w.heap.size w w' := by
  have HN := Lib.hid (fun w => refneg_any an ad (IntWalk.i64_in _ (by omega)) w)
  have HF := Lib.hid (fun w => reffl_any (-an) ad (by omega) hd w)
  have b : -1152921504606846976 ≤ -an / ad ∧ -an / ad ≤ 1152921504606846976 := by
    have := Int.natAbs_ediv_le_natAbs (-an) ad
    omega
  have e2 : IntKind.i64.wrap (-(-an / ad)) = -(-an / ad) := IntWalk.i64_in _ (by omega)
  generalize -an / ad = c at *
  go_enter Tryd.func24, Tryd.ntmps24
  go_wp2_with fail
  refine (HN.out _).mono ?_
  rintro e v1 ⟨rfl, hb1⟩
  have k_a : At v1 (w.heap.size) 23 #[.int .i64 an, .int .i64 ad] := At.bel (by (repeat (first | (with_reducible apply At.new'; (focus (simp; done))) | with_reducible apply At.al | with_reducible apply At.drw | with_reducible apply At.dr))) hb1
  have HB : Below w.heap.size w v1 := below_then (by repeat (first | with_reducible assumption | with_reducible exact Below.refl _ _ | with_reducible refine below_al ?_ _ | with_reducible refine below_drew ?_ | with_reducible refine below_drewN ?_ _ | with_reducible refine below_set ?_ (by dsimp only; omega) _)) hb1
  clear hb1
  have Lk_a := k_a.lt
  obtain ⟨k_a0, k_a1, k_a2, k_a3⟩ := k_a.two
  go_wp2_with fail
  refine (HF.out _).mono ?_
  rintro e v2 ⟨rfl, hb2⟩
  clear k_a0 k_a1 k_a2 k_a3 Lk_a
  replace k_a : At v2 (w.heap.size) 23 #[.int .i64 an, .int .i64 ad] := At.bel (by repeat (first | with_reducible assumption | with_reducible apply At.put0 | with_reducible apply At.put1 | with_reducible refine At.far ?_ (by dsimp only; omega) _ | with_reducible apply At.al | with_reducible apply At.drw | with_reducible apply At.dr)) hb2
  replace HB : Below w.heap.size w v2 := below_then (by repeat (first | with_reducible assumption | with_reducible exact Below.refl _ _ | with_reducible refine below_al ?_ _ | with_reducible refine below_drew ?_ | with_reducible refine below_drewN ?_ _ | with_reducible refine below_set ?_ (by dsimp only; omega) _)) hb2
  clear hb2
  have Lk_a := k_a.lt
  obtain ⟨k_a0, k_a1, k_a2, k_a3⟩ := k_a.two
  go_wp2_with fail
  go_ret
  exact ⟨rfl, (by repeat (first | with_reducible assumption | with_reducible exact Below.refl _ _ | with_reducible refine below_al ?_ _ | with_reducible refine below_drew ?_ | with_reducible refine below_drewN ?_ _ | with_reducible refine below_set ?_ (by dsimp only; omega) _))⟩

theorem same_yes (r : Int × Int × Int) (w : World) :
    Calls Tryd.prog 21 #[.agg #[.int .i64 r.1, .int .i64 r.2.1], .int .i64 r.2.2, .agg #[.int .i64 r.1, .int .i64 r.2.1], .int .i64 r.2.2] w fun e w' => e = .returned (.bool true) ∧ Below w.heap.size w w' := by
  go_enter Tryd.func21, Tryd.ntmps21
  go_wp2
  go_ret
  exact ⟨rfl, (by repeat (first | with_reducible assumption | with_reducible exact Below.refl _ _ | with_reducible refine below_al ?_ _ | with_reducible refine below_drew ?_ | with_reducible refine below_drewN ?_ _ | with_reducible refine below_set ?_ (by dsimp only; omega) _))⟩
#print axioms refcl_any

end Go.Proofs.YtpijmjffobkalaaDoor
