/- The reference's fractions: Make, Neg, Times, Over, Add, Sub. -/
import Derived.Test.YtpijmjffobkalaaDoorRaRef
set_option linter.unusedVariables false
namespace Go.Proofs.YtpijmjffobkalaaDoor
open Go.ChangeShapes Go.WideShapes Go.ChangeAt Go.RowKit

theorem refneg_any (an ad : Int) (e1 : IntKind.i64.wrap (-an) = -an) (w : World) :
    Calls Tryd.prog 52 #[.agg #[.int .i64 an, .int .i64 ad]] w fun e w' => e = .returned (.agg #[.int .i64 (-an), .int .i64 ad]) ∧ Below w.heap.size w w' := by
  go_enter Tryd.func52, Tryd.ntmps52
  go_wp2
  exact bodyPost_ret (v := .agg #[.int .i64 (-an), .int .i64 ad]) (by simp [results, Tryd.results52, go_sem]) rfl ⟨rfl, (by repeat (first | with_reducible assumption | with_reducible exact Below.refl _ _ | with_reducible refine below_al ?_ _ | with_reducible refine below_drew ?_ | with_reducible refine below_drewN ?_ _ | with_reducible refine below_set ?_ (by dsimp only; omega) _))⟩

set_option maxRecDepth 100000 in
theorem refmake_core (num den : Int) (x y : Nat) (r : Int × Int × Int)
    (HX : Hid (∀ w, Calls Tryd.prog 49 #[.int .i64 num] w fun e w' => e = .returned (.int .u64 (x : Int)) ∧ Below w.heap.size w w'))
    (HY : Hid (∀ w, Calls Tryd.prog 49 #[.int .i64 den] w fun e w' => e = .returned (.int .u64 (y : Int)) ∧ Below w.heap.size w w'))
    (HM : Hid (∀ w, Calls Tryd.prog 48 #[.agg #[.int .u64 0, .int .u64 (x : Int)], .bool (!(decide (num < 0) == decide (den < 0))), .agg #[.int .u64 0, .int .u64 (y : Int)]] w fun e w' => e = .returned (frv r) ∧ Below w.heap.size w w')) (w : World) :
    Calls Tryd.prog 18 #[.int .i64 num, .int .i64 den] w fun e w' => e = .returned (frv r) ∧ Below w.heap.size w w' := by
  go_enter Tryd.func18, Tryd.ntmps18
  go_wp2_with fail
  refine (HX.out _).mono ?_
  rintro e v1 ⟨rfl, hb1⟩
  have k_o : At v1 (w.heap.size) 23 #[.int .i64 0, .int .i64 0] := At.bel (by (repeat (first | (with_reducible apply At.new'; (focus (simp; done))) | with_reducible apply At.al | with_reducible apply At.drw | with_reducible apply At.dr))) hb1
  have HB : Below w.heap.size w v1 := below_then (by repeat (first | with_reducible assumption | with_reducible exact Below.refl _ _ | with_reducible refine below_al ?_ _ | with_reducible refine below_drew ?_ | with_reducible refine below_drewN ?_ _ | with_reducible refine below_set ?_ (by dsimp only; omega) _)) hb1
  clear hb1
  have Lk_o := k_o.lt
  obtain ⟨k_o0, k_o1, k_o2, k_o3⟩ := k_o.two
  go_wp2_with fail
  refine (HY.out _).mono ?_
  rintro e v2 ⟨rfl, hb2⟩
  clear k_o0 k_o1 k_o2 k_o3 Lk_o
  replace k_o : At v2 (w.heap.size) 23 #[.int .i64 0, .int .i64 0] := At.bel (by repeat (first | with_reducible assumption | with_reducible apply At.put0 | with_reducible apply At.put1 | with_reducible refine At.far ?_ (by dsimp only; omega) _ | with_reducible apply At.al | with_reducible apply At.drw | with_reducible apply At.dr)) hb2
  replace HB : Below w.heap.size w v2 := below_then (by repeat (first | with_reducible assumption | with_reducible exact Below.refl _ _ | with_reducible refine below_al ?_ _ | with_reducible refine below_drew ?_ | with_reducible refine below_drewN ?_ _ | with_reducible refine below_set ?_ (by dsimp only; omega) _)) hb2
  clear hb2
  have Lk_o := k_o.lt
  obtain ⟨k_o0, k_o1, k_o2, k_o3⟩ := k_o.two
  go_wp2_with fail
  refine (HM.out _).mono ?_
  rintro e v3 ⟨rfl, hb3⟩
  clear k_o0 k_o1 k_o2 k_o3 Lk_o
  replace k_o : At v3 (w.heap.size) 23 #[.int .i64 0, .int .i64 0] := At.bel (by repeat (first | with_reducible assumption | with_reducible apply At.put0 | with_reducible apply At.put1 | with_reducible refine At.far ?_ (by dsimp only; omega) _ | with_reducible apply At.al | with_reducible apply At.drw | with_reducible apply At.dr)) hb3
  replace HB : Below w.heap.size w v3 := below_then (by repeat (first | with_reducible assumption | with_reducible exact Below.refl _ _ | with_reducible refine below_al ?_ _ | with_reducible refine below_drew ?_ | with_reducible refine below_drewN ?_ _ | with_reducible refine below_set ?_ (by dsimp only; omega) _)) hb3
  clear hb3
  have Lk_o := k_o.lt
  obtain ⟨k_o0, k_o1, k_o2, k_o3⟩ := k_o.two
  go_wp2_with fail
  exact bodyPost_ret (v := frv r) (by simp [results, Tryd.results18, go_sem, *]) rfl ⟨rfl, (by repeat (first | with_reducible assumption | with_reducible exact Below.refl _ _ | with_reducible refine below_al ?_ _ | with_reducible refine below_drew ?_ | with_reducible refine below_drewN ?_ _ | with_reducible refine below_set ?_ (by dsimp only; omega) _))⟩
theorem refmake_any (num den : Int) (hn : (Lit.int .i64 num).wf = true) (hd : (Lit.int .i64 den).wf = true) (w : World) :
    Calls Tryd.prog 18 #[.int .i64 num, .int .i64 den] w fun e w' => e = .returned (frv (rmakeS num den)) ∧ Below w.heap.size w w' := by
  have lim : ∀ n : Int, (Lit.int .i64 n).wf = true → -9223372036854775808 ≤ n ∧ n ≤ 9223372036854775807 := fun n h => by
    simp only [Lit.wf, Bool.and_eq_true, decide_eq_true_eq] at h
    have e1 : IntKind.i64.min = -9223372036854775808 := by decide
    have e2 : IntKind.i64.max = 9223372036854775807 := by decide
    rw [e1, e2] at h
    exact h
  have b1 := lim num hn
  have b2 := lim den hd
  have HX := hid_same (fun w => rsz_any num b1 w)
  have HY := hid_same (fun w => rsz_any den b2 w)
  have ex := hiN_small (A := num.natAbs) (by omega)
  have ey := hiN_small (A := den.natAbs) (by omega)
  by_cases z : den = 0
  · rw [show rmakeS num den = (0, 0, 16) from by simp [rmakeS, z]]
    refine refmake_core num den num.natAbs den.natAbs _ HX HY (Lib.hid fun w => ?_) w
    have := made_zero (!(decide (num < 0) == decide (den < 0))) num.natAbs w
    simp only [uv, ex.1, ex.2] at this
    rw [show den.natAbs = 0 from by omega]
    exact this
  · rw [show rmakeS num den = redS (decide (num < 0) != decide (den < 0)) num.natAbs den.natAbs from by simp [rmakeS, z]]
    refine refmake_core num den num.natAbs den.natAbs _ HX HY (Lib.hid fun w => ?_) w
    have := made_any (!(decide (num < 0) == decide (den < 0))) num.natAbs den.natAbs (by omega) (by omega) (by omega) w
    simp only [uv, ex.1, ex.2, ey.1, ey.2] at this
    exact this

set_option maxRecDepth 100000 in
set_option maxHeartbeats 4000000 in
theorem reftimes_core (an bn : Int) (x y p q N D : Nat) (r : Int × Int × Int)
    (HX : Hid (∀ w, Calls Tryd.prog 49 #[.int .i64 an] w fun e w' => e = .returned (.int .u64 (x : Int)) ∧ Below w.heap.size w w'))
    (HY : Hid (∀ w, Calls Tryd.prog 49 #[.int .i64 bn] w fun e w' => e = .returned (.int .u64 (y : Int)) ∧ Below w.heap.size w w'))
    (HP : Hid (∀ w, Calls Tryd.prog 49 #[.int .i64 (p : Int)] w fun e w' => e = .returned (.int .u64 (p : Int)) ∧ Below w.heap.size w w'))
    (HQ : Hid (∀ w, Calls Tryd.prog 49 #[.int .i64 (q : Int)] w fun e w' => e = .returned (.int .u64 (q : Int)) ∧ Below w.heap.size w w'))
    (HN : Hid (∀ w, Calls Tryd.prog 53 #[.int .u64 (x : Int), .int .u64 (y : Int)] w fun e w' => e = .returned (uv N) ∧ Below w.heap.size w w'))
    (HD : Hid (∀ w, Calls Tryd.prog 53 #[.int .u64 (p : Int), .int .u64 (q : Int)] w fun e w' => e = .returned (uv D) ∧ Below w.heap.size w w'))
    (HM : Hid (∀ w, Calls Tryd.prog 48 #[uv N, .bool (!(decide (an < 0) == decide (bn < 0))), uv D] w fun e w' => e = .returned (frv r) ∧ Below w.heap.size w w')) (w : World) :
    Calls Tryd.prog 28 #[.agg #[.int .i64 an, .int .i64 (p : Int)], .agg #[.int .i64 bn, .int .i64 (q : Int)]] w fun e w' => e = .returned (frv r) ∧ Below w.heap.size w w' := by
  go_enter Tryd.func28, Tryd.ntmps28
  go_wp2_with fail
  have HB : Below w.heap.size w w := Below.refl _ _
  generalize hWW : World.alloc _ _ = WW
  have k_a : At WW (w.heap.size) 23 #[.int .i64 an, .int .i64 (p : Int)] := by rw [← hWW]; (repeat (first | (with_reducible apply At.new'; (focus (simp; done))) | with_reducible apply At.al | with_reducible apply At.drw | with_reducible apply At.dr))
  have k_b : At WW (w.heap.size + 1) 23 #[.int .i64 bn, .int .i64 (q : Int)] := by rw [← hWW]; (repeat (first | (with_reducible apply At.new'; (focus (simp; done))) | with_reducible apply At.al | with_reducible apply At.drw | with_reducible apply At.dr))
  have k_o : At WW (w.heap.size + 1 + 1) 23 #[.int .i64 0, .int .i64 0] := by rw [← hWW]; (repeat (first | (with_reducible apply At.new'; (focus (simp; done))) | with_reducible apply At.al | with_reducible apply At.drw | with_reducible apply At.dr))
  replace HB : Below w.heap.size w WW := by rw [← hWW]; repeat (first | with_reducible assumption | with_reducible exact Below.refl _ _ | with_reducible refine below_al ?_ _ | with_reducible refine below_drew ?_ | with_reducible refine below_drewN ?_ _ | with_reducible refine below_set ?_ (by dsimp only; omega) _)
  clear hWW
  refine wp_only ?_
  refine wp_region_grow0 24 (by kernel_rfl)     (by kernel_rfl) only_panic ?_
  apply Exists.intro
  refine And.intro (fun W' hW' => ?_) ?_
  focus
    have Kk_a := At.bel (show At _ (w.heap.size) 23 #[.int .i64 an, .int .i64 (p : Int)] from (by repeat (first | with_reducible assumption | with_reducible apply At.put0 | with_reducible apply At.put1 | with_reducible refine At.far ?_ (by dsimp only; omega) _ | with_reducible apply At.al | with_reducible apply At.drw | with_reducible apply At.dr))) hW'
    have Kk_a0 := cell_regrown Kk_a.c0
    have Kk_a1 := cell_regrown Kk_a.c1
    have Kk_b := At.bel (show At _ (w.heap.size + 1) 23 #[.int .i64 bn, .int .i64 (q : Int)] from (by repeat (first | with_reducible assumption | with_reducible apply At.put0 | with_reducible apply At.put1 | with_reducible refine At.far ?_ (by dsimp only; omega) _ | with_reducible apply At.al | with_reducible apply At.drw | with_reducible apply At.dr))) hW'
    have Kk_b0 := cell_regrown Kk_b.c0
    have Kk_b1 := cell_regrown Kk_b.c1
    have Kk_o := At.bel (show At _ (w.heap.size + 1 + 1) 23 #[.int .i64 0, .int .i64 0] from (by repeat (first | with_reducible assumption | with_reducible apply At.put0 | with_reducible apply At.put1 | with_reducible refine At.far ?_ (by dsimp only; omega) _ | with_reducible apply At.al | with_reducible apply At.drw | with_reducible apply At.dr))) hW'
    have Kk_o0 := cell_regrown Kk_o.c0
    have Kk_o1 := cell_regrown Kk_o.c1
    simp only [List.take_succ_cons, List.take_zero]
    repeat (go_big_quiet_step ((first | with_reducible exact regrown_call HX.out | with_reducible exact regrown_call HY.out | with_reducible exact regrown_call HP.out | with_reducible exact regrown_call HQ.out | with_reducible exact regrown_call HN.out | with_reducible exact regrown_call HD.out | with_reducible exact regrown_call HM.out)))
    exact wpQuiet_nil rfl
  intro  v1 hb1  
  have Mk_a := k_a.lt
  have Mk_b := k_b.lt
  have Mk_o := k_o.lt
  replace k_a : At v1 (w.heap.size) 23 #[.int .i64 an, .int .i64 (p : Int)] := At.bel (by repeat (first | with_reducible assumption | with_reducible apply At.put0 | with_reducible apply At.put1 | with_reducible refine At.far ?_ (by dsimp only; omega) _ | with_reducible apply At.al | with_reducible apply At.drw | with_reducible apply At.dr)) hb1
  replace k_b : At v1 (w.heap.size + 1) 23 #[.int .i64 bn, .int .i64 (q : Int)] := At.bel (by repeat (first | with_reducible assumption | with_reducible apply At.put0 | with_reducible apply At.put1 | with_reducible refine At.far ?_ (by dsimp only; omega) _ | with_reducible apply At.al | with_reducible apply At.drw | with_reducible apply At.dr)) hb1
  replace k_o : At v1 (w.heap.size + 1 + 1) 23 #[.int .i64 0, .int .i64 0] := At.bel (by repeat (first | with_reducible assumption | with_reducible apply At.put0 | with_reducible apply At.put1 | with_reducible refine At.far ?_ (by dsimp only; omega) _ | with_reducible apply At.al | with_reducible apply At.drw | with_reducible apply At.dr)) hb1
  replace HB : Below w.heap.size w v1 := below_then (by repeat (first | with_reducible assumption | with_reducible exact Below.refl _ _ | with_reducible refine below_al ?_ _ | with_reducible refine below_drew ?_ | with_reducible refine below_drewN ?_ _ | with_reducible refine below_set ?_ (by dsimp only; omega) _)) hb1
  clear hb1
  simp only [List.drop_succ_cons, List.drop_zero]
  have Lk_o := k_o.lt
  obtain ⟨k_o0, k_o1, k_o2, k_o3⟩ := k_o.two
  go_wp2_with fail
  exact bodyPost_ret (v := frv r) (by simp [results, Tryd.results28, go_sem, *]) rfl ⟨rfl, (by repeat (first | with_reducible assumption | with_reducible exact Below.refl _ _ | with_reducible refine below_al ?_ _ | with_reducible refine below_drew ?_ | with_reducible refine below_drewN ?_ _ | with_reducible refine below_set ?_ (by dsimp only; omega) _))⟩

set_option maxRecDepth 100000 in
set_option maxHeartbeats 4000000 in
theorem refover_core (an bn : Int) (x y p q N D : Nat) (r : Int × Int × Int)
    (HX : Hid (∀ w, Calls Tryd.prog 49 #[.int .i64 an] w fun e w' => e = .returned (.int .u64 (x : Int)) ∧ Below w.heap.size w w'))
    (HY : Hid (∀ w, Calls Tryd.prog 49 #[.int .i64 bn] w fun e w' => e = .returned (.int .u64 (y : Int)) ∧ Below w.heap.size w w'))
    (HP : Hid (∀ w, Calls Tryd.prog 49 #[.int .i64 (p : Int)] w fun e w' => e = .returned (.int .u64 (p : Int)) ∧ Below w.heap.size w w'))
    (HQ : Hid (∀ w, Calls Tryd.prog 49 #[.int .i64 (q : Int)] w fun e w' => e = .returned (.int .u64 (q : Int)) ∧ Below w.heap.size w w'))
    (HN : Hid (∀ w, Calls Tryd.prog 53 #[.int .u64 (x : Int), .int .u64 (q : Int)] w fun e w' => e = .returned (uv N) ∧ Below w.heap.size w w'))
    (HD : Hid (∀ w, Calls Tryd.prog 53 #[.int .u64 (p : Int), .int .u64 (y : Int)] w fun e w' => e = .returned (uv D) ∧ Below w.heap.size w w'))
    (HM : Hid (∀ w, Calls Tryd.prog 48 #[uv N, .bool (!(decide (an < 0) == decide (bn < 0))), uv D] w fun e w' => e = .returned (frv r) ∧ Below w.heap.size w w')) (w : World) :
    Calls Tryd.prog 29 #[.agg #[.int .i64 an, .int .i64 (p : Int)], .agg #[.int .i64 bn, .int .i64 (q : Int)]] w fun e w' => e = .returned (frv r) ∧ Below w.heap.size w w' := by
  go_enter Tryd.func29, Tryd.ntmps29
  go_wp2_with fail
  have HB : Below w.heap.size w w := Below.refl _ _
  generalize hWW : World.alloc _ _ = WW
  have k_a : At WW (w.heap.size) 23 #[.int .i64 an, .int .i64 (p : Int)] := by rw [← hWW]; (repeat (first | (with_reducible apply At.new'; (focus (simp; done))) | with_reducible apply At.al | with_reducible apply At.drw | with_reducible apply At.dr))
  have k_b : At WW (w.heap.size + 1) 23 #[.int .i64 bn, .int .i64 (q : Int)] := by rw [← hWW]; (repeat (first | (with_reducible apply At.new'; (focus (simp; done))) | with_reducible apply At.al | with_reducible apply At.drw | with_reducible apply At.dr))
  have k_o : At WW (w.heap.size + 1 + 1) 23 #[.int .i64 0, .int .i64 0] := by rw [← hWW]; (repeat (first | (with_reducible apply At.new'; (focus (simp; done))) | with_reducible apply At.al | with_reducible apply At.drw | with_reducible apply At.dr))
  replace HB : Below w.heap.size w WW := by rw [← hWW]; repeat (first | with_reducible assumption | with_reducible exact Below.refl _ _ | with_reducible refine below_al ?_ _ | with_reducible refine below_drew ?_ | with_reducible refine below_drewN ?_ _ | with_reducible refine below_set ?_ (by dsimp only; omega) _)
  clear hWW
  refine wp_only ?_
  refine wp_region_grow0 24 (by kernel_rfl)     (by kernel_rfl) only_panic ?_
  apply Exists.intro
  refine And.intro (fun W' hW' => ?_) ?_
  focus
    have Kk_a := At.bel (show At _ (w.heap.size) 23 #[.int .i64 an, .int .i64 (p : Int)] from (by repeat (first | with_reducible assumption | with_reducible apply At.put0 | with_reducible apply At.put1 | with_reducible refine At.far ?_ (by dsimp only; omega) _ | with_reducible apply At.al | with_reducible apply At.drw | with_reducible apply At.dr))) hW'
    have Kk_a0 := cell_regrown Kk_a.c0
    have Kk_a1 := cell_regrown Kk_a.c1
    have Kk_b := At.bel (show At _ (w.heap.size + 1) 23 #[.int .i64 bn, .int .i64 (q : Int)] from (by repeat (first | with_reducible assumption | with_reducible apply At.put0 | with_reducible apply At.put1 | with_reducible refine At.far ?_ (by dsimp only; omega) _ | with_reducible apply At.al | with_reducible apply At.drw | with_reducible apply At.dr))) hW'
    have Kk_b0 := cell_regrown Kk_b.c0
    have Kk_b1 := cell_regrown Kk_b.c1
    have Kk_o := At.bel (show At _ (w.heap.size + 1 + 1) 23 #[.int .i64 0, .int .i64 0] from (by repeat (first | with_reducible assumption | with_reducible apply At.put0 | with_reducible apply At.put1 | with_reducible refine At.far ?_ (by dsimp only; omega) _ | with_reducible apply At.al | with_reducible apply At.drw | with_reducible apply At.dr))) hW'
    have Kk_o0 := cell_regrown Kk_o.c0
    have Kk_o1 := cell_regrown Kk_o.c1
    simp only [List.take_succ_cons, List.take_zero]
    repeat (go_big_quiet_step ((first | with_reducible exact regrown_call HX.out | with_reducible exact regrown_call HY.out | with_reducible exact regrown_call HP.out | with_reducible exact regrown_call HQ.out | with_reducible exact regrown_call HN.out | with_reducible exact regrown_call HD.out | with_reducible exact regrown_call HM.out)))
    exact wpQuiet_nil rfl
  intro  v1 hb1  
  have Mk_a := k_a.lt
  have Mk_b := k_b.lt
  have Mk_o := k_o.lt
  replace k_a : At v1 (w.heap.size) 23 #[.int .i64 an, .int .i64 (p : Int)] := At.bel (by repeat (first | with_reducible assumption | with_reducible apply At.put0 | with_reducible apply At.put1 | with_reducible refine At.far ?_ (by dsimp only; omega) _ | with_reducible apply At.al | with_reducible apply At.drw | with_reducible apply At.dr)) hb1
  replace k_b : At v1 (w.heap.size + 1) 23 #[.int .i64 bn, .int .i64 (q : Int)] := At.bel (by repeat (first | with_reducible assumption | with_reducible apply At.put0 | with_reducible apply At.put1 | with_reducible refine At.far ?_ (by dsimp only; omega) _ | with_reducible apply At.al | with_reducible apply At.drw | with_reducible apply At.dr)) hb1
  replace k_o : At v1 (w.heap.size + 1 + 1) 23 #[.int .i64 0, .int .i64 0] := At.bel (by repeat (first | with_reducible assumption | with_reducible apply At.put0 | with_reducible apply At.put1 | with_reducible refine At.far ?_ (by dsimp only; omega) _ | with_reducible apply At.al | with_reducible apply At.drw | with_reducible apply At.dr)) hb1
  replace HB : Below w.heap.size w v1 := below_then (by repeat (first | with_reducible assumption | with_reducible exact Below.refl _ _ | with_reducible refine below_al ?_ _ | with_reducible refine below_drew ?_ | with_reducible refine below_drewN ?_ _ | with_reducible refine below_set ?_ (by dsimp only; omega) _)) hb1
  clear hb1
  simp only [List.drop_succ_cons, List.drop_zero]
  have Lk_o := k_o.lt
  obtain ⟨k_o0, k_o1, k_o2, k_o3⟩ := k_o.two
  go_wp2_with fail
  exact bodyPost_ret (v := frv r) (by simp [results, Tryd.results29, go_sem, *]) rfl ⟨rfl, (by repeat (first | with_reducible assumption | with_reducible exact Below.refl _ _ | with_reducible refine below_al ?_ _ | with_reducible refine below_drew ?_ | with_reducible refine below_drewN ?_ _ | with_reducible refine below_set ?_ (by dsimp only; omega) _))⟩

theorem prod_small {a b : Nat} (ha : a ≤ 1152921504606846976) (hb : b ≤ 1152921504606846976) : a * b < 340282366920938463463374607431768211456 := by
  have := Nat.mul_le_mul ha hb
  omega
theorem reftimes_ok (an bn : Int) (p q : Nat) (h1 : fracB an p = true) (h2 : fracB bn q = true) (w : World) :
    Calls Tryd.prog 28 #[.agg #[.int .i64 an, .int .i64 (p : Int)], .agg #[.int .i64 bn, .int .i64 (q : Int)]] w fun e w' => e = .returned (frv (rmulS an p bn q)) ∧ Below w.heap.size w w' := by
  have g1 := fracB_iff.1 h1
  have g2 := fracB_iff.1 h2
  have HX := hid_same (fun w => rsz_any an (by omega) w)
  have HY := hid_same (fun w => rsz_any bn (by omega) w)
  have HP := hid_same (fun w => rsz_any (p : Int) (by omega) w)
  have HQ := hid_same (fun w => rsz_any (q : Int) (by omega) w)
  have x1 : an.natAbs ≤ 1152921504606846976 := by omega
  have y1 : bn.natAbs ≤ 1152921504606846976 := by omega
  have p1 : p ≤ 1152921504606846976 := by omega
  have q1 : q ≤ 1152921504606846976 := by omega
  have p0 : 0 < p := by omega
  have q0 : 0 < q := by omega
  simp only [Int.natAbs_natCast] at HP HQ
  rw [show rmulS an p bn q = redS (decide (an < 0) != decide (bn < 0)) (an.natAbs * bn.natAbs) (p * q) from by simp [rmulS, h1, h2]]
  exact reftimes_core an bn _ _ p q _ _ _ HX HY HP HQ (Lib.hid (fun w => mul_u an.natAbs bn.natAbs (by omega) (by omega) w)) (Lib.hid (fun w => mul_u p q (by omega) (by omega) w))
    (Lib.hid (fun w => made_any (!(decide (an < 0) == decide (bn < 0))) _ _ (prod_small x1 y1) (prod_small p1 q1) (Nat.mul_pos p0 q0) w)) w
theorem refover_ok (an bn : Int) (p q : Nat) (h1 : fracB an p = true) (h2 : fracB bn q = true) (w : World) :
    Calls Tryd.prog 29 #[.agg #[.int .i64 an, .int .i64 (p : Int)], .agg #[.int .i64 bn, .int .i64 (q : Int)]] w fun e w' => e = .returned (frv (rdivS an p bn q)) ∧ Below w.heap.size w w' := by
  have g1 := fracB_iff.1 h1
  have g2 := fracB_iff.1 h2
  have HX := hid_same (fun w => rsz_any an (by omega) w)
  have HY := hid_same (fun w => rsz_any bn (by omega) w)
  have HP := hid_same (fun w => rsz_any (p : Int) (by omega) w)
  have HQ := hid_same (fun w => rsz_any (q : Int) (by omega) w)
  have x1 : an.natAbs ≤ 1152921504606846976 := by omega
  have y1 : bn.natAbs ≤ 1152921504606846976 := by omega
  have p1 : p ≤ 1152921504606846976 := by omega
  have q1 : q ≤ 1152921504606846976 := by omega
  have p0 : 0 < p := by omega
  have q0 : 0 < q := by omega
  simp only [Int.natAbs_natCast] at HP HQ
  by_cases z : bn = 0
  · rw [show rdivS an p bn q = (0, 0, 16) from by simp only [rdivS, h1, h2, Bool.and_self, if_true]; exact if_pos z]
    have hz : bn.natAbs = 0 := by omega
    exact refover_core an bn _ _ p q _ _ _ HX HY HP HQ (Lib.hid (fun w => mul_u an.natAbs q (by omega) (by omega) w)) (Lib.hid (fun w => mul_u p bn.natAbs (by omega) (by omega) w))
      (Lib.hid (fun w => by have := made_zero (!(decide (an < 0) == decide (bn < 0))) (an.natAbs * q) w; rw [hz, Nat.mul_zero]; exact this)) w
  · have hv : rdivS an p bn q = redS (decide (an < 0) != decide (bn < 0)) (an.natAbs * q) (p * bn.natAbs) := by
      have fq : ∀ m : Int, 1 ≤ m → m ≤ 1152921504606846976 → Nat.gcd m.natAbs q = 1 → ∀ s : Int, s.natAbs = q → fracB s m = true := fun m a b c s hs => by
        rw [fracB_iff]
        refine ⟨a, b, by omega, by omega, ?_⟩
        rw [hs, Nat.gcd_comm]; exact c
      have gg := g2.2.2.2.2
      simp only [Int.natAbs_natCast] at gg
      by_cases z2 : bn < 0
      · rw [show rdivS an p bn q = rmulS an p (-q) (-bn) from by simp only [rdivS, h1, h2, Bool.and_self, if_true]; rw [if_neg z, if_pos z2]]
        have hf := fq (-bn) (by omega) (by omega) (by rw [Int.natAbs_neg]; exact gg) (-(q : Int)) (by omega)
        simp only [rmulS, h1, hf, Bool.and_self, if_true, Int.natAbs_neg, Int.natAbs_natCast]
        congr 1
        simp only [z2, decide_true]
        congr 1
        all_goals (first | rfl | (simp; done) | (simp; omega))
      · rw [show rdivS an p bn q = rmulS an p q bn from by simp only [rdivS, h1, h2, Bool.and_self, if_true]; rw [if_neg z, if_neg z2]]
        have hf := fq bn (by omega) (by omega) gg (q : Int) (by omega)
        simp only [rmulS, h1, hf, Bool.and_self, if_true, Int.natAbs_natCast]
        congr 1
        simp only [z2, decide_false]
        congr 1
        all_goals (first | rfl | (simp; done) | (simp; omega))
    rw [hv]
    exact refover_core an bn _ _ p q _ _ _ HX HY HP HQ (Lib.hid (fun w => mul_u an.natAbs q (by omega) (by omega) w)) (Lib.hid (fun w => mul_u p bn.natAbs (by omega) (by omega) w))
      (Lib.hid (fun w => made_any (!(decide (an < 0) == decide (bn < 0))) _ _ (prod_small x1 q1) (prod_small p1 y1) (Nat.mul_pos p0 (by omega)) w)) w

set_option maxRecDepth 100000 in
set_option maxHeartbeats 4000000 in
theorem refadd_core (an bn : Int) (x y p q X Y Dd N : Nat) (r : Int × Int × Int)
    (HX : Hid (∀ w, Calls Tryd.prog 49 #[.int .i64 an] w fun e w' => e = .returned (.int .u64 (x : Int)) ∧ Below w.heap.size w w'))
    (HY : Hid (∀ w, Calls Tryd.prog 49 #[.int .i64 bn] w fun e w' => e = .returned (.int .u64 (y : Int)) ∧ Below w.heap.size w w'))
    (HP : Hid (∀ w, Calls Tryd.prog 49 #[.int .i64 (p : Int)] w fun e w' => e = .returned (.int .u64 (p : Int)) ∧ Below w.heap.size w w'))
    (HQ : Hid (∀ w, Calls Tryd.prog 49 #[.int .i64 (q : Int)] w fun e w' => e = .returned (.int .u64 (q : Int)) ∧ Below w.heap.size w w'))
    (HMX : Hid (∀ w, Calls Tryd.prog 53 #[.int .u64 (x : Int), .int .u64 (q : Int)] w fun e w' => e = .returned (uv X) ∧ Below w.heap.size w w'))
    (HMY : Hid (∀ w, Calls Tryd.prog 53 #[.int .u64 (y : Int), .int .u64 (p : Int)] w fun e w' => e = .returned (uv Y) ∧ Below w.heap.size w w'))
    (HMD : Hid (∀ w, Calls Tryd.prog 53 #[.int .u64 (p : Int), .int .u64 (q : Int)] w fun e w' => e = .returned (uv Dd) ∧ Below w.heap.size w w'))
    (HR : Hid ((decide (an < 0) == decide (bn < 0)) = true ∧ (∀ w, Calls Tryd.prog 54 #[uv X, uv Y] w fun e w' => e = .returned (uv N) ∧ Below w.heap.size w w') ∧ (∀ w, Calls Tryd.prog 48 #[uv N, .bool (decide (an < 0)), uv Dd] w fun e w' => e = .returned (frv r) ∧ Below w.heap.size w w') ∨ (decide (an < 0) == decide (bn < 0)) = false ∧ (∀ w, Calls Tryd.prog 55 #[uv X, uv Y] w fun e w' => e = .returned (.bool true) ∧ Below w.heap.size w w') ∧ (∀ w, Calls Tryd.prog 56 #[uv Y, uv X] w fun e w' => e = .returned (uv N) ∧ Below w.heap.size w w') ∧ (∀ w, Calls Tryd.prog 48 #[uv N, .bool (decide (bn < 0)), uv Dd] w fun e w' => e = .returned (frv r) ∧ Below w.heap.size w w') ∨ (decide (an < 0) == decide (bn < 0)) = false ∧ (∀ w, Calls Tryd.prog 55 #[uv X, uv Y] w fun e w' => e = .returned (.bool false) ∧ Below w.heap.size w w') ∧ (∀ w, Calls Tryd.prog 56 #[uv X, uv Y] w fun e w' => e = .returned (uv N) ∧ Below w.heap.size w w') ∧ (∀ w, Calls Tryd.prog 48 #[uv N, .bool (decide (an < 0)), uv Dd] w fun e w' => e = .returned (frv r) ∧ Below w.heap.size w w'))) (w : World) :
    Calls Tryd.prog 26 #[.agg #[.int .i64 an, .int .i64 (p : Int)], .agg #[.int .i64 bn, .int .i64 (q : Int)]] w fun e w' => e = .returned (frv r) ∧ Below w.heap.size w w' := by
  go_enter Tryd.func26, Tryd.ntmps26
  go_wp2_with fail
  have HB : Below w.heap.size w w := Below.refl _ _
  generalize hWW : World.alloc _ _ = WW
  have k_a : At WW (w.heap.size) 23 #[.int .i64 an, .int .i64 (p : Int)] := by rw [← hWW]; (repeat (first | (with_reducible apply At.new'; (focus (simp; done))) | with_reducible apply At.al | with_reducible apply At.drw | with_reducible apply At.dr))
  have k_b : At WW (w.heap.size + 1) 23 #[.int .i64 bn, .int .i64 (q : Int)] := by rw [← hWW]; (repeat (first | (with_reducible apply At.new'; (focus (simp; done))) | with_reducible apply At.al | with_reducible apply At.drw | with_reducible apply At.dr))
  have k_o : At WW (w.heap.size + 1 + 1) 23 #[.int .i64 0, .int .i64 0] := by rw [← hWW]; (repeat (first | (with_reducible apply At.new'; (focus (simp; done))) | with_reducible apply At.al | with_reducible apply At.drw | with_reducible apply At.dr))
  replace HB : Below w.heap.size w WW := by rw [← hWW]; repeat (first | with_reducible assumption | with_reducible exact Below.refl _ _ | with_reducible refine below_al ?_ _ | with_reducible refine below_drew ?_ | with_reducible refine below_drewN ?_ _ | with_reducible refine below_set ?_ (by dsimp only; omega) _)
  clear hWW
  refine wp_only ?_
  refine wp_region_grow1 7 (by kernel_rfl) (o1 := _) (d1 := 6) (t1 := 69) (z1 := #[.int .u64 0, .int .u64 0]) rfl ⟨rfl, rfl, fun _ _ => by rfl⟩ (by kernel_rfl) only_panic ?_
  apply Exists.intro
  refine And.intro (fun W' hW' => ?_) ?_
  focus
    have Kk_a := At.bel (show At _ (w.heap.size) 23 #[.int .i64 an, .int .i64 (p : Int)] from (by repeat (first | with_reducible assumption | with_reducible apply At.put0 | with_reducible apply At.put1 | with_reducible refine At.far ?_ (by dsimp only; omega) _ | with_reducible apply At.al | with_reducible apply At.drw | with_reducible apply At.dr))) hW'
    have Kk_a0 := cell_regrown Kk_a.c0
    have Kk_a1 := cell_regrown Kk_a.c1
    have Kk_b := At.bel (show At _ (w.heap.size + 1) 23 #[.int .i64 bn, .int .i64 (q : Int)] from (by repeat (first | with_reducible assumption | with_reducible apply At.put0 | with_reducible apply At.put1 | with_reducible refine At.far ?_ (by dsimp only; omega) _ | with_reducible apply At.al | with_reducible apply At.drw | with_reducible apply At.dr))) hW'
    have Kk_b0 := cell_regrown Kk_b.c0
    have Kk_b1 := cell_regrown Kk_b.c1
    have Kk_o := At.bel (show At _ (w.heap.size + 1 + 1) 23 #[.int .i64 0, .int .i64 0] from (by repeat (first | with_reducible assumption | with_reducible apply At.put0 | with_reducible apply At.put1 | with_reducible refine At.far ?_ (by dsimp only; omega) _ | with_reducible apply At.al | with_reducible apply At.drw | with_reducible apply At.dr))) hW'
    have Kk_o0 := cell_regrown Kk_o.c0
    have Kk_o1 := cell_regrown Kk_o.c1
    simp only [List.take_succ_cons, List.take_zero]
    repeat (go_big_quiet_step ((first | with_reducible exact regrown_call HX.out | with_reducible exact regrown_call HY.out | with_reducible exact regrown_call HP.out | with_reducible exact regrown_call HQ.out | with_reducible exact regrown_call HMX.out | with_reducible exact regrown_call HMY.out | with_reducible exact regrown_call HMD.out)))
    exact wpQuiet_nil rfl
  intro g_x v1 hb1 lb_x k_x
  have Mk_a := k_a.lt
  have Mk_b := k_b.lt
  have Mk_o := k_o.lt
  replace k_a : At v1 (w.heap.size) 23 #[.int .i64 an, .int .i64 (p : Int)] := At.bel (by repeat (first | with_reducible assumption | with_reducible apply At.put0 | with_reducible apply At.put1 | with_reducible refine At.far ?_ (by dsimp only; omega) _ | with_reducible apply At.al | with_reducible apply At.drw | with_reducible apply At.dr)) hb1
  replace k_b : At v1 (w.heap.size + 1) 23 #[.int .i64 bn, .int .i64 (q : Int)] := At.bel (by repeat (first | with_reducible assumption | with_reducible apply At.put0 | with_reducible apply At.put1 | with_reducible refine At.far ?_ (by dsimp only; omega) _ | with_reducible apply At.al | with_reducible apply At.drw | with_reducible apply At.dr)) hb1
  replace k_o : At v1 (w.heap.size + 1 + 1) 23 #[.int .i64 0, .int .i64 0] := At.bel (by repeat (first | with_reducible assumption | with_reducible apply At.put0 | with_reducible apply At.put1 | with_reducible refine At.far ?_ (by dsimp only; omega) _ | with_reducible apply At.al | with_reducible apply At.drw | with_reducible apply At.dr)) hb1
  replace HB : Below w.heap.size w v1 := below_then (by repeat (first | with_reducible assumption | with_reducible exact Below.refl _ _ | with_reducible refine below_al ?_ _ | with_reducible refine below_drew ?_ | with_reducible refine below_drewN ?_ _ | with_reducible refine below_set ?_ (by dsimp only; omega) _)) hb1
  clear hb1
  simp only [List.drop_succ_cons, List.drop_zero]
  have Lk_x := k_x.lt
  obtain ⟨k_x0, k_x1, k_x2, k_x3⟩ := k_x.two
  go_wp2_with fail
  generalize hWW : World.setCell _ _ _ = W0
  replace k_a : At W0 (w.heap.size) 23 #[.int .i64 an, .int .i64 (p : Int)] := by rw [← hWW]; repeat (first | with_reducible assumption | with_reducible apply At.put0 | with_reducible apply At.put1 | with_reducible refine At.far ?_ (by dsimp only; omega) _ | with_reducible apply At.al | with_reducible apply At.drw | with_reducible apply At.dr)
  replace k_b : At W0 (w.heap.size + 1) 23 #[.int .i64 bn, .int .i64 (q : Int)] := by rw [← hWW]; repeat (first | with_reducible assumption | with_reducible apply At.put0 | with_reducible apply At.put1 | with_reducible refine At.far ?_ (by dsimp only; omega) _ | with_reducible apply At.al | with_reducible apply At.drw | with_reducible apply At.dr)
  replace k_o : At W0 (w.heap.size + 1 + 1) 23 #[.int .i64 0, .int .i64 0] := by rw [← hWW]; repeat (first | with_reducible assumption | with_reducible apply At.put0 | with_reducible apply At.put1 | with_reducible refine At.far ?_ (by dsimp only; omega) _ | with_reducible apply At.al | with_reducible apply At.drw | with_reducible apply At.dr)
  replace k_x : At W0 (g_x) 69 #[.int .u64 (hiN X : Int), .int .u64 (loN X : Int)] := by rw [← hWW]; repeat (first | with_reducible assumption | with_reducible apply At.put0 | with_reducible apply At.put1 | with_reducible refine At.far ?_ (by dsimp only; omega) _ | with_reducible apply At.al | with_reducible apply At.drw | with_reducible apply At.dr)
  replace HB : Below w.heap.size w W0 := by rw [← hWW]; repeat (first | with_reducible assumption | with_reducible exact Below.refl _ _ | with_reducible refine below_al ?_ _ | with_reducible refine below_drew ?_ | with_reducible refine below_drewN ?_ _ | with_reducible refine below_set ?_ (by dsimp only; omega) _)
  clear k_x0 k_x1 k_x2 k_x3 Lk_x
  clear hWW
  refine wp_only ?_
  refine wp_region_grow1 7 (by kernel_rfl) (o1 := _) (d1 := 7) (t1 := 69) (z1 := #[.int .u64 0, .int .u64 0]) rfl ⟨rfl, rfl, fun _ _ => by rfl⟩ (by kernel_rfl) only_panic ?_
  apply Exists.intro
  refine And.intro (fun W' hW' => ?_) ?_
  focus
    have Kk_a := At.bel (show At _ (w.heap.size) 23 #[.int .i64 an, .int .i64 (p : Int)] from (by repeat (first | with_reducible assumption | with_reducible apply At.put0 | with_reducible apply At.put1 | with_reducible refine At.far ?_ (by dsimp only; omega) _ | with_reducible apply At.al | with_reducible apply At.drw | with_reducible apply At.dr))) hW'
    have Kk_a0 := cell_regrown Kk_a.c0
    have Kk_a1 := cell_regrown Kk_a.c1
    have Kk_b := At.bel (show At _ (w.heap.size + 1) 23 #[.int .i64 bn, .int .i64 (q : Int)] from (by repeat (first | with_reducible assumption | with_reducible apply At.put0 | with_reducible apply At.put1 | with_reducible refine At.far ?_ (by dsimp only; omega) _ | with_reducible apply At.al | with_reducible apply At.drw | with_reducible apply At.dr))) hW'
    have Kk_b0 := cell_regrown Kk_b.c0
    have Kk_b1 := cell_regrown Kk_b.c1
    have Kk_o := At.bel (show At _ (w.heap.size + 1 + 1) 23 #[.int .i64 0, .int .i64 0] from (by repeat (first | with_reducible assumption | with_reducible apply At.put0 | with_reducible apply At.put1 | with_reducible refine At.far ?_ (by dsimp only; omega) _ | with_reducible apply At.al | with_reducible apply At.drw | with_reducible apply At.dr))) hW'
    have Kk_o0 := cell_regrown Kk_o.c0
    have Kk_o1 := cell_regrown Kk_o.c1
    have Kk_x := At.bel (show At _ (g_x) 69 #[.int .u64 (hiN X : Int), .int .u64 (loN X : Int)] from (by repeat (first | with_reducible assumption | with_reducible apply At.put0 | with_reducible apply At.put1 | with_reducible refine At.far ?_ (by dsimp only; omega) _ | with_reducible apply At.al | with_reducible apply At.drw | with_reducible apply At.dr))) hW'
    have Kk_x0 := cell_regrown Kk_x.c0
    have Kk_x1 := cell_regrown Kk_x.c1
    simp only [List.take_succ_cons, List.take_zero]
    repeat (go_big_quiet_step ((first | with_reducible exact regrown_call HX.out | with_reducible exact regrown_call HY.out | with_reducible exact regrown_call HP.out | with_reducible exact regrown_call HQ.out | with_reducible exact regrown_call HMX.out | with_reducible exact regrown_call HMY.out | with_reducible exact regrown_call HMD.out)))
    exact wpQuiet_nil rfl
  intro g_y v2 hb2 lb_y k_y
  have Mk_a := k_a.lt
  have Mk_b := k_b.lt
  have Mk_o := k_o.lt
  have Mk_x := k_x.lt
  replace k_a : At v2 (w.heap.size) 23 #[.int .i64 an, .int .i64 (p : Int)] := At.bel (by repeat (first | with_reducible assumption | with_reducible apply At.put0 | with_reducible apply At.put1 | with_reducible refine At.far ?_ (by dsimp only; omega) _ | with_reducible apply At.al | with_reducible apply At.drw | with_reducible apply At.dr)) hb2
  replace k_b : At v2 (w.heap.size + 1) 23 #[.int .i64 bn, .int .i64 (q : Int)] := At.bel (by repeat (first | with_reducible assumption | with_reducible apply At.put0 | with_reducible apply At.put1 | with_reducible refine At.far ?_ (by dsimp only; omega) _ | with_reducible apply At.al | with_reducible apply At.drw | with_reducible apply At.dr)) hb2
  replace k_o : At v2 (w.heap.size + 1 + 1) 23 #[.int .i64 0, .int .i64 0] := At.bel (by repeat (first | with_reducible assumption | with_reducible apply At.put0 | with_reducible apply At.put1 | with_reducible refine At.far ?_ (by dsimp only; omega) _ | with_reducible apply At.al | with_reducible apply At.drw | with_reducible apply At.dr)) hb2
  replace k_x : At v2 (g_x) 69 #[.int .u64 (hiN X : Int), .int .u64 (loN X : Int)] := At.bel (by repeat (first | with_reducible assumption | with_reducible apply At.put0 | with_reducible apply At.put1 | with_reducible refine At.far ?_ (by dsimp only; omega) _ | with_reducible apply At.al | with_reducible apply At.drw | with_reducible apply At.dr)) hb2
  replace HB : Below w.heap.size w v2 := below_then (by repeat (first | with_reducible assumption | with_reducible exact Below.refl _ _ | with_reducible refine below_al ?_ _ | with_reducible refine below_drew ?_ | with_reducible refine below_drewN ?_ _ | with_reducible refine below_set ?_ (by dsimp only; omega) _)) hb2
  clear hb2
  simp only [List.drop_succ_cons, List.drop_zero]
  have Lk_y := k_y.lt
  obtain ⟨k_y0, k_y1, k_y2, k_y3⟩ := k_y.two
  go_wp2_with fail
  generalize hWW : World.setCell _ _ _ = W1
  replace k_a : At W1 (w.heap.size) 23 #[.int .i64 an, .int .i64 (p : Int)] := by rw [← hWW]; repeat (first | with_reducible assumption | with_reducible apply At.put0 | with_reducible apply At.put1 | with_reducible refine At.far ?_ (by dsimp only; omega) _ | with_reducible apply At.al | with_reducible apply At.drw | with_reducible apply At.dr)
  replace k_b : At W1 (w.heap.size + 1) 23 #[.int .i64 bn, .int .i64 (q : Int)] := by rw [← hWW]; repeat (first | with_reducible assumption | with_reducible apply At.put0 | with_reducible apply At.put1 | with_reducible refine At.far ?_ (by dsimp only; omega) _ | with_reducible apply At.al | with_reducible apply At.drw | with_reducible apply At.dr)
  replace k_o : At W1 (w.heap.size + 1 + 1) 23 #[.int .i64 0, .int .i64 0] := by rw [← hWW]; repeat (first | with_reducible assumption | with_reducible apply At.put0 | with_reducible apply At.put1 | with_reducible refine At.far ?_ (by dsimp only; omega) _ | with_reducible apply At.al | with_reducible apply At.drw | with_reducible apply At.dr)
  replace k_x : At W1 (g_x) 69 #[.int .u64 (hiN X : Int), .int .u64 (loN X : Int)] := by rw [← hWW]; repeat (first | with_reducible assumption | with_reducible apply At.put0 | with_reducible apply At.put1 | with_reducible refine At.far ?_ (by dsimp only; omega) _ | with_reducible apply At.al | with_reducible apply At.drw | with_reducible apply At.dr)
  replace k_y : At W1 (g_y) 69 #[.int .u64 (hiN Y : Int), .int .u64 (loN Y : Int)] := by rw [← hWW]; repeat (first | with_reducible assumption | with_reducible apply At.put0 | with_reducible apply At.put1 | with_reducible refine At.far ?_ (by dsimp only; omega) _ | with_reducible apply At.al | with_reducible apply At.drw | with_reducible apply At.dr)
  replace HB : Below w.heap.size w W1 := by rw [← hWW]; repeat (first | with_reducible assumption | with_reducible exact Below.refl _ _ | with_reducible refine below_al ?_ _ | with_reducible refine below_drew ?_ | with_reducible refine below_drewN ?_ _ | with_reducible refine below_set ?_ (by dsimp only; omega) _)
  clear k_y0 k_y1 k_y2 k_y3 Lk_y
  clear hWW
  refine wp_only ?_
  refine wp_region_grow1 7 (by kernel_rfl) (o1 := _) (d1 := 8) (t1 := 69) (z1 := #[.int .u64 0, .int .u64 0]) rfl ⟨rfl, rfl, fun _ _ => by rfl⟩ (by kernel_rfl) only_panic ?_
  apply Exists.intro
  refine And.intro (fun W' hW' => ?_) ?_
  focus
    have Kk_a := At.bel (show At _ (w.heap.size) 23 #[.int .i64 an, .int .i64 (p : Int)] from (by repeat (first | with_reducible assumption | with_reducible apply At.put0 | with_reducible apply At.put1 | with_reducible refine At.far ?_ (by dsimp only; omega) _ | with_reducible apply At.al | with_reducible apply At.drw | with_reducible apply At.dr))) hW'
    have Kk_a0 := cell_regrown Kk_a.c0
    have Kk_a1 := cell_regrown Kk_a.c1
    have Kk_b := At.bel (show At _ (w.heap.size + 1) 23 #[.int .i64 bn, .int .i64 (q : Int)] from (by repeat (first | with_reducible assumption | with_reducible apply At.put0 | with_reducible apply At.put1 | with_reducible refine At.far ?_ (by dsimp only; omega) _ | with_reducible apply At.al | with_reducible apply At.drw | with_reducible apply At.dr))) hW'
    have Kk_b0 := cell_regrown Kk_b.c0
    have Kk_b1 := cell_regrown Kk_b.c1
    have Kk_o := At.bel (show At _ (w.heap.size + 1 + 1) 23 #[.int .i64 0, .int .i64 0] from (by repeat (first | with_reducible assumption | with_reducible apply At.put0 | with_reducible apply At.put1 | with_reducible refine At.far ?_ (by dsimp only; omega) _ | with_reducible apply At.al | with_reducible apply At.drw | with_reducible apply At.dr))) hW'
    have Kk_o0 := cell_regrown Kk_o.c0
    have Kk_o1 := cell_regrown Kk_o.c1
    have Kk_x := At.bel (show At _ (g_x) 69 #[.int .u64 (hiN X : Int), .int .u64 (loN X : Int)] from (by repeat (first | with_reducible assumption | with_reducible apply At.put0 | with_reducible apply At.put1 | with_reducible refine At.far ?_ (by dsimp only; omega) _ | with_reducible apply At.al | with_reducible apply At.drw | with_reducible apply At.dr))) hW'
    have Kk_x0 := cell_regrown Kk_x.c0
    have Kk_x1 := cell_regrown Kk_x.c1
    have Kk_y := At.bel (show At _ (g_y) 69 #[.int .u64 (hiN Y : Int), .int .u64 (loN Y : Int)] from (by repeat (first | with_reducible assumption | with_reducible apply At.put0 | with_reducible apply At.put1 | with_reducible refine At.far ?_ (by dsimp only; omega) _ | with_reducible apply At.al | with_reducible apply At.drw | with_reducible apply At.dr))) hW'
    have Kk_y0 := cell_regrown Kk_y.c0
    have Kk_y1 := cell_regrown Kk_y.c1
    simp only [List.take_succ_cons, List.take_zero]
    repeat (go_big_quiet_step ((first | with_reducible exact regrown_call HX.out | with_reducible exact regrown_call HY.out | with_reducible exact regrown_call HP.out | with_reducible exact regrown_call HQ.out | with_reducible exact regrown_call HMX.out | with_reducible exact regrown_call HMY.out | with_reducible exact regrown_call HMD.out)))
    exact wpQuiet_nil rfl
  intro g_d v3 hb3 lb_d k_d
  have Mk_a := k_a.lt
  have Mk_b := k_b.lt
  have Mk_o := k_o.lt
  have Mk_x := k_x.lt
  have Mk_y := k_y.lt
  replace k_a : At v3 (w.heap.size) 23 #[.int .i64 an, .int .i64 (p : Int)] := At.bel (by repeat (first | with_reducible assumption | with_reducible apply At.put0 | with_reducible apply At.put1 | with_reducible refine At.far ?_ (by dsimp only; omega) _ | with_reducible apply At.al | with_reducible apply At.drw | with_reducible apply At.dr)) hb3
  replace k_b : At v3 (w.heap.size + 1) 23 #[.int .i64 bn, .int .i64 (q : Int)] := At.bel (by repeat (first | with_reducible assumption | with_reducible apply At.put0 | with_reducible apply At.put1 | with_reducible refine At.far ?_ (by dsimp only; omega) _ | with_reducible apply At.al | with_reducible apply At.drw | with_reducible apply At.dr)) hb3
  replace k_o : At v3 (w.heap.size + 1 + 1) 23 #[.int .i64 0, .int .i64 0] := At.bel (by repeat (first | with_reducible assumption | with_reducible apply At.put0 | with_reducible apply At.put1 | with_reducible refine At.far ?_ (by dsimp only; omega) _ | with_reducible apply At.al | with_reducible apply At.drw | with_reducible apply At.dr)) hb3
  replace k_x : At v3 (g_x) 69 #[.int .u64 (hiN X : Int), .int .u64 (loN X : Int)] := At.bel (by repeat (first | with_reducible assumption | with_reducible apply At.put0 | with_reducible apply At.put1 | with_reducible refine At.far ?_ (by dsimp only; omega) _ | with_reducible apply At.al | with_reducible apply At.drw | with_reducible apply At.dr)) hb3
  replace k_y : At v3 (g_y) 69 #[.int .u64 (hiN Y : Int), .int .u64 (loN Y : Int)] := At.bel (by repeat (first | with_reducible assumption | with_reducible apply At.put0 | with_reducible apply At.put1 | with_reducible refine At.far ?_ (by dsimp only; omega) _ | with_reducible apply At.al | with_reducible apply At.drw | with_reducible apply At.dr)) hb3
  replace HB : Below w.heap.size w v3 := below_then (by repeat (first | with_reducible assumption | with_reducible exact Below.refl _ _ | with_reducible refine below_al ?_ _ | with_reducible refine below_drew ?_ | with_reducible refine below_drewN ?_ _ | with_reducible refine below_set ?_ (by dsimp only; omega) _)) hb3
  clear hb3
  simp only [List.drop_succ_cons, List.drop_zero]
  have Lk_d := k_d.lt
  obtain ⟨k_d0, k_d1, k_d2, k_d3⟩ := k_d.two
  go_upto_region 4 with fail
  generalize hWW : World.setCell _ _ _ = W2
  replace k_a : At W2 (w.heap.size) 23 #[.int .i64 an, .int .i64 (p : Int)] := by rw [← hWW]; repeat (first | with_reducible assumption | with_reducible apply At.put0 | with_reducible apply At.put1 | with_reducible refine At.far ?_ (by dsimp only; omega) _ | with_reducible apply At.al | with_reducible apply At.drw | with_reducible apply At.dr)
  replace k_b : At W2 (w.heap.size + 1) 23 #[.int .i64 bn, .int .i64 (q : Int)] := by rw [← hWW]; repeat (first | with_reducible assumption | with_reducible apply At.put0 | with_reducible apply At.put1 | with_reducible refine At.far ?_ (by dsimp only; omega) _ | with_reducible apply At.al | with_reducible apply At.drw | with_reducible apply At.dr)
  replace k_o : At W2 (w.heap.size + 1 + 1) 23 #[.int .i64 0, .int .i64 0] := by rw [← hWW]; repeat (first | with_reducible assumption | with_reducible apply At.put0 | with_reducible apply At.put1 | with_reducible refine At.far ?_ (by dsimp only; omega) _ | with_reducible apply At.al | with_reducible apply At.drw | with_reducible apply At.dr)
  replace k_x : At W2 (g_x) 69 #[.int .u64 (hiN X : Int), .int .u64 (loN X : Int)] := by rw [← hWW]; repeat (first | with_reducible assumption | with_reducible apply At.put0 | with_reducible apply At.put1 | with_reducible refine At.far ?_ (by dsimp only; omega) _ | with_reducible apply At.al | with_reducible apply At.drw | with_reducible apply At.dr)
  replace k_y : At W2 (g_y) 69 #[.int .u64 (hiN Y : Int), .int .u64 (loN Y : Int)] := by rw [← hWW]; repeat (first | with_reducible assumption | with_reducible apply At.put0 | with_reducible apply At.put1 | with_reducible refine At.far ?_ (by dsimp only; omega) _ | with_reducible apply At.al | with_reducible apply At.drw | with_reducible apply At.dr)
  replace k_d : At W2 (g_d) 69 #[.int .u64 (hiN Dd : Int), .int .u64 (loN Dd : Int)] := by rw [← hWW]; repeat (first | with_reducible assumption | with_reducible apply At.put0 | with_reducible apply At.put1 | with_reducible refine At.far ?_ (by dsimp only; omega) _ | with_reducible apply At.al | with_reducible apply At.drw | with_reducible apply At.dr)
  replace HB : Below w.heap.size w W2 := by rw [← hWW]; repeat (first | with_reducible assumption | with_reducible exact Below.refl _ _ | with_reducible refine below_al ?_ _ | with_reducible refine below_drew ?_ | with_reducible refine below_drewN ?_ _ | with_reducible refine below_set ?_ (by dsimp only; omega) _)
  clear k_d0 k_d1 k_d2 k_d3 Lk_d
  clear hWW
  have Lk_a := k_a.lt
  obtain ⟨k_a0, k_a1, k_a2, k_a3⟩ := k_a.two
  have Lk_b := k_b.lt
  obtain ⟨k_b0, k_b1, k_b2, k_b3⟩ := k_b.two
  rcases HR.out with ⟨hs, hpl, hm⟩ | ⟨hs, hl, hmi, hm⟩ | ⟨hs, hl, hmi, hm⟩
  · have HPl := Lib.hid hpl
    have HM := Lib.hid hm
    clear hpl hm
    go_wp2_with fail
    clear k_a0 k_a1 k_a2 k_a3 Lk_a k_b0 k_b1 k_b2 k_b3 Lk_b
    refine wp_only ?_
    refine wp_region_grow0 10 (by kernel_rfl)     (by kernel_rfl) only_panic ?_
    apply Exists.intro
    refine And.intro (fun W' hW' => ?_) ?_
    focus
      have Kk_a := At.bel (show At _ (w.heap.size) 23 #[.int .i64 an, .int .i64 (p : Int)] from (by repeat (first | with_reducible assumption | with_reducible apply At.put0 | with_reducible apply At.put1 | with_reducible refine At.far ?_ (by dsimp only; omega) _ | with_reducible apply At.al | with_reducible apply At.drw | with_reducible apply At.dr))) hW'
      have Kk_a0 := cell_regrown Kk_a.c0
      have Kk_a1 := cell_regrown Kk_a.c1
      have Kk_b := At.bel (show At _ (w.heap.size + 1) 23 #[.int .i64 bn, .int .i64 (q : Int)] from (by repeat (first | with_reducible assumption | with_reducible apply At.put0 | with_reducible apply At.put1 | with_reducible refine At.far ?_ (by dsimp only; omega) _ | with_reducible apply At.al | with_reducible apply At.drw | with_reducible apply At.dr))) hW'
      have Kk_b0 := cell_regrown Kk_b.c0
      have Kk_b1 := cell_regrown Kk_b.c1
      have Kk_o := At.bel (show At _ (w.heap.size + 1 + 1) 23 #[.int .i64 0, .int .i64 0] from (by repeat (first | with_reducible assumption | with_reducible apply At.put0 | with_reducible apply At.put1 | with_reducible refine At.far ?_ (by dsimp only; omega) _ | with_reducible apply At.al | with_reducible apply At.drw | with_reducible apply At.dr))) hW'
      have Kk_o0 := cell_regrown Kk_o.c0
      have Kk_o1 := cell_regrown Kk_o.c1
      have Kk_x := At.bel (show At _ (g_x) 69 #[.int .u64 (hiN X : Int), .int .u64 (loN X : Int)] from (by repeat (first | with_reducible assumption | with_reducible apply At.put0 | with_reducible apply At.put1 | with_reducible refine At.far ?_ (by dsimp only; omega) _ | with_reducible apply At.al | with_reducible apply At.drw | with_reducible apply At.dr))) hW'
      have Kk_x0 := cell_regrown Kk_x.c0
      have Kk_x1 := cell_regrown Kk_x.c1
      have Kk_y := At.bel (show At _ (g_y) 69 #[.int .u64 (hiN Y : Int), .int .u64 (loN Y : Int)] from (by repeat (first | with_reducible assumption | with_reducible apply At.put0 | with_reducible apply At.put1 | with_reducible refine At.far ?_ (by dsimp only; omega) _ | with_reducible apply At.al | with_reducible apply At.drw | with_reducible apply At.dr))) hW'
      have Kk_y0 := cell_regrown Kk_y.c0
      have Kk_y1 := cell_regrown Kk_y.c1
      have Kk_d := At.bel (show At _ (g_d) 69 #[.int .u64 (hiN Dd : Int), .int .u64 (loN Dd : Int)] from (by repeat (first | with_reducible assumption | with_reducible apply At.put0 | with_reducible apply At.put1 | with_reducible refine At.far ?_ (by dsimp only; omega) _ | with_reducible apply At.al | with_reducible apply At.drw | with_reducible apply At.dr))) hW'
      have Kk_d0 := cell_regrown Kk_d.c0
      have Kk_d1 := cell_regrown Kk_d.c1
      simp only [List.take_succ_cons, List.take_zero]
      repeat (go_big_quiet_step ((first | with_reducible exact regrown_call HPl.out | with_reducible exact regrown_call HM.out)))
      exact wpQuiet_nil rfl
    intro  v4 hb4  
    have Mk_a := k_a.lt
    have Mk_b := k_b.lt
    have Mk_o := k_o.lt
    have Mk_x := k_x.lt
    have Mk_y := k_y.lt
    have Mk_d := k_d.lt
    replace k_a : At v4 (w.heap.size) 23 #[.int .i64 an, .int .i64 (p : Int)] := At.bel (by repeat (first | with_reducible assumption | with_reducible apply At.put0 | with_reducible apply At.put1 | with_reducible refine At.far ?_ (by dsimp only; omega) _ | with_reducible apply At.al | with_reducible apply At.drw | with_reducible apply At.dr)) hb4
    replace k_b : At v4 (w.heap.size + 1) 23 #[.int .i64 bn, .int .i64 (q : Int)] := At.bel (by repeat (first | with_reducible assumption | with_reducible apply At.put0 | with_reducible apply At.put1 | with_reducible refine At.far ?_ (by dsimp only; omega) _ | with_reducible apply At.al | with_reducible apply At.drw | with_reducible apply At.dr)) hb4
    replace k_o : At v4 (w.heap.size + 1 + 1) 23 #[.int .i64 0, .int .i64 0] := At.bel (by repeat (first | with_reducible assumption | with_reducible apply At.put0 | with_reducible apply At.put1 | with_reducible refine At.far ?_ (by dsimp only; omega) _ | with_reducible apply At.al | with_reducible apply At.drw | with_reducible apply At.dr)) hb4
    replace k_x : At v4 (g_x) 69 #[.int .u64 (hiN X : Int), .int .u64 (loN X : Int)] := At.bel (by repeat (first | with_reducible assumption | with_reducible apply At.put0 | with_reducible apply At.put1 | with_reducible refine At.far ?_ (by dsimp only; omega) _ | with_reducible apply At.al | with_reducible apply At.drw | with_reducible apply At.dr)) hb4
    replace k_y : At v4 (g_y) 69 #[.int .u64 (hiN Y : Int), .int .u64 (loN Y : Int)] := At.bel (by repeat (first | with_reducible assumption | with_reducible apply At.put0 | with_reducible apply At.put1 | with_reducible refine At.far ?_ (by dsimp only; omega) _ | with_reducible apply At.al | with_reducible apply At.drw | with_reducible apply At.dr)) hb4
    replace k_d : At v4 (g_d) 69 #[.int .u64 (hiN Dd : Int), .int .u64 (loN Dd : Int)] := At.bel (by repeat (first | with_reducible assumption | with_reducible apply At.put0 | with_reducible apply At.put1 | with_reducible refine At.far ?_ (by dsimp only; omega) _ | with_reducible apply At.al | with_reducible apply At.drw | with_reducible apply At.dr)) hb4
    replace HB : Below w.heap.size w v4 := below_then (by repeat (first | with_reducible assumption | with_reducible exact Below.refl _ _ | with_reducible refine below_al ?_ _ | with_reducible refine below_drew ?_ | with_reducible refine below_drewN ?_ _ | with_reducible refine below_set ?_ (by dsimp only; omega) _)) hb4
    clear hb4
    simp only [List.drop_succ_cons, List.drop_zero]
    have Lk_o := k_o.lt
    obtain ⟨k_o0, k_o1, k_o2, k_o3⟩ := k_o.two
    go_wp2_with fail
    exact bodyPost_ret (v := frv r) (by simp [results, Tryd.results26, go_sem, *]) rfl ⟨rfl, (by repeat (first | with_reducible assumption | with_reducible exact Below.refl _ _ | with_reducible refine below_al ?_ _ | with_reducible refine below_drew ?_ | with_reducible refine below_drewN ?_ _ | with_reducible refine below_set ?_ (by dsimp only; omega) _))⟩
  · have HL := Lib.hid hl
    have HMi := Lib.hid hmi
    have HM := Lib.hid hm
    clear hl hmi hm
    have Lk_x := k_x.lt
    obtain ⟨k_x0, k_x1, k_x2, k_x3⟩ := k_x.two
    have Lk_y := k_y.lt
    obtain ⟨k_y0, k_y1, k_y2, k_y3⟩ := k_y.two
    go_wp2_with fail
    refine (HL.out _).mono ?_
    rintro e v4 ⟨rfl, hb4⟩
    clear k_a0 k_a1 k_a2 k_a3 Lk_a k_b0 k_b1 k_b2 k_b3 Lk_b k_x0 k_x1 k_x2 k_x3 Lk_x k_y0 k_y1 k_y2 k_y3 Lk_y
    replace k_a : At v4 (w.heap.size) 23 #[.int .i64 an, .int .i64 (p : Int)] := At.bel (by repeat (first | with_reducible assumption | with_reducible apply At.put0 | with_reducible apply At.put1 | with_reducible refine At.far ?_ (by dsimp only; omega) _ | with_reducible apply At.al | with_reducible apply At.drw | with_reducible apply At.dr)) hb4
    replace k_b : At v4 (w.heap.size + 1) 23 #[.int .i64 bn, .int .i64 (q : Int)] := At.bel (by repeat (first | with_reducible assumption | with_reducible apply At.put0 | with_reducible apply At.put1 | with_reducible refine At.far ?_ (by dsimp only; omega) _ | with_reducible apply At.al | with_reducible apply At.drw | with_reducible apply At.dr)) hb4
    replace k_o : At v4 (w.heap.size + 1 + 1) 23 #[.int .i64 0, .int .i64 0] := At.bel (by repeat (first | with_reducible assumption | with_reducible apply At.put0 | with_reducible apply At.put1 | with_reducible refine At.far ?_ (by dsimp only; omega) _ | with_reducible apply At.al | with_reducible apply At.drw | with_reducible apply At.dr)) hb4
    replace k_x : At v4 (g_x) 69 #[.int .u64 (hiN X : Int), .int .u64 (loN X : Int)] := At.bel (by repeat (first | with_reducible assumption | with_reducible apply At.put0 | with_reducible apply At.put1 | with_reducible refine At.far ?_ (by dsimp only; omega) _ | with_reducible apply At.al | with_reducible apply At.drw | with_reducible apply At.dr)) hb4
    replace k_y : At v4 (g_y) 69 #[.int .u64 (hiN Y : Int), .int .u64 (loN Y : Int)] := At.bel (by repeat (first | with_reducible assumption | with_reducible apply At.put0 | with_reducible apply At.put1 | with_reducible refine At.far ?_ (by dsimp only; omega) _ | with_reducible apply At.al | with_reducible apply At.drw | with_reducible apply At.dr)) hb4
    replace k_d : At v4 (g_d) 69 #[.int .u64 (hiN Dd : Int), .int .u64 (loN Dd : Int)] := At.bel (by repeat (first | with_reducible assumption | with_reducible apply At.put0 | with_reducible apply At.put1 | with_reducible refine At.far ?_ (by dsimp only; omega) _ | with_reducible apply At.al | with_reducible apply At.drw | with_reducible apply At.dr)) hb4
    replace HB : Below w.heap.size w v4 := below_then (by repeat (first | with_reducible assumption | with_reducible exact Below.refl _ _ | with_reducible refine below_al ?_ _ | with_reducible refine below_drew ?_ | with_reducible refine below_drewN ?_ _ | with_reducible refine below_set ?_ (by dsimp only; omega) _)) hb4
    clear hb4
    go_wp2_with fail
    refine wp_only ?_
    refine wp_region_grow0 10 (by kernel_rfl)     (by kernel_rfl) only_panic ?_
    apply Exists.intro
    refine And.intro (fun W' hW' => ?_) ?_
    focus
      have Kk_a := At.bel (show At _ (w.heap.size) 23 #[.int .i64 an, .int .i64 (p : Int)] from (by repeat (first | with_reducible assumption | with_reducible apply At.put0 | with_reducible apply At.put1 | with_reducible refine At.far ?_ (by dsimp only; omega) _ | with_reducible apply At.al | with_reducible apply At.drw | with_reducible apply At.dr))) hW'
      have Kk_a0 := cell_regrown Kk_a.c0
      have Kk_a1 := cell_regrown Kk_a.c1
      have Kk_b := At.bel (show At _ (w.heap.size + 1) 23 #[.int .i64 bn, .int .i64 (q : Int)] from (by repeat (first | with_reducible assumption | with_reducible apply At.put0 | with_reducible apply At.put1 | with_reducible refine At.far ?_ (by dsimp only; omega) _ | with_reducible apply At.al | with_reducible apply At.drw | with_reducible apply At.dr))) hW'
      have Kk_b0 := cell_regrown Kk_b.c0
      have Kk_b1 := cell_regrown Kk_b.c1
      have Kk_o := At.bel (show At _ (w.heap.size + 1 + 1) 23 #[.int .i64 0, .int .i64 0] from (by repeat (first | with_reducible assumption | with_reducible apply At.put0 | with_reducible apply At.put1 | with_reducible refine At.far ?_ (by dsimp only; omega) _ | with_reducible apply At.al | with_reducible apply At.drw | with_reducible apply At.dr))) hW'
      have Kk_o0 := cell_regrown Kk_o.c0
      have Kk_o1 := cell_regrown Kk_o.c1
      have Kk_x := At.bel (show At _ (g_x) 69 #[.int .u64 (hiN X : Int), .int .u64 (loN X : Int)] from (by repeat (first | with_reducible assumption | with_reducible apply At.put0 | with_reducible apply At.put1 | with_reducible refine At.far ?_ (by dsimp only; omega) _ | with_reducible apply At.al | with_reducible apply At.drw | with_reducible apply At.dr))) hW'
      have Kk_x0 := cell_regrown Kk_x.c0
      have Kk_x1 := cell_regrown Kk_x.c1
      have Kk_y := At.bel (show At _ (g_y) 69 #[.int .u64 (hiN Y : Int), .int .u64 (loN Y : Int)] from (by repeat (first | with_reducible assumption | with_reducible apply At.put0 | with_reducible apply At.put1 | with_reducible refine At.far ?_ (by dsimp only; omega) _ | with_reducible apply At.al | with_reducible apply At.drw | with_reducible apply At.dr))) hW'
      have Kk_y0 := cell_regrown Kk_y.c0
      have Kk_y1 := cell_regrown Kk_y.c1
      have Kk_d := At.bel (show At _ (g_d) 69 #[.int .u64 (hiN Dd : Int), .int .u64 (loN Dd : Int)] from (by repeat (first | with_reducible assumption | with_reducible apply At.put0 | with_reducible apply At.put1 | with_reducible refine At.far ?_ (by dsimp only; omega) _ | with_reducible apply At.al | with_reducible apply At.drw | with_reducible apply At.dr))) hW'
      have Kk_d0 := cell_regrown Kk_d.c0
      have Kk_d1 := cell_regrown Kk_d.c1
      simp only [List.take_succ_cons, List.take_zero]
      repeat (go_big_quiet_step ((first | with_reducible exact regrown_call HMi.out | with_reducible exact regrown_call HM.out)))
      exact wpQuiet_nil rfl
    intro  v5 hb5  
    have Mk_a := k_a.lt
    have Mk_b := k_b.lt
    have Mk_o := k_o.lt
    have Mk_x := k_x.lt
    have Mk_y := k_y.lt
    have Mk_d := k_d.lt
    replace k_a : At v5 (w.heap.size) 23 #[.int .i64 an, .int .i64 (p : Int)] := At.bel (by repeat (first | with_reducible assumption | with_reducible apply At.put0 | with_reducible apply At.put1 | with_reducible refine At.far ?_ (by dsimp only; omega) _ | with_reducible apply At.al | with_reducible apply At.drw | with_reducible apply At.dr)) hb5
    replace k_b : At v5 (w.heap.size + 1) 23 #[.int .i64 bn, .int .i64 (q : Int)] := At.bel (by repeat (first | with_reducible assumption | with_reducible apply At.put0 | with_reducible apply At.put1 | with_reducible refine At.far ?_ (by dsimp only; omega) _ | with_reducible apply At.al | with_reducible apply At.drw | with_reducible apply At.dr)) hb5
    replace k_o : At v5 (w.heap.size + 1 + 1) 23 #[.int .i64 0, .int .i64 0] := At.bel (by repeat (first | with_reducible assumption | with_reducible apply At.put0 | with_reducible apply At.put1 | with_reducible refine At.far ?_ (by dsimp only; omega) _ | with_reducible apply At.al | with_reducible apply At.drw | with_reducible apply At.dr)) hb5
    replace k_x : At v5 (g_x) 69 #[.int .u64 (hiN X : Int), .int .u64 (loN X : Int)] := At.bel (by repeat (first | with_reducible assumption | with_reducible apply At.put0 | with_reducible apply At.put1 | with_reducible refine At.far ?_ (by dsimp only; omega) _ | with_reducible apply At.al | with_reducible apply At.drw | with_reducible apply At.dr)) hb5
    replace k_y : At v5 (g_y) 69 #[.int .u64 (hiN Y : Int), .int .u64 (loN Y : Int)] := At.bel (by repeat (first | with_reducible assumption | with_reducible apply At.put0 | with_reducible apply At.put1 | with_reducible refine At.far ?_ (by dsimp only; omega) _ | with_reducible apply At.al | with_reducible apply At.drw | with_reducible apply At.dr)) hb5
    replace k_d : At v5 (g_d) 69 #[.int .u64 (hiN Dd : Int), .int .u64 (loN Dd : Int)] := At.bel (by repeat (first | with_reducible assumption | with_reducible apply At.put0 | with_reducible apply At.put1 | with_reducible refine At.far ?_ (by dsimp only; omega) _ | with_reducible apply At.al | with_reducible apply At.drw | with_reducible apply At.dr)) hb5
    replace HB : Below w.heap.size w v5 := below_then (by repeat (first | with_reducible assumption | with_reducible exact Below.refl _ _ | with_reducible refine below_al ?_ _ | with_reducible refine below_drew ?_ | with_reducible refine below_drewN ?_ _ | with_reducible refine below_set ?_ (by dsimp only; omega) _)) hb5
    clear hb5
    simp only [List.drop_succ_cons, List.drop_zero]
    have Lk_o := k_o.lt
    obtain ⟨k_o0, k_o1, k_o2, k_o3⟩ := k_o.two
    go_wp2_with fail
    exact bodyPost_ret (v := frv r) (by simp [results, Tryd.results26, go_sem, *]) rfl ⟨rfl, (by repeat (first | with_reducible assumption | with_reducible exact Below.refl _ _ | with_reducible refine below_al ?_ _ | with_reducible refine below_drew ?_ | with_reducible refine below_drewN ?_ _ | with_reducible refine below_set ?_ (by dsimp only; omega) _))⟩
  · have HL := Lib.hid hl
    have HMi := Lib.hid hmi
    have HM := Lib.hid hm
    clear hl hmi hm
    have Lk_x := k_x.lt
    obtain ⟨k_x0, k_x1, k_x2, k_x3⟩ := k_x.two
    have Lk_y := k_y.lt
    obtain ⟨k_y0, k_y1, k_y2, k_y3⟩ := k_y.two
    go_wp2_with fail
    refine (HL.out _).mono ?_
    rintro e v4 ⟨rfl, hb4⟩
    clear k_a0 k_a1 k_a2 k_a3 Lk_a k_b0 k_b1 k_b2 k_b3 Lk_b k_x0 k_x1 k_x2 k_x3 Lk_x k_y0 k_y1 k_y2 k_y3 Lk_y
    replace k_a : At v4 (w.heap.size) 23 #[.int .i64 an, .int .i64 (p : Int)] := At.bel (by repeat (first | with_reducible assumption | with_reducible apply At.put0 | with_reducible apply At.put1 | with_reducible refine At.far ?_ (by dsimp only; omega) _ | with_reducible apply At.al | with_reducible apply At.drw | with_reducible apply At.dr)) hb4
    replace k_b : At v4 (w.heap.size + 1) 23 #[.int .i64 bn, .int .i64 (q : Int)] := At.bel (by repeat (first | with_reducible assumption | with_reducible apply At.put0 | with_reducible apply At.put1 | with_reducible refine At.far ?_ (by dsimp only; omega) _ | with_reducible apply At.al | with_reducible apply At.drw | with_reducible apply At.dr)) hb4
    replace k_o : At v4 (w.heap.size + 1 + 1) 23 #[.int .i64 0, .int .i64 0] := At.bel (by repeat (first | with_reducible assumption | with_reducible apply At.put0 | with_reducible apply At.put1 | with_reducible refine At.far ?_ (by dsimp only; omega) _ | with_reducible apply At.al | with_reducible apply At.drw | with_reducible apply At.dr)) hb4
    replace k_x : At v4 (g_x) 69 #[.int .u64 (hiN X : Int), .int .u64 (loN X : Int)] := At.bel (by repeat (first | with_reducible assumption | with_reducible apply At.put0 | with_reducible apply At.put1 | with_reducible refine At.far ?_ (by dsimp only; omega) _ | with_reducible apply At.al | with_reducible apply At.drw | with_reducible apply At.dr)) hb4
    replace k_y : At v4 (g_y) 69 #[.int .u64 (hiN Y : Int), .int .u64 (loN Y : Int)] := At.bel (by repeat (first | with_reducible assumption | with_reducible apply At.put0 | with_reducible apply At.put1 | with_reducible refine At.far ?_ (by dsimp only; omega) _ | with_reducible apply At.al | with_reducible apply At.drw | with_reducible apply At.dr)) hb4
    replace k_d : At v4 (g_d) 69 #[.int .u64 (hiN Dd : Int), .int .u64 (loN Dd : Int)] := At.bel (by repeat (first | with_reducible assumption | with_reducible apply At.put0 | with_reducible apply At.put1 | with_reducible refine At.far ?_ (by dsimp only; omega) _ | with_reducible apply At.al | with_reducible apply At.drw | with_reducible apply At.dr)) hb4
    replace HB : Below w.heap.size w v4 := below_then (by repeat (first | with_reducible assumption | with_reducible exact Below.refl _ _ | with_reducible refine below_al ?_ _ | with_reducible refine below_drew ?_ | with_reducible refine below_drewN ?_ _ | with_reducible refine below_set ?_ (by dsimp only; omega) _)) hb4
    clear hb4
    go_wp2_with fail
    refine wp_only ?_
    refine wp_region_grow0 10 (by kernel_rfl)     (by kernel_rfl) only_panic ?_
    apply Exists.intro
    refine And.intro (fun W' hW' => ?_) ?_
    focus
      have Kk_a := At.bel (show At _ (w.heap.size) 23 #[.int .i64 an, .int .i64 (p : Int)] from (by repeat (first | with_reducible assumption | with_reducible apply At.put0 | with_reducible apply At.put1 | with_reducible refine At.far ?_ (by dsimp only; omega) _ | with_reducible apply At.al | with_reducible apply At.drw | with_reducible apply At.dr))) hW'
      have Kk_a0 := cell_regrown Kk_a.c0
      have Kk_a1 := cell_regrown Kk_a.c1
      have Kk_b := At.bel (show At _ (w.heap.size + 1) 23 #[.int .i64 bn, .int .i64 (q : Int)] from (by repeat (first | with_reducible assumption | with_reducible apply At.put0 | with_reducible apply At.put1 | with_reducible refine At.far ?_ (by dsimp only; omega) _ | with_reducible apply At.al | with_reducible apply At.drw | with_reducible apply At.dr))) hW'
      have Kk_b0 := cell_regrown Kk_b.c0
      have Kk_b1 := cell_regrown Kk_b.c1
      have Kk_o := At.bel (show At _ (w.heap.size + 1 + 1) 23 #[.int .i64 0, .int .i64 0] from (by repeat (first | with_reducible assumption | with_reducible apply At.put0 | with_reducible apply At.put1 | with_reducible refine At.far ?_ (by dsimp only; omega) _ | with_reducible apply At.al | with_reducible apply At.drw | with_reducible apply At.dr))) hW'
      have Kk_o0 := cell_regrown Kk_o.c0
      have Kk_o1 := cell_regrown Kk_o.c1
      have Kk_x := At.bel (show At _ (g_x) 69 #[.int .u64 (hiN X : Int), .int .u64 (loN X : Int)] from (by repeat (first | with_reducible assumption | with_reducible apply At.put0 | with_reducible apply At.put1 | with_reducible refine At.far ?_ (by dsimp only; omega) _ | with_reducible apply At.al | with_reducible apply At.drw | with_reducible apply At.dr))) hW'
      have Kk_x0 := cell_regrown Kk_x.c0
      have Kk_x1 := cell_regrown Kk_x.c1
      have Kk_y := At.bel (show At _ (g_y) 69 #[.int .u64 (hiN Y : Int), .int .u64 (loN Y : Int)] from (by repeat (first | with_reducible assumption | with_reducible apply At.put0 | with_reducible apply At.put1 | with_reducible refine At.far ?_ (by dsimp only; omega) _ | with_reducible apply At.al | with_reducible apply At.drw | with_reducible apply At.dr))) hW'
      have Kk_y0 := cell_regrown Kk_y.c0
      have Kk_y1 := cell_regrown Kk_y.c1
      have Kk_d := At.bel (show At _ (g_d) 69 #[.int .u64 (hiN Dd : Int), .int .u64 (loN Dd : Int)] from (by repeat (first | with_reducible assumption | with_reducible apply At.put0 | with_reducible apply At.put1 | with_reducible refine At.far ?_ (by dsimp only; omega) _ | with_reducible apply At.al | with_reducible apply At.drw | with_reducible apply At.dr))) hW'
      have Kk_d0 := cell_regrown Kk_d.c0
      have Kk_d1 := cell_regrown Kk_d.c1
      simp only [List.take_succ_cons, List.take_zero]
      repeat (go_big_quiet_step ((first | with_reducible exact regrown_call HMi.out | with_reducible exact regrown_call HM.out)))
      exact wpQuiet_nil rfl
    intro  v5 hb5  
    have Mk_a := k_a.lt
    have Mk_b := k_b.lt
    have Mk_o := k_o.lt
    have Mk_x := k_x.lt
    have Mk_y := k_y.lt
    have Mk_d := k_d.lt
    replace k_a : At v5 (w.heap.size) 23 #[.int .i64 an, .int .i64 (p : Int)] := At.bel (by repeat (first | with_reducible assumption | with_reducible apply At.put0 | with_reducible apply At.put1 | with_reducible refine At.far ?_ (by dsimp only; omega) _ | with_reducible apply At.al | with_reducible apply At.drw | with_reducible apply At.dr)) hb5
    replace k_b : At v5 (w.heap.size + 1) 23 #[.int .i64 bn, .int .i64 (q : Int)] := At.bel (by repeat (first | with_reducible assumption | with_reducible apply At.put0 | with_reducible apply At.put1 | with_reducible refine At.far ?_ (by dsimp only; omega) _ | with_reducible apply At.al | with_reducible apply At.drw | with_reducible apply At.dr)) hb5
    replace k_o : At v5 (w.heap.size + 1 + 1) 23 #[.int .i64 0, .int .i64 0] := At.bel (by repeat (first | with_reducible assumption | with_reducible apply At.put0 | with_reducible apply At.put1 | with_reducible refine At.far ?_ (by dsimp only; omega) _ | with_reducible apply At.al | with_reducible apply At.drw | with_reducible apply At.dr)) hb5
    replace k_x : At v5 (g_x) 69 #[.int .u64 (hiN X : Int), .int .u64 (loN X : Int)] := At.bel (by repeat (first | with_reducible assumption | with_reducible apply At.put0 | with_reducible apply At.put1 | with_reducible refine At.far ?_ (by dsimp only; omega) _ | with_reducible apply At.al | with_reducible apply At.drw | with_reducible apply At.dr)) hb5
    replace k_y : At v5 (g_y) 69 #[.int .u64 (hiN Y : Int), .int .u64 (loN Y : Int)] := At.bel (by repeat (first | with_reducible assumption | with_reducible apply At.put0 | with_reducible apply At.put1 | with_reducible refine At.far ?_ (by dsimp only; omega) _ | with_reducible apply At.al | with_reducible apply At.drw | with_reducible apply At.dr)) hb5
    replace k_d : At v5 (g_d) 69 #[.int .u64 (hiN Dd : Int), .int .u64 (loN Dd : Int)] := At.bel (by repeat (first | with_reducible assumption | with_reducible apply At.put0 | with_reducible apply At.put1 | with_reducible refine At.far ?_ (by dsimp only; omega) _ | with_reducible apply At.al | with_reducible apply At.drw | with_reducible apply At.dr)) hb5
    replace HB : Below w.heap.size w v5 := below_then (by repeat (first | with_reducible assumption | with_reducible exact Below.refl _ _ | with_reducible refine below_al ?_ _ | with_reducible refine below_drew ?_ | with_reducible refine below_drewN ?_ _ | with_reducible refine below_set ?_ (by dsimp only; omega) _)) hb5
    clear hb5
    simp only [List.drop_succ_cons, List.drop_zero]
    have Lk_o := k_o.lt
    obtain ⟨k_o0, k_o1, k_o2, k_o3⟩ := k_o.two
    go_wp2_with fail
    exact bodyPost_ret (v := frv r) (by simp [results, Tryd.results26, go_sem, *]) rfl ⟨rfl, (by repeat (first | with_reducible assumption | with_reducible exact Below.refl _ _ | with_reducible refine below_al ?_ _ | with_reducible refine below_drew ?_ | with_reducible refine below_drewN ?_ _ | with_reducible refine below_set ?_ (by dsimp only; omega) _))⟩

theorem refadd_ok (an bn : Int) (p q : Nat) (h1 : fracB an p = true) (h2 : fracB bn q = true) (w : World) :
    Calls Tryd.prog 26 #[.agg #[.int .i64 an, .int .i64 (p : Int)], .agg #[.int .i64 bn, .int .i64 (q : Int)]] w fun e w' => e = .returned (frv (redI (an * q + bn * p) (p * q))) ∧ Below w.heap.size w w' := by
  have g1 := fracB_iff.1 h1
  have g2 := fracB_iff.1 h2
  have HX := hid_same (fun w => rsz_any an (by omega) w)
  have HY := hid_same (fun w => rsz_any bn (by omega) w)
  have HP := hid_same (fun w => rsz_any (p : Int) (by omega) w)
  have HQ := hid_same (fun w => rsz_any (q : Int) (by omega) w)
  have x1 : an.natAbs ≤ 1152921504606846976 := by omega
  have y1 : bn.natAbs ≤ 1152921504606846976 := by omega
  have p1 : p ≤ 1152921504606846976 := by omega
  have q1 : q ≤ 1152921504606846976 := by omega
  have p0 : 0 < p := by omega
  have q0 : 0 < q := by omega
  simp only [Int.natAbs_natCast] at HP HQ
  have HMX := Lib.hid (fun w => mul_u an.natAbs q (by omega) (by omega) w)
  have HMY := Lib.hid (fun w => mul_u bn.natAbs p (by omega) (by omega) w)
  have HMD := Lib.hid (fun w => mul_u p q (by omega) (by omega) w)
  have bX := Nat.mul_le_mul x1 q1
  have bY := Nat.mul_le_mul y1 p1
  have bD := prod_small p1 q1
  have hD0 := Nat.mul_pos p0 q0
  refine refadd_core an bn _ _ p q _ _ _ (an * q + bn * p).natAbs _ HX HY HP HQ HMX HMY HMD (Lib.hid ?_) w
  have sx : (an * (q : Int)).natAbs = an.natAbs * q := by rw [Int.natAbs_mul, Int.natAbs_natCast]
  have sy : (bn * (p : Int)).natAbs = bn.natAbs * p := by rw [Int.natAbs_mul, Int.natAbs_natCast]
  have gx : (an < 0 → an * (q : Int) ≤ 0) ∧ (¬ an < 0 → 0 ≤ an * (q : Int)) :=
    ⟨fun h => Int.mul_nonpos_of_nonpos_of_nonneg (by omega) (Int.natCast_nonneg _), fun h => Int.mul_nonneg (by omega) (Int.natCast_nonneg _)⟩
  have gy : (bn < 0 → bn * (p : Int) ≤ 0) ∧ (¬ bn < 0 → 0 ≤ bn * (p : Int)) :=
    ⟨fun h => Int.mul_nonpos_of_nonpos_of_nonneg (by omega) (Int.natCast_nonneg _), fun h => Int.mul_nonneg (by omega) (Int.natCast_nonneg _)⟩
  generalize an * (q : Int) = A at *
  generalize bn * (p : Int) = B at *
  have bA : A.natAbs ≤ 1152921504606846976 * 1152921504606846976 := by rw [sx]; exact bX
  have bB : B.natAbs ≤ 1152921504606846976 * 1152921504606846976 := by rw [sy]; exact bY
  rw [← sx, ← sy]
  clear bX bY HMX HMY sx sy
  have hP := fun w => plus_u A.natAbs B.natAbs (by omega) w
  have hL := fun w => less_u A.natAbs B.natAbs w
  have hM1 := fun h w => minus_u B.natAbs A.natAbs (by omega) h w
  have hM2 := fun h w => minus_u A.natAbs B.natAbs (by omega) h w
  have bN : (A + B).natAbs < 340282366920938463463374607431768211456 := by
    have := Int.natAbs_add_le A B
    omega
  have hMd := fun b w => made_any b (A + B).natAbs (p * q) bN bD hD0 w
  have fit : ∀ b : Bool, (A + B ≠ 0 → decide (A + B < 0) = b) → redI (A + B) (p * q) = redS b (A + B).natAbs (p * q) := fun b hb => by
    unfold redI
    by_cases h0 : A + B = 0
    · rw [h0]
      rw [show (0 : Int).natAbs = 0 from rfl, redS_zero, redS_zero b]
    · rw [hb h0]
  by_cases s1 : an < 0 <;> by_cases s2 : bn < 0
  · left
    have k1 := gx.1 s1
    have k2 := gy.1 s2
    refine ⟨by simp [s1, s2], fun w => ?_, fun w => ?_⟩
    · have := hP w
      rw [show A.natAbs + B.natAbs = (A + B).natAbs from by omega] at this
      exact this
    · rw [fit (decide (an < 0)) (fun h => by simp only [s1, decide_true, decide_eq_true_eq]; omega)]
      exact hMd _ w
  · right
    have k1 := gx.1 s1
    have k2 := gy.2 s2
    by_cases hl : A.natAbs < B.natAbs
    · left
      refine ⟨by simp [s1, s2], fun w => ?_, fun w => ?_, fun w => ?_⟩
      · have := hL w
        rw [decide_eq_true hl] at this
        exact this
      · have := hM1 (Nat.le_of_lt hl) w
        rw [show B.natAbs - A.natAbs = (A + B).natAbs from by omega] at this
        exact this
      · rw [fit (decide (bn < 0)) (fun h => by simp only [s2, decide_false, decide_eq_false_iff_not]; omega)]
        exact hMd _ w
    · right
      refine ⟨by simp [s1, s2], fun w => ?_, fun w => ?_, fun w => ?_⟩
      · have := hL w
        rw [decide_eq_false hl] at this
        exact this
      · have := hM2 (Nat.le_of_not_lt hl) w
        rw [show A.natAbs - B.natAbs = (A + B).natAbs from by omega] at this
        exact this
      · rw [fit (decide (an < 0)) (fun h => by simp only [s1, decide_true, decide_eq_true_eq]; omega)]
        exact hMd _ w
  · right
    have k1 := gx.2 s1
    have k2 := gy.1 s2
    by_cases hl : A.natAbs < B.natAbs
    · left
      refine ⟨by simp [s1, s2], fun w => ?_, fun w => ?_, fun w => ?_⟩
      · have := hL w
        rw [decide_eq_true hl] at this
        exact this
      · have := hM1 (Nat.le_of_lt hl) w
        rw [show B.natAbs - A.natAbs = (A + B).natAbs from by omega] at this
        exact this
      · rw [fit (decide (bn < 0)) (fun h => by simp only [s2, decide_true, decide_eq_true_eq]; omega)]
        exact hMd _ w
    · right
      refine ⟨by simp [s1, s2], fun w => ?_, fun w => ?_, fun w => ?_⟩
      · have := hL w
        rw [decide_eq_false hl] at this
        exact this
      · have := hM2 (Nat.le_of_not_lt hl) w
        rw [show A.natAbs - B.natAbs = (A + B).natAbs from by omega] at this
        exact this
      · rw [fit (decide (an < 0)) (fun h => by simp only [s1, decide_false, decide_eq_false_iff_not]; omega)]
        exact hMd _ w
  · left
    have k1 := gx.2 s1
    have k2 := gy.2 s2
    refine ⟨by simp [s1, s2], fun w => ?_, fun w => ?_⟩
    · have := hP w
      rw [show A.natAbs + B.natAbs = (A + B).natAbs from by omega] at this
      exact this
    · rw [fit (decide (an < 0)) (fun h => by simp only [s1, decide_false, decide_eq_false_iff_not]; omega)]
      exact hMd _ w

set_option maxRecDepth 100000 in
theorem refsub_core (an bn : Int) (p q : Nat) (r : Int × Int × Int)
    (HN : Hid (∀ w, Calls Tryd.prog 52 #[.agg #[.int .i64 bn, .int .i64 (q : Int)]] w fun e w' => e = .returned (.agg #[.int .i64 (-bn), .int .i64 (q : Int)]) ∧ Below w.heap.size w w'))
    (HA : Hid (∀ w, Calls Tryd.prog 26 #[.agg #[.int .i64 an, .int .i64 (p : Int)], .agg #[.int .i64 (-bn), .int .i64 (q : Int)]] w fun e w' => e = .returned (frv r) ∧ Below w.heap.size w w')) (w : World) :
    Calls Tryd.prog 27 #[.agg #[.int .i64 an, .int .i64 (p : Int)], .agg #[.int .i64 bn, .int .i64 (q : Int)]] w fun e w' => e = .returned (frv r) ∧ Below w.heap.size w w' := by
  go_enter Tryd.func27, Tryd.ntmps27
  go_wp2_with fail
  have HB : Below w.heap.size w w := Below.refl _ _
  generalize hWW : World.alloc _ _ = WW
  have k_a : At WW (w.heap.size) 23 #[.int .i64 an, .int .i64 (p : Int)] := by rw [← hWW]; (repeat (first | (with_reducible apply At.new'; (focus (simp; done))) | with_reducible apply At.al | with_reducible apply At.drw | with_reducible apply At.dr))
  have k_b : At WW (w.heap.size + 1) 23 #[.int .i64 bn, .int .i64 (q : Int)] := by rw [← hWW]; (repeat (first | (with_reducible apply At.new'; (focus (simp; done))) | with_reducible apply At.al | with_reducible apply At.drw | with_reducible apply At.dr))
  have k_o : At WW (w.heap.size + 1 + 1) 23 #[.int .i64 0, .int .i64 0] := by rw [← hWW]; (repeat (first | (with_reducible apply At.new'; (focus (simp; done))) | with_reducible apply At.al | with_reducible apply At.drw | with_reducible apply At.dr))
  replace HB : Below w.heap.size w WW := by rw [← hWW]; repeat (first | with_reducible assumption | with_reducible exact Below.refl _ _ | with_reducible refine below_al ?_ _ | with_reducible refine below_drew ?_ | with_reducible refine below_drewN ?_ _ | with_reducible refine below_set ?_ (by dsimp only; omega) _)
  clear hWW
  refine wp_only ?_
  refine wp_region_grow0 6 (by kernel_rfl)     (by kernel_rfl) only_panic ?_
  apply Exists.intro
  refine And.intro (fun W' hW' => ?_) ?_
  focus
    have Kk_a := At.bel (show At _ (w.heap.size) 23 #[.int .i64 an, .int .i64 (p : Int)] from (by repeat (first | with_reducible assumption | with_reducible apply At.put0 | with_reducible apply At.put1 | with_reducible refine At.far ?_ (by dsimp only; omega) _ | with_reducible apply At.al | with_reducible apply At.drw | with_reducible apply At.dr))) hW'
    have Kk_a0 := cell_regrown Kk_a.c0
    have Kk_a1 := cell_regrown Kk_a.c1
    have Kk_b := At.bel (show At _ (w.heap.size + 1) 23 #[.int .i64 bn, .int .i64 (q : Int)] from (by repeat (first | with_reducible assumption | with_reducible apply At.put0 | with_reducible apply At.put1 | with_reducible refine At.far ?_ (by dsimp only; omega) _ | with_reducible apply At.al | with_reducible apply At.drw | with_reducible apply At.dr))) hW'
    have Kk_b0 := cell_regrown Kk_b.c0
    have Kk_b1 := cell_regrown Kk_b.c1
    have Kk_o := At.bel (show At _ (w.heap.size + 1 + 1) 23 #[.int .i64 0, .int .i64 0] from (by repeat (first | with_reducible assumption | with_reducible apply At.put0 | with_reducible apply At.put1 | with_reducible refine At.far ?_ (by dsimp only; omega) _ | with_reducible apply At.al | with_reducible apply At.drw | with_reducible apply At.dr))) hW'
    have Kk_o0 := cell_regrown Kk_o.c0
    have Kk_o1 := cell_regrown Kk_o.c1
    simp only [List.take_succ_cons, List.take_zero]
    repeat (go_big_quiet_step ((first | with_reducible exact regrown_call HN.out | with_reducible exact regrown_call HA.out)))
    exact wpQuiet_nil rfl
  intro  v1 hb1  
  have Mk_a := k_a.lt
  have Mk_b := k_b.lt
  have Mk_o := k_o.lt
  replace k_a : At v1 (w.heap.size) 23 #[.int .i64 an, .int .i64 (p : Int)] := At.bel (by repeat (first | with_reducible assumption | with_reducible apply At.put0 | with_reducible apply At.put1 | with_reducible refine At.far ?_ (by dsimp only; omega) _ | with_reducible apply At.al | with_reducible apply At.drw | with_reducible apply At.dr)) hb1
  replace k_b : At v1 (w.heap.size + 1) 23 #[.int .i64 bn, .int .i64 (q : Int)] := At.bel (by repeat (first | with_reducible assumption | with_reducible apply At.put0 | with_reducible apply At.put1 | with_reducible refine At.far ?_ (by dsimp only; omega) _ | with_reducible apply At.al | with_reducible apply At.drw | with_reducible apply At.dr)) hb1
  replace k_o : At v1 (w.heap.size + 1 + 1) 23 #[.int .i64 0, .int .i64 0] := At.bel (by repeat (first | with_reducible assumption | with_reducible apply At.put0 | with_reducible apply At.put1 | with_reducible refine At.far ?_ (by dsimp only; omega) _ | with_reducible apply At.al | with_reducible apply At.drw | with_reducible apply At.dr)) hb1
  replace HB : Below w.heap.size w v1 := below_then (by repeat (first | with_reducible assumption | with_reducible exact Below.refl _ _ | with_reducible refine below_al ?_ _ | with_reducible refine below_drew ?_ | with_reducible refine below_drewN ?_ _ | with_reducible refine below_set ?_ (by dsimp only; omega) _)) hb1
  clear hb1
  simp only [List.drop_succ_cons, List.drop_zero]
  have Lk_o := k_o.lt
  obtain ⟨k_o0, k_o1, k_o2, k_o3⟩ := k_o.two
  go_wp2_with fail
  exact bodyPost_ret (v := frv r) (by simp [results, Tryd.results27, go_sem, *]) rfl ⟨rfl, (by repeat (first | with_reducible assumption | with_reducible exact Below.refl _ _ | with_reducible refine below_al ?_ _ | with_reducible refine below_drew ?_ | with_reducible refine below_drewN ?_ _ | with_reducible refine below_set ?_ (by dsimp only; omega) _))⟩
theorem refsub_ok (an bn : Int) (p q : Nat) (h1 : fracB an p = true) (h2 : fracB bn q = true) (w : World) :
    Calls Tryd.prog 27 #[.agg #[.int .i64 an, .int .i64 (p : Int)], .agg #[.int .i64 bn, .int .i64 (q : Int)]] w fun e w' => e = .returned (frv (rsubS an p bn q)) ∧ Below w.heap.size w w' := by
  have g2 := fracB_iff.1 h2
  have h3 : fracB (-bn) q = true := by rw [fracB_neg]; exact h2
  rw [show rsubS an p bn q = redI (an * q + -bn * p) (p * q) from by rw [show rsubS an p bn q = raddS an p (-bn) q from by simp [rsubS, h1, h2], raddS_ok h1 h3]]
  exact refsub_core an bn p q _ (Lib.hid (fun w => refneg_any bn q (IntWalk.i64_in _ (by omega)) w)) (Lib.hid (fun w => refadd_ok an (-bn) p q h1 h3 w)) w
#print axioms refsub_ok

end Go.Proofs.YtpijmjffobkalaaDoor
