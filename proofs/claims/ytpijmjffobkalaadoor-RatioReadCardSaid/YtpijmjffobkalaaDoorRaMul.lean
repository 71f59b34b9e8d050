/- ratio: product, signed, Mul. -/
import Derived.Test.YtpijmjffobkalaaDoorFr
import Derived.Test.YtpijmjffobkalaaDoorReg
import Derived.Test.YtpijmjffobkalaaDoorMG
import Derived.Test.YtpijmjffobkalaaDoorMRat
import Derived.Test.YtpijmjffobkalaaDoorShelf
set_option linter.unusedVariables false
namespace Go.Proofs.YtpijmjffobkalaaDoor
open Go.ChangeShapes Go.WideShapes Go.ChangeAt Go.RowKit

/-- The value of a fraction and an error. -/
abbrev frv (r : Int × Int × Int) : Value := .tuple #[.agg #[.int .i64 r.1, .int .i64 r.2.1], .int .i64 r.2.2]

theorem hid_same {f : FuncId} {args : Array Value} {v : Value} (h : ∀ w, Calls Tryd.prog f args w fun e w' => e = .returned v ∧ w = w') : Hid (∀ w, Calls Tryd.prog f args w fun e w' => e = .returned v ∧ Below w.heap.size w w') :=
  Lib.hid fun w => (h w).mono fun _ _ ⟨a, b⟩ => ⟨a, by rw [← b]; exact Below.refl _ _⟩
theorem hid_drawn {f : FuncId} {args : Array Value} {v : Value} (h : ∀ w, Calls Tryd.prog f args w fun e w' => e = .returned v ∧ Drawn w w') : Hid (∀ w, Calls Tryd.prog f args w fun e w' => e = .returned v ∧ Below w.heap.size w w') :=
  Lib.hid fun w => (h w).mono fun _ _ ⟨a, n, b⟩ => ⟨a, by rw [b]; exact below_drewN (Below.refl _ _) n⟩
set_option maxRecDepth 100000 in
theorem product_any (x y : Nat) (hx : x < 18446744073709551616) (hy : y < 18446744073709551616) (w : World) :
    Calls Tryd.prog 41 #[.int .u64 (x : Int), .int .u64 (y : Int)] w fun e w' => e = .returned (.agg #[.int .u64 (hiN (x * y) : Int), .int .u64 (loN (x * y) : Int)]) ∧ Below w.heap.size w w' := by
  have HM := Lib.hid (fun w => Tryd.bits_Mul64 x y hx hy w)
  have e1 : Hid ((hiN (x * y) : Int) = ((x * y / 18446744073709551616 : Nat) : Int)) := Lib.hid rfl
  have e2 : Hid ((loN (x * y) : Int) = ((x * y % 18446744073709551616 : Nat) : Int)) := Lib.hid rfl
  go_enter Tryd.func41, Tryd.ntmps41
  go_wp2_with fail
  refine (HM.out _).mono ?_
  rintro e w' ⟨rfl, rfl⟩
  go_wp2_with fail
  exact bodyPost_ret (v := .agg #[.int .u64 (hiN (x * y) : Int), .int .u64 (loN (x * y) : Int)]) (by simp [results, Tryd.results41, go_sem, e1.out, e2.out]) rfl ⟨rfl, (by repeat (first | with_reducible assumption | with_reducible exact Below.refl _ _ | with_reducible refine below_al ?_ _ | with_reducible refine below_drew ?_ | with_reducible refine below_drewN ?_ _ | with_reducible refine below_set ?_ (by dsimp only; omega) _))⟩

set_option maxRecDepth 100000 in
theorem signed_any (neg : Bool) (n d : Nat) (hn : n < 18446744073709551616) (hd : d < 18446744073709551616) (w : World) :
    Calls Tryd.prog 47 #[.bool neg, .int .u64 (n : Int), .int .u64 (d : Int)] w fun e w' => e = .returned (frv (sgnS neg n d)) ∧ Below w.heap.size w w' := by
  by_cases h1 : n ≤ 1152921504606846976
  · have d1 : decide ((1152921504606846976 : Int) < (n : Int)) = false := by simp; omega
    by_cases h2 : d ≤ 1152921504606846976
    · have d2 : decide ((1152921504606846976 : Int) < (d : Int)) = false := by simp; omega
      have e1 : IntKind.i64.wrap (n : Int) = (n : Int) := IntWalk.i64_in _ (by omega)
      have e2 : IntKind.i64.wrap (d : Int) = (d : Int) := IntWalk.i64_in _ (by omega)
      have e3 : IntKind.i64.wrap (-(n : Int)) = -(n : Int) := IntWalk.i64_in _ (by omega)
      cases neg
      · rw [show sgnS false n d = ((n : Int), (d : Int), 0) from by simp [sgnS, h1, h2]]
        go_enter Tryd.func47, Tryd.ntmps47
        go_wp2
        exact bodyPost_ret (v := frv ((n : Int), (d : Int), 0)) (by simp [results, Tryd.results47, go_sem]) rfl ⟨rfl, (by repeat (first | with_reducible assumption | with_reducible exact Below.refl _ _ | with_reducible refine below_al ?_ _ | with_reducible refine below_drew ?_ | with_reducible refine below_drewN ?_ _ | with_reducible refine below_set ?_ (by dsimp only; omega) _))⟩
      · rw [show sgnS true n d = (-(n : Int), (d : Int), 0) from by simp [sgnS, h1, h2]]
        go_enter Tryd.func47, Tryd.ntmps47
        go_wp2
        exact bodyPost_ret (v := frv (-(n : Int), (d : Int), 0)) (by simp [results, Tryd.results47, go_sem]) rfl ⟨rfl, (by repeat (first | with_reducible assumption | with_reducible exact Below.refl _ _ | with_reducible refine below_al ?_ _ | with_reducible refine below_drew ?_ | with_reducible refine below_drewN ?_ _ | with_reducible refine below_set ?_ (by dsimp only; omega) _))⟩
    · have d2 : decide ((1152921504606846976 : Int) < (d : Int)) = true := by simp; omega
      rw [show sgnS neg n d = (0, 0, 5) from by simp [sgnS, h2]]
      go_enter Tryd.func47, Tryd.ntmps47
      go_wp2
      exact bodyPost_ret (v := frv (0, 0, 5)) (by simp [results, Tryd.results47, go_sem]) rfl ⟨rfl, (by repeat (first | with_reducible assumption | with_reducible exact Below.refl _ _ | with_reducible refine below_al ?_ _ | with_reducible refine below_drew ?_ | with_reducible refine below_drewN ?_ _ | with_reducible refine below_set ?_ (by dsimp only; omega) _))⟩
  · have d1 : decide ((1152921504606846976 : Int) < (n : Int)) = true := by simp; omega
    rw [show sgnS neg n d = (0, 0, 5) from by simp [sgnS, h1]]
    go_enter Tryd.func47, Tryd.ntmps47
    go_wp2
    exact bodyPost_ret (v := frv (0, 0, 5)) (by simp [results, Tryd.results47, go_sem]) rfl ⟨rfl, (by repeat (first | with_reducible assumption | with_reducible exact Below.refl _ _ | with_reducible refine below_al ?_ _ | with_reducible refine below_drew ?_ | with_reducible refine below_drewN ?_ _ | with_reducible refine below_set ?_ (by dsimp only; omega) _))⟩

set_option maxRecDepth 100000 in
set_option maxHeartbeats 8000000 in
theorem ratiomul_big1 (an bn : Int) (x p y q g h N1 N2 D1 D2 nh nl dh dl : Nat) (s : Bool → Int × Int × Int) (bp : p ≤ 1152921504606846976) (bq : q ≤ 1152921504606846976) (bg : (1 : Int) ≤ (g : Int)) (bh : (1 : Int) ≤ (h : Int)) (e1 : (x : Int) / (g : Int) = (N1 : Int)) (e1w : IntKind.u64.wrap (N1 : Int) = (N1 : Int)) (e2 : (y : Int) / (h : Int) = (N2 : Int)) (e2w : IntKind.u64.wrap (N2 : Int) = (N2 : Int)) (e3 : (p : Int) / (h : Int) = (D1 : Int)) (e3w : IntKind.u64.wrap (D1 : Int) = (D1 : Int)) (e4 : (q : Int) / (g : Int) = (D2 : Int)) (e4w : IntKind.u64.wrap (D2 : Int) = (D2 : Int)) (e5 : IntKind.u64.wrap (p : Int) = (p : Int)) (e6 : IntKind.u64.wrap (q : Int) = (q : Int)) (z1 : ((g : Int) == 0) = false) (z2 : ((h : Int) == 0) = false) (z3 : ¬ (g : Int) = 0) (z4 : ¬ (h : Int) = 0) (c1 : (0 : Int) < (nh : Int))
    (HV1 : Hid (∀ w, Calls Tryd.prog 15 #[.agg #[.int .i64 an, .int .i64 (p : Int)]] w fun e w' => e = .returned (.bool true) ∧ Below w.heap.size w w'))
    (HV2 : Hid (∀ w, Calls Tryd.prog 15 #[.agg #[.int .i64 bn, .int .i64 (q : Int)]] w fun e w' => e = .returned (.bool true) ∧ Below w.heap.size w w'))
    (HX : Hid (∀ w, Calls Tryd.prog 42 #[.int .i64 an] w fun e w' => e = .returned (.int .u64 (x : Int)) ∧ Below w.heap.size w w'))
    (HY : Hid (∀ w, Calls Tryd.prog 42 #[.int .i64 bn] w fun e w' => e = .returned (.int .u64 (y : Int)) ∧ Below w.heap.size w w'))
    (HG : Hid (∀ w, Calls Tryd.prog 40 #[.int .u64 (x : Int), .int .u64 (q : Int)] w fun e w' => e = .returned (.int .u64 (g : Int)) ∧ Below w.heap.size w w'))
    (HH : Hid (∀ w, Calls Tryd.prog 40 #[.int .u64 (y : Int), .int .u64 (p : Int)] w fun e w' => e = .returned (.int .u64 (h : Int)) ∧ Below w.heap.size w w'))
    (HP : Hid (∀ w, Calls Tryd.prog 41 #[.int .u64 (N1 : Int), .int .u64 (N2 : Int)] w fun e w' => e = .returned (.agg #[.int .u64 (nh : Int), .int .u64 (nl : Int)]) ∧ Below w.heap.size w w'))
    (HQ : Hid (∀ w, Calls Tryd.prog 41 #[.int .u64 (D1 : Int), .int .u64 (D2 : Int)] w fun e w' => e = .returned (.agg #[.int .u64 (dh : Int), .int .u64 (dl : Int)]) ∧ Below w.heap.size w w'))
    (HS : Hid (∀ b w, Calls Tryd.prog 47 #[.bool b, .int .u64 (nl : Int), .int .u64 (dl : Int)] w fun e w' => e = .returned (frv (s b)) ∧ Below w.heap.size w w')) (w : World) :
    Calls Tryd.prog 13 #[.agg #[.int .i64 an, .int .i64 (p : Int)], .agg #[.int .i64 bn, .int .i64 (q : Int)]] w fun e w' => e = .returned (frv (0, 0, 5)) ∧ Below w.heap.size w w' := by
  go_enter Tryd.func13, Tryd.ntmps13
  go_wp2_with fail
  refine (HV1.out _).mono ?_
  rintro e v1 ⟨rfl, hb1⟩
  have k_a : At v1 (w.heap.size) 23 #[.int .i64 an, .int .i64 (p : Int)] := At.bel (by (repeat (first | (with_reducible apply At.new'; (focus (simp; done))) | with_reducible apply At.al | with_reducible apply At.drw | with_reducible apply At.dr))) hb1
  have k_b : At v1 (w.heap.size + 1) 23 #[.int .i64 bn, .int .i64 (q : Int)] := At.bel (by (repeat (first | (with_reducible apply At.new'; (focus (simp; done))) | with_reducible apply At.al | with_reducible apply At.drw | with_reducible apply At.dr))) hb1
  have k_o : At v1 (w.heap.size + 1 + 1) 23 #[.int .i64 0, .int .i64 0] := At.bel (by (repeat (first | (with_reducible apply At.new'; (focus (simp; done))) | with_reducible apply At.al | with_reducible apply At.drw | with_reducible apply At.dr))) hb1
  have HB : Below w.heap.size w v1 := below_then (by repeat (first | with_reducible assumption | with_reducible exact Below.refl _ _ | with_reducible refine below_al ?_ _ | with_reducible refine below_drew ?_ | with_reducible refine below_drewN ?_ _ | with_reducible refine below_set ?_ (by dsimp only; omega) _)) hb1
  clear hb1
  have Lk_a := k_a.lt
  obtain ⟨k_a0, k_a1, k_a2, k_a3⟩ := k_a.two
  have Lk_b := k_b.lt
  obtain ⟨k_b0, k_b1, k_b2, k_b3⟩ := k_b.two
  have Lk_o := k_o.lt
  obtain ⟨k_o0, k_o1, k_o2, k_o3⟩ := k_o.two
  go_wp2_with fail
  refine (HV2.out _).mono ?_
  rintro e v2 ⟨rfl, hb2⟩
  clear k_a0 k_a1 k_a2 k_a3 Lk_a k_b0 k_b1 k_b2 k_b3 Lk_b k_o0 k_o1 k_o2 k_o3 Lk_o
  replace k_a : At v2 (w.heap.size) 23 #[.int .i64 an, .int .i64 (p : Int)] := At.bel (by repeat (first | with_reducible assumption | with_reducible apply At.put0 | with_reducible apply At.put1 | with_reducible refine At.far ?_ (by dsimp only; omega) _ | with_reducible apply At.al | with_reducible apply At.drw | with_reducible apply At.dr)) hb2
  replace k_b : At v2 (w.heap.size + 1) 23 #[.int .i64 bn, .int .i64 (q : Int)] := At.bel (by repeat (first | with_reducible assumption | with_reducible apply At.put0 | with_reducible apply At.put1 | with_reducible refine At.far ?_ (by dsimp only; omega) _ | with_reducible apply At.al | with_reducible apply At.drw | with_reducible apply At.dr)) hb2
  replace k_o : At v2 (w.heap.size + 1 + 1) 23 #[.int .i64 0, .int .i64 0] := At.bel (by repeat (first | with_reducible assumption | with_reducible apply At.put0 | with_reducible apply At.put1 | with_reducible refine At.far ?_ (by dsimp only; omega) _ | with_reducible apply At.al | with_reducible apply At.drw | with_reducible apply At.dr)) hb2
  replace HB : Below w.heap.size w v2 := below_then (by repeat (first | with_reducible assumption | with_reducible exact Below.refl _ _ | with_reducible refine below_al ?_ _ | with_reducible refine below_drew ?_ | with_reducible refine below_drewN ?_ _ | with_reducible refine below_set ?_ (by dsimp only; omega) _)) hb2
  clear hb2
  have Lk_a := k_a.lt
  obtain ⟨k_a0, k_a1, k_a2, k_a3⟩ := k_a.two
  have Lk_b := k_b.lt
  obtain ⟨k_b0, k_b1, k_b2, k_b3⟩ := k_b.two
  have Lk_o := k_o.lt
  obtain ⟨k_o0, k_o1, k_o2, k_o3⟩ := k_o.two
  go_wp2_with fail
  clear k_a0 k_a1 k_a2 k_a3 Lk_a k_b0 k_b1 k_b2 k_b3 Lk_b k_o0 k_o1 k_o2 k_o3 Lk_o
  have Kk_a0 := cell_regrown k_a.c0
  have Kk_a1 := cell_regrown k_a.c1
  have Kk_b0 := cell_regrown k_b.c0
  have Kk_b1 := cell_regrown k_b.c1
  have Kk_o0 := cell_regrown k_o.c0
  have Kk_o1 := cell_regrown k_o.c1
  refine wp_region_quiet_below (by kernel_rfl) (by kernel_rfl) ?_
  repeat (go_big_quiet_step ((first | with_reducible exact regrown_call HX.out | with_reducible exact regrown_call HY.out | with_reducible exact regrown_call HG.out | with_reducible exact regrown_call HH.out)))
  refine wpQuiet_nil ?_
  intro v3 hb3'
  have hb3 := below_of_regrown hb3'
  clear hb3' Kk_a0 Kk_a1 Kk_b0 Kk_b1 Kk_o0 Kk_o1
  replace k_a : At v3 (w.heap.size) 23 #[.int .i64 an, .int .i64 (p : Int)] := At.bel (by repeat (first | with_reducible assumption | with_reducible apply At.put0 | with_reducible apply At.put1 | with_reducible refine At.far ?_ (by dsimp only; omega) _ | with_reducible apply At.al | with_reducible apply At.drw | with_reducible apply At.dr)) hb3
  replace k_b : At v3 (w.heap.size + 1) 23 #[.int .i64 bn, .int .i64 (q : Int)] := At.bel (by repeat (first | with_reducible assumption | with_reducible apply At.put0 | with_reducible apply At.put1 | with_reducible refine At.far ?_ (by dsimp only; omega) _ | with_reducible apply At.al | with_reducible apply At.drw | with_reducible apply At.dr)) hb3
  replace k_o : At v3 (w.heap.size + 1 + 1) 23 #[.int .i64 0, .int .i64 0] := At.bel (by repeat (first | with_reducible assumption | with_reducible apply At.put0 | with_reducible apply At.put1 | with_reducible refine At.far ?_ (by dsimp only; omega) _ | with_reducible apply At.al | with_reducible apply At.drw | with_reducible apply At.dr)) hb3
  replace HB : Below w.heap.size w v3 := below_then (by repeat (first | with_reducible assumption | with_reducible exact Below.refl _ _ | with_reducible refine below_al ?_ _ | with_reducible refine below_drew ?_ | with_reducible refine below_drewN ?_ _ | with_reducible refine below_set ?_ (by dsimp only; omega) _)) hb3
  clear hb3
  go_wp2_with fail
  refine wp_only ?_
  refine wp_region_grow2 22 (by kernel_rfl) (o1 := _) (o2 := _) (d1 := 8) (t1 := 59) (z1 := #[.int .u64 0, .int .u64 0]) (d2 := 9) (t2 := 59) (z2 := #[.int .u64 0, .int .u64 0]) rfl rfl ⟨rfl, rfl, fun _ _ => by rfl⟩ ⟨rfl, rfl, fun _ _ => by rfl⟩ (by decide) (by kernel_rfl) only_panic ?_
  apply Exists.intro
  refine And.intro (fun W' hW' => ?_) ?_
  focus
    have Kk_a := At.bel (show At _ (w.heap.size) 23 #[.int .i64 an, .int .i64 (p : Int)] from (by repeat (first | with_reducible assumption | with_reducible apply At.put0 | with_reducible apply At.put1 | with_reducible refine At.far ?_ (by dsimp only; omega) _ | with_reducible apply At.al | with_reducible apply At.drw | with_reducible apply At.dr))) hW'
    have Kk_a0 := cell_regrown Kk_a.c0
    have Kk_a1 := cell_regrown Kk_a.c1
    have Kk_b := At.bel (show At _ (w.heap.size + 1) 23 #[.int .i64 bn, .int .i64 (q : Int)] from (by repeat (first | with_reducible assumption | with_reducible apply At.put0 | with_reducible apply At.put1 | with_reducible refine At.far ?_ (by dsimp only; omega) _ | with_reducible apply At.al | with_reducible apply At.drw | with_reducible apply At.dr))) hW'
    have Kk_b0 := cell_regrown Kk_b.c0
    have Kk_b1 := cell_regrown Kk_b.c1
    have Kk_o := At.bel (show At _ (w.heap.size + 1 + 1) 23 #[.int .i64 0, .int .i64 0] from (by repeat (first | with_reducible assumption | with_reducible apply At.put0 | with_reducible apply At.put1 | with_reducible refine At.far ?_ (by dsimp only; omega) _ | with_reducible apply At.al | with_reducible apply At.drw | with_reducible apply At.dr))) hW'
    have Kk_o0 := cell_regrown Kk_o.c0
    have Kk_o1 := cell_regrown Kk_o.c1
    simp only [List.take_succ_cons, List.take_zero]
    repeat (go_big_quiet_step ((first | with_reducible exact regrown_call HX.out | with_reducible exact regrown_call HY.out | with_reducible exact regrown_call HP.out | with_reducible exact regrown_call HQ.out)))
    exact wpQuiet_nil rfl
  intro g_x g_y v4 hb4 lb_x lb_y ne_xy k_x k_y
  have Mk_a := k_a.lt
  have Mk_b := k_b.lt
  have Mk_o := k_o.lt
  replace k_a : At v4 (w.heap.size) 23 #[.int .i64 an, .int .i64 (p : Int)] := At.bel (by repeat (first | with_reducible assumption | with_reducible apply At.put0 | with_reducible apply At.put1 | with_reducible refine At.far ?_ (by dsimp only; omega) _ | with_reducible apply At.al | with_reducible apply At.drw | with_reducible apply At.dr)) hb4
  replace k_b : At v4 (w.heap.size + 1) 23 #[.int .i64 bn, .int .i64 (q : Int)] := At.bel (by repeat (first | with_reducible assumption | with_reducible apply At.put0 | with_reducible apply At.put1 | with_reducible refine At.far ?_ (by dsimp only; omega) _ | with_reducible apply At.al | with_reducible apply At.drw | with_reducible apply At.dr)) hb4
  replace k_o : At v4 (w.heap.size + 1 + 1) 23 #[.int .i64 0, .int .i64 0] := At.bel (by repeat (first | with_reducible assumption | with_reducible apply At.put0 | with_reducible apply At.put1 | with_reducible refine At.far ?_ (by dsimp only; omega) _ | with_reducible apply At.al | with_reducible apply At.drw | with_reducible apply At.dr)) hb4
  replace HB : Below w.heap.size w v4 := below_then (by repeat (first | with_reducible assumption | with_reducible exact Below.refl _ _ | with_reducible refine below_al ?_ _ | with_reducible refine below_drew ?_ | with_reducible refine below_drewN ?_ _ | with_reducible refine below_set ?_ (by dsimp only; omega) _)) hb4
  clear hb4
  simp only [List.drop_succ_cons, List.drop_zero]
  have Lk_x := k_x.lt
  obtain ⟨k_x0, k_x1, k_x2, k_x3⟩ := k_x.two
  have Lk_y := k_y.lt
  obtain ⟨k_y0, k_y1, k_y2, k_y3⟩ := k_y.two
  have Lk_a := k_a.lt
  obtain ⟨k_a0, k_a1, k_a2, k_a3⟩ := k_a.two
  have Lk_b := k_b.lt
  obtain ⟨k_b0, k_b1, k_b2, k_b3⟩ := k_b.two
  have Lk_o := k_o.lt
  obtain ⟨k_o0, k_o1, k_o2, k_o3⟩ := k_o.two
  go_wp2_with fail
  exact bodyPost_ret (v := frv (0, 0, 5)) (by simp [results, Tryd.results13, go_sem, *]) rfl ⟨rfl, (by repeat (first | with_reducible assumption | with_reducible exact Below.refl _ _ | with_reducible refine below_al ?_ _ | with_reducible refine below_drew ?_ | with_reducible refine below_drewN ?_ _ | with_reducible refine below_set ?_ (by dsimp only; omega) _))⟩

set_option maxRecDepth 100000 in
set_option maxHeartbeats 8000000 in
theorem ratiomul_big2 (an bn : Int) (x p y q g h N1 N2 D1 D2 nh nl dh dl : Nat) (s : Bool → Int × Int × Int) (bp : p ≤ 1152921504606846976) (bq : q ≤ 1152921504606846976) (bg : (1 : Int) ≤ (g : Int)) (bh : (1 : Int) ≤ (h : Int)) (e1 : (x : Int) / (g : Int) = (N1 : Int)) (e1w : IntKind.u64.wrap (N1 : Int) = (N1 : Int)) (e2 : (y : Int) / (h : Int) = (N2 : Int)) (e2w : IntKind.u64.wrap (N2 : Int) = (N2 : Int)) (e3 : (p : Int) / (h : Int) = (D1 : Int)) (e3w : IntKind.u64.wrap (D1 : Int) = (D1 : Int)) (e4 : (q : Int) / (g : Int) = (D2 : Int)) (e4w : IntKind.u64.wrap (D2 : Int) = (D2 : Int)) (e5 : IntKind.u64.wrap (p : Int) = (p : Int)) (e6 : IntKind.u64.wrap (q : Int) = (q : Int)) (z1 : ((g : Int) == 0) = false) (z2 : ((h : Int) == 0) = false) (z3 : ¬ (g : Int) = 0) (z4 : ¬ (h : Int) = 0) (c1 : ¬ (0 : Int) < (nh : Int)) (c2 : (0 : Int) < (dh : Int))
    (HV1 : Hid (∀ w, Calls Tryd.prog 15 #[.agg #[.int .i64 an, .int .i64 (p : Int)]] w fun e w' => e = .returned (.bool true) ∧ Below w.heap.size w w'))
    (HV2 : Hid (∀ w, Calls Tryd.prog 15 #[.agg #[.int .i64 bn, .int .i64 (q : Int)]] w fun e w' => e = .returned (.bool true) ∧ Below w.heap.size w w'))
    (HX : Hid (∀ w, Calls Tryd.prog 42 #[.int .i64 an] w fun e w' => e = .returned (.int .u64 (x : Int)) ∧ Below w.heap.size w w'))
    (HY : Hid (∀ w, Calls Tryd.prog 42 #[.int .i64 bn] w fun e w' => e = .returned (.int .u64 (y : Int)) ∧ Below w.heap.size w w'))
    (HG : Hid (∀ w, Calls Tryd.prog 40 #[.int .u64 (x : Int), .int .u64 (q : Int)] w fun e w' => e = .returned (.int .u64 (g : Int)) ∧ Below w.heap.size w w'))
    (HH : Hid (∀ w, Calls Tryd.prog 40 #[.int .u64 (y : Int), .int .u64 (p : Int)] w fun e w' => e = .returned (.int .u64 (h : Int)) ∧ Below w.heap.size w w'))
    (HP : Hid (∀ w, Calls Tryd.prog 41 #[.int .u64 (N1 : Int), .int .u64 (N2 : Int)] w fun e w' => e = .returned (.agg #[.int .u64 (nh : Int), .int .u64 (nl : Int)]) ∧ Below w.heap.size w w'))
    (HQ : Hid (∀ w, Calls Tryd.prog 41 #[.int .u64 (D1 : Int), .int .u64 (D2 : Int)] w fun e w' => e = .returned (.agg #[.int .u64 (dh : Int), .int .u64 (dl : Int)]) ∧ Below w.heap.size w w'))
    (HS : Hid (∀ b w, Calls Tryd.prog 47 #[.bool b, .int .u64 (nl : Int), .int .u64 (dl : Int)] w fun e w' => e = .returned (frv (s b)) ∧ Below w.heap.size w w')) (w : World) :
    Calls Tryd.prog 13 #[.agg #[.int .i64 an, .int .i64 (p : Int)], .agg #[.int .i64 bn, .int .i64 (q : Int)]] w fun e w' => e = .returned (frv (0, 0, 5)) ∧ Below w.heap.size w w' := by
  go_enter Tryd.func13, Tryd.ntmps13
  go_wp2_with fail
  refine (HV1.out _).mono ?_
  rintro e v1 ⟨rfl, hb1⟩
  have k_a : At v1 (w.heap.size) 23 #[.int .i64 an, .int .i64 (p : Int)] := At.bel (by (repeat (first | (with_reducible apply At.new'; (focus (simp; done))) | with_reducible apply At.al | with_reducible apply At.drw | with_reducible apply At.dr))) hb1
  have k_b : At v1 (w.heap.size + 1) 23 #[.int .i64 bn, .int .i64 (q : Int)] := At.bel (by (repeat (first | (with_reducible apply At.new'; (focus (simp; done))) | with_reducible apply At.al | with_reducible apply At.drw | with_reducible apply At.dr))) hb1
  have k_o : At v1 (w.heap.size + 1 + 1) 23 #[.int .i64 0, .int .i64 0] := At.bel (by (repeat (first | (with_reducible apply At.new'; (focus (simp; done))) | with_reducible apply At.al | with_reducible apply At.drw | with_reducible apply At.dr))) hb1
  have HB : Below w.heap.size w v1 := below_then (by repeat (first | with_reducible assumption | with_reducible exact Below.refl _ _ | with_reducible refine below_al ?_ _ | with_reducible refine below_drew ?_ | with_reducible refine below_drewN ?_ _ | with_reducible refine below_set ?_ (by dsimp only; omega) _)) hb1
  clear hb1
  have Lk_a := k_a.lt
  obtain ⟨k_a0, k_a1, k_a2, k_a3⟩ := k_a.two
  have Lk_b := k_b.lt
  obtain ⟨k_b0, k_b1, k_b2, k_b3⟩ := k_b.two
  have Lk_o := k_o.lt
  obtain ⟨k_o0, k_o1, k_o2, k_o3⟩ := k_o.two
  go_wp2_with fail
  refine (HV2.out _).mono ?_
  rintro e v2 ⟨rfl, hb2⟩
  clear k_a0 k_a1 k_a2 k_a3 Lk_a k_b0 k_b1 k_b2 k_b3 Lk_b k_o0 k_o1 k_o2 k_o3 Lk_o
  replace k_a : At v2 (w.heap.size) 23 #[.int .i64 an, .int .i64 (p : Int)] := At.bel (by repeat (first | with_reducible assumption | with_reducible apply At.put0 | with_reducible apply At.put1 | with_reducible refine At.far ?_ (by dsimp only; omega) _ | with_reducible apply At.al | with_reducible apply At.drw | with_reducible apply At.dr)) hb2
  replace k_b : At v2 (w.heap.size + 1) 23 #[.int .i64 bn, .int .i64 (q : Int)] := At.bel (by repeat (first | with_reducible assumption | with_reducible apply At.put0 | with_reducible apply At.put1 | with_reducible refine At.far ?_ (by dsimp only; omega) _ | with_reducible apply At.al | with_reducible apply At.drw | with_reducible apply At.dr)) hb2
  replace k_o : At v2 (w.heap.size + 1 + 1) 23 #[.int .i64 0, .int .i64 0] := At.bel (by repeat (first | with_reducible assumption | with_reducible apply At.put0 | with_reducible apply At.put1 | with_reducible refine At.far ?_ (by dsimp only; omega) _ | with_reducible apply At.al | with_reducible apply At.drw | with_reducible apply At.dr)) hb2
  replace HB : Below w.heap.size w v2 := below_then (by repeat (first | with_reducible assumption | with_reducible exact Below.refl _ _ | with_reducible refine below_al ?_ _ | with_reducible refine below_drew ?_ | with_reducible refine below_drewN ?_ _ | with_reducible refine below_set ?_ (by dsimp only; omega) _)) hb2
  clear hb2
  have Lk_a := k_a.lt
  obtain ⟨k_a0, k_a1, k_a2, k_a3⟩ := k_a.two
  have Lk_b := k_b.lt
  obtain ⟨k_b0, k_b1, k_b2, k_b3⟩ := k_b.two
  have Lk_o := k_o.lt
  obtain ⟨k_o0, k_o1, k_o2, k_o3⟩ := k_o.two
  go_wp2_with fail
  clear k_a0 k_a1 k_a2 k_a3 Lk_a k_b0 k_b1 k_b2 k_b3 Lk_b k_o0 k_o1 k_o2 k_o3 Lk_o
  have Kk_a0 := cell_regrown k_a.c0
  have Kk_a1 := cell_regrown k_a.c1
  have Kk_b0 := cell_regrown k_b.c0
  have Kk_b1 := cell_regrown k_b.c1
  have Kk_o0 := cell_regrown k_o.c0
  have Kk_o1 := cell_regrown k_o.c1
  refine wp_region_quiet_below (by kernel_rfl) (by kernel_rfl) ?_
  repeat (go_big_quiet_step ((first | with_reducible exact regrown_call HX.out | with_reducible exact regrown_call HY.out | with_reducible exact regrown_call HG.out | with_reducible exact regrown_call HH.out)))
  refine wpQuiet_nil ?_
  intro v3 hb3'
  have hb3 := below_of_regrown hb3'
  clear hb3' Kk_a0 Kk_a1 Kk_b0 Kk_b1 Kk_o0 Kk_o1
  replace k_a : At v3 (w.heap.size) 23 #[.int .i64 an, .int .i64 (p : Int)] := At.bel (by repeat (first | with_reducible assumption | with_reducible apply At.put0 | with_reducible apply At.put1 | with_reducible refine At.far ?_ (by dsimp only; omega) _ | with_reducible apply At.al | with_reducible apply At.drw | with_reducible apply At.dr)) hb3
  replace k_b : At v3 (w.heap.size + 1) 23 #[.int .i64 bn, .int .i64 (q : Int)] := At.bel (by repeat (first | with_reducible assumption | with_reducible apply At.put0 | with_reducible apply At.put1 | with_reducible refine At.far ?_ (by dsimp only; omega) _ | with_reducible apply At.al | with_reducible apply At.drw | with_reducible apply At.dr)) hb3
  replace k_o : At v3 (w.heap.size + 1 + 1) 23 #[.int .i64 0, .int .i64 0] := At.bel (by repeat (first | with_reducible assumption | with_reducible apply At.put0 | with_reducible apply At.put1 | with_reducible refine At.far ?_ (by dsimp only; omega) _ | with_reducible apply At.al | with_reducible apply At.drw | with_reducible apply At.dr)) hb3
  replace HB : Below w.heap.size w v3 := below_then (by repeat (first | with_reducible assumption | with_reducible exact Below.refl _ _ | with_reducible refine below_al ?_ _ | with_reducible refine below_drew ?_ | with_reducible refine below_drewN ?_ _ | with_reducible refine below_set ?_ (by dsimp only; omega) _)) hb3
  clear hb3
  go_wp2_with fail
  refine wp_only ?_
  refine wp_region_grow2 22 (by kernel_rfl) (o1 := _) (o2 := _) (d1 := 8) (t1 := 59) (z1 := #[.int .u64 0, .int .u64 0]) (d2 := 9) (t2 := 59) (z2 := #[.int .u64 0, .int .u64 0]) rfl rfl ⟨rfl, rfl, fun _ _ => by rfl⟩ ⟨rfl, rfl, fun _ _ => by rfl⟩ (by decide) (by kernel_rfl) only_panic ?_
  apply Exists.intro
  refine And.intro (fun W' hW' => ?_) ?_
  focus
    have Kk_a := At.bel (show At _ (w.heap.size) 23 #[.int .i64 an, .int .i64 (p : Int)] from (by repeat (first | with_reducible assumption | with_reducible apply At.put0 | with_reducible apply At.put1 | with_reducible refine At.far ?_ (by dsimp only; omega) _ | with_reducible apply At.al | with_reducible apply At.drw | with_reducible apply At.dr))) hW'
    have Kk_a0 := cell_regrown Kk_a.c0
    have Kk_a1 := cell_regrown Kk_a.c1
    have Kk_b := At.bel (show At _ (w.heap.size + 1) 23 #[.int .i64 bn, .int .i64 (q : Int)] from (by repeat (first | with_reducible assumption | with_reducible apply At.put0 | with_reducible apply At.put1 | with_reducible refine At.far ?_ (by dsimp only; omega) _ | with_reducible apply At.al | with_reducible apply At.drw | with_reducible apply At.dr))) hW'
    have Kk_b0 := cell_regrown Kk_b.c0
    have Kk_b1 := cell_regrown Kk_b.c1
    have Kk_o := At.bel (show At _ (w.heap.size + 1 + 1) 23 #[.int .i64 0, .int .i64 0] from (by repeat (first | with_reducible assumption | with_reducible apply At.put0 | with_reducible apply At.put1 | with_reducible refine At.far ?_ (by dsimp only; omega) _ | with_reducible apply At.al | with_reducible apply At.drw | with_reducible apply At.dr))) hW'
    have Kk_o0 := cell_regrown Kk_o.c0
    have Kk_o1 := cell_regrown Kk_o.c1
    simp only [List.take_succ_cons, List.take_zero]
    repeat (go_big_quiet_step ((first | with_reducible exact regrown_call HX.out | with_reducible exact regrown_call HY.out | with_reducible exact regrown_call HP.out | with_reducible exact regrown_call HQ.out)))
    exact wpQuiet_nil rfl
  intro g_x g_y v4 hb4 lb_x lb_y ne_xy k_x k_y
  have Mk_a := k_a.lt
  have Mk_b := k_b.lt
  have Mk_o := k_o.lt
  replace k_a : At v4 (w.heap.size) 23 #[.int .i64 an, .int .i64 (p : Int)] := At.bel (by repeat (first | with_reducible assumption | with_reducible apply At.put0 | with_reducible apply At.put1 | with_reducible refine At.far ?_ (by dsimp only; omega) _ | with_reducible apply At.al | with_reducible apply At.drw | with_reducible apply At.dr)) hb4
  replace k_b : At v4 (w.heap.size + 1) 23 #[.int .i64 bn, .int .i64 (q : Int)] := At.bel (by repeat (first | with_reducible assumption | with_reducible apply At.put0 | with_reducible apply At.put1 | with_reducible refine At.far ?_ (by dsimp only; omega) _ | with_reducible apply At.al | with_reducible apply At.drw | with_reducible apply At.dr)) hb4
  replace k_o : At v4 (w.heap.size + 1 + 1) 23 #[.int .i64 0, .int .i64 0] := At.bel (by repeat (first | with_reducible assumption | with_reducible apply At.put0 | with_reducible apply At.put1 | with_reducible refine At.far ?_ (by dsimp only; omega) _ | with_reducible apply At.al | with_reducible apply At.drw | with_reducible apply At.dr)) hb4
  replace HB : Below w.heap.size w v4 := below_then (by repeat (first | with_reducible assumption | with_reducible exact Below.refl _ _ | with_reducible refine below_al ?_ _ | with_reducible refine below_drew ?_ | with_reducible refine below_drewN ?_ _ | with_reducible refine below_set ?_ (by dsimp only; omega) _)) hb4
  clear hb4
  simp only [List.drop_succ_cons, List.drop_zero]
  have Lk_x := k_x.lt
  obtain ⟨k_x0, k_x1, k_x2, k_x3⟩ := k_x.two
  have Lk_y := k_y.lt
  obtain ⟨k_y0, k_y1, k_y2, k_y3⟩ := k_y.two
  have Lk_a := k_a.lt
  obtain ⟨k_a0, k_a1, k_a2, k_a3⟩ := k_a.two
  have Lk_b := k_b.lt
  obtain ⟨k_b0, k_b1, k_b2, k_b3⟩ := k_b.two
  have Lk_o := k_o.lt
  obtain ⟨k_o0, k_o1, k_o2, k_o3⟩ := k_o.two
  go_wp2_with fail
  exact bodyPost_ret (v := frv (0, 0, 5)) (by simp [results, Tryd.results13, go_sem, *]) rfl ⟨rfl, (by repeat (first | with_reducible assumption | with_reducible exact Below.refl _ _ | with_reducible refine below_al ?_ _ | with_reducible refine below_drew ?_ | with_reducible refine below_drewN ?_ _ | with_reducible refine below_set ?_ (by dsimp only; omega) _))⟩

set_option maxRecDepth 100000 in
set_option maxHeartbeats 8000000 in
theorem ratiomul_pos (an bn : Int) (x p y q g h N1 N2 D1 D2 nh nl dh dl : Nat) (s : Bool → Int × Int × Int) (bp : p ≤ 1152921504606846976) (bq : q ≤ 1152921504606846976) (bg : (1 : Int) ≤ (g : Int)) (bh : (1 : Int) ≤ (h : Int)) (e1 : (x : Int) / (g : Int) = (N1 : Int)) (e1w : IntKind.u64.wrap (N1 : Int) = (N1 : Int)) (e2 : (y : Int) / (h : Int) = (N2 : Int)) (e2w : IntKind.u64.wrap (N2 : Int) = (N2 : Int)) (e3 : (p : Int) / (h : Int) = (D1 : Int)) (e3w : IntKind.u64.wrap (D1 : Int) = (D1 : Int)) (e4 : (q : Int) / (g : Int) = (D2 : Int)) (e4w : IntKind.u64.wrap (D2 : Int) = (D2 : Int)) (e5 : IntKind.u64.wrap (p : Int) = (p : Int)) (e6 : IntKind.u64.wrap (q : Int) = (q : Int)) (z1 : ((g : Int) == 0) = false) (z2 : ((h : Int) == 0) = false) (z3 : ¬ (g : Int) = 0) (z4 : ¬ (h : Int) = 0) (c3 : (0 : Int) < (nl : Int))
    (HV1 : Hid (∀ w, Calls Tryd.prog 15 #[.agg #[.int .i64 an, .int .i64 (p : Int)]] w fun e w' => e = .returned (.bool true) ∧ Below w.heap.size w w'))
    (HV2 : Hid (∀ w, Calls Tryd.prog 15 #[.agg #[.int .i64 bn, .int .i64 (q : Int)]] w fun e w' => e = .returned (.bool true) ∧ Below w.heap.size w w'))
    (HX : Hid (∀ w, Calls Tryd.prog 42 #[.int .i64 an] w fun e w' => e = .returned (.int .u64 (x : Int)) ∧ Below w.heap.size w w'))
    (HY : Hid (∀ w, Calls Tryd.prog 42 #[.int .i64 bn] w fun e w' => e = .returned (.int .u64 (y : Int)) ∧ Below w.heap.size w w'))
    (HG : Hid (∀ w, Calls Tryd.prog 40 #[.int .u64 (x : Int), .int .u64 (q : Int)] w fun e w' => e = .returned (.int .u64 (g : Int)) ∧ Below w.heap.size w w'))
    (HH : Hid (∀ w, Calls Tryd.prog 40 #[.int .u64 (y : Int), .int .u64 (p : Int)] w fun e w' => e = .returned (.int .u64 (h : Int)) ∧ Below w.heap.size w w'))
    (HP : Hid (∀ w, Calls Tryd.prog 41 #[.int .u64 (N1 : Int), .int .u64 (N2 : Int)] w fun e w' => e = .returned (.agg #[.int .u64 0, .int .u64 (nl : Int)]) ∧ Below w.heap.size w w'))
    (HQ : Hid (∀ w, Calls Tryd.prog 41 #[.int .u64 (D1 : Int), .int .u64 (D2 : Int)] w fun e w' => e = .returned (.agg #[.int .u64 0, .int .u64 (dl : Int)]) ∧ Below w.heap.size w w'))
    (HS : Hid (∀ b w, Calls Tryd.prog 47 #[.bool b, .int .u64 (nl : Int), .int .u64 (dl : Int)] w fun e w' => e = .returned (frv (s b)) ∧ Below w.heap.size w w')) (w : World) :
    Calls Tryd.prog 13 #[.agg #[.int .i64 an, .int .i64 (p : Int)], .agg #[.int .i64 bn, .int .i64 (q : Int)]] w fun e w' => e = .returned (frv (s (decide (an < 0) != decide (bn < 0)))) ∧ Below w.heap.size w w' := by
  go_enter Tryd.func13, Tryd.ntmps13
  go_wp2_with fail
  refine (HV1.out _).mono ?_
  rintro e v1 ⟨rfl, hb1⟩
  have k_a : At v1 (w.heap.size) 23 #[.int .i64 an, .int .i64 (p : Int)] := At.bel (by (repeat (first | (with_reducible apply At.new'; (focus (simp; done))) | with_reducible apply At.al | with_reducible apply At.drw | with_reducible apply At.dr))) hb1
  have k_b : At v1 (w.heap.size + 1) 23 #[.int .i64 bn, .int .i64 (q : Int)] := At.bel (by (repeat (first | (with_reducible apply At.new'; (focus (simp; done))) | with_reducible apply At.al | with_reducible apply At.drw | with_reducible apply At.dr))) hb1
  have k_o : At v1 (w.heap.size + 1 + 1) 23 #[.int .i64 0, .int .i64 0] := At.bel (by (repeat (first | (with_reducible apply At.new'; (focus (simp; done))) | with_reducible apply At.al | with_reducible apply At.drw | with_reducible apply At.dr))) hb1
  have HB : Below w.heap.size w v1 := below_then (by repeat (first | with_reducible assumption | with_reducible exact Below.refl _ _ | with_reducible refine below_al ?_ _ | with_reducible refine below_drew ?_ | with_reducible refine below_drewN ?_ _ | with_reducible refine below_set ?_ (by dsimp only; omega) _)) hb1
  clear hb1
  have Lk_a := k_a.lt
  obtain ⟨k_a0, k_a1, k_a2, k_a3⟩ := k_a.two
  have Lk_b := k_b.lt
  obtain ⟨k_b0, k_b1, k_b2, k_b3⟩ := k_b.two
  have Lk_o := k_o.lt
  obtain ⟨k_o0, k_o1, k_o2, k_o3⟩ := k_o.two
  go_wp2_with fail
  refine (HV2.out _).mono ?_
  rintro e v2 ⟨rfl, hb2⟩
  clear k_a0 k_a1 k_a2 k_a3 Lk_a k_b0 k_b1 k_b2 k_b3 Lk_b k_o0 k_o1 k_o2 k_o3 Lk_o
  replace k_a : At v2 (w.heap.size) 23 #[.int .i64 an, .int .i64 (p : Int)] := At.bel (by repeat (first | with_reducible assumption | with_reducible apply At.put0 | with_reducible apply At.put1 | with_reducible refine At.far ?_ (by dsimp only; omega) _ | with_reducible apply At.al | with_reducible apply At.drw | with_reducible apply At.dr)) hb2
  replace k_b : At v2 (w.heap.size + 1) 23 #[.int .i64 bn, .int .i64 (q : Int)] := At.bel (by repeat (first | with_reducible assumption | with_reducible apply At.put0 | with_reducible apply At.put1 | with_reducible refine At.far ?_ (by dsimp only; omega) _ | with_reducible apply At.al | with_reducible apply At.drw | with_reducible apply At.dr)) hb2
  replace k_o : At v2 (w.heap.size + 1 + 1) 23 #[.int .i64 0, .int .i64 0] := At.bel (by repeat (first | with_reducible assumption | with_reducible apply At.put0 | with_reducible apply At.put1 | with_reducible refine At.far ?_ (by dsimp only; omega) _ | with_reducible apply At.al | with_reducible apply At.drw | with_reducible apply At.dr)) hb2
  replace HB : Below w.heap.size w v2 := below_then (by repeat (first | with_reducible assumption | with_reducible exact Below.refl _ _ | with_reducible refine below_al ?_ _ | with_reducible refine below_drew ?_ | with_reducible refine below_drewN ?_ _ | with_reducible refine below_set ?_ (by dsimp only; omega) _)) hb2
  clear hb2
  have Lk_a := k_a.lt
  obtain ⟨k_a0, k_a1, k_a2, k_a3⟩ := k_a.two
  have Lk_b := k_b.lt
  obtain ⟨k_b0, k_b1, k_b2, k_b3⟩ := k_b.two
  have Lk_o := k_o.lt
  obtain ⟨k_o0, k_o1, k_o2, k_o3⟩ := k_o.two
  go_wp2_with fail
  clear k_a0 k_a1 k_a2 k_a3 Lk_a k_b0 k_b1 k_b2 k_b3 Lk_b k_o0 k_o1 k_o2 k_o3 Lk_o
  have Kk_a0 := cell_regrown k_a.c0
  have Kk_a1 := cell_regrown k_a.c1
  have Kk_b0 := cell_regrown k_b.c0
  have Kk_b1 := cell_regrown k_b.c1
  have Kk_o0 := cell_regrown k_o.c0
  have Kk_o1 := cell_regrown k_o.c1
  refine wp_region_quiet_below (by kernel_rfl) (by kernel_rfl) ?_
  repeat (go_big_quiet_step ((first | with_reducible exact regrown_call HX.out | with_reducible exact regrown_call HY.out | with_reducible exact regrown_call HG.out | with_reducible exact regrown_call HH.out)))
  refine wpQuiet_nil ?_
  intro v3 hb3'
  have hb3 := below_of_regrown hb3'
  clear hb3' Kk_a0 Kk_a1 Kk_b0 Kk_b1 Kk_o0 Kk_o1
  replace k_a : At v3 (w.heap.size) 23 #[.int .i64 an, .int .i64 (p : Int)] := At.bel (by repeat (first | with_reducible assumption | with_reducible apply At.put0 | with_reducible apply At.put1 | with_reducible refine At.far ?_ (by dsimp only; omega) _ | with_reducible apply At.al | with_reducible apply At.drw | with_reducible apply At.dr)) hb3
  replace k_b : At v3 (w.heap.size + 1) 23 #[.int .i64 bn, .int .i64 (q : Int)] := At.bel (by repeat (first | with_reducible assumption | with_reducible apply At.put0 | with_reducible apply At.put1 | with_reducible refine At.far ?_ (by dsimp only; omega) _ | with_reducible apply At.al | with_reducible apply At.drw | with_reducible apply At.dr)) hb3
  replace k_o : At v3 (w.heap.size + 1 + 1) 23 #[.int .i64 0, .int .i64 0] := At.bel (by repeat (first | with_reducible assumption | with_reducible apply At.put0 | with_reducible apply At.put1 | with_reducible refine At.far ?_ (by dsimp only; omega) _ | with_reducible apply At.al | with_reducible apply At.drw | with_reducible apply At.dr)) hb3
  replace HB : Below w.heap.size w v3 := below_then (by repeat (first | with_reducible assumption | with_reducible exact Below.refl _ _ | with_reducible refine below_al ?_ _ | with_reducible refine below_drew ?_ | with_reducible refine below_drewN ?_ _ | with_reducible refine below_set ?_ (by dsimp only; omega) _)) hb3
  clear hb3
  go_wp2_with fail
  refine wp_only ?_
  refine wp_region_grow2 22 (by kernel_rfl) (o1 := _) (o2 := _) (d1 := 8) (t1 := 59) (z1 := #[.int .u64 0, .int .u64 0]) (d2 := 9) (t2 := 59) (z2 := #[.int .u64 0, .int .u64 0]) rfl rfl ⟨rfl, rfl, fun _ _ => by rfl⟩ ⟨rfl, rfl, fun _ _ => by rfl⟩ (by decide) (by kernel_rfl) only_panic ?_
  apply Exists.intro
  refine And.intro (fun W' hW' => ?_) ?_
  focus
    have Kk_a := At.bel (show At _ (w.heap.size) 23 #[.int .i64 an, .int .i64 (p : Int)] from (by repeat (first | with_reducible assumption | with_reducible apply At.put0 | with_reducible apply At.put1 | with_reducible refine At.far ?_ (by dsimp only; omega) _ | with_reducible apply At.al | with_reducible apply At.drw | with_reducible apply At.dr))) hW'
    have Kk_a0 := cell_regrown Kk_a.c0
    have Kk_a1 := cell_regrown Kk_a.c1
    have Kk_b := At.bel (show At _ (w.heap.size + 1) 23 #[.int .i64 bn, .int .i64 (q : Int)] from (by repeat (first | with_reducible assumption | with_reducible apply At.put0 | with_reducible apply At.put1 | with_reducible refine At.far ?_ (by dsimp only; omega) _ | with_reducible apply At.al | with_reducible apply At.drw | with_reducible apply At.dr))) hW'
    have Kk_b0 := cell_regrown Kk_b.c0
    have Kk_b1 := cell_regrown Kk_b.c1
    have Kk_o := At.bel (show At _ (w.heap.size + 1 + 1) 23 #[.int .i64 0, .int .i64 0] from (by repeat (first | with_reducible assumption | with_reducible apply At.put0 | with_reducible apply At.put1 | with_reducible refine At.far ?_ (by dsimp only; omega) _ | with_reducible apply At.al | with_reducible apply At.drw | with_reducible apply At.dr))) hW'
    have Kk_o0 := cell_regrown Kk_o.c0
    have Kk_o1 := cell_regrown Kk_o.c1
    simp only [List.take_succ_cons, List.take_zero]
    repeat (go_big_quiet_step ((first | with_reducible exact regrown_call HX.out | with_reducible exact regrown_call HY.out | with_reducible exact regrown_call HP.out | with_reducible exact regrown_call HQ.out)))
    exact wpQuiet_nil rfl
  intro g_x g_y v4 hb4 lb_x lb_y ne_xy k_x k_y
  have Mk_a := k_a.lt
  have Mk_b := k_b.lt
  have Mk_o := k_o.lt
  replace k_a : At v4 (w.heap.size) 23 #[.int .i64 an, .int .i64 (p : Int)] := At.bel (by repeat (first | with_reducible assumption | with_reducible apply At.put0 | with_reducible apply At.put1 | with_reducible refine At.far ?_ (by dsimp only; omega) _ | with_reducible apply At.al | with_reducible apply At.drw | with_reducible apply At.dr)) hb4
  replace k_b : At v4 (w.heap.size + 1) 23 #[.int .i64 bn, .int .i64 (q : Int)] := At.bel (by repeat (first | with_reducible assumption | with_reducible apply At.put0 | with_reducible apply At.put1 | with_reducible refine At.far ?_ (by dsimp only; omega) _ | with_reducible apply At.al | with_reducible apply At.drw | with_reducible apply At.dr)) hb4
  replace k_o : At v4 (w.heap.size + 1 + 1) 23 #[.int .i64 0, .int .i64 0] := At.bel (by repeat (first | with_reducible assumption | with_reducible apply At.put0 | with_reducible apply At.put1 | with_reducible refine At.far ?_ (by dsimp only; omega) _ | with_reducible apply At.al | with_reducible apply At.drw | with_reducible apply At.dr)) hb4
  replace HB : Below w.heap.size w v4 := below_then (by repeat (first | with_reducible assumption | with_reducible exact Below.refl _ _ | with_reducible refine below_al ?_ _ | with_reducible refine below_drew ?_ | with_reducible refine below_drewN ?_ _ | with_reducible refine below_set ?_ (by dsimp only; omega) _)) hb4
  clear hb4
  simp only [List.drop_succ_cons, List.drop_zero]
  have Lk_x := k_x.lt
  obtain ⟨k_x0, k_x1, k_x2, k_x3⟩ := k_x.two
  have Lk_y := k_y.lt
  obtain ⟨k_y0, k_y1, k_y2, k_y3⟩ := k_y.two
  have Lk_a := k_a.lt
  obtain ⟨k_a0, k_a1, k_a2, k_a3⟩ := k_a.two
  have Lk_b := k_b.lt
  obtain ⟨k_b0, k_b1, k_b2, k_b3⟩ := k_b.two
  have Lk_o := k_o.lt
  obtain ⟨k_o0, k_o1, k_o2, k_o3⟩ := k_o.two
  go_wp2_with fail
  refine (HS.out _ _).mono ?_
  rintro e v5 ⟨rfl, hb5⟩
  clear k_x0 k_x1 k_x2 k_x3 Lk_x k_y0 k_y1 k_y2 k_y3 Lk_y k_a0 k_a1 k_a2 k_a3 Lk_a k_b0 k_b1 k_b2 k_b3 Lk_b k_o0 k_o1 k_o2 k_o3 Lk_o
  replace k_a : At v5 (w.heap.size) 23 #[.int .i64 an, .int .i64 (p : Int)] := At.bel (by repeat (first | with_reducible assumption | with_reducible apply At.put0 | with_reducible apply At.put1 | with_reducible refine At.far ?_ (by dsimp only; omega) _ | with_reducible apply At.al | with_reducible apply At.drw | with_reducible apply At.dr)) hb5
  replace k_b : At v5 (w.heap.size + 1) 23 #[.int .i64 bn, .int .i64 (q : Int)] := At.bel (by repeat (first | with_reducible assumption | with_reducible apply At.put0 | with_reducible apply At.put1 | with_reducible refine At.far ?_ (by dsimp only; omega) _ | with_reducible apply At.al | with_reducible apply At.drw | with_reducible apply At.dr)) hb5
  replace k_o : At v5 (w.heap.size + 1 + 1) 23 #[.int .i64 0, .int .i64 0] := At.bel (by repeat (first | with_reducible assumption | with_reducible apply At.put0 | with_reducible apply At.put1 | with_reducible refine At.far ?_ (by dsimp only; omega) _ | with_reducible apply At.al | with_reducible apply At.drw | with_reducible apply At.dr)) hb5
  replace k_x : At v5 (g_x) 59 #[.int .u64 0, .int .u64 (nl : Int)] := At.bel (by repeat (first | with_reducible assumption | with_reducible apply At.put0 | with_reducible apply At.put1 | with_reducible refine At.far ?_ (by dsimp only; omega) _ | with_reducible apply At.al | with_reducible apply At.drw | with_reducible apply At.dr)) hb5
  replace k_y : At v5 (g_y) 59 #[.int .u64 0, .int .u64 (dl : Int)] := At.bel (by repeat (first | with_reducible assumption | with_reducible apply At.put0 | with_reducible apply At.put1 | with_reducible refine At.far ?_ (by dsimp only; omega) _ | with_reducible apply At.al | with_reducible apply At.drw | with_reducible apply At.dr)) hb5
  replace HB : Below w.heap.size w v5 := below_then (by repeat (first | with_reducible assumption | with_reducible exact Below.refl _ _ | with_reducible refine below_al ?_ _ | with_reducible refine below_drew ?_ | with_reducible refine below_drewN ?_ _ | with_reducible refine below_set ?_ (by dsimp only; omega) _)) hb5
  clear hb5
  have Lk_o := k_o.lt
  obtain ⟨k_o0, k_o1, k_o2, k_o3⟩ := k_o.two
  go_wp2_with fail
  exact bodyPost_ret (v := frv (s (!(decide (an < 0) == decide (bn < 0))))) (by simp [results, Tryd.results13, go_sem, *]) rfl ⟨rfl, (by repeat (first | with_reducible assumption | with_reducible exact Below.refl _ _ | with_reducible refine below_al ?_ _ | with_reducible refine below_drew ?_ | with_reducible refine below_drewN ?_ _ | with_reducible refine below_set ?_ (by dsimp only; omega) _))⟩

set_option maxRecDepth 100000 in
set_option maxHeartbeats 8000000 in
theorem ratiomul_nil (an bn : Int) (x p y q g h N1 N2 D1 D2 nh nl dh dl : Nat) (s : Bool → Int × Int × Int) (bp : p ≤ 1152921504606846976) (bq : q ≤ 1152921504606846976) (bg : (1 : Int) ≤ (g : Int)) (bh : (1 : Int) ≤ (h : Int)) (e1 : (x : Int) / (g : Int) = (N1 : Int)) (e1w : IntKind.u64.wrap (N1 : Int) = (N1 : Int)) (e2 : (y : Int) / (h : Int) = (N2 : Int)) (e2w : IntKind.u64.wrap (N2 : Int) = (N2 : Int)) (e3 : (p : Int) / (h : Int) = (D1 : Int)) (e3w : IntKind.u64.wrap (D1 : Int) = (D1 : Int)) (e4 : (q : Int) / (g : Int) = (D2 : Int)) (e4w : IntKind.u64.wrap (D2 : Int) = (D2 : Int)) (e5 : IntKind.u64.wrap (p : Int) = (p : Int)) (e6 : IntKind.u64.wrap (q : Int) = (q : Int)) (z1 : ((g : Int) == 0) = false) (z2 : ((h : Int) == 0) = false) (z3 : ¬ (g : Int) = 0) (z4 : ¬ (h : Int) = 0) (c3 : ¬ (0 : Int) < (nl : Int))
    (HV1 : Hid (∀ w, Calls Tryd.prog 15 #[.agg #[.int .i64 an, .int .i64 (p : Int)]] w fun e w' => e = .returned (.bool true) ∧ Below w.heap.size w w'))
    (HV2 : Hid (∀ w, Calls Tryd.prog 15 #[.agg #[.int .i64 bn, .int .i64 (q : Int)]] w fun e w' => e = .returned (.bool true) ∧ Below w.heap.size w w'))
    (HX : Hid (∀ w, Calls Tryd.prog 42 #[.int .i64 an] w fun e w' => e = .returned (.int .u64 (x : Int)) ∧ Below w.heap.size w w'))
    (HY : Hid (∀ w, Calls Tryd.prog 42 #[.int .i64 bn] w fun e w' => e = .returned (.int .u64 (y : Int)) ∧ Below w.heap.size w w'))
    (HG : Hid (∀ w, Calls Tryd.prog 40 #[.int .u64 (x : Int), .int .u64 (q : Int)] w fun e w' => e = .returned (.int .u64 (g : Int)) ∧ Below w.heap.size w w'))
    (HH : Hid (∀ w, Calls Tryd.prog 40 #[.int .u64 (y : Int), .int .u64 (p : Int)] w fun e w' => e = .returned (.int .u64 (h : Int)) ∧ Below w.heap.size w w'))
    (HP : Hid (∀ w, Calls Tryd.prog 41 #[.int .u64 (N1 : Int), .int .u64 (N2 : Int)] w fun e w' => e = .returned (.agg #[.int .u64 0, .int .u64 (nl : Int)]) ∧ Below w.heap.size w w'))
    (HQ : Hid (∀ w, Calls Tryd.prog 41 #[.int .u64 (D1 : Int), .int .u64 (D2 : Int)] w fun e w' => e = .returned (.agg #[.int .u64 0, .int .u64 (dl : Int)]) ∧ Below w.heap.size w w'))
    (HS : Hid (∀ b w, Calls Tryd.prog 47 #[.bool b, .int .u64 (nl : Int), .int .u64 (dl : Int)] w fun e w' => e = .returned (frv (s b)) ∧ Below w.heap.size w w')) (w : World) :
    Calls Tryd.prog 13 #[.agg #[.int .i64 an, .int .i64 (p : Int)], .agg #[.int .i64 bn, .int .i64 (q : Int)]] w fun e w' => e = .returned (frv (s false)) ∧ Below w.heap.size w w' := by
  go_enter Tryd.func13, Tryd.ntmps13
  go_wp2_with fail
  refine (HV1.out _).mono ?_
  rintro e v1 ⟨rfl, hb1⟩
  have k_a : At v1 (w.heap.size) 23 #[.int .i64 an, .int .i64 (p : Int)] := At.bel (by (repeat (first | (with_reducible apply At.new'; (focus (simp; done))) | with_reducible apply At.al | with_reducible apply At.drw | with_reducible apply At.dr))) hb1
  have k_b : At v1 (w.heap.size + 1) 23 #[.int .i64 bn, .int .i64 (q : Int)] := At.bel (by (repeat (first | (with_reducible apply At.new'; (focus (simp; done))) | with_reducible apply At.al | with_reducible apply At.drw | with_reducible apply At.dr))) hb1
  have k_o : At v1 (w.heap.size + 1 + 1) 23 #[.int .i64 0, .int .i64 0] := At.bel (by (repeat (first | (with_reducible apply At.new'; (focus (simp; done))) | with_reducible apply At.al | with_reducible apply At.drw | with_reducible apply At.dr))) hb1
  have HB : Below w.heap.size w v1 := below_then (by repeat (first | with_reducible assumption | with_reducible exact Below.refl _ _ | with_reducible refine below_al ?_ _ | with_reducible refine below_drew ?_ | with_reducible refine below_drewN ?_ _ | with_reducible refine below_set ?_ (by dsimp only; omega) _)) hb1
  clear hb1
  have Lk_a := k_a.lt
  obtain ⟨k_a0, k_a1, k_a2, k_a3⟩ := k_a.two
  have Lk_b := k_b.lt
  obtain ⟨k_b0, k_b1, k_b2, k_b3⟩ := k_b.two
  have Lk_o := k_o.lt
  obtain ⟨k_o0, k_o1, k_o2, k_o3⟩ := k_o.two
  go_wp2_with fail
  refine (HV2.out _).mono ?_
  rintro e v2 ⟨rfl, hb2⟩
  clear k_a0 k_a1 k_a2 k_a3 Lk_a k_b0 k_b1 k_b2 k_b3 Lk_b k_o0 k_o1 k_o2 k_o3 Lk_o
  replace k_a : At v2 (w.heap.size) 23 #[.int .i64 an, .int .i64 (p : Int)] := At.bel (by repeat (first | with_reducible assumption | with_reducible apply At.put0 | with_reducible apply At.put1 | with_reducible refine At.far ?_ (by dsimp only; omega) _ | with_reducible apply At.al | with_reducible apply At.drw | with_reducible apply At.dr)) hb2
  replace k_b : At v2 (w.heap.size + 1) 23 #[.int .i64 bn, .int .i64 (q : Int)] := At.bel (by repeat (first | with_reducible assumption | with_reducible apply At.put0 | with_reducible apply At.put1 | with_reducible refine At.far ?_ (by dsimp only; omega) _ | with_reducible apply At.al | with_reducible apply At.drw | with_reducible apply At.dr)) hb2
  replace k_o : At v2 (w.heap.size + 1 + 1) 23 #[.int .i64 0, .int .i64 0] := At.bel (by repeat (first | with_reducible assumption | with_reducible apply At.put0 | with_reducible apply At.put1 | with_reducible refine At.far ?_ (by dsimp only; omega) _ | with_reducible apply At.al | with_reducible apply At.drw | with_reducible apply At.dr)) hb2
  replace HB : Below w.heap.size w v2 := below_then (by repeat (first | with_reducible assumption | with_reducible exact Below.refl _ _ | with_reducible refine below_al ?_ _ | with_reducible refine below_drew ?_ | with_reducible refine below_drewN ?_ _ | with_reducible refine below_set ?_ (by dsimp only; omega) _)) hb2
  clear hb2
  have Lk_a := k_a.lt
  obtain ⟨k_a0, k_a1, k_a2, k_a3⟩ := k_a.two
  have Lk_b := k_b.lt
  obtain ⟨k_b0, k_b1, k_b2, k_b3⟩ := k_b.two
  have Lk_o := k_o.lt
  obtain ⟨k_o0, k_o1, k_o2, k_o3⟩ := k_o.two
  go_wp2_with fail
  clear k_a0 k_a1 k_a2 k_a3 Lk_a k_b0 k_b1 k_b2 k_b3 Lk_b k_o0 k_o1 k_o2 k_o3 Lk_o
  have Kk_a0 := cell_regrown k_a.c0
  have Kk_a1 := cell_regrown k_a.c1
  have Kk_b0 := cell_regrown k_b.c0
  have Kk_b1 := cell_regrown k_b.c1
  have Kk_o0 := cell_regrown k_o.c0
  have Kk_o1 := cell_regrown k_o.c1
  refine wp_region_quiet_below (by kernel_rfl) (by kernel_rfl) ?_
  repeat (go_big_quiet_step ((first | with_reducible exact regrown_call HX.out | with_reducible exact regrown_call HY.out | with_reducible exact regrown_call HG.out | with_reducible exact regrown_call HH.out)))
  refine wpQuiet_nil ?_
  intro v3 hb3'
  have hb3 := below_of_regrown hb3'
  clear hb3' Kk_a0 Kk_a1 Kk_b0 Kk_b1 Kk_o0 Kk_o1
  replace k_a : At v3 (w.heap.size) 23 #[.int .i64 an, .int .i64 (p : Int)] := At.bel (by repeat (first | with_reducible assumption | with_reducible apply At.put0 | with_reducible apply At.put1 | with_reducible refine At.far ?_ (by dsimp only; omega) _ | with_reducible apply At.al | with_reducible apply At.drw | with_reducible apply At.dr)) hb3
  replace k_b : At v3 (w.heap.size + 1) 23 #[.int .i64 bn, .int .i64 (q : Int)] := At.bel (by repeat (first | with_reducible assumption | with_reducible apply At.put0 | with_reducible apply At.put1 | with_reducible refine At.far ?_ (by dsimp only; omega) _ | with_reducible apply At.al | with_reducible apply At.drw | with_reducible apply At.dr)) hb3
  replace k_o : At v3 (w.heap.size + 1 + 1) 23 #[.int .i64 0, .int .i64 0] := At.bel (by repeat (first | with_reducible assumption | with_reducible apply At.put0 | with_reducible apply At.put1 | with_reducible refine At.far ?_ (by dsimp only; omega) _ | with_reducible apply At.al | with_reducible apply At.drw | with_reducible apply At.dr)) hb3
  replace HB : Below w.heap.size w v3 := below_then (by repeat (first | with_reducible assumption | with_reducible exact Below.refl _ _ | with_reducible refine below_al ?_ _ | with_reducible refine below_drew ?_ | with_reducible refine below_drewN ?_ _ | with_reducible refine below_set ?_ (by dsimp only; omega) _)) hb3
  clear hb3
  go_wp2_with fail
  refine wp_only ?_
  refine wp_region_grow2 22 (by kernel_rfl) (o1 := _) (o2 := _) (d1 := 8) (t1 := 59) (z1 := #[.int .u64 0, .int .u64 0]) (d2 := 9) (t2 := 59) (z2 := #[.int .u64 0, .int .u64 0]) rfl rfl ⟨rfl, rfl, fun _ _ => by rfl⟩ ⟨rfl, rfl, fun _ _ => by rfl⟩ (by decide) (by kernel_rfl) only_panic ?_
  apply Exists.intro
  refine And.intro (fun W' hW' => ?_) ?_
  focus
    have Kk_a := At.bel (show At _ (w.heap.size) 23 #[.int .i64 an, .int .i64 (p : Int)] from (by repeat (first | with_reducible assumption | with_reducible apply At.put0 | with_reducible apply At.put1 | with_reducible refine At.far ?_ (by dsimp only; omega) _ | with_reducible apply At.al | with_reducible apply At.drw | with_reducible apply At.dr))) hW'
    have Kk_a0 := cell_regrown Kk_a.c0
    have Kk_a1 := cell_regrown Kk_a.c1
    have Kk_b := At.bel (show At _ (w.heap.size + 1) 23 #[.int .i64 bn, .int .i64 (q : Int)] from (by repeat (first | with_reducible assumption | with_reducible apply At.put0 | with_reducible apply At.put1 | with_reducible refine At.far ?_ (by dsimp only; omega) _ | with_reducible apply At.al | with_reducible apply At.drw | with_reducible apply At.dr))) hW'
    have Kk_b0 := cell_regrown Kk_b.c0
    have Kk_b1 := cell_regrown Kk_b.c1
    have Kk_o := At.bel (show At _ (w.heap.size + 1 + 1) 23 #[.int .i64 0, .int .i64 0] from (by repeat (first | with_reducible assumption | with_reducible apply At.put0 | with_reducible apply At.put1 | with_reducible refine At.far ?_ (by dsimp only; omega) _ | with_reducible apply At.al | with_reducible apply At.drw | with_reducible apply At.dr))) hW'
    have Kk_o0 := cell_regrown Kk_o.c0
    have Kk_o1 := cell_regrown Kk_o.c1
    simp only [List.take_succ_cons, List.take_zero]
    repeat (go_big_quiet_step ((first | with_reducible exact regrown_call HX.out | with_reducible exact regrown_call HY.out | with_reducible exact regrown_call HP.out | with_reducible exact regrown_call HQ.out)))
    exact wpQuiet_nil rfl
  intro g_x g_y v4 hb4 lb_x lb_y ne_xy k_x k_y
  have Mk_a := k_a.lt
  have Mk_b := k_b.lt
  have Mk_o := k_o.lt
  replace k_a : At v4 (w.heap.size) 23 #[.int .i64 an, .int .i64 (p : Int)] := At.bel (by repeat (first | with_reducible assumption | with_reducible apply At.put0 | with_reducible apply At.put1 | with_reducible refine At.far ?_ (by dsimp only; omega) _ | with_reducible apply At.al | with_reducible apply At.drw | with_reducible apply At.dr)) hb4
  replace k_b : At v4 (w.heap.size + 1) 23 #[.int .i64 bn, .int .i64 (q : Int)] := At.bel (by repeat (first | with_reducible assumption | with_reducible apply At.put0 | with_reducible apply At.put1 | with_reducible refine At.far ?_ (by dsimp only; omega) _ | with_reducible apply At.al | with_reducible apply At.drw | with_reducible apply At.dr)) hb4
  replace k_o : At v4 (w.heap.size + 1 + 1) 23 #[.int .i64 0, .int .i64 0] := At.bel (by repeat (first | with_reducible assumption | with_reducible apply At.put0 | with_reducible apply At.put1 | with_reducible refine At.far ?_ (by dsimp only; omega) _ | with_reducible apply At.al | with_reducible apply At.drw | with_reducible apply At.dr)) hb4
  replace HB : Below w.heap.size w v4 := below_then (by repeat (first | with_reducible assumption | with_reducible exact Below.refl _ _ | with_reducible refine below_al ?_ _ | with_reducible refine below_drew ?_ | with_reducible refine below_drewN ?_ _ | with_reducible refine below_set ?_ (by dsimp only; omega) _)) hb4
  clear hb4
  simp only [List.drop_succ_cons, List.drop_zero]
  have Lk_x := k_x.lt
  obtain ⟨k_x0, k_x1, k_x2, k_x3⟩ := k_x.two
  have Lk_y := k_y.lt
  obtain ⟨k_y0, k_y1, k_y2, k_y3⟩ := k_y.two
  have Lk_a := k_a.lt
  obtain ⟨k_a0, k_a1, k_a2, k_a3⟩ := k_a.two
  have Lk_b := k_b.lt
  obtain ⟨k_b0, k_b1, k_b2, k_b3⟩ := k_b.two
  have Lk_o := k_o.lt
  obtain ⟨k_o0, k_o1, k_o2, k_o3⟩ := k_o.two
  go_wp2_with fail
  refine (HS.out _ _).mono ?_
  rintro e v5 ⟨rfl, hb5⟩
  clear k_x0 k_x1 k_x2 k_x3 Lk_x k_y0 k_y1 k_y2 k_y3 Lk_y k_a0 k_a1 k_a2 k_a3 Lk_a k_b0 k_b1 k_b2 k_b3 Lk_b k_o0 k_o1 k_o2 k_o3 Lk_o
  replace k_a : At v5 (w.heap.size) 23 #[.int .i64 an, .int .i64 (p : Int)] := At.bel (by repeat (first | with_reducible assumption | with_reducible apply At.put0 | with_reducible apply At.put1 | with_reducible refine At.far ?_ (by dsimp only; omega) _ | with_reducible apply At.al | with_reducible apply At.drw | with_reducible apply At.dr)) hb5
  replace k_b : At v5 (w.heap.size + 1) 23 #[.int .i64 bn, .int .i64 (q : Int)] := At.bel (by repeat (first | with_reducible assumption | with_reducible apply At.put0 | with_reducible apply At.put1 | with_reducible refine At.far ?_ (by dsimp only; omega) _ | with_reducible apply At.al | with_reducible apply At.drw | with_reducible apply At.dr)) hb5
  replace k_o : At v5 (w.heap.size + 1 + 1) 23 #[.int .i64 0, .int .i64 0] := At.bel (by repeat (first | with_reducible assumption | with_reducible apply At.put0 | with_reducible apply At.put1 | with_reducible refine At.far ?_ (by dsimp only; omega) _ | with_reducible apply At.al | with_reducible apply At.drw | with_reducible apply At.dr)) hb5
  replace k_x : At v5 (g_x) 59 #[.int .u64 0, .int .u64 (nl : Int)] := At.bel (by repeat (first | with_reducible assumption | with_reducible apply At.put0 | with_reducible apply At.put1 | with_reducible refine At.far ?_ (by dsimp only; omega) _ | with_reducible apply At.al | with_reducible apply At.drw | with_reducible apply At.dr)) hb5
  replace k_y : At v5 (g_y) 59 #[.int .u64 0, .int .u64 (dl : Int)] := At.bel (by repeat (first | with_reducible assumption | with_reducible apply At.put0 | with_reducible apply At.put1 | with_reducible refine At.far ?_ (by dsimp only; omega) _ | with_reducible apply At.al | with_reducible apply At.drw | with_reducible apply At.dr)) hb5
  replace HB : Below w.heap.size w v5 := below_then (by repeat (first | with_reducible assumption | with_reducible exact Below.refl _ _ | with_reducible refine below_al ?_ _ | with_reducible refine below_drew ?_ | with_reducible refine below_drewN ?_ _ | with_reducible refine below_set ?_ (by dsimp only; omega) _)) hb5
  clear hb5
  have Lk_o := k_o.lt
  obtain ⟨k_o0, k_o1, k_o2, k_o3⟩ := k_o.two
  go_wp2_with fail
  exact bodyPost_ret (v := frv (s false)) (by simp [results, Tryd.results13, go_sem, *]) rfl ⟨rfl, (by repeat (first | with_reducible assumption | with_reducible exact Below.refl _ _ | with_reducible refine below_al ?_ _ | with_reducible refine below_drew ?_ | with_reducible refine below_drewN ?_ _ | with_reducible refine below_set ?_ (by dsimp only; omega) _))⟩

def rmulS (an ad bn bd : Int) : Int × Int × Int := if fracB an ad && fracB bn bd then redS (decide (an < 0) != decide (bn < 0)) (an.natAbs * bn.natAbs) (ad.natAbs * bd.natAbs) else (0, 0, 1)
theorem div_cast (a b : Nat) : (a : Int) / (b : Int) = ((a / b : Nat) : Int) := by simp
set_option maxRecDepth 100000 in
theorem ratiomul_ok (an bn : Int) (p q : Nat) (h1 : fracB an p = true) (h2 : fracB bn q = true) (w : World) :
    Calls Tryd.prog 13 #[.agg #[.int .i64 an, .int .i64 (p : Int)], .agg #[.int .i64 bn, .int .i64 (q : Int)]] w fun e w' => e = .returned (frv (redS (decide (an < 0) != decide (bn < 0)) (an.natAbs * bn.natAbs) (p * q))) ∧ Below w.heap.size w w' := by
  have g1 := fracB_iff.1 h1
  have g2 := fracB_iff.1 h2
  have HV1 : Hid (∀ w, Calls Tryd.prog 15 #[.agg #[.int .i64 an, .int .i64 (p : Int)]] w fun e w' => e = .returned (.bool true) ∧ Below w.heap.size w w') := Lib.hid (fun w => by have := fvalid_any an p w; rw [h1] at this; exact this)
  have HV2 : Hid (∀ w, Calls Tryd.prog 15 #[.agg #[.int .i64 bn, .int .i64 (q : Int)]] w fun e w' => e = .returned (.bool true) ∧ Below w.heap.size w w') := Lib.hid (fun w => by have := fvalid_any bn q w; rw [h2] at this; exact this)
  have HX := hid_same (fun w => rsize_any an (by omega) w)
  have HY := hid_same (fun w => rsize_any bn (by omega) w)
  have x1 : an.natAbs ≤ 1152921504606846976 := by omega
  have y1 : bn.natAbs ≤ 1152921504606846976 := by omega
  have p0 : 0 < p := by omega
  have q0 : 0 < q := by omega
  have p1 : p ≤ 1152921504606846976 := by omega
  have q1 : q ≤ 1152921504606846976 := by omega
  have cp := g1.2.2.2.2
  have cq := g2.2.2.2.2
  simp only [Int.natAbs_natCast] at cp cq
  clear g1 g2 h1 h2
  generalize an.natAbs = x at *
  generalize bn.natAbs = y at *
  obtain ⟨m1, m2⟩ := mul_red p0 q0 cp cq
  unfold redS
  rw [m1, m2]
  have hg : 0 < Nat.gcd x q := Nat.gcd_pos_of_pos_right _ q0
  have hh : 0 < Nat.gcd y p := Nat.gcd_pos_of_pos_right _ p0
  have HG := hid_drawn (fun w => gcd_any x q (by omega) (by omega) w)
  have HH := hid_drawn (fun w => gcd_any y p (by omega) (by omega) w)
  have a1 : x / Nat.gcd x q ≤ x := Nat.div_le_self _ _
  have a2 : y / Nat.gcd y p ≤ y := Nat.div_le_self _ _
  have a3 : p / Nat.gcd y p ≤ p := Nat.div_le_self _ _
  have a4 : q / Nat.gcd x q ≤ q := Nat.div_le_self _ _
  have e1 := div_cast x (Nat.gcd x q)
  have e2 := div_cast y (Nat.gcd y p)
  have e3 := div_cast p (Nat.gcd y p)
  have e4 := div_cast q (Nat.gcd x q)
  clear m1 m2 cp cq
  generalize Nat.gcd x q = g at *
  generalize Nat.gcd y p = h at *
  generalize x / g = N1 at *
  generalize y / h = N2 at *
  generalize p / h = D1 at *
  generalize q / g = D2 at *
  have HP := Lib.hid (fun w => product_any N1 N2 (by omega) (by omega) w)
  have HQ := Lib.hid (fun w => product_any D1 D2 (by omega) (by omega) w)
  have n1 := hilo (N1 * N2)
  have n2 := loN_lt (N1 * N2)
  have n3 := hilo (D1 * D2)
  have n4 := loN_lt (D1 * D2)
  generalize N1 * N2 = N at *
  generalize D1 * D2 = D at *
  generalize hiN N = nh at *
  generalize loN N = nl at *
  generalize hiN D = dh at *
  generalize loN D = dl at *
  have HS : Hid (∀ b w, Calls Tryd.prog 47 #[.bool b, .int .u64 (nl : Int), .int .u64 (dl : Int)] w fun e w' => e = .returned (frv (sgnS b nl dl)) ∧ Below w.heap.size w w') := Lib.hid (fun b w => signed_any b nl dl n2 n4 w)
  have w1 : ∀ k : Nat, k ≤ 1152921504606846976 → IntKind.u64.wrap (k : Int) = (k : Int) := fun k hk => by rw [IntKind.wrap_u64]; omega
  by_cases c1 : (0 : Int) < (nh : Int)
  · rw [show sgnS (decide (an < 0) != decide (bn < 0)) N D = (0, 0, 5) from by unfold sgnS; rw [if_neg (by omega)]]
    exact ratiomul_big1 an bn x p y q g h N1 N2 D1 D2 nh nl dh dl (fun b => sgnS b nl dl) p1 q1 (by omega) (by omega) e1 (w1 _ (by omega)) e2 (w1 _ (by omega)) e3 (w1 _ (by omega)) e4 (w1 _ (by omega)) (w1 _ p1) (w1 _ q1) (by simp; omega) (by simp; omega) (by omega) (by omega) c1 HV1 HV2 HX HY HG HH HP HQ HS w
  · by_cases c2 : (0 : Int) < (dh : Int)
    · rw [show sgnS (decide (an < 0) != decide (bn < 0)) N D = (0, 0, 5) from by unfold sgnS; rw [if_neg (by omega)]]
      exact ratiomul_big2 an bn x p y q g h N1 N2 D1 D2 nh nl dh dl (fun b => sgnS b nl dl) p1 q1 (by omega) (by omega) e1 (w1 _ (by omega)) e2 (w1 _ (by omega)) e3 (w1 _ (by omega)) e4 (w1 _ (by omega)) (w1 _ p1) (w1 _ q1) (by simp; omega) (by simp; omega) (by omega) (by omega) c1 c2 HV1 HV2 HX HY HG HH HP HQ HS w
    · obtain rfl : nh = 0 := by omega
      obtain rfl : dh = 0 := by omega
      obtain rfl : N = nl := by omega
      obtain rfl : D = dl := by omega
      by_cases c3 : (0 : Int) < (N : Int)
      · exact ratiomul_pos an bn x p y q g h N1 N2 D1 D2 0 N 0 D (fun b => sgnS b N D) p1 q1 (by omega) (by omega) e1 (w1 _ (by omega)) e2 (w1 _ (by omega)) e3 (w1 _ (by omega)) e4 (w1 _ (by omega)) (w1 _ p1) (w1 _ q1) (by simp; omega) (by simp; omega) (by omega) (by omega) c3 HV1 HV2 HX HY HG HH HP HQ HS w
      · have hn0 : N = 0 := by omega
        rw [show sgnS (decide (an < 0) != decide (bn < 0)) N D = sgnS false N D from by rw [hn0]; exact sgnS_zero _ _]
        exact ratiomul_nil an bn x p y q g h N1 N2 D1 D2 0 N 0 D (fun b => sgnS b N D) p1 q1 (by omega) (by omega) e1 (w1 _ (by omega)) e2 (w1 _ (by omega)) e3 (w1 _ (by omega)) e4 (w1 _ (by omega)) (w1 _ p1) (w1 _ q1) (by simp; omega) (by simp; omega) (by omega) (by omega) c3 HV1 HV2 HX HY HG HH HP HQ HS w

set_option maxRecDepth 100000 in
theorem ratiomul_bad1 (an ad bn bd : Int) 
    (HV1 : Hid (∀ w, Calls Tryd.prog 15 #[.agg #[.int .i64 an, .int .i64 ad]] w fun e w' => e = .returned (.bool false) ∧ Below w.heap.size w w')) (w : World) :
    Calls Tryd.prog 13 #[.agg #[.int .i64 an, .int .i64 ad], .agg #[.int .i64 bn, .int .i64 bd]] w fun e w' => e = .returned (frv (0, 0, 1)) ∧ Below w.heap.size w w' := by
  go_enter Tryd.func13, Tryd.ntmps13
  go_wp2_with fail
  refine (HV1.out _).mono ?_
  rintro e v1 ⟨rfl, hb1⟩
  have k_a : At v1 (w.heap.size) 23 #[.int .i64 an, .int .i64 ad] := At.bel (by (repeat (first | (with_reducible apply At.new'; (focus (simp; done))) | with_reducible apply At.al | with_reducible apply At.drw | with_reducible apply At.dr))) hb1
  have k_b : At v1 (w.heap.size + 1) 23 #[.int .i64 bn, .int .i64 bd] := At.bel (by (repeat (first | (with_reducible apply At.new'; (focus (simp; done))) | with_reducible apply At.al | with_reducible apply At.drw | with_reducible apply At.dr))) hb1
  have k_o : At v1 (w.heap.size + 1 + 1) 23 #[.int .i64 0, .int .i64 0] := At.bel (by (repeat (first | (with_reducible apply At.new'; (focus (simp; done))) | with_reducible apply At.al | with_reducible apply At.drw | with_reducible apply At.dr))) hb1
  have HB : Below w.heap.size w v1 := below_then (by repeat (first | with_reducible assumption | with_reducible exact Below.refl _ _ | with_reducible refine below_al ?_ _ | with_reducible refine below_drew ?_ | with_reducible refine below_drewN ?_ _ | with_reducible refine below_set ?_ (by dsimp only; omega) _)) hb1
  clear hb1
  have Lk_a := k_a.lt
  obtain ⟨k_a0, k_a1, k_a2, k_a3⟩ := k_a.two
  have Lk_b := k_b.lt
  obtain ⟨k_b0, k_b1, k_b2, k_b3⟩ := k_b.two
  have Lk_o := k_o.lt
  obtain ⟨k_o0, k_o1, k_o2, k_o3⟩ := k_o.two
  go_wp2_with fail
  exact bodyPost_ret (v := frv (0, 0, 1)) (by simp [results, Tryd.results13, go_sem, *]) rfl ⟨rfl, (by repeat (first | with_reducible assumption | with_reducible exact Below.refl _ _ | with_reducible refine below_al ?_ _ | with_reducible refine below_drew ?_ | with_reducible refine below_drewN ?_ _ | with_reducible refine below_set ?_ (by dsimp only; omega) _))⟩
set_option maxRecDepth 100000 in
theorem ratiomul_bad2 (an ad bn bd : Int) 
    (HV1 : Hid (∀ w, Calls Tryd.prog 15 #[.agg #[.int .i64 an, .int .i64 ad]] w fun e w' => e = .returned (.bool true) ∧ Below w.heap.size w w'))
    (HV2 : Hid (∀ w, Calls Tryd.prog 15 #[.agg #[.int .i64 bn, .int .i64 bd]] w fun e w' => e = .returned (.bool false) ∧ Below w.heap.size w w')) (w : World) :
    Calls Tryd.prog 13 #[.agg #[.int .i64 an, .int .i64 ad], .agg #[.int .i64 bn, .int .i64 bd]] w fun e w' => e = .returned (frv (0, 0, 1)) ∧ Below w.heap.size w w' := by
  go_enter Tryd.func13, Tryd.ntmps13
  go_wp2_with fail
  refine (HV1.out _).mono ?_
  rintro e v1 ⟨rfl, hb1⟩
  have k_a : At v1 (w.heap.size) 23 #[.int .i64 an, .int .i64 ad] := At.bel (by (repeat (first | (with_reducible apply At.new'; (focus (simp; done))) | with_reducible apply At.al | with_reducible apply At.drw | with_reducible apply At.dr))) hb1
  have k_b : At v1 (w.heap.size + 1) 23 #[.int .i64 bn, .int .i64 bd] := At.bel (by (repeat (first | (with_reducible apply At.new'; (focus (simp; done))) | with_reducible apply At.al | with_reducible apply At.drw | with_reducible apply At.dr))) hb1
  have k_o : At v1 (w.heap.size + 1 + 1) 23 #[.int .i64 0, .int .i64 0] := At.bel (by (repeat (first | (with_reducible apply At.new'; (focus (simp; done))) | with_reducible apply At.al | with_reducible apply At.drw | with_reducible apply At.dr))) hb1
  have HB : Below w.heap.size w v1 := below_then (by repeat (first | with_reducible assumption | with_reducible exact Below.refl _ _ | with_reducible refine below_al ?_ _ | with_reducible refine below_drew ?_ | with_reducible refine below_drewN ?_ _ | with_reducible refine below_set ?_ (by dsimp only; omega) _)) hb1
  clear hb1
  have Lk_a := k_a.lt
  obtain ⟨k_a0, k_a1, k_a2, k_a3⟩ := k_a.two
  have Lk_b := k_b.lt
  obtain ⟨k_b0, k_b1, k_b2, k_b3⟩ := k_b.two
  have Lk_o := k_o.lt
  obtain ⟨k_o0, k_o1, k_o2, k_o3⟩ := k_o.two
  go_wp2_with fail
  refine (HV2.out _).mono ?_
  rintro e v2 ⟨rfl, hb2⟩
  clear k_a0 k_a1 k_a2 k_a3 Lk_a k_b0 k_b1 k_b2 k_b3 Lk_b k_o0 k_o1 k_o2 k_o3 Lk_o
  replace k_a : At v2 (w.heap.size) 23 #[.int .i64 an, .int .i64 ad] := At.bel (by repeat (first | with_reducible assumption | with_reducible apply At.put0 | with_reducible apply At.put1 | with_reducible refine At.far ?_ (by dsimp only; omega) _ | with_reducible apply At.al | with_reducible apply At.drw | with_reducible apply At.dr)) hb2
  replace k_b : At v2 (w.heap.size + 1) 23 #[.int .i64 bn, .int .i64 bd] := At.bel (by repeat (first | with_reducible assumption | with_reducible apply At.put0 | with_reducible apply At.put1 | with_reducible refine At.far ?_ (by dsimp only; omega) _ | with_reducible apply At.al | with_reducible apply At.drw | with_reducible apply At.dr)) hb2
  replace k_o : At v2 (w.heap.size + 1 + 1) 23 #[.int .i64 0, .int .i64 0] := At.bel (by repeat (first | with_reducible assumption | with_reducible apply At.put0 | with_reducible apply At.put1 | with_reducible refine At.far ?_ (by dsimp only; omega) _ | with_reducible apply At.al | with_reducible apply At.drw | with_reducible apply At.dr)) hb2
  replace HB : Below w.heap.size w v2 := below_then (by repeat (first | with_reducible assumption | with_reducible exact Below.refl _ _ | with_reducible refine below_al ?_ _ | with_reducible refine below_drew ?_ | with_reducible refine below_drewN ?_ _ | with_reducible refine below_set ?_ (by dsimp only; omega) _)) hb2
  clear hb2
  have Lk_a := k_a.lt
  obtain ⟨k_a0, k_a1, k_a2, k_a3⟩ := k_a.two
  have Lk_b := k_b.lt
  obtain ⟨k_b0, k_b1, k_b2, k_b3⟩ := k_b.two
  have Lk_o := k_o.lt
  obtain ⟨k_o0, k_o1, k_o2, k_o3⟩ := k_o.two
  go_wp2_with fail
  exact bodyPost_ret (v := frv (0, 0, 1)) (by simp [results, Tryd.results13, go_sem, *]) rfl ⟨rfl, (by repeat (first | with_reducible assumption | with_reducible exact Below.refl _ _ | with_reducible refine below_al ?_ _ | with_reducible refine below_drew ?_ | with_reducible refine below_drewN ?_ _ | with_reducible refine below_set ?_ (by dsimp only; omega) _))⟩
theorem ratiomul_any (an ad bn bd : Int) (w : World) :
    Calls Tryd.prog 13 #[.agg #[.int .i64 an, .int .i64 ad], .agg #[.int .i64 bn, .int .i64 bd]] w fun e w' => e = .returned (frv (rmulS an ad bn bd)) ∧ Below w.heap.size w w' := by
  cases h1 : fracB an ad
  · rw [show rmulS an ad bn bd = (0, 0, 1) from by simp [rmulS, h1]]
    exact ratiomul_bad1 an ad bn bd (Lib.hid (fun w => by have := fvalid_any an ad w; rw [h1] at this; exact this)) w
  · cases h2 : fracB bn bd
    · rw [show rmulS an ad bn bd = (0, 0, 1) from by simp [rmulS, h2]]
      exact ratiomul_bad2 an ad bn bd (Lib.hid (fun w => by have := fvalid_any an ad w; rw [h1] at this; exact this)) (Lib.hid (fun w => by have := fvalid_any bn bd w; rw [h2] at this; exact this)) w
    · obtain ⟨p, rfl⟩ : ∃ p : Nat, ad = (p : Int) := ⟨ad.toNat, by have := (fracB_iff.1 h1).1; omega⟩
      obtain ⟨q, rfl⟩ : ∃ q : Nat, bd = (q : Int) := ⟨bd.toNat, by have := (fracB_iff.1 h2).1; omega⟩
      rw [show rmulS an p bn q = redS (decide (an < 0) != decide (bn < 0)) (an.natAbs * bn.natAbs) (p * q) from by simp [rmulS, h1, h2]]
      exact ratiomul_ok an bn p q h1 h2 w

set_option maxRecDepth 100000 in
theorem rfloor_any (n d : Int) (hn : -1152921504606846976 ≤ n ∧ n ≤ 1152921504606846976) (hd : 1 ≤ d ∧ d ≤ 1152921504606846976) (w : World) :
    Calls Tryd.prog 50 #[.int .i64 n, .int .i64 d] w fun e w' => e = .returned (.int .i64 (n / d)) ∧ w = w' := by
  have h := floor_of (n := n) (d := d) (by omega)
  have b1 : -1152921504606846976 ≤ n.tdiv d ∧ n.tdiv d ≤ 1152921504606846976 := by
    have h1 : (n.tdiv d).natAbs = n.natAbs / d.natAbs := Int.natAbs_tdiv n d
    have h2 : n.natAbs / d.natAbs ≤ n.natAbs := Nat.div_le_self _ _
    omega
  have z1 : (d == 0) = false := by simp; omega
  have z2 : ¬ d = 0 := by omega
  by_cases hm : n.tmod d < 0
  · rw [if_pos hm] at h
    rw [h]
    have e1 : IntKind.i64.wrap (n.tdiv d) = n.tdiv d := IntWalk.i64_in _ (by omega)
    have e2 : IntKind.i64.wrap (n.tdiv d - 1) = n.tdiv d - 1 := IntWalk.i64_in _ (by omega)
    clear h
    go_enter Tryd.func50, Tryd.ntmps50
    go_wp2
    go_ret
    exact ⟨rfl, rfl⟩
  · rw [if_neg hm] at h
    rw [h]
    have e1 : IntKind.i64.wrap (n.tdiv d) = n.tdiv d := IntWalk.i64_in _ (by omega)
    clear h
    go_enter Tryd.func50, Tryd.ntmps50
    go_wp2
    go_ret
    exact ⟨rfl, rfl⟩

set_option maxRecDepth 100000 in
theorem rFloor_any (an ad : Int) (h : fracB an ad = true) (w : World) :
    Calls Tryd.prog 19 #[.agg #[.int .i64 an, .int .i64 ad]] w fun e w' => e = .returned (.tuple #[.int .i64 (an / ad), .int .i64 0]) ∧ Below w.heap.size w w' := by
  have HV : Hid (∀ w, Calls Tryd.prog 15 #[.agg #[.int .i64 an, .int .i64 ad]] w fun e w' => e = .returned (.bool true) ∧ Below w.heap.size w w') := Lib.hid (fun w => by have := fvalid_any an ad w; rw [h] at this; exact this)
  have g := fracB_iff.1 h
  have HF := hid_same (fun w => rfloor_any an ad (by omega) (by omega) w)
  have b : -1152921504606846976 ≤ an / ad ∧ an / ad ≤ 1152921504606846976 := by
    have := Int.natAbs_ediv_le_natAbs an ad
    omega
  clear g h
  go_enter Tryd.func19, Tryd.ntmps19
  go_wp2_with fail
  refine (HV.out _).mono ?_
  rintro e v1 ⟨rfl, hb1⟩
  have k_a : At v1 (w.heap.size) 23 #[.int .i64 an, .int .i64 ad] := At.bel (by (repeat (first | (with_reducible apply At.new'; (focus (simp; done))) | with_reducible apply At.al | with_reducible apply At.drw | with_reducible apply At.dr))) hb1
  have HB : Below w.heap.size w v1 := below_then (by repeat (first | with_reducible assumption | with_reducible exact Below.refl _ _ | with_reducible refine below_al ?_ _ | with_reducible refine below_drew ?_ | with_reducible refine below_drewN ?_ _ | with_reducible refine below_set ?_ (by dsimp only; omega) _)) hb1
  clear hb1
  have Lk_a := k_a.lt
  obtain ⟨k_a0, k_a1, k_a2, k_a3⟩ := k_a.two
  go_wp2_with fail
  refine (HF.out _).mono ?_
  rintro e v2 ⟨rfl, hb2⟩
  clear k_a0 k_a1 k_a2 k_a3 Lk_a
  replace k_a : At v2 (w.heap.size) 23 #[.int .i64 an, .int .i64 ad] := At.bel (by repeat (first | with_reducible assumption | with_reducible apply At.put0 | with_reducible apply At.put1 | with_reducible refine At.far ?_ (by dsimp only; omega) _ | with_reducible apply At.al | with_reducible apply At.drw | with_reducible apply At.dr)) hb2
  replace HB : Below w.heap.size w v2 := below_then (by repeat (first | with_reducible assumption | with_reducible exact Below.refl _ _ | with_reducible refine below_al ?_ _ | with_reducible refine below_drew ?_ | with_reducible refine below_drewN ?_ _ | with_reducible refine below_set ?_ (by dsimp only; omega) _)) hb2
  clear hb2
  have Lk_a := k_a.lt
  obtain ⟨k_a0, k_a1, k_a2, k_a3⟩ := k_a.two
  go_wp2_with fail
  go_ret2
  exact ⟨rfl, (by repeat (first | with_reducible assumption | with_reducible exact Below.refl _ _ | with_reducible refine below_al ?_ _ | with_reducible refine below_drew ?_ | with_reducible refine below_drewN ?_ _ | with_reducible refine below_set ?_ (by dsimp only; omega) _))⟩
set_option maxRecDepth 100000 in
theorem rFloor_bad (an ad : Int) (h : fracB an ad = false) (w : World) :
    Calls Tryd.prog 19 #[.agg #[.int .i64 an, .int .i64 ad]] w fun e w' => e = .returned (.tuple #[.int .i64 0, .int .i64 1]) ∧ Below w.heap.size w w' := by
  have HV : Hid (∀ w, Calls Tryd.prog 15 #[.agg #[.int .i64 an, .int .i64 ad]] w fun e w' => e = .returned (.bool false) ∧ Below w.heap.size w w') := Lib.hid (fun w => by have := fvalid_any an ad w; rw [h] at this; exact this)
  clear h
  go_enter Tryd.func19, Tryd.ntmps19
  go_wp2_with fail
  refine (HV.out _).mono ?_
  rintro e v1 ⟨rfl, hb1⟩
  have k_a : At v1 (w.heap.size) 23 #[.int .i64 an, .int .i64 ad] := At.bel (by (repeat (first | (with_reducible apply At.new'; (focus (simp; done))) | with_reducible apply At.al | with_reducible apply At.drw | with_reducible apply At.dr))) hb1
  have HB : Below w.heap.size w v1 := below_then (by repeat (first | with_reducible assumption | with_reducible exact Below.refl _ _ | with_reducible refine below_al ?_ _ | with_reducible refine below_drew ?_ | with_reducible refine below_drewN ?_ _ | with_reducible refine below_set ?_ (by dsimp only; omega) _)) hb1
  clear hb1
  have Lk_a := k_a.lt
  obtain ⟨k_a0, k_a1, k_a2, k_a3⟩ := k_a.two
  go_wp2_with fail
  go_ret2
  exact ⟨rfl, (by repeat (first | with_reducible assumption | with_reducible exact Below.refl _ _ | with_reducible refine below_al ?_ _ | with_reducible refine below_drew ?_ | with_reducible refine below_drewN ?_ _ | with_reducible refine below_set ?_ (by dsimp only; omega) _))⟩

set_option maxRecDepth 100000 in
theorem rCeil_any (an ad : Int) (h : fracB an ad = true) (w : World) :
    Calls Tryd.prog 20 #[.agg #[.int .i64 an, .int .i64 ad]] w fun e w' => e = .returned (.tuple #[.int .i64 (-(-an / ad)), .int .i64 0]) ∧ Below w.heap.size w w' := by
  have HV : Hid (∀ w, Calls Tryd.prog 15 #[.agg #[.int .i64 an, .int .i64 ad]] w fun e w' => e = .returned (.bool true) ∧ Below w.heap.size w w') := Lib.hid (fun w => by have := fvalid_any an ad w; rw [h] at this; exact this)
  have g := fracB_iff.1 h
  have HF := hid_same (fun w => rfloor_any (-an) ad (by omega) (by omega) w)
  have b : -1152921504606846976 ≤ (-an) / ad ∧ (-an) / ad ≤ 1152921504606846976 := by
    have := Int.natAbs_ediv_le_natAbs (-an) ad
    omega
  have e1 : IntKind.i64.wrap (-an) = -an := IntWalk.i64_in _ (by omega)
  have e2 : IntKind.i64.wrap (-(-an / ad)) = -(-an / ad) := IntWalk.i64_in _ (by omega)
  clear g h
  go_enter Tryd.func20, Tryd.ntmps20
  go_wp2_with fail
  refine (HV.out _).mono ?_
  rintro e v1 ⟨rfl, hb1⟩
  have k_a : At v1 (w.heap.size) 23 #[.int .i64 an, .int .i64 ad] := At.bel (by (repeat (first | (with_reducible apply At.new'; (focus (simp; done))) | with_reducible apply At.al | with_reducible apply At.drw | with_reducible apply At.dr))) hb1
  have HB : Below w.heap.size w v1 := below_then (by repeat (first | with_reducible assumption | with_reducible exact Below.refl _ _ | with_reducible refine below_al ?_ _ | with_reducible refine below_drew ?_ | with_reducible refine below_drewN ?_ _ | with_reducible refine below_set ?_ (by dsimp only; omega) _)) hb1
  clear hb1
  have Lk_a := k_a.lt
  obtain ⟨k_a0, k_a1, k_a2, k_a3⟩ := k_a.two
  go_wp2_with fail
  refine (HF.out _).mono ?_
  rintro e v2 ⟨rfl, hb2⟩
  clear k_a0 k_a1 k_a2 k_a3 Lk_a
  replace k_a : At v2 (w.heap.size) 23 #[.int .i64 an, .int .i64 ad] := At.bel (by repeat (first | with_reducible assumption | with_reducible apply At.put0 | with_reducible apply At.put1 | with_reducible refine At.far ?_ (by dsimp only; omega) _ | with_reducible apply At.al | with_reducible apply At.drw | with_reducible apply At.dr)) hb2
  replace HB : Below w.heap.size w v2 := below_then (by repeat (first | with_reducible assumption | with_reducible exact Below.refl _ _ | with_reducible refine below_al ?_ _ | with_reducible refine below_drew ?_ | with_reducible refine below_drewN ?_ _ | with_reducible refine below_set ?_ (by dsimp only; omega) _)) hb2
  clear hb2
  have Lk_a := k_a.lt
  obtain ⟨k_a0, k_a1, k_a2, k_a3⟩ := k_a.two
  go_wp2_with fail
  go_ret2
  exact ⟨rfl, (by repeat (first | with_reducible assumption | with_reducible exact Below.refl _ _ | with_reducible refine below_al ?_ _ | with_reducible refine below_drew ?_ | with_reducible refine below_drewN ?_ _ | with_reducible refine below_set ?_ (by dsimp only; omega) _))⟩
set_option maxRecDepth 100000 in
theorem rCeil_bad (an ad : Int) (h : fracB an ad = false) (w : World) :
    Calls Tryd.prog 20 #[.agg #[.int .i64 an, .int .i64 ad]] w fun e w' => e = .returned (.tuple #[.int .i64 0, .int .i64 1]) ∧ Below w.heap.size w w' := by
  have HV : Hid (∀ w, Calls Tryd.prog 15 #[.agg #[.int .i64 an, .int .i64 ad]] w fun e w' => e = .returned (.bool false) ∧ Below w.heap.size w w') := Lib.hid (fun w => by have := fvalid_any an ad w; rw [h] at this; exact this)
  clear h
  go_enter Tryd.func20, Tryd.ntmps20
  go_wp2_with fail
  refine (HV.out _).mono ?_
  rintro e v1 ⟨rfl, hb1⟩
  have k_a : At v1 (w.heap.size) 23 #[.int .i64 an, .int .i64 ad] := At.bel (by (repeat (first | (with_reducible apply At.new'; (focus (simp; done))) | with_reducible apply At.al | with_reducible apply At.drw | with_reducible apply At.dr))) hb1
  have HB : Below w.heap.size w v1 := below_then (by repeat (first | with_reducible assumption | with_reducible exact Below.refl _ _ | with_reducible refine below_al ?_ _ | with_reducible refine below_drew ?_ | with_reducible refine below_drewN ?_ _ | with_reducible refine below_set ?_ (by dsimp only; omega) _)) hb1
  clear hb1
  have Lk_a := k_a.lt
  obtain ⟨k_a0, k_a1, k_a2, k_a3⟩ := k_a.two
  go_wp2_with fail
  go_ret2
  exact ⟨rfl, (by repeat (first | with_reducible assumption | with_reducible exact Below.refl _ _ | with_reducible refine below_al ?_ _ | with_reducible refine below_drew ?_ | with_reducible refine below_drewN ?_ _ | with_reducible refine below_set ?_ (by dsimp only; omega) _))⟩

#print axioms rCeil_any

end Go.Proofs.YtpijmjffobkalaaDoor
