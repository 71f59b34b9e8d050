/- ratio.Add: its walk. -/
import Derived.Test.YtpijmjffobkalaaDoorRaW
import Derived.Test.YtpijmjffobkalaaDoorGcd
import Derived.Deep.DeepCutAuto
import Derived.Deep.CutBlock
set_option linter.unusedVariables false
namespace Go.Proofs.YtpijmjffobkalaaDoor
open Go.ChangeShapes Go.WideShapes Go.ChangeAt Go.RowKit

set_option maxRecDepth 100000 in
set_option maxHeartbeats 16000000 in
theorem radd_core (an bn : Int) (neg : Bool) (x y p q g P1 Q1 X Y N R Cc K Q2 D : Nat) (r : Int × Int × Int) (bp : p ≤ 1152921504606846976) (bq : q ≤ 1152921504606846976) (bg : (1 : Int) ≤ (g : Int)) (bc : (1 : Int) ≤ (Cc : Int)) (e1 : (p : Int) / (g : Int) = (P1 : Int)) (e1w : IntKind.u64.wrap (P1 : Int) = (P1 : Int)) (e2 : (q : Int) / (g : Int) = (Q1 : Int)) (e2w : IntKind.u64.wrap (Q1 : Int) = (Q1 : Int)) (e3 : (q : Int) / (Cc : Int) = (Q2 : Int)) (e3w : IntKind.u64.wrap (Q2 : Int) = (Q2 : Int)) (e5 : IntKind.u64.wrap (p : Int) = (p : Int)) (e6 : IntKind.u64.wrap (q : Int) = (q : Int)) (z1 : ((g : Int) == 0) = false) (z2 : ((Cc : Int) == 0) = false) (z3 : ¬ (g : Int) = 0) (z4 : ¬ (Cc : Int) = 0)
    (HV1 : Hid (∀ w, Calls Tryd.prog 15 #[.agg #[.int .i64 an, .int .i64 (p : Int)]] w fun e w' => e = .returned (.bool true) ∧ Below w.heap.size w w'))
    (HV2 : Hid (∀ w, Calls Tryd.prog 15 #[.agg #[.int .i64 bn, .int .i64 (q : Int)]] w fun e w' => e = .returned (.bool true) ∧ Below w.heap.size w w'))
    (HG : Hid (∀ w, Calls Tryd.prog 40 #[.int .u64 (p : Int), .int .u64 (q : Int)] w fun e w' => e = .returned (.int .u64 (g : Int)) ∧ Below w.heap.size w w'))
    (HX : Hid (∀ w, Calls Tryd.prog 42 #[.int .i64 an] w fun e w' => e = .returned (.int .u64 (x : Int)) ∧ Below w.heap.size w w'))
    (HY : Hid (∀ w, Calls Tryd.prog 42 #[.int .i64 bn] w fun e w' => e = .returned (.int .u64 (y : Int)) ∧ Below w.heap.size w w'))
    (HP : Hid (∀ w, Calls Tryd.prog 41 #[.int .u64 (x : Int), .int .u64 (Q1 : Int)] w fun e w' => e = .returned (uv X) ∧ Below w.heap.size w w'))
    (HQ : Hid (∀ w, Calls Tryd.prog 41 #[.int .u64 (y : Int), .int .u64 (P1 : Int)] w fun e w' => e = .returned (uv Y) ∧ Below w.heap.size w w'))
    (HN : Hid ((decide (an < 0) == decide (bn < 0)) = true ∧ (∀ w, Calls Tryd.prog 43 #[uv X, uv Y] w fun e w' => e = .returned (uv N) ∧ Below w.heap.size w w') ∧ neg = decide (an < 0) ∨ (decide (an < 0) == decide (bn < 0)) = false ∧ (∀ w, Calls Tryd.prog 44 #[uv X, uv Y] w fun e w' => e = .returned (.bool true) ∧ Below w.heap.size w w') ∧ (∀ w, Calls Tryd.prog 45 #[uv Y, uv X] w fun e w' => e = .returned (uv N) ∧ Below w.heap.size w w') ∧ neg = (!decide (an < 0)) ∨ (decide (an < 0) == decide (bn < 0)) = false ∧ (∀ w, Calls Tryd.prog 44 #[uv X, uv Y] w fun e w' => e = .returned (.bool false) ∧ Below w.heap.size w w') ∧ (∀ w, Calls Tryd.prog 45 #[uv X, uv Y] w fun e w' => e = .returned (uv N) ∧ Below w.heap.size w w') ∧ neg = decide (an < 0)))
    (HO1 : Hid (∀ w, Calls Tryd.prog 46 #[uv N, .int .u64 (g : Int)] w fun e w' => e = .returned (.tuple #[uv (N / g), .int .u64 (R : Int)]) ∧ Below w.heap.size w w'))
    (HC : Hid (∀ w, Calls Tryd.prog 40 #[.int .u64 (g : Int), .int .u64 (R : Int)] w fun e w' => e = .returned (.int .u64 (Cc : Int)) ∧ Below w.heap.size w w'))
    (HO2 : Hid (∀ w, Calls Tryd.prog 46 #[uv N, .int .u64 (Cc : Int)] w fun e w' => e = .returned (.tuple #[uv K, .int .u64 ((N % Cc : Nat) : Int)]) ∧ Below w.heap.size w w'))
    (HD : Hid (∀ w, Calls Tryd.prog 41 #[.int .u64 (P1 : Int), .int .u64 (Q2 : Int)] w fun e w' => e = .returned (uv D) ∧ Below w.heap.size w w'))
    (HS : Hid (∀ w, Calls Tryd.prog 47 #[.bool neg, .int .u64 (loN K : Int), .int .u64 (loN D : Int)] w fun e w' => e = .returned (frv (sgnS neg (loN K) (loN D))) ∧ Below w.heap.size w w'))
    (HR : Hid (N = 0 ∧ r = (0, 1, 0) ∨ 0 < N ∧ (((0 : Int) < (hiN K : Int) ∨ (0 : Int) < (hiN D : Int)) ∧ r = (0, 0, 5) ∨ ¬ (0 : Int) < (hiN K : Int) ∧ ¬ (0 : Int) < (hiN D : Int) ∧ r = sgnS neg (loN K) (loN D)))) (w : World) :
    Calls Tryd.prog 12 #[.agg #[.int .i64 an, .int .i64 (p : Int)], .agg #[.int .i64 bn, .int .i64 (q : Int)]] w fun e w' => e = .returned (frv r) ∧ Below w.heap.size w w' := by
  go_enter Tryd.func12, Tryd.ntmps12
  go_wp2_with fail
  refine (HV1.out _).mono ?_
  rintro e v1 ⟨rfl, hb1⟩
  have k_a : At v1 (w.heap.size) 23 #[.int .i64 an, .int .i64 (p : Int)] := At.bel (by (repeat (first | (with_reducible apply At.new'; (focus (simp; done))) | with_reducible apply At.al | with_reducible apply At.drw | with_reducible apply At.dr))) hb1
  have k_b : At v1 (w.heap.size + 1) 23 #[.int .i64 bn, .int .i64 (q : Int)] := At.bel (by (repeat (first | (with_reducible apply At.new'; (focus (simp; done))) | with_reducible apply At.al | with_reducible apply At.drw | with_reducible apply At.dr))) hb1
  have k_o : At v1 (w.heap.size + 1 + 1) 23 #[.int .i64 0, .int .i64 0] := At.bel (by (repeat (first | (with_reducible apply At.new'; (focus (simp; done))) | with_reducible apply At.al | with_reducible apply At.drw | with_reducible apply At.dr))) hb1
  have HB : Below w.heap.size w v1 := below_then (by repeat (first | with_reducible assumption | with_reducible exact Below.refl _ _ | with_reducible refine below_al ?_ _ | with_reducible refine below_drew ?_ | with_reducible refine below_drewN ?_ _ | with_reducible refine below_set ?_ (by dsimp only; omega) _)) hb1
  clear hb1
  have Lk_a := k_a.lt
  obtain ⟨k_a0, k_a1, k_a2, k_a3⟩ := k_a.two
  have Lk_b := k_b.lt
  obtain ⟨k_b0, k_b1, k_b2, k_b3⟩ := k_b.two
  have Lk_o := k_o.lt
  obtain ⟨k_o0, k_o1, k_o2, k_o3⟩ := k_o.two
  go_wp2_with fail
  refine (HV2.out _).mono ?_
  rintro e v2 ⟨rfl, hb2⟩
  clear k_a0 k_a1 k_a2 k_a3 Lk_a k_b0 k_b1 k_b2 k_b3 Lk_b k_o0 k_o1 k_o2 k_o3 Lk_o
  replace k_a : At v2 (w.heap.size) 23 #[.int .i64 an, .int .i64 (p : Int)] := At.bel (by repeat (first | with_reducible assumption | with_reducible apply At.put0 | with_reducible apply At.put1 | with_reducible refine At.far ?_ (by dsimp only; omega) _ | with_reducible apply At.al | with_reducible apply At.drw | with_reducible apply At.dr)) hb2
  replace k_b : At v2 (w.heap.size + 1) 23 #[.int .i64 bn, .int .i64 (q : Int)] := At.bel (by repeat (first | with_reducible assumption | with_reducible apply At.put0 | with_reducible apply At.put1 | with_reducible refine At.far ?_ (by dsimp only; omega) _ | with_reducible apply At.al | with_reducible apply At.drw | with_reducible apply At.dr)) hb2
  replace k_o : At v2 (w.heap.size + 1 + 1) 23 #[.int .i64 0, .int .i64 0] := At.bel (by repeat (first | with_reducible assumption | with_reducible apply At.put0 | with_reducible apply At.put1 | with_reducible refine At.far ?_ (by dsimp only; omega) _ | with_reducible apply At.al | with_reducible apply At.drw | with_reducible apply At.dr)) hb2
  replace HB : Below w.heap.size w v2 := below_then (by repeat (first | with_reducible assumption | with_reducible exact Below.refl _ _ | with_reducible refine below_al ?_ _ | with_reducible refine below_drew ?_ | with_reducible refine below_drewN ?_ _ | with_reducible refine below_set ?_ (by dsimp only; omega) _)) hb2
  clear hb2
  have Lk_a := k_a.lt
  obtain ⟨k_a0, k_a1, k_a2, k_a3⟩ := k_a.two
  have Lk_b := k_b.lt
  obtain ⟨k_b0, k_b1, k_b2, k_b3⟩ := k_b.two
  have Lk_o := k_o.lt
  obtain ⟨k_o0, k_o1, k_o2, k_o3⟩ := k_o.two
  go_wp2_with fail
  refine (HG.out _).mono ?_
  rintro e v3 ⟨rfl, hb3⟩
  clear k_a0 k_a1 k_a2 k_a3 Lk_a k_b0 k_b1 k_b2 k_b3 Lk_b k_o0 k_o1 k_o2 k_o3 Lk_o
  replace k_a : At v3 (w.heap.size) 23 #[.int .i64 an, .int .i64 (p : Int)] := At.bel (by repeat (first | with_reducible assumption | with_reducible apply At.put0 | with_reducible apply At.put1 | with_reducible refine At.far ?_ (by dsimp only; omega) _ | with_reducible apply At.al | with_reducible apply At.drw | with_reducible apply At.dr)) hb3
  replace k_b : At v3 (w.heap.size + 1) 23 #[.int .i64 bn, .int .i64 (q : Int)] := At.bel (by repeat (first | with_reducible assumption | with_reducible apply At.put0 | with_reducible apply At.put1 | with_reducible refine At.far ?_ (by dsimp only; omega) _ | with_reducible apply At.al | with_reducible apply At.drw | with_reducible apply At.dr)) hb3
  replace k_o : At v3 (w.heap.size + 1 + 1) 23 #[.int .i64 0, .int .i64 0] := At.bel (by repeat (first | with_reducible assumption | with_reducible apply At.put0 | with_reducible apply At.put1 | with_reducible refine At.far ?_ (by dsimp only; omega) _ | with_reducible apply At.al | with_reducible apply At.drw | with_reducible apply At.dr)) hb3
  replace HB : Below w.heap.size w v3 := below_then (by repeat (first | with_reducible assumption | with_reducible exact Below.refl _ _ | with_reducible refine below_al ?_ _ | with_reducible refine below_drew ?_ | with_reducible refine below_drewN ?_ _ | with_reducible refine below_set ?_ (by dsimp only; omega) _)) hb3
  clear hb3
  have Lk_a := k_a.lt
  obtain ⟨k_a0, k_a1, k_a2, k_a3⟩ := k_a.two
  have Lk_b := k_b.lt
  obtain ⟨k_b0, k_b1, k_b2, k_b3⟩ := k_b.two
  have Lk_o := k_o.lt
  obtain ⟨k_o0, k_o1, k_o2, k_o3⟩ := k_o.two
  go_wp2_with fail
  clear k_a0 k_a1 k_a2 k_a3 Lk_a k_b0 k_b1 k_b2 k_b3 Lk_b k_o0 k_o1 k_o2 k_o3 Lk_o
  refine wp_only ?_
  refine wp_region_grow2 18 (by kernel_rfl) (o1 := _) (o2 := _) (d1 := 7) (t1 := 59) (z1 := #[.int .u64 0, .int .u64 0]) (d2 := 8) (t2 := 59) (z2 := #[.int .u64 0, .int .u64 0]) rfl rfl ⟨rfl, rfl, fun _ _ => by rfl⟩ ⟨rfl, rfl, fun _ _ => by rfl⟩ (by decide) (by kernel_rfl) only_panic ?_
  apply Exists.intro
  refine And.intro (fun W' hW' => ?_) ?_
  focus
    have Kk_a := At.bel (show At _ (w.heap.size) 23 #[.int .i64 an, .int .i64 (p : Int)] from (by repeat (first | with_reducible assumption | with_reducible apply At.put0 | with_reducible apply At.put1 | with_reducible refine At.far ?_ (by dsimp only; omega) _ | with_reducible apply At.al | with_reducible apply At.drw | with_reducible apply At.dr))) hW'
    have Kk_a0 := cell_regrown Kk_a.c0
    have Kk_a1 := cell_regrown Kk_a.c1
    have Kk_b := At.bel (show At _ (w.heap.size + 1) 23 #[.int .i64 bn, .int .i64 (q : Int)] from (by repeat (first | with_reducible assumption | with_reducible apply At.put0 | with_reducible apply At.put1 | with_reducible refine At.far ?_ (by dsimp only; omega) _ | with_reducible apply At.al | with_reducible apply At.drw | with_reducible apply At.dr))) hW'
    have Kk_b0 := cell_regrown Kk_b.c0
    have Kk_b1 := cell_regrown Kk_b.c1
    have Kk_o := At.bel (show At _ (w.heap.size + 1 + 1) 23 #[.int .i64 0, .int .i64 0] from (by repeat (first | with_reducible assumption | with_reducible apply At.put0 | with_reducible apply At.put1 | with_reducible refine At.far ?_ (by dsimp only; omega) _ | with_reducible apply At.al | with_reducible apply At.drw | with_reducible apply At.dr))) hW'
    have Kk_o0 := cell_regrown Kk_o.c0
    have Kk_o1 := cell_regrown Kk_o.c1
    simp only [List.take_succ_cons, List.take_zero]
    repeat (go_big_quiet_step ((first | with_reducible exact regrown_call HX.out | with_reducible exact regrown_call HY.out | with_reducible exact regrown_call HP.out | with_reducible exact regrown_call HQ.out)))
    exact wpQuiet_nil rfl
  intro g_x g_y v4 hb4 lb_x lb_y ne_xy k_x k_y
  have Mk_a := k_a.lt
  have Mk_b := k_b.lt
  have Mk_o := k_o.lt
  replace k_a : At v4 (w.heap.size) 23 #[.int .i64 an, .int .i64 (p : Int)] := At.bel (by repeat (first | with_reducible assumption | with_reducible apply At.put0 | with_reducible apply At.put1 | with_reducible refine At.far ?_ (by dsimp only; omega) _ | with_reducible apply At.al | with_reducible apply At.drw | with_reducible apply At.dr)) hb4
  replace k_b : At v4 (w.heap.size + 1) 23 #[.int .i64 bn, .int .i64 (q : Int)] := At.bel (by repeat (first | with_reducible assumption | with_reducible apply At.put0 | with_reducible apply At.put1 | with_reducible refine At.far ?_ (by dsimp only; omega) _ | with_reducible apply At.al | with_reducible apply At.drw | with_reducible apply At.dr)) hb4
  replace k_o : At v4 (w.heap.size + 1 + 1) 23 #[.int .i64 0, .int .i64 0] := At.bel (by repeat (first | with_reducible assumption | with_reducible apply At.put0 | with_reducible apply At.put1 | with_reducible refine At.far ?_ (by dsimp only; omega) _ | with_reducible apply At.al | with_reducible apply At.drw | with_reducible apply At.dr)) hb4
  replace HB : Below w.heap.size w v4 := below_then (by repeat (first | with_reducible assumption | with_reducible exact Below.refl _ _ | with_reducible refine below_al ?_ _ | with_reducible refine below_drew ?_ | with_reducible refine below_drewN ?_ _ | with_reducible refine below_set ?_ (by dsimp only; omega) _)) hb4
  clear hb4
  have Lk_a := k_a.lt
  obtain ⟨k_a0, k_a1, k_a2, k_a3⟩ := k_a.two
  have Lk_b := k_b.lt
  obtain ⟨k_b0, k_b1, k_b2, k_b3⟩ := k_b.two
  have Lk_o := k_o.lt
  obtain ⟨k_o0, k_o1, k_o2, k_o3⟩ := k_o.two
  simp only [List.drop_succ_cons, List.drop_zero]
  have Lk_x := k_x.lt
  obtain ⟨k_x0, k_x1, k_x2, k_x3⟩ := k_x.two
  have Lk_y := k_y.lt
  obtain ⟨k_y0, k_y1, k_y2, k_y3⟩ := k_y.two
  have O4k_a := k_a.lt
  have O4k_b := k_b.lt
  have O4k_o := k_o.lt
  have O4k_x := k_x.lt
  have O4k_y := k_y.lt
  go_upto_block 0 with fail
  go_cut [9] (fun s9 wc => s9 = .bool neg ∧ Below w.heap.size w wc ∧ At wc (w.heap.size) 23 #[.int .i64 an, .int .i64 (p : Int)] ∧ At wc (w.heap.size + 1) 23 #[.int .i64 bn, .int .i64 (q : Int)] ∧ At wc (w.heap.size + 1 + 1) 23 #[.int .i64 0, .int .i64 0] ∧ At wc (g_x) 59 #[.int .u64 (hiN X : Int), .int .u64 (loN X : Int)] ∧ At wc (g_y) 59 #[.int .u64 (hiN Y : Int), .int .u64 (loN Y : Int)] ∧ At wc (v4.heap.size) 59 #[.int .u64 (hiN N : Int), .int .u64 (loN N : Int)])
  case first =>
    rcases HN.out with ⟨hs, hpl, hn⟩ | ⟨hs, hls, hmi, hn⟩ | ⟨hs, hls, hmi, hn⟩
    · have HPl := Lib.hid hpl
      have hn := Lib.hid hn
      clear hpl
      go_wp2_with fail
      refine (HPl.out _).mono ?_
      rintro e v5 ⟨rfl, hb5⟩
      clear k_a0 k_a1 k_a2 k_a3 Lk_a k_b0 k_b1 k_b2 k_b3 Lk_b k_o0 k_o1 k_o2 k_o3 Lk_o k_x0 k_x1 k_x2 k_x3 Lk_x k_y0 k_y1 k_y2 k_y3 Lk_y
      replace k_a : At v5 (w.heap.size) 23 #[.int .i64 an, .int .i64 (p : Int)] := At.bel (by repeat (first | with_reducible assumption | with_reducible apply At.put0 | with_reducible apply At.put1 | with_reducible refine At.far ?_ (by dsimp only; omega) _ | with_reducible apply At.al | with_reducible apply At.drw | with_reducible apply At.dr)) hb5
      replace k_b : At v5 (w.heap.size + 1) 23 #[.int .i64 bn, .int .i64 (q : Int)] := At.bel (by repeat (first | with_reducible assumption | with_reducible apply At.put0 | with_reducible apply At.put1 | with_reducible refine At.far ?_ (by dsimp only; omega) _ | with_reducible apply At.al | with_reducible apply At.drw | with_reducible apply At.dr)) hb5
      replace k_o : At v5 (w.heap.size + 1 + 1) 23 #[.int .i64 0, .int .i64 0] := At.bel (by repeat (first | with_reducible assumption | with_reducible apply At.put0 | with_reducible apply At.put1 | with_reducible refine At.far ?_ (by dsimp only; omega) _ | with_reducible apply At.al | with_reducible apply At.drw | with_reducible apply At.dr)) hb5
      replace k_x : At v5 (g_x) 59 #[.int .u64 (hiN X : Int), .int .u64 (loN X : Int)] := At.bel (by repeat (first | with_reducible assumption | with_reducible apply At.put0 | with_reducible apply At.put1 | with_reducible refine At.far ?_ (by dsimp only; omega) _ | with_reducible apply At.al | with_reducible apply At.drw | with_reducible apply At.dr)) hb5
      replace k_y : At v5 (g_y) 59 #[.int .u64 (hiN Y : Int), .int .u64 (loN Y : Int)] := At.bel (by repeat (first | with_reducible assumption | with_reducible apply At.put0 | with_reducible apply At.put1 | with_reducible refine At.far ?_ (by dsimp only; omega) _ | with_reducible apply At.al | with_reducible apply At.drw | with_reducible apply At.dr)) hb5
      have k_n : At v5 (v4.heap.size) 59 #[.int .u64 0, .int .u64 0] := At.bel (by (repeat (first | (with_reducible apply At.new'; (focus (simp; done))) | with_reducible apply At.al | with_reducible apply At.drw | with_reducible apply At.dr))) hb5
      replace HB : Below w.heap.size w v5 := below_then (by repeat (first | with_reducible assumption | with_reducible exact Below.refl _ _ | with_reducible refine below_al ?_ _ | with_reducible refine below_drew ?_ | with_reducible refine below_drewN ?_ _ | with_reducible refine below_set ?_ (by dsimp only; omega) _)) hb5
      clear hb5
      have Lk_x := k_x.lt
      obtain ⟨k_x0, k_x1, k_x2, k_x3⟩ := k_x.two
      have Lk_y := k_y.lt
      obtain ⟨k_y0, k_y1, k_y2, k_y3⟩ := k_y.two
      have Lk_n := k_n.lt
      obtain ⟨k_n0, k_n1, k_n2, k_n3⟩ := k_n.two
      go_wp2_with fail
      go_meet
      exact ⟨by rw [hn.out], (by repeat (first | with_reducible assumption | with_reducible exact Below.refl _ _ | with_reducible refine below_al ?_ _ | with_reducible refine below_drew ?_ | with_reducible refine below_drewN ?_ _ | with_reducible refine below_set ?_ (by dsimp only; omega) _)), (by repeat (first | with_reducible assumption | with_reducible apply At.put0 | with_reducible apply At.put1 | with_reducible refine At.far ?_ (by dsimp only; omega) _ | with_reducible apply At.al | with_reducible apply At.drw | with_reducible apply At.dr)), (by repeat (first | with_reducible assumption | with_reducible apply At.put0 | with_reducible apply At.put1 | with_reducible refine At.far ?_ (by dsimp only; omega) _ | with_reducible apply At.al | with_reducible apply At.drw | with_reducible apply At.dr)), (by repeat (first | with_reducible assumption | with_reducible apply At.put0 | with_reducible apply At.put1 | with_reducible refine At.far ?_ (by dsimp only; omega) _ | with_reducible apply At.al | with_reducible apply At.drw | with_reducible apply At.dr)), (by repeat (first | with_reducible assumption | with_reducible apply At.put0 | with_reducible apply At.put1 | with_reducible refine At.far ?_ (by dsimp only; omega) _ | with_reducible apply At.al | with_reducible apply At.drw | with_reducible apply At.dr)), (by repeat (first | with_reducible assumption | with_reducible apply At.put0 | with_reducible apply At.put1 | with_reducible refine At.far ?_ (by dsimp only; omega) _ | with_reducible apply At.al | with_reducible apply At.drw | with_reducible apply At.dr)), (by repeat (first | with_reducible assumption | with_reducible apply At.put0 | with_reducible apply At.put1 | with_reducible refine At.far ?_ (by dsimp only; omega) _ | with_reducible apply At.al | with_reducible apply At.drw | with_reducible apply At.dr))⟩
    · have HLs := Lib.hid hls
      have HMi := Lib.hid hmi
      have hn := Lib.hid hn
      clear hls hmi
      go_wp2_with fail
      refine (HLs.out _).mono ?_
      rintro e v5 ⟨rfl, hb5⟩
      clear k_a0 k_a1 k_a2 k_a3 Lk_a k_b0 k_b1 k_b2 k_b3 Lk_b k_o0 k_o1 k_o2 k_o3 Lk_o k_x0 k_x1 k_x2 k_x3 Lk_x k_y0 k_y1 k_y2 k_y3 Lk_y
      replace k_a : At v5 (w.heap.size) 23 #[.int .i64 an, .int .i64 (p : Int)] := At.bel (by repeat (first | with_reducible assumption | with_reducible apply At.put0 | with_reducible apply At.put1 | with_reducible refine At.far ?_ (by dsimp only; omega) _ | with_reducible apply At.al | with_reducible apply At.drw | with_reducible apply At.dr)) hb5
      replace k_b : At v5 (w.heap.size + 1) 23 #[.int .i64 bn, .int .i64 (q : Int)] := At.bel (by repeat (first | with_reducible assumption | with_reducible apply At.put0 | with_reducible apply At.put1 | with_reducible refine At.far ?_ (by dsimp only; omega) _ | with_reducible apply At.al | with_reducible apply At.drw | with_reducible apply At.dr)) hb5
      replace k_o : At v5 (w.heap.size + 1 + 1) 23 #[.int .i64 0, .int .i64 0] := At.bel (by repeat (first | with_reducible assumption | with_reducible apply At.put0 | with_reducible apply At.put1 | with_reducible refine At.far ?_ (by dsimp only; omega) _ | with_reducible apply At.al | with_reducible apply At.drw | with_reducible apply At.dr)) hb5
      replace k_x : At v5 (g_x) 59 #[.int .u64 (hiN X : Int), .int .u64 (loN X : Int)] := At.bel (by repeat (first | with_reducible assumption | with_reducible apply At.put0 | with_reducible apply At.put1 | with_reducible refine At.far ?_ (by dsimp only; omega) _ | with_reducible apply At.al | with_reducible apply At.drw | with_reducible apply At.dr)) hb5
      replace k_y : At v5 (g_y) 59 #[.int .u64 (hiN Y : Int), .int .u64 (loN Y : Int)] := At.bel (by repeat (first | with_reducible assumption | with_reducible apply At.put0 | with_reducible apply At.put1 | with_reducible refine At.far ?_ (by dsimp only; omega) _ | with_reducible apply At.al | with_reducible apply At.drw | with_reducible apply At.dr)) hb5
      have k_n : At v5 (v4.heap.size) 59 #[.int .u64 0, .int .u64 0] := At.bel (by (repeat (first | (with_reducible apply At.new'; (focus (simp; done))) | with_reducible apply At.al | with_reducible apply At.drw | with_reducible apply At.dr))) hb5
      replace HB : Below w.heap.size w v5 := below_then (by repeat (first | with_reducible assumption | with_reducible exact Below.refl _ _ | with_reducible refine below_al ?_ _ | with_reducible refine below_drew ?_ | with_reducible refine below_drewN ?_ _ | with_reducible refine below_set ?_ (by dsimp only; omega) _)) hb5
      clear hb5
      have Lk_x := k_x.lt
      obtain ⟨k_x0, k_x1, k_x2, k_x3⟩ := k_x.two
      have Lk_y := k_y.lt
      obtain ⟨k_y0, k_y1, k_y2, k_y3⟩ := k_y.two
      have Lk_n := k_n.lt
      obtain ⟨k_n0, k_n1, k_n2, k_n3⟩ := k_n.two
      go_wp2_with fail
      refine (HMi.out _).mono ?_
      rintro e v6 ⟨rfl, hb6⟩
      clear k_x0 k_x1 k_x2 k_x3 Lk_x k_y0 k_y1 k_y2 k_y3 Lk_y k_n0 k_n1 k_n2 k_n3 Lk_n
      replace k_a : At v6 (w.heap.size) 23 #[.int .i64 an, .int .i64 (p : Int)] := At.bel (by repeat (first | with_reducible assumption | with_reducible apply At.put0 | with_reducible apply At.put1 | with_reducible refine At.far ?_ (by dsimp only; omega) _ | with_reducible apply At.al | with_reducible apply At.drw | with_reducible apply At.dr)) hb6
      replace k_b : At v6 (w.heap.size + 1) 23 #[.int .i64 bn, .int .i64 (q : Int)] := At.bel (by repeat (first | with_reducible assumption | with_reducible apply At.put0 | with_reducible apply At.put1 | with_reducible refine At.far ?_ (by dsimp only; omega) _ | with_reducible apply At.al | with_reducible apply At.drw | with_reducible apply At.dr)) hb6
      replace k_o : At v6 (w.heap.size + 1 + 1) 23 #[.int .i64 0, .int .i64 0] := At.bel (by repeat (first | with_reducible assumption | with_reducible apply At.put0 | with_reducible apply At.put1 | with_reducible refine At.far ?_ (by dsimp only; omega) _ | with_reducible apply At.al | with_reducible apply At.drw | with_reducible apply At.dr)) hb6
      replace k_x : At v6 (g_x) 59 #[.int .u64 (hiN X : Int), .int .u64 (loN X : Int)] := At.bel (by repeat (first | with_reducible assumption | with_reducible apply At.put0 | with_reducible apply At.put1 | with_reducible refine At.far ?_ (by dsimp only; omega) _ | with_reducible apply At.al | with_reducible apply At.drw | with_reducible apply At.dr)) hb6
      replace k_y : At v6 (g_y) 59 #[.int .u64 (hiN Y : Int), .int .u64 (loN Y : Int)] := At.bel (by repeat (first | with_reducible assumption | with_reducible apply At.put0 | with_reducible apply At.put1 | with_reducible refine At.far ?_ (by dsimp only; omega) _ | with_reducible apply At.al | with_reducible apply At.drw | with_reducible apply At.dr)) hb6
      replace k_n : At v6 (v4.heap.size) 59 #[.int .u64 0, .int .u64 0] := At.bel (by repeat (first | with_reducible assumption | with_reducible apply At.put0 | with_reducible apply At.put1 | with_reducible refine At.far ?_ (by dsimp only; omega) _ | with_reducible apply At.al | with_reducible apply At.drw | with_reducible apply At.dr)) hb6
      replace HB : Below w.heap.size w v6 := below_then (by repeat (first | with_reducible assumption | with_reducible exact Below.refl _ _ | with_reducible refine below_al ?_ _ | with_reducible refine below_drew ?_ | with_reducible refine below_drewN ?_ _ | with_reducible refine below_set ?_ (by dsimp only; omega) _)) hb6
      clear hb6
      have Lk_n := k_n.lt
      obtain ⟨k_n0, k_n1, k_n2, k_n3⟩ := k_n.two
      have Lk_x := k_x.lt
      obtain ⟨k_x0, k_x1, k_x2, k_x3⟩ := k_x.two
      have Lk_y := k_y.lt
      obtain ⟨k_y0, k_y1, k_y2, k_y3⟩ := k_y.two
      go_wp2_with fail
      go_meet
      exact ⟨by rw [hn.out], (by repeat (first | with_reducible assumption | with_reducible exact Below.refl _ _ | with_reducible refine below_al ?_ _ | with_reducible refine below_drew ?_ | with_reducible refine below_drewN ?_ _ | with_reducible refine below_set ?_ (by dsimp only; omega) _)), (by repeat (first | with_reducible assumption | with_reducible apply At.put0 | with_reducible apply At.put1 | with_reducible refine At.far ?_ (by dsimp only; omega) _ | with_reducible apply At.al | with_reducible apply At.drw | with_reducible apply At.dr)), (by repeat (first | with_reducible assumption | with_reducible apply At.put0 | with_reducible apply At.put1 | with_reducible refine At.far ?_ (by dsimp only; omega) _ | with_reducible apply At.al | with_reducible apply At.drw | with_reducible apply At.dr)), (by repeat (first | with_reducible assumption | with_reducible apply At.put0 | with_reducible apply At.put1 | with_reducible refine At.far ?_ (by dsimp only; omega) _ | with_reducible apply At.al | with_reducible apply At.drw | with_reducible apply At.dr)), (by repeat (first | with_reducible assumption | with_reducible apply At.put0 | with_reducible apply At.put1 | with_reducible refine At.far ?_ (by dsimp only; omega) _ | with_reducible apply At.al | with_reducible apply At.drw | with_reducible apply At.dr)), (by repeat (first | with_reducible assumption | with_reducible apply At.put0 | with_reducible apply At.put1 | with_reducible refine At.far ?_ (by dsimp only; omega) _ | with_reducible apply At.al | with_reducible apply At.drw | with_reducible apply At.dr)), (by repeat (first | with_reducible assumption | with_reducible apply At.put0 | with_reducible apply At.put1 | with_reducible refine At.far ?_ (by dsimp only; omega) _ | with_reducible apply At.al | with_reducible apply At.drw | with_reducible apply At.dr))⟩
    · have HLs := Lib.hid hls
      have HMi := Lib.hid hmi
      have hn := Lib.hid hn
      clear hls hmi
      go_wp2_with fail
      refine (HLs.out _).mono ?_
      rintro e v5 ⟨rfl, hb5⟩
      clear k_a0 k_a1 k_a2 k_a3 Lk_a k_b0 k_b1 k_b2 k_b3 Lk_b k_o0 k_o1 k_o2 k_o3 Lk_o k_x0 k_x1 k_x2 k_x3 Lk_x k_y0 k_y1 k_y2 k_y3 Lk_y
      replace k_a : At v5 (w.heap.size) 23 #[.int .i64 an, .int .i64 (p : Int)] := At.bel (by repeat (first | with_reducible assumption | with_reducible apply At.put0 | with_reducible apply At.put1 | with_reducible refine At.far ?_ (by dsimp only; omega) _ | with_reducible apply At.al | with_reducible apply At.drw | with_reducible apply At.dr)) hb5
      replace k_b : At v5 (w.heap.size + 1) 23 #[.int .i64 bn, .int .i64 (q : Int)] := At.bel (by repeat (first | with_reducible assumption | with_reducible apply At.put0 | with_reducible apply At.put1 | with_reducible refine At.far ?_ (by dsimp only; omega) _ | with_reducible apply At.al | with_reducible apply At.drw | with_reducible apply At.dr)) hb5
      replace k_o : At v5 (w.heap.size + 1 + 1) 23 #[.int .i64 0, .int .i64 0] := At.bel (by repeat (first | with_reducible assumption | with_reducible apply At.put0 | with_reducible apply At.put1 | with_reducible refine At.far ?_ (by dsimp only; omega) _ | with_reducible apply At.al | with_reducible apply At.drw | with_reducible apply At.dr)) hb5
      replace k_x : At v5 (g_x) 59 #[.int .u64 (hiN X : Int), .int .u64 (loN X : Int)] := At.bel (by repeat (first | with_reducible assumption | with_reducible apply At.put0 | with_reducible apply At.put1 | with_reducible refine At.far ?_ (by dsimp only; omega) _ | with_reducible apply At.al | with_reducible apply At.drw | with_reducible apply At.dr)) hb5
      replace k_y : At v5 (g_y) 59 #[.int .u64 (hiN Y : Int), .int .u64 (loN Y : Int)] := At.bel (by repeat (first | with_reducible assumption | with_reducible apply At.put0 | with_reducible apply At.put1 | with_reducible refine At.far ?_ (by dsimp only; omega) _ | with_reducible apply At.al | with_reducible apply At.drw | with_reducible apply At.dr)) hb5
      have k_n : At v5 (v4.heap.size) 59 #[.int .u64 0, .int .u64 0] := At.bel (by (repeat (first | (with_reducible apply At.new'; (focus (simp; done))) | with_reducible apply At.al | with_reducible apply At.drw | with_reducible apply At.dr))) hb5
      replace HB : Below w.heap.size w v5 := below_then (by repeat (first | with_reducible assumption | with_reducible exact Below.refl _ _ | with_reducible refine below_al ?_ _ | with_reducible refine below_drew ?_ | with_reducible refine below_drewN ?_ _ | with_reducible refine below_set ?_ (by dsimp only; omega) _)) hb5
      clear hb5
      have Lk_x := k_x.lt
      obtain ⟨k_x0, k_x1, k_x2, k_x3⟩ := k_x.two
      have Lk_y := k_y.lt
      obtain ⟨k_y0, k_y1, k_y2, k_y3⟩ := k_y.two
      have Lk_n := k_n.lt
      obtain ⟨k_n0, k_n1, k_n2, k_n3⟩ := k_n.two
      go_wp2_with fail
      refine (HMi.out _).mono ?_
      rintro e v6 ⟨rfl, hb6⟩
      clear k_x0 k_x1 k_x2 k_x3 Lk_x k_y0 k_y1 k_y2 k_y3 Lk_y k_n0 k_n1 k_n2 k_n3 Lk_n
      replace k_a : At v6 (w.heap.size) 23 #[.int .i64 an, .int .i64 (p : Int)] := At.bel (by repeat (first | with_reducible assumption | with_reducible apply At.put0 | with_reducible apply At.put1 | with_reducible refine At.far ?_ (by dsimp only; omega) _ | with_reducible apply At.al | with_reducible apply At.drw | with_reducible apply At.dr)) hb6
      replace k_b : At v6 (w.heap.size + 1) 23 #[.int .i64 bn, .int .i64 (q : Int)] := At.bel (by repeat (first | with_reducible assumption | with_reducible apply At.put0 | with_reducible apply At.put1 | with_reducible refine At.far ?_ (by dsimp only; omega) _ | with_reducible apply At.al | with_reducible apply At.drw | with_reducible apply At.dr)) hb6
      replace k_o : At v6 (w.heap.size + 1 + 1) 23 #[.int .i64 0, .int .i64 0] := At.bel (by repeat (first | with_reducible assumption | with_reducible apply At.put0 | with_reducible apply At.put1 | with_reducible refine At.far ?_ (by dsimp only; omega) _ | with_reducible apply At.al | with_reducible apply At.drw | with_reducible apply At.dr)) hb6
      replace k_x : At v6 (g_x) 59 #[.int .u64 (hiN X : Int), .int .u64 (loN X : Int)] := At.bel (by repeat (first | with_reducible assumption | with_reducible apply At.put0 | with_reducible apply At.put1 | with_reducible refine At.far ?_ (by dsimp only; omega) _ | with_reducible apply At.al | with_reducible apply At.drw | with_reducible apply At.dr)) hb6
      replace k_y : At v6 (g_y) 59 #[.int .u64 (hiN Y : Int), .int .u64 (loN Y : Int)] := At.bel (by repeat (first | with_reducible assumption | with_reducible apply At.put0 | with_reducible apply At.put1 | with_reducible refine At.far ?_ (by dsimp only; omega) _ | with_reducible apply At.al | with_reducible apply At.drw | with_reducible apply At.dr)) hb6
      replace k_n : At v6 (v4.heap.size) 59 #[.int .u64 0, .int .u64 0] := At.bel (by repeat (first | with_reducible assumption | with_reducible apply At.put0 | with_reducible apply At.put1 | with_reducible refine At.far ?_ (by dsimp only; omega) _ | with_reducible apply At.al | with_reducible apply At.drw | with_reducible apply At.dr)) hb6
      replace HB : Below w.heap.size w v6 := below_then (by repeat (first | with_reducible assumption | with_reducible exact Below.refl _ _ | with_reducible refine below_al ?_ _ | with_reducible refine below_drew ?_ | with_reducible refine below_drewN ?_ _ | with_reducible refine below_set ?_ (by dsimp only; omega) _)) hb6
      clear hb6
      have Lk_n := k_n.lt
      obtain ⟨k_n0, k_n1, k_n2, k_n3⟩ := k_n.two
      have Lk_x := k_x.lt
      obtain ⟨k_x0, k_x1, k_x2, k_x3⟩ := k_x.two
      have Lk_y := k_y.lt
      obtain ⟨k_y0, k_y1, k_y2, k_y3⟩ := k_y.two
      go_wp2_with fail
      go_meet
      exact ⟨by rw [hn.out], (by repeat (first | with_reducible assumption | with_reducible exact Below.refl _ _ | with_reducible refine below_al ?_ _ | with_reducible refine below_drew ?_ | with_reducible refine below_drewN ?_ _ | with_reducible refine below_set ?_ (by dsimp only; omega) _)), (by repeat (first | with_reducible assumption | with_reducible apply At.put0 | with_reducible apply At.put1 | with_reducible refine At.far ?_ (by dsimp only; omega) _ | with_reducible apply At.al | with_reducible apply At.drw | with_reducible apply At.dr)), (by repeat (first | with_reducible assumption | with_reducible apply At.put0 | with_reducible apply At.put1 | with_reducible refine At.far ?_ (by dsimp only; omega) _ | with_reducible apply At.al | with_reducible apply At.drw | with_reducible apply At.dr)), (by repeat (first | with_reducible assumption | with_reducible apply At.put0 | with_reducible apply At.put1 | with_reducible refine At.far ?_ (by dsimp only; omega) _ | with_reducible apply At.al | with_reducible apply At.drw | with_reducible apply At.dr)), (by repeat (first | with_reducible assumption | with_reducible apply At.put0 | with_reducible apply At.put1 | with_reducible refine At.far ?_ (by dsimp only; omega) _ | with_reducible apply At.al | with_reducible apply At.drw | with_reducible apply At.dr)), (by repeat (first | with_reducible assumption | with_reducible apply At.put0 | with_reducible apply At.put1 | with_reducible refine At.far ?_ (by dsimp only; omega) _ | with_reducible apply At.al | with_reducible apply At.drw | with_reducible apply At.dr)), (by repeat (first | with_reducible assumption | with_reducible apply At.put0 | with_reducible apply At.put1 | with_reducible refine At.far ?_ (by dsimp only; omega) _ | with_reducible apply At.al | with_reducible apply At.drw | with_reducible apply At.dr))⟩
  case rest =>
    clear k_a0 k_a1 k_a2 k_a3 Lk_a k_b0 k_b1 k_b2 k_b3 Lk_b k_o0 k_o1 k_o2 k_o3 Lk_o k_x0 k_x1 k_x2 k_x3 Lk_x k_y0 k_y1 k_y2 k_y3 Lk_y
    clear k_a k_b k_o k_x k_y
    clear HB
    obtain ⟨rfl, HB, k_a, k_b, k_o, k_x, k_y, k_n⟩ := hcut
    have Lk_a := k_a.lt
    obtain ⟨k_a0, k_a1, k_a2, k_a3⟩ := k_a.two
    have Lk_b := k_b.lt
    obtain ⟨k_b0, k_b1, k_b2, k_b3⟩ := k_b.two
    have Lk_o := k_o.lt
    obtain ⟨k_o0, k_o1, k_o2, k_o3⟩ := k_o.two
    have Lk_x := k_x.lt
    obtain ⟨k_x0, k_x1, k_x2, k_x3⟩ := k_x.two
    have Lk_y := k_y.lt
    obtain ⟨k_y0, k_y1, k_y2, k_y3⟩ := k_y.two
    rcases HR.out with hz | hz
    · obtain ⟨n0, hr⟩ := hz
      have hr := Lib.hid hr
      subst n0
      replace k_n : At wc (v4.heap.size) 59 #[.int .u64 0, .int .u64 0] := k_n
      have Lk_n := k_n.lt
      obtain ⟨k_n0, k_n1, k_n2, k_n3⟩ := k_n.two
      go_wp2_with fail
      exact bodyPost_ret (v := frv (0, 1, 0)) (by simp [results, Tryd.results12, go_sem, *]) rfl ⟨by first | rfl | rw [hr.out], (by repeat (first | with_reducible assumption | with_reducible exact Below.refl _ _ | with_reducible refine below_al ?_ _ | with_reducible refine below_drew ?_ | with_reducible refine below_drewN ?_ _ | with_reducible refine below_set ?_ (by dsimp only; omega) _))⟩
    · have ne := Lib.hid (ne_parts hz.1)
      have Lk_n := k_n.lt
      obtain ⟨k_n0, k_n1, k_n2, k_n3⟩ := k_n.two
      go_upto_region 11 with fail
      go_cut [78] (fun s78 wd => s78 = .bool false ∧ Below w.heap.size w wd ∧ At wd (w.heap.size) 23 #[.int .i64 an, .int .i64 (p : Int)] ∧ At wd (w.heap.size + 1) 23 #[.int .i64 bn, .int .i64 (q : Int)] ∧ At wd (w.heap.size + 1 + 1) 23 #[.int .i64 0, .int .i64 0] ∧ At wd (g_x) 59 #[.int .u64 (hiN X : Int), .int .u64 (loN X : Int)] ∧ At wd (g_y) 59 #[.int .u64 (hiN Y : Int), .int .u64 (loN Y : Int)] ∧ At wd (v4.heap.size) 59 #[.int .u64 (hiN N : Int), .int .u64 (loN N : Int)])
      case first =>
        rcases ne.out with ne | ⟨ne, ne'⟩
        · go_wp2_with fail
          go_meet
          exact ⟨rfl, (by repeat (first | with_reducible assumption | with_reducible exact Below.refl _ _ | with_reducible refine below_al ?_ _ | with_reducible refine below_drew ?_ | with_reducible refine below_drewN ?_ _ | with_reducible refine below_set ?_ (by dsimp only; omega) _)), (by repeat (first | with_reducible assumption | with_reducible apply At.put0 | with_reducible apply At.put1 | with_reducible refine At.far ?_ (by dsimp only; omega) _ | with_reducible apply At.al | with_reducible apply At.drw | with_reducible apply At.dr)), (by repeat (first | with_reducible assumption | with_reducible apply At.put0 | with_reducible apply At.put1 | with_reducible refine At.far ?_ (by dsimp only; omega) _ | with_reducible apply At.al | with_reducible apply At.drw | with_reducible apply At.dr)), (by repeat (first | with_reducible assumption | with_reducible apply At.put0 | with_reducible apply At.put1 | with_reducible refine At.far ?_ (by dsimp only; omega) _ | with_reducible apply At.al | with_reducible apply At.drw | with_reducible apply At.dr)), (by repeat (first | with_reducible assumption | with_reducible apply At.put0 | with_reducible apply At.put1 | with_reducible refine At.far ?_ (by dsimp only; omega) _ | with_reducible apply At.al | with_reducible apply At.drw | with_reducible apply At.dr)), (by repeat (first | with_reducible assumption | with_reducible apply At.put0 | with_reducible apply At.put1 | with_reducible refine At.far ?_ (by dsimp only; omega) _ | with_reducible apply At.al | with_reducible apply At.drw | with_reducible apply At.dr)), (by repeat (first | with_reducible assumption | with_reducible apply At.put0 | with_reducible apply At.put1 | with_reducible refine At.far ?_ (by dsimp only; omega) _ | with_reducible apply At.al | with_reducible apply At.drw | with_reducible apply At.dr))⟩
        · go_wp2_with fail
          go_meet
          exact ⟨rfl, (by repeat (first | with_reducible assumption | with_reducible exact Below.refl _ _ | with_reducible refine below_al ?_ _ | with_reducible refine below_drew ?_ | with_reducible refine below_drewN ?_ _ | with_reducible refine below_set ?_ (by dsimp only; omega) _)), (by repeat (first | with_reducible assumption | with_reducible apply At.put0 | with_reducible apply At.put1 | with_reducible refine At.far ?_ (by dsimp only; omega) _ | with_reducible apply At.al | with_reducible apply At.drw | with_reducible apply At.dr)), (by repeat (first | with_reducible assumption | with_reducible apply At.put0 | with_reducible apply At.put1 | with_reducible refine At.far ?_ (by dsimp only; omega) _ | with_reducible apply At.al | with_reducible apply At.drw | with_reducible apply At.dr)), (by repeat (first | with_reducible assumption | with_reducible apply At.put0 | with_reducible apply At.put1 | with_reducible refine At.far ?_ (by dsimp only; omega) _ | with_reducible apply At.al | with_reducible apply At.drw | with_reducible apply At.dr)), (by repeat (first | with_reducible assumption | with_reducible apply At.put0 | with_reducible apply At.put1 | with_reducible refine At.far ?_ (by dsimp only; omega) _ | with_reducible apply At.al | with_reducible apply At.drw | with_reducible apply At.dr)), (by repeat (first | with_reducible assumption | with_reducible apply At.put0 | with_reducible apply At.put1 | with_reducible refine At.far ?_ (by dsimp only; omega) _ | with_reducible apply At.al | with_reducible apply At.drw | with_reducible apply At.dr)), (by repeat (first | with_reducible assumption | with_reducible apply At.put0 | with_reducible apply At.put1 | with_reducible refine At.far ?_ (by dsimp only; omega) _ | with_reducible apply At.al | with_reducible apply At.drw | with_reducible apply At.dr))⟩
      case rest =>
        clear k_a0 k_a1 k_a2 k_a3 Lk_a k_b0 k_b1 k_b2 k_b3 Lk_b k_o0 k_o1 k_o2 k_o3 Lk_o k_x0 k_x1 k_x2 k_x3 Lk_x k_y0 k_y1 k_y2 k_y3 Lk_y k_n0 k_n1 k_n2 k_n3 Lk_n
        clear k_a k_b k_o k_x k_y k_n
        clear HB
        obtain ⟨rfl, HB, k_a, k_b, k_o, k_x, k_y, k_n⟩ := hcut
        have Lk_n := k_n.lt
        obtain ⟨k_n0, k_n1, k_n2, k_n3⟩ := k_n.two
        have Lk_o := k_o.lt
        obtain ⟨k_o0, k_o1, k_o2, k_o3⟩ := k_o.two
        go_wp2_with fail
        refine (HO1.out _).mono ?_
        rintro e v5 ⟨rfl, hb5⟩
        clear k_n0 k_n1 k_n2 k_n3 Lk_n k_o0 k_o1 k_o2 k_o3 Lk_o
        replace k_a : At v5 (w.heap.size) 23 #[.int .i64 an, .int .i64 (p : Int)] := At.bel (by repeat (first | with_reducible assumption | with_reducible apply At.put0 | with_reducible apply At.put1 | with_reducible refine At.far ?_ (by dsimp only; omega) _ | with_reducible apply At.al | with_reducible apply At.drw | with_reducible apply At.dr)) hb5
        replace k_b : At v5 (w.heap.size + 1) 23 #[.int .i64 bn, .int .i64 (q : Int)] := At.bel (by repeat (first | with_reducible assumption | with_reducible apply At.put0 | with_reducible apply At.put1 | with_reducible refine At.far ?_ (by dsimp only; omega) _ | with_reducible apply At.al | with_reducible apply At.drw | with_reducible apply At.dr)) hb5
        replace k_o : At v5 (w.heap.size + 1 + 1) 23 #[.int .i64 0, .int .i64 0] := At.bel (by repeat (first | with_reducible assumption | with_reducible apply At.put0 | with_reducible apply At.put1 | with_reducible refine At.far ?_ (by dsimp only; omega) _ | with_reducible apply At.al | with_reducible apply At.drw | with_reducible apply At.dr)) hb5
        replace k_x : At v5 (g_x) 59 #[.int .u64 (hiN X : Int), .int .u64 (loN X : Int)] := At.bel (by repeat (first | with_reducible assumption | with_reducible apply At.put0 | with_reducible apply At.put1 | with_reducible refine At.far ?_ (by dsimp only; omega) _ | with_reducible apply At.al | with_reducible apply At.drw | with_reducible apply At.dr)) hb5
        replace k_y : At v5 (g_y) 59 #[.int .u64 (hiN Y : Int), .int .u64 (loN Y : Int)] := At.bel (by repeat (first | with_reducible assumption | with_reducible apply At.put0 | with_reducible apply At.put1 | with_reducible refine At.far ?_ (by dsimp only; omega) _ | with_reducible apply At.al | with_reducible apply At.drw | with_reducible apply At.dr)) hb5
        replace k_n : At v5 (v4.heap.size) 59 #[.int .u64 (hiN N : Int), .int .u64 (loN N : Int)] := At.bel (by repeat (first | with_reducible assumption | with_reducible apply At.put0 | with_reducible apply At.put1 | with_reducible refine At.far ?_ (by dsimp only; omega) _ | with_reducible apply At.al | with_reducible apply At.drw | with_reducible apply At.dr)) hb5
        replace HB : Below w.heap.size w v5 := below_then (by repeat (first | with_reducible assumption | with_reducible exact Below.refl _ _ | with_reducible refine below_al ?_ _ | with_reducible refine below_drew ?_ | with_reducible refine below_drewN ?_ _ | with_reducible refine below_set ?_ (by dsimp only; omega) _)) hb5
        clear hb5
        have Lk_n := k_n.lt
        obtain ⟨k_n0, k_n1, k_n2, k_n3⟩ := k_n.two
        have Lk_o := k_o.lt
        obtain ⟨k_o0, k_o1, k_o2, k_o3⟩ := k_o.two
        have O5k_a := k_a.lt
        have O5k_b := k_b.lt
        have O5k_o := k_o.lt
        have O5k_x := k_x.lt
        have O5k_y := k_y.lt
        have O5k_n := k_n.lt
        go_wp2_with fail
        refine (HC.out _).mono ?_
        rintro e v6 ⟨rfl, hb6⟩
        clear k_n0 k_n1 k_n2 k_n3 Lk_n k_o0 k_o1 k_o2 k_o3 Lk_o
        replace k_a : At v6 (w.heap.size) 23 #[.int .i64 an, .int .i64 (p : Int)] := At.bel (by repeat (first | with_reducible assumption | with_reducible apply At.put0 | with_reducible apply At.put1 | with_reducible refine At.far ?_ (by dsimp only; omega) _ | with_reducible apply At.al | with_reducible apply At.drw | with_reducible apply At.dr)) hb6
        replace k_b : At v6 (w.heap.size + 1) 23 #[.int .i64 bn, .int .i64 (q : Int)] := At.bel (by repeat (first | with_reducible assumption | with_reducible apply At.put0 | with_reducible apply At.put1 | with_reducible refine At.far ?_ (by dsimp only; omega) _ | with_reducible apply At.al | with_reducible apply At.drw | with_reducible apply At.dr)) hb6
        replace k_o : At v6 (w.heap.size + 1 + 1) 23 #[.int .i64 0, .int .i64 0] := At.bel (by repeat (first | with_reducible assumption | with_reducible apply At.put0 | with_reducible apply At.put1 | with_reducible refine At.far ?_ (by dsimp only; omega) _ | with_reducible apply At.al | with_reducible apply At.drw | with_reducible apply At.dr)) hb6
        replace k_x : At v6 (g_x) 59 #[.int .u64 (hiN X : Int), .int .u64 (loN X : Int)] := At.bel (by repeat (first | with_reducible assumption | with_reducible apply At.put0 | with_reducible apply At.put1 | with_reducible refine At.far ?_ (by dsimp only; omega) _ | with_reducible apply At.al | with_reducible apply At.drw | with_reducible apply At.dr)) hb6
        replace k_y : At v6 (g_y) 59 #[.int .u64 (hiN Y : Int), .int .u64 (loN Y : Int)] := At.bel (by repeat (first | with_reducible assumption | with_reducible apply At.put0 | with_reducible apply At.put1 | with_reducible refine At.far ?_ (by dsimp only; omega) _ | with_reducible apply At.al | with_reducible apply At.drw | with_reducible apply At.dr)) hb6
        replace k_n : At v6 (v4.heap.size) 59 #[.int .u64 (hiN N : Int), .int .u64 (loN N : Int)] := At.bel (by repeat (first | with_reducible assumption | with_reducible apply At.put0 | with_reducible apply At.put1 | with_reducible refine At.far ?_ (by dsimp only; omega) _ | with_reducible apply At.al | with_reducible apply At.drw | with_reducible apply At.dr)) hb6
        have k_h : At v6 (v5.heap.size) 59 #[.int .u64 (hiN (N / g) : Int), .int .u64 (loN (N / g) : Int)] := At.bel (by (repeat (first | (with_reducible apply At.new'; (focus (simp; done))) | with_reducible apply At.al | with_reducible apply At.drw | with_reducible apply At.dr))) hb6
        replace HB : Below w.heap.size w v6 := below_then (by repeat (first | with_reducible assumption | with_reducible exact Below.refl _ _ | with_reducible refine below_al ?_ _ | with_reducible refine below_drew ?_ | with_reducible refine below_drewN ?_ _ | with_reducible refine below_set ?_ (by dsimp only; omega) _)) hb6
        clear hb6
        have Lk_n := k_n.lt
        obtain ⟨k_n0, k_n1, k_n2, k_n3⟩ := k_n.two
        go_wp2_with fail
        refine (HO2.out _).mono ?_
        rintro e v7 ⟨rfl, hb7⟩
        clear k_n0 k_n1 k_n2 k_n3 Lk_n
        replace k_a : At v7 (w.heap.size) 23 #[.int .i64 an, .int .i64 (p : Int)] := At.bel (by repeat (first | with_reducible assumption | with_reducible apply At.put0 | with_reducible apply At.put1 | with_reducible refine At.far ?_ (by dsimp only; omega) _ | with_reducible apply At.al | with_reducible apply At.drw | with_reducible apply At.dr)) hb7
        replace k_b : At v7 (w.heap.size + 1) 23 #[.int .i64 bn, .int .i64 (q : Int)] := At.bel (by repeat (first | with_reducible assumption | with_reducible apply At.put0 | with_reducible apply At.put1 | with_reducible refine At.far ?_ (by dsimp only; omega) _ | with_reducible apply At.al | with_reducible apply At.drw | with_reducible apply At.dr)) hb7
        replace k_o : At v7 (w.heap.size + 1 + 1) 23 #[.int .i64 0, .int .i64 0] := At.bel (by repeat (first | with_reducible assumption | with_reducible apply At.put0 | with_reducible apply At.put1 | with_reducible refine At.far ?_ (by dsimp only; omega) _ | with_reducible apply At.al | with_reducible apply At.drw | with_reducible apply At.dr)) hb7
        replace k_x : At v7 (g_x) 59 #[.int .u64 (hiN X : Int), .int .u64 (loN X : Int)] := At.bel (by repeat (first | with_reducible assumption | with_reducible apply At.put0 | with_reducible apply At.put1 | with_reducible refine At.far ?_ (by dsimp only; omega) _ | with_reducible apply At.al | with_reducible apply At.drw | with_reducible apply At.dr)) hb7
        replace k_y : At v7 (g_y) 59 #[.int .u64 (hiN Y : Int), .int .u64 (loN Y : Int)] := At.bel (by repeat (first | with_reducible assumption | with_reducible apply At.put0 | with_reducible apply At.put1 | with_reducible refine At.far ?_ (by dsimp only; omega) _ | with_reducible apply At.al | with_reducible apply At.drw | with_reducible apply At.dr)) hb7
        replace k_n : At v7 (v4.heap.size) 59 #[.int .u64 (hiN N : Int), .int .u64 (loN N : Int)] := At.bel (by repeat (first | with_reducible assumption | with_reducible apply At.put0 | with_reducible apply At.put1 | with_reducible refine At.far ?_ (by dsimp only; omega) _ | with_reducible apply At.al | with_reducible apply At.drw | with_reducible apply At.dr)) hb7
        replace k_h : At v7 (v5.heap.size) 59 #[.int .u64 (hiN (N / g) : Int), .int .u64 (loN (N / g) : Int)] := At.bel (by repeat (first | with_reducible assumption | with_reducible apply At.put0 | with_reducible apply At.put1 | with_reducible refine At.far ?_ (by dsimp only; omega) _ | with_reducible apply At.al | with_reducible apply At.drw | with_reducible apply At.dr)) hb7
        replace HB : Below w.heap.size w v7 := below_then (by repeat (first | with_reducible assumption | with_reducible exact Below.refl _ _ | with_reducible refine below_al ?_ _ | with_reducible refine below_drew ?_ | with_reducible refine below_drewN ?_ _ | with_reducible refine below_set ?_ (by dsimp only; omega) _)) hb7
        clear hb7
        have Lk_n := k_n.lt
        obtain ⟨k_n0, k_n1, k_n2, k_n3⟩ := k_n.two
        go_wp2_with fail
        generalize hWW : World.setCell _ _ _ = WW
        replace k_a : At WW (w.heap.size) 23 #[.int .i64 an, .int .i64 (p : Int)] := by rw [← hWW]; repeat (first | with_reducible assumption | with_reducible apply At.put0 | with_reducible apply At.put1 | with_reducible refine At.far ?_ (by dsimp only; omega) _ | with_reducible apply At.al | with_reducible apply At.drw | with_reducible apply At.dr)
        replace k_b : At WW (w.heap.size + 1) 23 #[.int .i64 bn, .int .i64 (q : Int)] := by rw [← hWW]; repeat (first | with_reducible assumption | with_reducible apply At.put0 | with_reducible apply At.put1 | with_reducible refine At.far ?_ (by dsimp only; omega) _ | with_reducible apply At.al | with_reducible apply At.drw | with_reducible apply At.dr)
        replace k_o : At WW (w.heap.size + 1 + 1) 23 #[.int .i64 0, .int .i64 0] := by rw [← hWW]; repeat (first | with_reducible assumption | with_reducible apply At.put0 | with_reducible apply At.put1 | with_reducible refine At.far ?_ (by dsimp only; omega) _ | with_reducible apply At.al | with_reducible apply At.drw | with_reducible apply At.dr)
        replace k_x : At WW (g_x) 59 #[.int .u64 (hiN X : Int), .int .u64 (loN X : Int)] := by rw [← hWW]; repeat (first | with_reducible assumption | with_reducible apply At.put0 | with_reducible apply At.put1 | with_reducible refine At.far ?_ (by dsimp only; omega) _ | with_reducible apply At.al | with_reducible apply At.drw | with_reducible apply At.dr)
        replace k_y : At WW (g_y) 59 #[.int .u64 (hiN Y : Int), .int .u64 (loN Y : Int)] := by rw [← hWW]; repeat (first | with_reducible assumption | with_reducible apply At.put0 | with_reducible apply At.put1 | with_reducible refine At.far ?_ (by dsimp only; omega) _ | with_reducible apply At.al | with_reducible apply At.drw | with_reducible apply At.dr)
        replace k_n : At WW (v4.heap.size) 59 #[.int .u64 (hiN K : Int), .int .u64 (loN K : Int)] := by rw [← hWW]; repeat (first | with_reducible assumption | with_reducible apply At.put0 | with_reducible apply At.put1 | with_reducible refine At.far ?_ (by dsimp only; omega) _ | with_reducible apply At.al | with_reducible apply At.drw | with_reducible apply At.dr)
        replace k_h : At WW (v5.heap.size) 59 #[.int .u64 (hiN (N / g) : Int), .int .u64 (loN (N / g) : Int)] := by rw [← hWW]; repeat (first | with_reducible assumption | with_reducible apply At.put0 | with_reducible apply At.put1 | with_reducible refine At.far ?_ (by dsimp only; omega) _ | with_reducible apply At.al | with_reducible apply At.drw | with_reducible apply At.dr)
        replace HB : Below w.heap.size w WW := by rw [← hWW]; repeat (first | with_reducible assumption | with_reducible exact Below.refl _ _ | with_reducible refine below_al ?_ _ | with_reducible refine below_drew ?_ | with_reducible refine below_drewN ?_ _ | with_reducible refine below_set ?_ (by dsimp only; omega) _)
        clear k_n0 k_n1 k_n2 k_n3 Lk_n
        clear hWW
        refine wp_only ?_
        refine wp_region_grow1 11 (by kernel_rfl) (o1 := _) (d1 := 14) (t1 := 59) (z1 := #[.int .u64 0, .int .u64 0]) rfl ⟨rfl, rfl, fun _ _ => by rfl⟩ (by kernel_rfl) only_panic ?_
        apply Exists.intro
        refine And.intro (fun W' hW' => ?_) ?_
        focus
          have Kk_a := At.bel (show At _ (w.heap.size) 23 #[.int .i64 an, .int .i64 (p : Int)] from (by repeat (first | with_reducible assumption | with_reducible apply At.put0 | with_reducible apply At.put1 | with_reducible refine At.far ?_ (by dsimp only; omega) _ | with_reducible apply At.al | with_reducible apply At.drw | with_reducible apply At.dr))) hW'
          have Kk_a0 := cell_regrown Kk_a.c0
          have Kk_a1 := cell_regrown Kk_a.c1
          have Kk_b := At.bel (show At _ (w.heap.size + 1) 23 #[.int .i64 bn, .int .i64 (q : Int)] from (by repeat (first | with_reducible assumption | with_reducible apply At.put0 | with_reducible apply At.put1 | with_reducible refine At.far ?_ (by dsimp only; omega) _ | with_reducible apply At.al | with_reducible apply At.drw | with_reducible apply At.dr))) hW'
          have Kk_b0 := cell_regrown Kk_b.c0
          have Kk_b1 := cell_regrown Kk_b.c1
          have Kk_o := At.bel (show At _ (w.heap.size + 1 + 1) 23 #[.int .i64 0, .int .i64 0] from (by repeat (first | with_reducible assumption | with_reducible apply At.put0 | with_reducible apply At.put1 | with_reducible refine At.far ?_ (by dsimp only; omega) _ | with_reducible apply At.al | with_reducible apply At.drw | with_reducible apply At.dr))) hW'
          have Kk_o0 := cell_regrown Kk_o.c0
          have Kk_o1 := cell_regrown Kk_o.c1
          have Kk_x := At.bel (show At _ (g_x) 59 #[.int .u64 (hiN X : Int), .int .u64 (loN X : Int)] from (by repeat (first | with_reducible assumption | with_reducible apply At.put0 | with_reducible apply At.put1 | with_reducible refine At.far ?_ (by dsimp only; omega) _ | with_reducible apply At.al | with_reducible apply At.drw | with_reducible apply At.dr))) hW'
          have Kk_x0 := cell_regrown Kk_x.c0
          have Kk_x1 := cell_regrown Kk_x.c1
          have Kk_y := At.bel (show At _ (g_y) 59 #[.int .u64 (hiN Y : Int), .int .u64 (loN Y : Int)] from (by repeat (first | with_reducible assumption | with_reducible apply At.put0 | with_reducible apply At.put1 | with_reducible refine At.far ?_ (by dsimp only; omega) _ | with_reducible apply At.al | with_reducible apply At.drw | with_reducible apply At.dr))) hW'
          have Kk_y0 := cell_regrown Kk_y.c0
          have Kk_y1 := cell_regrown Kk_y.c1
          have Kk_n := At.bel (show At _ (v4.heap.size) 59 #[.int .u64 (hiN K : Int), .int .u64 (loN K : Int)] from (by repeat (first | with_reducible assumption | with_reducible apply At.put0 | with_reducible apply At.put1 | with_reducible refine At.far ?_ (by dsimp only; omega) _ | with_reducible apply At.al | with_reducible apply At.drw | with_reducible apply At.dr))) hW'
          have Kk_n0 := cell_regrown Kk_n.c0
          have Kk_n1 := cell_regrown Kk_n.c1
          have Kk_h := At.bel (show At _ (v5.heap.size) 59 #[.int .u64 (hiN (N / g) : Int), .int .u64 (loN (N / g) : Int)] from (by repeat (first | with_reducible assumption | with_reducible apply At.put0 | with_reducible apply At.put1 | with_reducible refine At.far ?_ (by dsimp only; omega) _ | with_reducible apply At.al | with_reducible apply At.drw | with_reducible apply At.dr))) hW'
          have Kk_h0 := cell_regrown Kk_h.c0
          have Kk_h1 := cell_regrown Kk_h.c1
          simp only [List.take_succ_cons, List.take_zero]
          repeat (go_big_quiet_step ((first | with_reducible exact regrown_call HD.out)))
          exact wpQuiet_nil rfl
        intro g_d v8 hb8 lb_d k_d
        have Mk_a := k_a.lt
        have Mk_b := k_b.lt
        have Mk_o := k_o.lt
        have Mk_x := k_x.lt
        have Mk_y := k_y.lt
        have Mk_n := k_n.lt
        have Mk_h := k_h.lt
        replace k_a : At v8 (w.heap.size) 23 #[.int .i64 an, .int .i64 (p : Int)] := At.bel (by repeat (first | with_reducible assumption | with_reducible apply At.put0 | with_reducible apply At.put1 | with_reducible refine At.far ?_ (by dsimp only; omega) _ | with_reducible apply At.al | with_reducible apply At.drw | with_reducible apply At.dr)) hb8
        replace k_b : At v8 (w.heap.size + 1) 23 #[.int .i64 bn, .int .i64 (q : Int)] := At.bel (by repeat (first | with_reducible assumption | with_reducible apply At.put0 | with_reducible apply At.put1 | with_reducible refine At.far ?_ (by dsimp only; omega) _ | with_reducible apply At.al | with_reducible apply At.drw | with_reducible apply At.dr)) hb8
        replace k_o : At v8 (w.heap.size + 1 + 1) 23 #[.int .i64 0, .int .i64 0] := At.bel (by repeat (first | with_reducible assumption | with_reducible apply At.put0 | with_reducible apply At.put1 | with_reducible refine At.far ?_ (by dsimp only; omega) _ | with_reducible apply At.al | with_reducible apply At.drw | with_reducible apply At.dr)) hb8
        replace k_x : At v8 (g_x) 59 #[.int .u64 (hiN X : Int), .int .u64 (loN X : Int)] := At.bel (by repeat (first | with_reducible assumption | with_reducible apply At.put0 | with_reducible apply At.put1 | with_reducible refine At.far ?_ (by dsimp only; omega) _ | with_reducible apply At.al | with_reducible apply At.drw | with_reducible apply At.dr)) hb8
        replace k_y : At v8 (g_y) 59 #[.int .u64 (hiN Y : Int), .int .u64 (loN Y : Int)] := At.bel (by repeat (first | with_reducible assumption | with_reducible apply At.put0 | with_reducible apply At.put1 | with_reducible refine At.far ?_ (by dsimp only; omega) _ | with_reducible apply At.al | with_reducible apply At.drw | with_reducible apply At.dr)) hb8
        replace k_n : At v8 (v4.heap.size) 59 #[.int .u64 (hiN K : Int), .int .u64 (loN K : Int)] := At.bel (by repeat (first | with_reducible assumption | with_reducible apply At.put0 | with_reducible apply At.put1 | with_reducible refine At.far ?_ (by dsimp only; omega) _ | with_reducible apply At.al | with_reducible apply At.drw | with_reducible apply At.dr)) hb8
        replace k_h : At v8 (v5.heap.size) 59 #[.int .u64 (hiN (N / g) : Int), .int .u64 (loN (N / g) : Int)] := At.bel (by repeat (first | with_reducible assumption | with_reducible apply At.put0 | with_reducible apply At.put1 | with_reducible refine At.far ?_ (by dsimp only; omega) _ | with_reducible apply At.al | with_reducible apply At.drw | with_reducible apply At.dr)) hb8
        replace HB : Below w.heap.size w v8 := below_then (by repeat (first | with_reducible assumption | with_reducible exact Below.refl _ _ | with_reducible refine below_al ?_ _ | with_reducible refine below_drew ?_ | with_reducible refine below_drewN ?_ _ | with_reducible refine below_set ?_ (by dsimp only; omega) _)) hb8
        clear hb8
        simp only [List.drop_succ_cons, List.drop_zero]
        have Lk_d := k_d.lt
        obtain ⟨k_d0, k_d1, k_d2, k_d3⟩ := k_d.two
        have Lk_n := k_n.lt
        obtain ⟨k_n0, k_n1, k_n2, k_n3⟩ := k_n.two
        have Lk_o := k_o.lt
        obtain ⟨k_o0, k_o1, k_o2, k_o3⟩ := k_o.two
        have Lk_a := k_a.lt
        obtain ⟨k_a0, k_a1, k_a2, k_a3⟩ := k_a.two
        have Lk_b := k_b.lt
        obtain ⟨k_b0, k_b1, k_b2, k_b3⟩ := k_b.two
        rcases hz.2 with hr | hr
        · obtain ⟨hc, hr⟩ := hr
          have hr := Lib.hid hr
          clear hz
          rcases hc with hc | hc
          · go_wp2_with fail
            exact bodyPost_ret (v := frv (0, 0, 5)) (by simp [results, Tryd.results12, go_sem, *]) rfl ⟨by first | rfl | rw [hr.out], (by repeat (first | with_reducible assumption | with_reducible exact Below.refl _ _ | with_reducible refine below_al ?_ _ | with_reducible refine below_drew ?_ | with_reducible refine below_drewN ?_ _ | with_reducible refine below_set ?_ (by dsimp only; omega) _))⟩
          · by_cases hd : (0 : Int) < (hiN K : Int)
            all_goals
              go_wp2_with fail
              exact bodyPost_ret (v := frv (0, 0, 5)) (by simp [results, Tryd.results12, go_sem, *]) rfl ⟨by first | rfl | rw [hr.out], (by repeat (first | with_reducible assumption | with_reducible exact Below.refl _ _ | with_reducible refine below_al ?_ _ | with_reducible refine below_drew ?_ | with_reducible refine below_drewN ?_ _ | with_reducible refine below_set ?_ (by dsimp only; omega) _))⟩
        · obtain ⟨h1, h2, hr⟩ := hr
          have hr := Lib.hid hr
          clear hz
          go_wp2_with fail
          refine (HS.out _).mono ?_
          rintro e v9 ⟨rfl, hb9⟩
          clear k_d0 k_d1 k_d2 k_d3 Lk_d k_n0 k_n1 k_n2 k_n3 Lk_n k_o0 k_o1 k_o2 k_o3 Lk_o k_a0 k_a1 k_a2 k_a3 Lk_a k_b0 k_b1 k_b2 k_b3 Lk_b
          replace k_a : At v9 (w.heap.size) 23 #[.int .i64 an, .int .i64 (p : Int)] := At.bel (by repeat (first | with_reducible assumption | with_reducible apply At.put0 | with_reducible apply At.put1 | with_reducible refine At.far ?_ (by dsimp only; omega) _ | with_reducible apply At.al | with_reducible apply At.drw | with_reducible apply At.dr)) hb9
          replace k_b : At v9 (w.heap.size + 1) 23 #[.int .i64 bn, .int .i64 (q : Int)] := At.bel (by repeat (first | with_reducible assumption | with_reducible apply At.put0 | with_reducible apply At.put1 | with_reducible refine At.far ?_ (by dsimp only; omega) _ | with_reducible apply At.al | with_reducible apply At.drw | with_reducible apply At.dr)) hb9
          replace k_o : At v9 (w.heap.size + 1 + 1) 23 #[.int .i64 0, .int .i64 0] := At.bel (by repeat (first | with_reducible assumption | with_reducible apply At.put0 | with_reducible apply At.put1 | with_reducible refine At.far ?_ (by dsimp only; omega) _ | with_reducible apply At.al | with_reducible apply At.drw | with_reducible apply At.dr)) hb9
          replace k_x : At v9 (g_x) 59 #[.int .u64 (hiN X : Int), .int .u64 (loN X : Int)] := At.bel (by repeat (first | with_reducible assumption | with_reducible apply At.put0 | with_reducible apply At.put1 | with_reducible refine At.far ?_ (by dsimp only; omega) _ | with_reducible apply At.al | with_reducible apply At.drw | with_reducible apply At.dr)) hb9
          replace k_y : At v9 (g_y) 59 #[.int .u64 (hiN Y : Int), .int .u64 (loN Y : Int)] := At.bel (by repeat (first | with_reducible assumption | with_reducible apply At.put0 | with_reducible apply At.put1 | with_reducible refine At.far ?_ (by dsimp only; omega) _ | with_reducible apply At.al | with_reducible apply At.drw | with_reducible apply At.dr)) hb9
          replace k_n : At v9 (v4.heap.size) 59 #[.int .u64 (hiN K : Int), .int .u64 (loN K : Int)] := At.bel (by repeat (first | with_reducible assumption | with_reducible apply At.put0 | with_reducible apply At.put1 | with_reducible refine At.far ?_ (by dsimp only; omega) _ | with_reducible apply At.al | with_reducible apply At.drw | with_reducible apply At.dr)) hb9
          replace k_h : At v9 (v5.heap.size) 59 #[.int .u64 (hiN (N / g) : Int), .int .u64 (loN (N / g) : Int)] := At.bel (by repeat (first | with_reducible assumption | with_reducible apply At.put0 | with_reducible apply At.put1 | with_reducible refine At.far ?_ (by dsimp only; omega) _ | with_reducible apply At.al | with_reducible apply At.drw | with_reducible apply At.dr)) hb9
          replace k_d : At v9 (g_d) 59 #[.int .u64 (hiN D : Int), .int .u64 (loN D : Int)] := At.bel (by repeat (first | with_reducible assumption | with_reducible apply At.put0 | with_reducible apply At.put1 | with_reducible refine At.far ?_ (by dsimp only; omega) _ | with_reducible apply At.al | with_reducible apply At.drw | with_reducible apply At.dr)) hb9
          replace HB : Below w.heap.size w v9 := below_then (by repeat (first | with_reducible assumption | with_reducible exact Below.refl _ _ | with_reducible refine below_al ?_ _ | with_reducible refine below_drew ?_ | with_reducible refine below_drewN ?_ _ | with_reducible refine below_set ?_ (by dsimp only; omega) _)) hb9
          clear hb9
          have Lk_o := k_o.lt
          obtain ⟨k_o0, k_o1, k_o2, k_o3⟩ := k_o.two
          go_wp2_with fail
          exact bodyPost_ret (v := frv (sgnS neg (loN K) (loN D))) (by simp [results, Tryd.results12, go_sem, *]) rfl ⟨by first | rfl | rw [hr.out], (by repeat (first | with_reducible assumption | with_reducible exact Below.refl _ _ | with_reducible refine below_al ?_ _ | with_reducible refine below_drew ?_ | with_reducible refine below_drewN ?_ _ | with_reducible refine below_set ?_ (by dsimp only; omega) _))⟩

end Go.Proofs.YtpijmjffobkalaaDoor
