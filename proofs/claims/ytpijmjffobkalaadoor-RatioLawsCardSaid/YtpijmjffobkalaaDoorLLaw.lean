/- RatioLaws' walk: it returns true. -/
import Derived.Test.YtpijmjffobkalaaDoorRaTx
import Derived.Test.YtpijmjffobkalaaDoorMLa
import Derived.Deep.DeepCutAuto
import Derived.Deep.CutBlock
set_option linter.unusedVariables false
namespace Go.Proofs.YtpijmjffobkalaaDoor
open Go.ChangeShapes Go.WideShapes Go.ChangeAt Go.RowKit

set_option maxRecDepth 100000 in
set_option maxHeartbeats 8000000 in
theorem laws_core (an ad bn bd cn cd x1 x2 xe y1 y2 ye p1 p2 pe q1 q2 qe r1 r2 re s1 s2 se : Int) (ba bb : Bool) (w : World)
    (HW : Hid (∀ u, Below w.heap.size w u → Calls Tryd.prog 11 #[] u fun e w' => e = .returned (.bool true) ∧ Below u.heap.size u w'))
    (HS1 : Hid (∀ w, Calls Tryd.prog 12 #[.agg #[.int .i64 an, .int .i64 ad], .agg #[.int .i64 bn, .int .i64 bd]] w fun e w' => e = .returned (frv (x1, x2, xe)) ∧ Below w.heap.size w w'))
    (HS2 : Hid (∀ w, Calls Tryd.prog 12 #[.agg #[.int .i64 bn, .int .i64 bd], .agg #[.int .i64 cn, .int .i64 cd]] w fun e w' => e = .returned (frv (y1, y2, ye)) ∧ Below w.heap.size w w'))
    (HA : Hid ((xe == 0) = false ∧ ba = false ∨ xe = 0 ∧ (ye == 0) = false ∧ ba = false ∨ xe = 0 ∧ ye = 0 ∧ ba = true))
    (HA2 : Hid (ba = false ∨ ba = true ∧ ∃ u1 u2 ue : Int, (∀ w, Calls Tryd.prog 12 #[.agg #[.int .i64 x1, .int .i64 x2], .agg #[.int .i64 cn, .int .i64 cd]] w fun e w' => e = .returned (frv (u1, u2, ue)) ∧ Below w.heap.size w w') ∧ (∀ w, Calls Tryd.prog 12 #[.agg #[.int .i64 an, .int .i64 ad], .agg #[.int .i64 y1, .int .i64 y2]] w fun e w' => e = .returned (frv (u1, u2, ue)) ∧ Below w.heap.size w w')))
    (HM1 : Hid (∀ w, Calls Tryd.prog 13 #[.agg #[.int .i64 an, .int .i64 ad], .agg #[.int .i64 bn, .int .i64 bd]] w fun e w' => e = .returned (frv (p1, p2, pe)) ∧ Below w.heap.size w w'))
    (HM2 : Hid (∀ w, Calls Tryd.prog 13 #[.agg #[.int .i64 bn, .int .i64 bd], .agg #[.int .i64 cn, .int .i64 cd]] w fun e w' => e = .returned (frv (q1, q2, qe)) ∧ Below w.heap.size w w'))
    (HBB : Hid ((pe == 0) = false ∧ bb = false ∨ pe = 0 ∧ (qe == 0) = false ∧ bb = false ∨ pe = 0 ∧ qe = 0 ∧ bb = true))
    (HB2 : Hid (bb = false ∨ bb = true ∧ ∃ u1 u2 ue : Int, (∀ w, Calls Tryd.prog 13 #[.agg #[.int .i64 p1, .int .i64 p2], .agg #[.int .i64 cn, .int .i64 cd]] w fun e w' => e = .returned (frv (u1, u2, ue)) ∧ Below w.heap.size w w') ∧ (∀ w, Calls Tryd.prog 13 #[.agg #[.int .i64 an, .int .i64 ad], .agg #[.int .i64 q1, .int .i64 q2]] w fun e w' => e = .returned (frv (u1, u2, ue)) ∧ Below w.heap.size w w')))
    (HM3 : Hid (∀ w, Calls Tryd.prog 13 #[.agg #[.int .i64 an, .int .i64 ad], .agg #[.int .i64 cn, .int .i64 cd]] w fun e w' => e = .returned (frv (r1, r2, re)) ∧ Below w.heap.size w w'))
    (HS3 : Hid (∀ w, Calls Tryd.prog 12 #[.agg #[.int .i64 p1, .int .i64 p2], .agg #[.int .i64 r1, .int .i64 r2]] w fun e w' => e = .returned (frv (s1, s2, se)) ∧ Below w.heap.size w w'))
    (HD : Hid ((pe == 0) = false ∨ pe = 0 ∧ (re == 0) = false ∨ pe = 0 ∧ re = 0 ∧ (ye == 0) = false ∨ pe = 0 ∧ re = 0 ∧ ye = 0 ∧ (∀ w, Calls Tryd.prog 13 #[.agg #[.int .i64 an, .int .i64 ad], .agg #[.int .i64 y1, .int .i64 y2]] w fun e w' => e = .returned (frv (s1, s2, se)) ∧ Below w.heap.size w w'))) :
    Calls Tryd.prog 3 #[.agg #[.int .i64 an, .int .i64 ad], .agg #[.int .i64 bn, .int .i64 bd], .agg #[.int .i64 cn, .int .i64 cd]] w fun e w' => e = .returned (.bool true) ∧ Below w.heap.size w w' := by
  go_enter Tryd.func3, Tryd.ntmps3
  go_wp2_with fail
  refine (HW.out _ (by repeat (first | with_reducible assumption | with_reducible exact Below.refl _ _ | with_reducible refine below_al ?_ _ | with_reducible refine below_drew ?_ | with_reducible refine below_drewN ?_ _ | with_reducible refine below_set ?_ (by dsimp only; omega) _))).mono ?_
  rintro e v1 ⟨rfl, hb1⟩
  have k_a : At v1 (w.heap.size) 23 #[.int .i64 an, .int .i64 ad] := At.bel (by (repeat (first | (with_reducible apply At.new'; (focus (simp; done))) | with_reducible apply At.al | with_reducible apply At.drw | with_reducible apply At.dr))) hb1
  have k_b : At v1 (w.heap.size + 1) 23 #[.int .i64 bn, .int .i64 bd] := At.bel (by (repeat (first | (with_reducible apply At.new'; (focus (simp; done))) | with_reducible apply At.al | with_reducible apply At.drw | with_reducible apply At.dr))) hb1
  have k_c : At v1 (w.heap.size + 1 + 1) 23 #[.int .i64 cn, .int .i64 cd] := At.bel (by (repeat (first | (with_reducible apply At.new'; (focus (simp; done))) | with_reducible apply At.al | with_reducible apply At.drw | with_reducible apply At.dr))) hb1
  have HB : Below w.heap.size w v1 := below_then (by repeat (first | with_reducible assumption | with_reducible exact Below.refl _ _ | with_reducible refine below_al ?_ _ | with_reducible refine below_drew ?_ | with_reducible refine below_drewN ?_ _ | with_reducible refine below_set ?_ (by dsimp only; omega) _)) hb1
  clear hb1
  have Lk_a := k_a.lt
  obtain ⟨k_a0, k_a1, k_a2, k_a3⟩ := k_a.two
  have Lk_b := k_b.lt
  obtain ⟨k_b0, k_b1, k_b2, k_b3⟩ := k_b.two
  have Lk_c := k_c.lt
  obtain ⟨k_c0, k_c1, k_c2, k_c3⟩ := k_c.two
  go_wp2_with fail
  refine (HS1.out _).mono ?_
  rintro e v2 ⟨rfl, hb2⟩
  clear k_a0 k_a1 k_a2 k_a3 Lk_a k_b0 k_b1 k_b2 k_b3 Lk_b k_c0 k_c1 k_c2 k_c3 Lk_c
  replace k_a : At v2 (w.heap.size) 23 #[.int .i64 an, .int .i64 ad] := At.bel (by repeat (first | with_reducible assumption | with_reducible apply At.put0 | with_reducible apply At.put1 | with_reducible refine At.far ?_ (by dsimp only; omega) _ | with_reducible apply At.al | with_reducible apply At.drw | with_reducible apply At.dr)) hb2
  replace k_b : At v2 (w.heap.size + 1) 23 #[.int .i64 bn, .int .i64 bd] := At.bel (by repeat (first | with_reducible assumption | with_reducible apply At.put0 | with_reducible apply At.put1 | with_reducible refine At.far ?_ (by dsimp only; omega) _ | with_reducible apply At.al | with_reducible apply At.drw | with_reducible apply At.dr)) hb2
  replace k_c : At v2 (w.heap.size + 1 + 1) 23 #[.int .i64 cn, .int .i64 cd] := At.bel (by repeat (first | with_reducible assumption | with_reducible apply At.put0 | with_reducible apply At.put1 | with_reducible refine At.far ?_ (by dsimp only; omega) _ | with_reducible apply At.al | with_reducible apply At.drw | with_reducible apply At.dr)) hb2
  replace HB : Below w.heap.size w v2 := below_then (by repeat (first | with_reducible assumption | with_reducible exact Below.refl _ _ | with_reducible refine below_al ?_ _ | with_reducible refine below_drew ?_ | with_reducible refine below_drewN ?_ _ | with_reducible refine below_set ?_ (by dsimp only; omega) _)) hb2
  clear hb2
  have Lk_a := k_a.lt
  obtain ⟨k_a0, k_a1, k_a2, k_a3⟩ := k_a.two
  have Lk_b := k_b.lt
  obtain ⟨k_b0, k_b1, k_b2, k_b3⟩ := k_b.two
  have Lk_c := k_c.lt
  obtain ⟨k_c0, k_c1, k_c2, k_c3⟩ := k_c.two
  go_wp2_with fail
  refine (HS2.out _).mono ?_
  rintro e v3 ⟨rfl, hb3⟩
  clear k_a0 k_a1 k_a2 k_a3 Lk_a k_b0 k_b1 k_b2 k_b3 Lk_b k_c0 k_c1 k_c2 k_c3 Lk_c
  replace k_a : At v3 (w.heap.size) 23 #[.int .i64 an, .int .i64 ad] := At.bel (by repeat (first | with_reducible assumption | with_reducible apply At.put0 | with_reducible apply At.put1 | with_reducible refine At.far ?_ (by dsimp only; omega) _ | with_reducible apply At.al | with_reducible apply At.drw | with_reducible apply At.dr)) hb3
  replace k_b : At v3 (w.heap.size + 1) 23 #[.int .i64 bn, .int .i64 bd] := At.bel (by repeat (first | with_reducible assumption | with_reducible apply At.put0 | with_reducible apply At.put1 | with_reducible refine At.far ?_ (by dsimp only; omega) _ | with_reducible apply At.al | with_reducible apply At.drw | with_reducible apply At.dr)) hb3
  replace k_c : At v3 (w.heap.size + 1 + 1) 23 #[.int .i64 cn, .int .i64 cd] := At.bel (by repeat (first | with_reducible assumption | with_reducible apply At.put0 | with_reducible apply At.put1 | with_reducible refine At.far ?_ (by dsimp only; omega) _ | with_reducible apply At.al | with_reducible apply At.drw | with_reducible apply At.dr)) hb3
  have k_x : At v3 (v2.heap.size) 23 #[.int .i64 x1, .int .i64 x2] := At.bel (by (repeat (first | (with_reducible apply At.new'; (focus (simp; done))) | with_reducible apply At.al | with_reducible apply At.drw | with_reducible apply At.dr))) hb3
  replace HB : Below w.heap.size w v3 := below_then (by repeat (first | with_reducible assumption | with_reducible exact Below.refl _ _ | with_reducible refine below_al ?_ _ | with_reducible refine below_drew ?_ | with_reducible refine below_drewN ?_ _ | with_reducible refine below_set ?_ (by dsimp only; omega) _)) hb3
  clear hb3
  have Lk_a := k_a.lt
  obtain ⟨k_a0, k_a1, k_a2, k_a3⟩ := k_a.two
  have Lk_b := k_b.lt
  obtain ⟨k_b0, k_b1, k_b2, k_b3⟩ := k_b.two
  have Lk_c := k_c.lt
  obtain ⟨k_c0, k_c1, k_c2, k_c3⟩ := k_c.two
  clear k_a0 k_a1 k_a2 k_a3 Lk_a k_b0 k_b1 k_b2 k_b3 Lk_b k_c0 k_c1 k_c2 k_c3 Lk_c
  go_upto_region 5 with fail
  go_cut [48] (fun s48 wa => s48 = .bool ba ∧ Below w.heap.size w wa ∧ At wa (w.heap.size) 23 #[.int .i64 an, .int .i64 ad] ∧ At wa (w.heap.size + 1) 23 #[.int .i64 bn, .int .i64 bd] ∧ At wa (w.heap.size + 1 + 1) 23 #[.int .i64 cn, .int .i64 cd] ∧ At wa (v2.heap.size) 23 #[.int .i64 x1, .int .i64 x2] ∧ At wa (v3.heap.size) 23 #[.int .i64 y1, .int .i64 y2])
  case first =>
    rcases HA.out with ⟨z0, eb⟩ | ⟨e0, z1, eb⟩ | ⟨e0, e1, eb⟩
    · go_wp2_with fail
      go_meet
      exact ⟨by rw [eb], (by repeat (first | with_reducible assumption | with_reducible exact Below.refl _ _ | with_reducible refine below_al ?_ _ | with_reducible refine below_drew ?_ | with_reducible refine below_drewN ?_ _ | with_reducible refine below_set ?_ (by dsimp only; omega) _)), (by repeat (first | with_reducible assumption | with_reducible apply At.put0 | with_reducible apply At.put1 | with_reducible refine At.far ?_ (by dsimp only; omega) _ | with_reducible apply At.al | with_reducible apply At.drw | with_reducible apply At.dr)), (by repeat (first | with_reducible assumption | with_reducible apply At.put0 | with_reducible apply At.put1 | with_reducible refine At.far ?_ (by dsimp only; omega) _ | with_reducible apply At.al | with_reducible apply At.drw | with_reducible apply At.dr)), (by repeat (first | with_reducible assumption | with_reducible apply At.put0 | with_reducible apply At.put1 | with_reducible refine At.far ?_ (by dsimp only; omega) _ | with_reducible apply At.al | with_reducible apply At.drw | with_reducible apply At.dr)), (by repeat (first | with_reducible assumption | with_reducible apply At.put0 | with_reducible apply At.put1 | with_reducible refine At.far ?_ (by dsimp only; omega) _ | with_reducible apply At.al | with_reducible apply At.drw | with_reducible apply At.dr)), (by (repeat (first | (with_reducible apply At.new'; (focus (simp; done))) | with_reducible apply At.al | with_reducible apply At.drw | with_reducible apply At.dr)))⟩
    · subst e0
      go_wp2_with fail
      go_meet
      exact ⟨by rw [eb], (by repeat (first | with_reducible assumption | with_reducible exact Below.refl _ _ | with_reducible refine below_al ?_ _ | with_reducible refine below_drew ?_ | with_reducible refine below_drewN ?_ _ | with_reducible refine below_set ?_ (by dsimp only; omega) _)), (by repeat (first | with_reducible assumption | with_reducible apply At.put0 | with_reducible apply At.put1 | with_reducible refine At.far ?_ (by dsimp only; omega) _ | with_reducible apply At.al | with_reducible apply At.drw | with_reducible apply At.dr)), (by repeat (first | with_reducible assumption | with_reducible apply At.put0 | with_reducible apply At.put1 | with_reducible refine At.far ?_ (by dsimp only; omega) _ | with_reducible apply At.al | with_reducible apply At.drw | with_reducible apply At.dr)), (by repeat (first | with_reducible assumption | with_reducible apply At.put0 | with_reducible apply At.put1 | with_reducible refine At.far ?_ (by dsimp only; omega) _ | with_reducible apply At.al | with_reducible apply At.drw | with_reducible apply At.dr)), (by repeat (first | with_reducible assumption | with_reducible apply At.put0 | with_reducible apply At.put1 | with_reducible refine At.far ?_ (by dsimp only; omega) _ | with_reducible apply At.al | with_reducible apply At.drw | with_reducible apply At.dr)), (by (repeat (first | (with_reducible apply At.new'; (focus (simp; done))) | with_reducible apply At.al | with_reducible apply At.drw | with_reducible apply At.dr)))⟩
    · subst e0 e1
      go_wp2_with fail
      go_meet
      exact ⟨by rw [eb], (by repeat (first | with_reducible assumption | with_reducible exact Below.refl _ _ | with_reducible refine below_al ?_ _ | with_reducible refine below_drew ?_ | with_reducible refine below_drewN ?_ _ | with_reducible refine below_set ?_ (by dsimp only; omega) _)), (by repeat (first | with_reducible assumption | with_reducible apply At.put0 | with_reducible apply At.put1 | with_reducible refine At.far ?_ (by dsimp only; omega) _ | with_reducible apply At.al | with_reducible apply At.drw | with_reducible apply At.dr)), (by repeat (first | with_reducible assumption | with_reducible apply At.put0 | with_reducible apply At.put1 | with_reducible refine At.far ?_ (by dsimp only; omega) _ | with_reducible apply At.al | with_reducible apply At.drw | with_reducible apply At.dr)), (by repeat (first | with_reducible assumption | with_reducible apply At.put0 | with_reducible apply At.put1 | with_reducible refine At.far ?_ (by dsimp only; omega) _ | with_reducible apply At.al | with_reducible apply At.drw | with_reducible apply At.dr)), (by repeat (first | with_reducible assumption | with_reducible apply At.put0 | with_reducible apply At.put1 | with_reducible refine At.far ?_ (by dsimp only; omega) _ | with_reducible apply At.al | with_reducible apply At.drw | with_reducible apply At.dr)), (by (repeat (first | (with_reducible apply At.new'; (focus (simp; done))) | with_reducible apply At.al | with_reducible apply At.drw | with_reducible apply At.dr)))⟩
  case rest =>
    clear k_a k_b k_c k_x
    clear HB
    obtain ⟨rfl, HB, k_a, k_b, k_c, k_x, k_y⟩ := hcut
    go_upto_if 48 with fail
    go_cut [] (fun  wc => Below w.heap.size w wc ∧ At wc (w.heap.size) 23 #[.int .i64 an, .int .i64 ad] ∧ At wc (w.heap.size + 1) 23 #[.int .i64 bn, .int .i64 bd] ∧ At wc (w.heap.size + 1 + 1) 23 #[.int .i64 cn, .int .i64 cd] ∧ At wc (v2.heap.size) 23 #[.int .i64 x1, .int .i64 x2] ∧ At wc (v3.heap.size) 23 #[.int .i64 y1, .int .i64 y2])
    case first =>
      rcases HA2.out with eb | ⟨eb, u1, u2, ue, c12⟩
      · subst eb
        go_wp2_with fail
        go_meet
        exact ⟨(by repeat (first | with_reducible assumption | with_reducible exact Below.refl _ _ | with_reducible refine below_al ?_ _ | with_reducible refine below_drew ?_ | with_reducible refine below_drewN ?_ _ | with_reducible refine below_set ?_ (by dsimp only; omega) _)), (by repeat (first | with_reducible assumption | with_reducible apply At.put0 | with_reducible apply At.put1 | with_reducible refine At.far ?_ (by dsimp only; omega) _ | with_reducible apply At.al | with_reducible apply At.drw | with_reducible apply At.dr)), (by repeat (first | with_reducible assumption | with_reducible apply At.put0 | with_reducible apply At.put1 | with_reducible refine At.far ?_ (by dsimp only; omega) _ | with_reducible apply At.al | with_reducible apply At.drw | with_reducible apply At.dr)), (by repeat (first | with_reducible assumption | with_reducible apply At.put0 | with_reducible apply At.put1 | with_reducible refine At.far ?_ (by dsimp only; omega) _ | with_reducible apply At.al | with_reducible apply At.drw | with_reducible apply At.dr)), (by repeat (first | with_reducible assumption | with_reducible apply At.put0 | with_reducible apply At.put1 | with_reducible refine At.far ?_ (by dsimp only; omega) _ | with_reducible apply At.al | with_reducible apply At.drw | with_reducible apply At.dr)), (by repeat (first | with_reducible assumption | with_reducible apply At.put0 | with_reducible apply At.put1 | with_reducible refine At.far ?_ (by dsimp only; omega) _ | with_reducible apply At.al | with_reducible apply At.drw | with_reducible apply At.dr))⟩
      · obtain ⟨c1, c2⟩ := c12
        have C1 := Lib.hid c1
        have C2 := Lib.hid c2
        clear c1 c2
        subst eb
        have Lk_x := k_x.lt
        obtain ⟨k_x0, k_x1, k_x2, k_x3⟩ := k_x.two
        have Lk_c := k_c.lt
        obtain ⟨k_c0, k_c1, k_c2, k_c3⟩ := k_c.two
        go_wp2_with fail
        refine (C1.out _).mono ?_
        rintro e v4 ⟨rfl, hb4⟩
        clear k_x0 k_x1 k_x2 k_x3 Lk_x k_c0 k_c1 k_c2 k_c3 Lk_c
        replace k_a : At v4 (w.heap.size) 23 #[.int .i64 an, .int .i64 ad] := At.bel (by repeat (first | with_reducible assumption | with_reducible apply At.put0 | with_reducible apply At.put1 | with_reducible refine At.far ?_ (by dsimp only; omega) _ | with_reducible apply At.al | with_reducible apply At.drw | with_reducible apply At.dr)) hb4
        replace k_b : At v4 (w.heap.size + 1) 23 #[.int .i64 bn, .int .i64 bd] := At.bel (by repeat (first | with_reducible assumption | with_reducible apply At.put0 | with_reducible apply At.put1 | with_reducible refine At.far ?_ (by dsimp only; omega) _ | with_reducible apply At.al | with_reducible apply At.drw | with_reducible apply At.dr)) hb4
        replace k_c : At v4 (w.heap.size + 1 + 1) 23 #[.int .i64 cn, .int .i64 cd] := At.bel (by repeat (first | with_reducible assumption | with_reducible apply At.put0 | with_reducible apply At.put1 | with_reducible refine At.far ?_ (by dsimp only; omega) _ | with_reducible apply At.al | with_reducible apply At.drw | with_reducible apply At.dr)) hb4
        replace k_x : At v4 (v2.heap.size) 23 #[.int .i64 x1, .int .i64 x2] := At.bel (by repeat (first | with_reducible assumption | with_reducible apply At.put0 | with_reducible apply At.put1 | with_reducible refine At.far ?_ (by dsimp only; omega) _ | with_reducible apply At.al | with_reducible apply At.drw | with_reducible apply At.dr)) hb4
        replace k_y : At v4 (v3.heap.size) 23 #[.int .i64 y1, .int .i64 y2] := At.bel (by repeat (first | with_reducible assumption | with_reducible apply At.put0 | with_reducible apply At.put1 | with_reducible refine At.far ?_ (by dsimp only; omega) _ | with_reducible apply At.al | with_reducible apply At.drw | with_reducible apply At.dr)) hb4
        replace HB : Below w.heap.size w v4 := below_then (by repeat (first | with_reducible assumption | with_reducible exact Below.refl _ _ | with_reducible refine below_al ?_ _ | with_reducible refine below_drew ?_ | with_reducible refine below_drewN ?_ _ | with_reducible refine below_set ?_ (by dsimp only; omega) _)) hb4
        clear hb4
        have Lk_a := k_a.lt
        obtain ⟨k_a0, k_a1, k_a2, k_a3⟩ := k_a.two
        have Lk_y := k_y.lt
        obtain ⟨k_y0, k_y1, k_y2, k_y3⟩ := k_y.two
        have Lk_x := k_x.lt
        obtain ⟨k_x0, k_x1, k_x2, k_x3⟩ := k_x.two
        have Lk_c := k_c.lt
        obtain ⟨k_c0, k_c1, k_c2, k_c3⟩ := k_c.two
        go_wp2_with fail
        refine (C2.out _).mono ?_
        rintro e v5 ⟨rfl, hb5⟩
        clear k_a0 k_a1 k_a2 k_a3 Lk_a k_y0 k_y1 k_y2 k_y3 Lk_y k_x0 k_x1 k_x2 k_x3 Lk_x k_c0 k_c1 k_c2 k_c3 Lk_c
        replace k_a : At v5 (w.heap.size) 23 #[.int .i64 an, .int .i64 ad] := At.bel (by repeat (first | with_reducible assumption | with_reducible apply At.put0 | with_reducible apply At.put1 | with_reducible refine At.far ?_ (by dsimp only; omega) _ | with_reducible apply At.al | with_reducible apply At.drw | with_reducible apply At.dr)) hb5
        replace k_b : At v5 (w.heap.size + 1) 23 #[.int .i64 bn, .int .i64 bd] := At.bel (by repeat (first | with_reducible assumption | with_reducible apply At.put0 | with_reducible apply At.put1 | with_reducible refine At.far ?_ (by dsimp only; omega) _ | with_reducible apply At.al | with_reducible apply At.drw | with_reducible apply At.dr)) hb5
        replace k_c : At v5 (w.heap.size + 1 + 1) 23 #[.int .i64 cn, .int .i64 cd] := At.bel (by repeat (first | with_reducible assumption | with_reducible apply At.put0 | with_reducible apply At.put1 | with_reducible refine At.far ?_ (by dsimp only; omega) _ | with_reducible apply At.al | with_reducible apply At.drw | with_reducible apply At.dr)) hb5
        replace k_x : At v5 (v2.heap.size) 23 #[.int .i64 x1, .int .i64 x2] := At.bel (by repeat (first | with_reducible assumption | with_reducible apply At.put0 | with_reducible apply At.put1 | with_reducible refine At.far ?_ (by dsimp only; omega) _ | with_reducible apply At.al | with_reducible apply At.drw | with_reducible apply At.dr)) hb5
        replace k_y : At v5 (v3.heap.size) 23 #[.int .i64 y1, .int .i64 y2] := At.bel (by repeat (first | with_reducible assumption | with_reducible apply At.put0 | with_reducible apply At.put1 | with_reducible refine At.far ?_ (by dsimp only; omega) _ | with_reducible apply At.al | with_reducible apply At.drw | with_reducible apply At.dr)) hb5
        have k_u : At v5 (v4.heap.size) 23 #[.int .i64 u1, .int .i64 u2] := At.bel (by (repeat (first | (with_reducible apply At.new'; (focus (simp; done))) | with_reducible apply At.al | with_reducible apply At.drw | with_reducible apply At.dr))) hb5
        replace HB : Below w.heap.size w v5 := below_then (by repeat (first | with_reducible assumption | with_reducible exact Below.refl _ _ | with_reducible refine below_al ?_ _ | with_reducible refine below_drew ?_ | with_reducible refine below_drewN ?_ _ | with_reducible refine below_set ?_ (by dsimp only; omega) _)) hb5
        clear hb5
        have Lk_u := k_u.lt
        obtain ⟨k_u0, k_u1, k_u2, k_u3⟩ := k_u.two
        go_wp2_with fail
        go_meet
        exact ⟨(by repeat (first | with_reducible assumption | with_reducible exact Below.refl _ _ | with_reducible refine below_al ?_ _ | with_reducible refine below_drew ?_ | with_reducible refine below_drewN ?_ _ | with_reducible refine below_set ?_ (by dsimp only; omega) _)), (by repeat (first | with_reducible assumption | with_reducible apply At.put0 | with_reducible apply At.put1 | with_reducible refine At.far ?_ (by dsimp only; omega) _ | with_reducible apply At.al | with_reducible apply At.drw | with_reducible apply At.dr)), (by repeat (first | with_reducible assumption | with_reducible apply At.put0 | with_reducible apply At.put1 | with_reducible refine At.far ?_ (by dsimp only; omega) _ | with_reducible apply At.al | with_reducible apply At.drw | with_reducible apply At.dr)), (by repeat (first | with_reducible assumption | with_reducible apply At.put0 | with_reducible apply At.put1 | with_reducible refine At.far ?_ (by dsimp only; omega) _ | with_reducible apply At.al | with_reducible apply At.drw | with_reducible apply At.dr)), (by repeat (first | with_reducible assumption | with_reducible apply At.put0 | with_reducible apply At.put1 | with_reducible refine At.far ?_ (by dsimp only; omega) _ | with_reducible apply At.al | with_reducible apply At.drw | with_reducible apply At.dr)), (by repeat (first | with_reducible assumption | with_reducible apply At.put0 | with_reducible apply At.put1 | with_reducible refine At.far ?_ (by dsimp only; omega) _ | with_reducible apply At.al | with_reducible apply At.drw | with_reducible apply At.dr))⟩
    case rest =>
      clear k_a k_b k_c k_x k_y
      clear HB
      obtain ⟨HB, k_a, k_b, k_c, k_x, k_y⟩ := hcut
      have Lk_a := k_a.lt
      obtain ⟨k_a0, k_a1, k_a2, k_a3⟩ := k_a.two
      have Lk_b := k_b.lt
      obtain ⟨k_b0, k_b1, k_b2, k_b3⟩ := k_b.two
      have Lk_c := k_c.lt
      obtain ⟨k_c0, k_c1, k_c2, k_c3⟩ := k_c.two
      go_wp2_with fail
      refine (HM1.out _).mono ?_
      rintro e v4 ⟨rfl, hb4⟩
      clear k_a0 k_a1 k_a2 k_a3 Lk_a k_b0 k_b1 k_b2 k_b3 Lk_b k_c0 k_c1 k_c2 k_c3 Lk_c
      replace k_a : At v4 (w.heap.size) 23 #[.int .i64 an, .int .i64 ad] := At.bel (by repeat (first | with_reducible assumption | with_reducible apply At.put0 | with_reducible apply At.put1 | with_reducible refine At.far ?_ (by dsimp only; omega) _ | with_reducible apply At.al | with_reducible apply At.drw | with_reducible apply At.dr)) hb4
      replace k_b : At v4 (w.heap.size + 1) 23 #[.int .i64 bn, .int .i64 bd] := At.bel (by repeat (first | with_reducible assumption | with_reducible apply At.put0 | with_reducible apply At.put1 | with_reducible refine At.far ?_ (by dsimp only; omega) _ | with_reducible apply At.al | with_reducible apply At.drw | with_reducible apply At.dr)) hb4
      replace k_c : At v4 (w.heap.size + 1 + 1) 23 #[.int .i64 cn, .int .i64 cd] := At.bel (by repeat (first | with_reducible assumption | with_reducible apply At.put0 | with_reducible apply At.put1 | with_reducible refine At.far ?_ (by dsimp only; omega) _ | with_reducible apply At.al | with_reducible apply At.drw | with_reducible apply At.dr)) hb4
      replace k_x : At v4 (v2.heap.size) 23 #[.int .i64 x1, .int .i64 x2] := At.bel (by repeat (first | with_reducible assumption | with_reducible apply At.put0 | with_reducible apply At.put1 | with_reducible refine At.far ?_ (by dsimp only; omega) _ | with_reducible apply At.al | with_reducible apply At.drw | with_reducible apply At.dr)) hb4
      replace k_y : At v4 (v3.heap.size) 23 #[.int .i64 y1, .int .i64 y2] := At.bel (by repeat (first | with_reducible assumption | with_reducible apply At.put0 | with_reducible apply At.put1 | with_reducible refine At.far ?_ (by dsimp only; omega) _ | with_reducible apply At.al | with_reducible apply At.drw | with_reducible apply At.dr)) hb4
      replace HB : Below w.heap.size w v4 := below_then (by repeat (first | with_reducible assumption | with_reducible exact Below.refl _ _ | with_reducible refine below_al ?_ _ | with_reducible refine below_drew ?_ | with_reducible refine below_drewN ?_ _ | with_reducible refine below_set ?_ (by dsimp only; omega) _)) hb4
      clear hb4
      have Lk_a := k_a.lt
      obtain ⟨k_a0, k_a1, k_a2, k_a3⟩ := k_a.two
      have Lk_b := k_b.lt
      obtain ⟨k_b0, k_b1, k_b2, k_b3⟩ := k_b.two
      have Lk_c := k_c.lt
      obtain ⟨k_c0, k_c1, k_c2, k_c3⟩ := k_c.two
      go_wp2_with fail
      refine (HM2.out _).mono ?_
      rintro e v5 ⟨rfl, hb5⟩
      clear k_a0 k_a1 k_a2 k_a3 Lk_a k_b0 k_b1 k_b2 k_b3 Lk_b k_c0 k_c1 k_c2 k_c3 Lk_c
      replace k_a : At v5 (w.heap.size) 23 #[.int .i64 an, .int .i64 ad] := At.bel (by repeat (first | with_reducible assumption | with_reducible apply At.put0 | with_reducible apply At.put1 | with_reducible refine At.far ?_ (by dsimp only; omega) _ | with_reducible apply At.al | with_reducible apply At.drw | with_reducible apply At.dr)) hb5
      replace k_b : At v5 (w.heap.size + 1) 23 #[.int .i64 bn, .int .i64 bd] := At.bel (by repeat (first | with_reducible assumption | with_reducible apply At.put0 | with_reducible apply At.put1 | with_reducible refine At.far ?_ (by dsimp only; omega) _ | with_reducible apply At.al | with_reducible apply At.drw | with_reducible apply At.dr)) hb5
      replace k_c : At v5 (w.heap.size + 1 + 1) 23 #[.int .i64 cn, .int .i64 cd] := At.bel (by repeat (first | with_reducible assumption | with_reducible apply At.put0 | with_reducible apply At.put1 | with_reducible refine At.far ?_ (by dsimp only; omega) _ | with_reducible apply At.al | with_reducible apply At.drw | with_reducible apply At.dr)) hb5
      replace k_x : At v5 (v2.heap.size) 23 #[.int .i64 x1, .int .i64 x2] := At.bel (by repeat (first | with_reducible assumption | with_reducible apply At.put0 | with_reducible apply At.put1 | with_reducible refine At.far ?_ (by dsimp only; omega) _ | with_reducible apply At.al | with_reducible apply At.drw | with_reducible apply At.dr)) hb5
      replace k_y : At v5 (v3.heap.size) 23 #[.int .i64 y1, .int .i64 y2] := At.bel (by repeat (first | with_reducible assumption | with_reducible apply At.put0 | with_reducible apply At.put1 | with_reducible refine At.far ?_ (by dsimp only; omega) _ | with_reducible apply At.al | with_reducible apply At.drw | with_reducible apply At.dr)) hb5
      have k_p : At v5 (v4.heap.size) 23 #[.int .i64 p1, .int .i64 p2] := At.bel (by (repeat (first | (with_reducible apply At.new'; (focus (simp; done))) | with_reducible apply At.al | with_reducible apply At.drw | with_reducible apply At.dr))) hb5
      replace HB : Below w.heap.size w v5 := below_then (by repeat (first | with_reducible assumption | with_reducible exact Below.refl _ _ | with_reducible refine below_al ?_ _ | with_reducible refine below_drew ?_ | with_reducible refine below_drewN ?_ _ | with_reducible refine below_set ?_ (by dsimp only; omega) _)) hb5
      clear hb5
      have Lk_a := k_a.lt
      obtain ⟨k_a0, k_a1, k_a2, k_a3⟩ := k_a.two
      have Lk_b := k_b.lt
      obtain ⟨k_b0, k_b1, k_b2, k_b3⟩ := k_b.two
      have Lk_c := k_c.lt
      obtain ⟨k_c0, k_c1, k_c2, k_c3⟩ := k_c.two
      clear k_a0 k_a1 k_a2 k_a3 Lk_a k_b0 k_b1 k_b2 k_b3 Lk_b k_c0 k_c1 k_c2 k_c3 Lk_c
      go_upto_region 12 with fail
      go_cut [86] (fun s86 wb => s86 = .bool bb ∧ Below w.heap.size w wb ∧ At wb (w.heap.size) 23 #[.int .i64 an, .int .i64 ad] ∧ At wb (w.heap.size + 1) 23 #[.int .i64 bn, .int .i64 bd] ∧ At wb (w.heap.size + 1 + 1) 23 #[.int .i64 cn, .int .i64 cd] ∧ At wb (v2.heap.size) 23 #[.int .i64 x1, .int .i64 x2] ∧ At wb (v3.heap.size) 23 #[.int .i64 y1, .int .i64 y2] ∧ At wb (v4.heap.size) 23 #[.int .i64 p1, .int .i64 p2] ∧ At wb (v5.heap.size) 23 #[.int .i64 q1, .int .i64 q2])
      case first =>
        rcases HBB.out with ⟨z0, eb⟩ | ⟨e0, z1, eb⟩ | ⟨e0, e1, eb⟩
        · go_wp2_with fail
          go_meet
          exact ⟨by rw [eb], (by repeat (first | with_reducible assumption | with_reducible exact Below.refl _ _ | with_reducible refine below_al ?_ _ | with_reducible refine below_drew ?_ | with_reducible refine below_drewN ?_ _ | with_reducible refine below_set ?_ (by dsimp only; omega) _)), (by repeat (first | with_reducible assumption | with_reducible apply At.put0 | with_reducible apply At.put1 | with_reducible refine At.far ?_ (by dsimp only; omega) _ | with_reducible apply At.al | with_reducible apply At.drw | with_reducible apply At.dr)), (by repeat (first | with_reducible assumption | with_reducible apply At.put0 | with_reducible apply At.put1 | with_reducible refine At.far ?_ (by dsimp only; omega) _ | with_reducible apply At.al | with_reducible apply At.drw | with_reducible apply At.dr)), (by repeat (first | with_reducible assumption | with_reducible apply At.put0 | with_reducible apply At.put1 | with_reducible refine At.far ?_ (by dsimp only; omega) _ | with_reducible apply At.al | with_reducible apply At.drw | with_reducible apply At.dr)), (by repeat (first | with_reducible assumption | with_reducible apply At.put0 | with_reducible apply At.put1 | with_reducible refine At.far ?_ (by dsimp only; omega) _ | with_reducible apply At.al | with_reducible apply At.drw | with_reducible apply At.dr)), (by repeat (first | with_reducible assumption | with_reducible apply At.put0 | with_reducible apply At.put1 | with_reducible refine At.far ?_ (by dsimp only; omega) _ | with_reducible apply At.al | with_reducible apply At.drw | with_reducible apply At.dr)), (by repeat (first | with_reducible assumption | with_reducible apply At.put0 | with_reducible apply At.put1 | with_reducible refine At.far ?_ (by dsimp only; omega) _ | with_reducible apply At.al | with_reducible apply At.drw | with_reducible apply At.dr)), (by (repeat (first | (with_reducible apply At.new'; (focus (simp; done))) | with_reducible apply At.al | with_reducible apply At.drw | with_reducible apply At.dr)))⟩
        · subst e0
          go_wp2_with fail
          go_meet
          exact ⟨by rw [eb], (by repeat (first | with_reducible assumption | with_reducible exact Below.refl _ _ | with_reducible refine below_al ?_ _ | with_reducible refine below_drew ?_ | with_reducible refine below_drewN ?_ _ | with_reducible refine below_set ?_ (by dsimp only; omega) _)), (by repeat (first | with_reducible assumption | with_reducible apply At.put0 | with_reducible apply At.put1 | with_reducible refine At.far ?_ (by dsimp only; omega) _ | with_reducible apply At.al | with_reducible apply At.drw | with_reducible apply At.dr)), (by repeat (first | with_reducible assumption | with_reducible apply At.put0 | with_reducible apply At.put1 | with_reducible refine At.far ?_ (by dsimp only; omega) _ | with_reducible apply At.al | with_reducible apply At.drw | with_reducible apply At.dr)), (by repeat (first | with_reducible assumption | with_reducible apply At.put0 | with_reducible apply At.put1 | with_reducible refine At.far ?_ (by dsimp only; omega) _ | with_reducible apply At.al | with_reducible apply At.drw | with_reducible apply At.dr)), (by repeat (first | with_reducible assumption | with_reducible apply At.put0 | with_reducible apply At.put1 | with_reducible refine At.far ?_ (by dsimp only; omega) _ | with_reducible apply At.al | with_reducible apply At.drw | with_reducible apply At.dr)), (by repeat (first | with_reducible assumption | with_reducible apply At.put0 | with_reducible apply At.put1 | with_reducible refine At.far ?_ (by dsimp only; omega) _ | with_reducible apply At.al | with_reducible apply At.drw | with_reducible apply At.dr)), (by repeat (first | with_reducible assumption | with_reducible apply At.put0 | with_reducible apply At.put1 | with_reducible refine At.far ?_ (by dsimp only; omega) _ | with_reducible apply At.al | with_reducible apply At.drw | with_reducible apply At.dr)), (by (repeat (first | (with_reducible apply At.new'; (focus (simp; done))) | with_reducible apply At.al | with_reducible apply At.drw | with_reducible apply At.dr)))⟩
        · subst e0 e1
          go_wp2_with fail
          go_meet
          exact ⟨by rw [eb], (by repeat (first | with_reducible assumption | with_reducible exact Below.refl _ _ | with_reducible refine below_al ?_ _ | with_reducible refine below_drew ?_ | with_reducible refine below_drewN ?_ _ | with_reducible refine below_set ?_ (by dsimp only; omega) _)), (by repeat (first | with_reducible assumption | with_reducible apply At.put0 | with_reducible apply At.put1 | with_reducible refine At.far ?_ (by dsimp only; omega) _ | with_reducible apply At.al | with_reducible apply At.drw | with_reducible apply At.dr)), (by repeat (first | with_reducible assumption | with_reducible apply At.put0 | with_reducible apply At.put1 | with_reducible refine At.far ?_ (by dsimp only; omega) _ | with_reducible apply At.al | with_reducible apply At.drw | with_reducible apply At.dr)), (by repeat (first | with_reducible assumption | with_reducible apply At.put0 | with_reducible apply At.put1 | with_reducible refine At.far ?_ (by dsimp only; omega) _ | with_reducible apply At.al | with_reducible apply At.drw | with_reducible apply At.dr)), (by repeat (first | with_reducible assumption | with_reducible apply At.put0 | with_reducible apply At.put1 | with_reducible refine At.far ?_ (by dsimp only; omega) _ | with_reducible apply At.al | with_reducible apply At.drw | with_reducible apply At.dr)), (by repeat (first | with_reducible assumption | with_reducible apply At.put0 | with_reducible apply At.put1 | with_reducible refine At.far ?_ (by dsimp only; omega) _ | with_reducible apply At.al | with_reducible apply At.drw | with_reducible apply At.dr)), (by repeat (first | with_reducible assumption | with_reducible apply At.put0 | with_reducible apply At.put1 | with_reducible refine At.far ?_ (by dsimp only; omega) _ | with_reducible apply At.al | with_reducible apply At.drw | with_reducible apply At.dr)), (by (repeat (first | (with_reducible apply At.new'; (focus (simp; done))) | with_reducible apply At.al | with_reducible apply At.drw | with_reducible apply At.dr)))⟩
      case rest =>
        clear k_a k_b k_c k_x k_y k_p
        clear HB
        obtain ⟨rfl, HB, k_a, k_b, k_c, k_x, k_y, k_p, k_q⟩ := hcut
        go_upto_if 86 with fail
        go_cut [] (fun  wd => Below w.heap.size w wd ∧ At wd (w.heap.size) 23 #[.int .i64 an, .int .i64 ad] ∧ At wd (w.heap.size + 1) 23 #[.int .i64 bn, .int .i64 bd] ∧ At wd (w.heap.size + 1 + 1) 23 #[.int .i64 cn, .int .i64 cd] ∧ At wd (v2.heap.size) 23 #[.int .i64 x1, .int .i64 x2] ∧ At wd (v3.heap.size) 23 #[.int .i64 y1, .int .i64 y2] ∧ At wd (v4.heap.size) 23 #[.int .i64 p1, .int .i64 p2] ∧ At wd (v5.heap.size) 23 #[.int .i64 q1, .int .i64 q2])
        case first =>
          rcases HB2.out with eb | ⟨eb, u1, u2, ue, c12⟩
          · subst eb
            go_wp2_with fail
            go_meet
            exact ⟨(by repeat (first | with_reducible assumption | with_reducible exact Below.refl _ _ | with_reducible refine below_al ?_ _ | with_reducible refine below_drew ?_ | with_reducible refine below_drewN ?_ _ | with_reducible refine below_set ?_ (by dsimp only; omega) _)), (by repeat (first | with_reducible assumption | with_reducible apply At.put0 | with_reducible apply At.put1 | with_reducible refine At.far ?_ (by dsimp only; omega) _ | with_reducible apply At.al | with_reducible apply At.drw | with_reducible apply At.dr)), (by repeat (first | with_reducible assumption | with_reducible apply At.put0 | with_reducible apply At.put1 | with_reducible refine At.far ?_ (by dsimp only; omega) _ | with_reducible apply At.al | with_reducible apply At.drw | with_reducible apply At.dr)), (by repeat (first | with_reducible assumption | with_reducible apply At.put0 | with_reducible apply At.put1 | with_reducible refine At.far ?_ (by dsimp only; omega) _ | with_reducible apply At.al | with_reducible apply At.drw | with_reducible apply At.dr)), (by repeat (first | with_reducible assumption | with_reducible apply At.put0 | with_reducible apply At.put1 | with_reducible refine At.far ?_ (by dsimp only; omega) _ | with_reducible apply At.al | with_reducible apply At.drw | with_reducible apply At.dr)), (by repeat (first | with_reducible assumption | with_reducible apply At.put0 | with_reducible apply At.put1 | with_reducible refine At.far ?_ (by dsimp only; omega) _ | with_reducible apply At.al | with_reducible apply At.drw | with_reducible apply At.dr)), (by repeat (first | with_reducible assumption | with_reducible apply At.put0 | with_reducible apply At.put1 | with_reducible refine At.far ?_ (by dsimp only; omega) _ | with_reducible apply At.al | with_reducible apply At.drw | with_reducible apply At.dr)), (by repeat (first | with_reducible assumption | with_reducible apply At.put0 | with_reducible apply At.put1 | with_reducible refine At.far ?_ (by dsimp only; omega) _ | with_reducible apply At.al | with_reducible apply At.drw | with_reducible apply At.dr))⟩
          · obtain ⟨c1, c2⟩ := c12
            have C1 := Lib.hid c1
            have C2 := Lib.hid c2
            clear c1 c2
            subst eb
            have Lk_p := k_p.lt
            obtain ⟨k_p0, k_p1, k_p2, k_p3⟩ := k_p.two
            have Lk_c := k_c.lt
            obtain ⟨k_c0, k_c1, k_c2, k_c3⟩ := k_c.two
            go_wp2_with fail
            refine (C1.out _).mono ?_
            rintro e v6 ⟨rfl, hb6⟩
            clear k_p0 k_p1 k_p2 k_p3 Lk_p k_c0 k_c1 k_c2 k_c3 Lk_c
            replace k_a : At v6 (w.heap.size) 23 #[.int .i64 an, .int .i64 ad] := At.bel (by repeat (first | with_reducible assumption | with_reducible apply At.put0 | with_reducible apply At.put1 | with_reducible refine At.far ?_ (by dsimp only; omega) _ | with_reducible apply At.al | with_reducible apply At.drw | with_reducible apply At.dr)) hb6
            replace k_b : At v6 (w.heap.size + 1) 23 #[.int .i64 bn, .int .i64 bd] := At.bel (by repeat (first | with_reducible assumption | with_reducible apply At.put0 | with_reducible apply At.put1 | with_reducible refine At.far ?_ (by dsimp only; omega) _ | with_reducible apply At.al | with_reducible apply At.drw | with_reducible apply At.dr)) hb6
            replace k_c : At v6 (w.heap.size + 1 + 1) 23 #[.int .i64 cn, .int .i64 cd] := At.bel (by repeat (first | with_reducible assumption | with_reducible apply At.put0 | with_reducible apply At.put1 | with_reducible refine At.far ?_ (by dsimp only; omega) _ | with_reducible apply At.al | with_reducible apply At.drw | with_reducible apply At.dr)) hb6
            replace k_x : At v6 (v2.heap.size) 23 #[.int .i64 x1, .int .i64 x2] := At.bel (by repeat (first | with_reducible assumption | with_reducible apply At.put0 | with_reducible apply At.put1 | with_reducible refine At.far ?_ (by dsimp only; omega) _ | with_reducible apply At.al | with_reducible apply At.drw | with_reducible apply At.dr)) hb6
            replace k_y : At v6 (v3.heap.size) 23 #[.int .i64 y1, .int .i64 y2] := At.bel (by repeat (first | with_reducible assumption | with_reducible apply At.put0 | with_reducible apply At.put1 | with_reducible refine At.far ?_ (by dsimp only; omega) _ | with_reducible apply At.al | with_reducible apply At.drw | with_reducible apply At.dr)) hb6
            replace k_p : At v6 (v4.heap.size) 23 #[.int .i64 p1, .int .i64 p2] := At.bel (by repeat (first | with_reducible assumption | with_reducible apply At.put0 | with_reducible apply At.put1 | with_reducible refine At.far ?_ (by dsimp only; omega) _ | with_reducible apply At.al | with_reducible apply At.drw | with_reducible apply At.dr)) hb6
            replace k_q : At v6 (v5.heap.size) 23 #[.int .i64 q1, .int .i64 q2] := At.bel (by repeat (first | with_reducible assumption | with_reducible apply At.put0 | with_reducible apply At.put1 | with_reducible refine At.far ?_ (by dsimp only; omega) _ | with_reducible apply At.al | with_reducible apply At.drw | with_reducible apply At.dr)) hb6
            replace HB : Below w.heap.size w v6 := below_then (by repeat (first | with_reducible assumption | with_reducible exact Below.refl _ _ | with_reducible refine below_al ?_ _ | with_reducible refine below_drew ?_ | with_reducible refine below_drewN ?_ _ | with_reducible refine below_set ?_ (by dsimp only; omega) _)) hb6
            clear hb6
            have Lk_a := k_a.lt
            obtain ⟨k_a0, k_a1, k_a2, k_a3⟩ := k_a.two
            have Lk_q := k_q.lt
            obtain ⟨k_q0, k_q1, k_q2, k_q3⟩ := k_q.two
            have Lk_p := k_p.lt
            obtain ⟨k_p0, k_p1, k_p2, k_p3⟩ := k_p.two
            have Lk_c := k_c.lt
            obtain ⟨k_c0, k_c1, k_c2, k_c3⟩ := k_c.two
            go_wp2_with fail
            refine (C2.out _).mono ?_
            rintro e v7 ⟨rfl, hb7⟩
            clear k_a0 k_a1 k_a2 k_a3 Lk_a k_q0 k_q1 k_q2 k_q3 Lk_q k_p0 k_p1 k_p2 k_p3 Lk_p k_c0 k_c1 k_c2 k_c3 Lk_c
            replace k_a : At v7 (w.heap.size) 23 #[.int .i64 an, .int .i64 ad] := At.bel (by repeat (first | with_reducible assumption | with_reducible apply At.put0 | with_reducible apply At.put1 | with_reducible refine At.far ?_ (by dsimp only; omega) _ | with_reducible apply At.al | with_reducible apply At.drw | with_reducible apply At.dr)) hb7
            replace k_b : At v7 (w.heap.size + 1) 23 #[.int .i64 bn, .int .i64 bd] := At.bel (by repeat (first | with_reducible assumption | with_reducible apply At.put0 | with_reducible apply At.put1 | with_reducible refine At.far ?_ (by dsimp only; omega) _ | with_reducible apply At.al | with_reducible apply At.drw | with_reducible apply At.dr)) hb7
            replace k_c : At v7 (w.heap.size + 1 + 1) 23 #[.int .i64 cn, .int .i64 cd] := At.bel (by repeat (first | with_reducible assumption | with_reducible apply At.put0 | with_reducible apply At.put1 | with_reducible refine At.far ?_ (by dsimp only; omega) _ | with_reducible apply At.al | with_reducible apply At.drw | with_reducible apply At.dr)) hb7
            replace k_x : At v7 (v2.heap.size) 23 #[.int .i64 x1, .int .i64 x2] := At.bel (by repeat (first | with_reducible assumption | with_reducible apply At.put0 | with_reducible apply At.put1 | with_reducible refine At.far ?_ (by dsimp only; omega) _ | with_reducible apply At.al | with_reducible apply At.drw | with_reducible apply At.dr)) hb7
            replace k_y : At v7 (v3.heap.size) 23 #[.int .i64 y1, .int .i64 y2] := At.bel (by repeat (first | with_reducible assumption | with_reducible apply At.put0 | with_reducible apply At.put1 | with_reducible refine At.far ?_ (by dsimp only; omega) _ | with_reducible apply At.al | with_reducible apply At.drw | with_reducible apply At.dr)) hb7
            replace k_p : At v7 (v4.heap.size) 23 #[.int .i64 p1, .int .i64 p2] := At.bel (by repeat (first | with_reducible assumption | with_reducible apply At.put0 | with_reducible apply At.put1 | with_reducible refine At.far ?_ (by dsimp only; omega) _ | with_reducible apply At.al | with_reducible apply At.drw | with_reducible apply At.dr)) hb7
            replace k_q : At v7 (v5.heap.size) 23 #[.int .i64 q1, .int .i64 q2] := At.bel (by repeat (first | with_reducible assumption | with_reducible apply At.put0 | with_reducible apply At.put1 | with_reducible refine At.far ?_ (by dsimp only; omega) _ | with_reducible apply At.al | with_reducible apply At.drw | with_reducible apply At.dr)) hb7
            have k_u : At v7 (v6.heap.size) 23 #[.int .i64 u1, .int .i64 u2] := At.bel (by (repeat (first | (with_reducible apply At.new'; (focus (simp; done))) | with_reducible apply At.al | with_reducible apply At.drw | with_reducible apply At.dr))) hb7
            replace HB : Below w.heap.size w v7 := below_then (by repeat (first | with_reducible assumption | with_reducible exact Below.refl _ _ | with_reducible refine below_al ?_ _ | with_reducible refine below_drew ?_ | with_reducible refine below_drewN ?_ _ | with_reducible refine below_set ?_ (by dsimp only; omega) _)) hb7
            clear hb7
            have Lk_u := k_u.lt
            obtain ⟨k_u0, k_u1, k_u2, k_u3⟩ := k_u.two
            go_wp2_with fail
            go_meet
            exact ⟨(by repeat (first | with_reducible assumption | with_reducible exact Below.refl _ _ | with_reducible refine below_al ?_ _ | with_reducible refine below_drew ?_ | with_reducible refine below_drewN ?_ _ | with_reducible refine below_set ?_ (by dsimp only; omega) _)), (by repeat (first | with_reducible assumption | with_reducible apply At.put0 | with_reducible apply At.put1 | with_reducible refine At.far ?_ (by dsimp only; omega) _ | with_reducible apply At.al | with_reducible apply At.drw | with_reducible apply At.dr)), (by repeat (first | with_reducible assumption | with_reducible apply At.put0 | with_reducible apply At.put1 | with_reducible refine At.far ?_ (by dsimp only; omega) _ | with_reducible apply At.al | with_reducible apply At.drw | with_reducible apply At.dr)), (by repeat (first | with_reducible assumption | with_reducible apply At.put0 | with_reducible apply At.put1 | with_reducible refine At.far ?_ (by dsimp only; omega) _ | with_reducible apply At.al | with_reducible apply At.drw | with_reducible apply At.dr)), (by repeat (first | with_reducible assumption | with_reducible apply At.put0 | with_reducible apply At.put1 | with_reducible refine At.far ?_ (by dsimp only; omega) _ | with_reducible apply At.al | with_reducible apply At.drw | with_reducible apply At.dr)), (by repeat (first | with_reducible assumption | with_reducible apply At.put0 | with_reducible apply At.put1 | with_reducible refine At.far ?_ (by dsimp only; omega) _ | with_reducible apply At.al | with_reducible apply At.drw | with_reducible apply At.dr)), (by repeat (first | with_reducible assumption | with_reducible apply At.put0 | with_reducible apply At.put1 | with_reducible refine At.far ?_ (by dsimp only; omega) _ | with_reducible apply At.al | with_reducible apply At.drw | with_reducible apply At.dr)), (by repeat (first | with_reducible assumption | with_reducible apply At.put0 | with_reducible apply At.put1 | with_reducible refine At.far ?_ (by dsimp only; omega) _ | with_reducible apply At.al | with_reducible apply At.drw | with_reducible apply At.dr))⟩
        case rest =>
          clear k_a k_b k_c k_x k_y k_p k_q
          clear HB
          obtain ⟨HB, k_a, k_b, k_c, k_x, k_y, k_p, k_q⟩ := hcut
          have Lk_a := k_a.lt
          obtain ⟨k_a0, k_a1, k_a2, k_a3⟩ := k_a.two
          have Lk_c := k_c.lt
          obtain ⟨k_c0, k_c1, k_c2, k_c3⟩ := k_c.two
          go_wp2_with fail
          refine (HM3.out _).mono ?_
          rintro e v6 ⟨rfl, hb6⟩
          clear k_a0 k_a1 k_a2 k_a3 Lk_a k_c0 k_c1 k_c2 k_c3 Lk_c
          replace k_a : At v6 (w.heap.size) 23 #[.int .i64 an, .int .i64 ad] := At.bel (by repeat (first | with_reducible assumption | with_reducible apply At.put0 | with_reducible apply At.put1 | with_reducible refine At.far ?_ (by dsimp only; omega) _ | with_reducible apply At.al | with_reducible apply At.drw | with_reducible apply At.dr)) hb6
          replace k_b : At v6 (w.heap.size + 1) 23 #[.int .i64 bn, .int .i64 bd] := At.bel (by repeat (first | with_reducible assumption | with_reducible apply At.put0 | with_reducible apply At.put1 | with_reducible refine At.far ?_ (by dsimp only; omega) _ | with_reducible apply At.al | with_reducible apply At.drw | with_reducible apply At.dr)) hb6
          replace k_c : At v6 (w.heap.size + 1 + 1) 23 #[.int .i64 cn, .int .i64 cd] := At.bel (by repeat (first | with_reducible assumption | with_reducible apply At.put0 | with_reducible apply At.put1 | with_reducible refine At.far ?_ (by dsimp only; omega) _ | with_reducible apply At.al | with_reducible apply At.drw | with_reducible apply At.dr)) hb6
          replace k_x : At v6 (v2.heap.size) 23 #[.int .i64 x1, .int .i64 x2] := At.bel (by repeat (first | with_reducible assumption | with_reducible apply At.put0 | with_reducible apply At.put1 | with_reducible refine At.far ?_ (by dsimp only; omega) _ | with_reducible apply At.al | with_reducible apply At.drw | with_reducible apply At.dr)) hb6
          replace k_y : At v6 (v3.heap.size) 23 #[.int .i64 y1, .int .i64 y2] := At.bel (by repeat (first | with_reducible assumption | with_reducible apply At.put0 | with_reducible apply At.put1 | with_reducible refine At.far ?_ (by dsimp only; omega) _ | with_reducible apply At.al | with_reducible apply At.drw | with_reducible apply At.dr)) hb6
          replace k_p : At v6 (v4.heap.size) 23 #[.int .i64 p1, .int .i64 p2] := At.bel (by repeat (first | with_reducible assumption | with_reducible apply At.put0 | with_reducible apply At.put1 | with_reducible refine At.far ?_ (by dsimp only; omega) _ | with_reducible apply At.al | with_reducible apply At.drw | with_reducible apply At.dr)) hb6
          replace k_q : At v6 (v5.heap.size) 23 #[.int .i64 q1, .int .i64 q2] := At.bel (by repeat (first | with_reducible assumption | with_reducible apply At.put0 | with_reducible apply At.put1 | with_reducible refine At.far ?_ (by dsimp only; omega) _ | with_reducible apply At.al | with_reducible apply At.drw | with_reducible apply At.dr)) hb6
          replace HB : Below w.heap.size w v6 := below_then (by repeat (first | with_reducible assumption | with_reducible exact Below.refl _ _ | with_reducible refine below_al ?_ _ | with_reducible refine below_drew ?_ | with_reducible refine below_drewN ?_ _ | with_reducible refine below_set ?_ (by dsimp only; omega) _)) hb6
          clear hb6
          have Lk_p := k_p.lt
          obtain ⟨k_p0, k_p1, k_p2, k_p3⟩ := k_p.two
          go_wp2_with fail
          refine (HS3.out _).mono ?_
          rintro e v7 ⟨rfl, hb7⟩
          clear k_p0 k_p1 k_p2 k_p3 Lk_p
          replace k_a : At v7 (w.heap.size) 23 #[.int .i64 an, .int .i64 ad] := At.bel (by repeat (first | with_reducible assumption | with_reducible apply At.put0 | with_reducible apply At.put1 | with_reducible refine At.far ?_ (by dsimp only; omega) _ | with_reducible apply At.al | with_reducible apply At.drw | with_reducible apply At.dr)) hb7
          replace k_b : At v7 (w.heap.size + 1) 23 #[.int .i64 bn, .int .i64 bd] := At.bel (by repeat (first | with_reducible assumption | with_reducible apply At.put0 | with_reducible apply At.put1 | with_reducible refine At.far ?_ (by dsimp only; omega) _ | with_reducible apply At.al | with_reducible apply At.drw | with_reducible apply At.dr)) hb7
          replace k_c : At v7 (w.heap.size + 1 + 1) 23 #[.int .i64 cn, .int .i64 cd] := At.bel (by repeat (first | with_reducible assumption | with_reducible apply At.put0 | with_reducible apply At.put1 | with_reducible refine At.far ?_ (by dsimp only; omega) _ | with_reducible apply At.al | with_reducible apply At.drw | with_reducible apply At.dr)) hb7
          replace k_x : At v7 (v2.heap.size) 23 #[.int .i64 x1, .int .i64 x2] := At.bel (by repeat (first | with_reducible assumption | with_reducible apply At.put0 | with_reducible apply At.put1 | with_reducible refine At.far ?_ (by dsimp only; omega) _ | with_reducible apply At.al | with_reducible apply At.drw | with_reducible apply At.dr)) hb7
          replace k_y : At v7 (v3.heap.size) 23 #[.int .i64 y1, .int .i64 y2] := At.bel (by repeat (first | with_reducible assumption | with_reducible apply At.put0 | with_reducible apply At.put1 | with_reducible refine At.far ?_ (by dsimp only; omega) _ | with_reducible apply At.al | with_reducible apply At.drw | with_reducible apply At.dr)) hb7
          replace k_p : At v7 (v4.heap.size) 23 #[.int .i64 p1, .int .i64 p2] := At.bel (by repeat (first | with_reducible assumption | with_reducible apply At.put0 | with_reducible apply At.put1 | with_reducible refine At.far ?_ (by dsimp only; omega) _ | with_reducible apply At.al | with_reducible apply At.drw | with_reducible apply At.dr)) hb7
          replace k_q : At v7 (v5.heap.size) 23 #[.int .i64 q1, .int .i64 q2] := At.bel (by repeat (first | with_reducible assumption | with_reducible apply At.put0 | with_reducible apply At.put1 | with_reducible refine At.far ?_ (by dsimp only; omega) _ | with_reducible apply At.al | with_reducible apply At.drw | with_reducible apply At.dr)) hb7
          have k_r : At v7 (v6.heap.size) 23 #[.int .i64 r1, .int .i64 r2] := At.bel (by (repeat (first | (with_reducible apply At.new'; (focus (simp; done))) | with_reducible apply At.al | with_reducible apply At.drw | with_reducible apply At.dr))) hb7
          replace HB : Below w.heap.size w v7 := below_then (by repeat (first | with_reducible assumption | with_reducible exact Below.refl _ _ | with_reducible refine below_al ?_ _ | with_reducible refine below_drew ?_ | with_reducible refine below_drewN ?_ _ | with_reducible refine below_set ?_ (by dsimp only; omega) _)) hb7
          clear hb7
          have Lk_p := k_p.lt
          obtain ⟨k_p0, k_p1, k_p2, k_p3⟩ := k_p.two
          have Lk_r := k_r.lt
          obtain ⟨k_r0, k_r1, k_r2, k_r3⟩ := k_r.two
          have Lk_b := k_b.lt
          obtain ⟨k_b0, k_b1, k_b2, k_b3⟩ := k_b.two
          have Lk_c := k_c.lt
          obtain ⟨k_c0, k_c1, k_c2, k_c3⟩ := k_c.two
          go_wp2_with fail
          refine (HS2.out _).mono ?_
          rintro e v8 ⟨rfl, hb8⟩
          clear k_p0 k_p1 k_p2 k_p3 Lk_p k_r0 k_r1 k_r2 k_r3 Lk_r k_b0 k_b1 k_b2 k_b3 Lk_b k_c0 k_c1 k_c2 k_c3 Lk_c
          replace k_a : At v8 (w.heap.size) 23 #[.int .i64 an, .int .i64 ad] := At.bel (by repeat (first | with_reducible assumption | with_reducible apply At.put0 | with_reducible apply At.put1 | with_reducible refine At.far ?_ (by dsimp only; omega) _ | with_reducible apply At.al | with_reducible apply At.drw | with_reducible apply At.dr)) hb8
          replace k_b : At v8 (w.heap.size + 1) 23 #[.int .i64 bn, .int .i64 bd] := At.bel (by repeat (first | with_reducible assumption | with_reducible apply At.put0 | with_reducible apply At.put1 | with_reducible refine At.far ?_ (by dsimp only; omega) _ | with_reducible apply At.al | with_reducible apply At.drw | with_reducible apply At.dr)) hb8
          replace k_c : At v8 (w.heap.size + 1 + 1) 23 #[.int .i64 cn, .int .i64 cd] := At.bel (by repeat (first | with_reducible assumption | with_reducible apply At.put0 | with_reducible apply At.put1 | with_reducible refine At.far ?_ (by dsimp only; omega) _ | with_reducible apply At.al | with_reducible apply At.drw | with_reducible apply At.dr)) hb8
          replace k_x : At v8 (v2.heap.size) 23 #[.int .i64 x1, .int .i64 x2] := At.bel (by repeat (first | with_reducible assumption | with_reducible apply At.put0 | with_reducible apply At.put1 | with_reducible refine At.far ?_ (by dsimp only; omega) _ | with_reducible apply At.al | with_reducible apply At.drw | with_reducible apply At.dr)) hb8
          replace k_y : At v8 (v3.heap.size) 23 #[.int .i64 y1, .int .i64 y2] := At.bel (by repeat (first | with_reducible assumption | with_reducible apply At.put0 | with_reducible apply At.put1 | with_reducible refine At.far ?_ (by dsimp only; omega) _ | with_reducible apply At.al | with_reducible apply At.drw | with_reducible apply At.dr)) hb8
          replace k_p : At v8 (v4.heap.size) 23 #[.int .i64 p1, .int .i64 p2] := At.bel (by repeat (first | with_reducible assumption | with_reducible apply At.put0 | with_reducible apply At.put1 | with_reducible refine At.far ?_ (by dsimp only; omega) _ | with_reducible apply At.al | with_reducible apply At.drw | with_reducible apply At.dr)) hb8
          replace k_q : At v8 (v5.heap.size) 23 #[.int .i64 q1, .int .i64 q2] := At.bel (by repeat (first | with_reducible assumption | with_reducible apply At.put0 | with_reducible apply At.put1 | with_reducible refine At.far ?_ (by dsimp only; omega) _ | with_reducible apply At.al | with_reducible apply At.drw | with_reducible apply At.dr)) hb8
          replace k_r : At v8 (v6.heap.size) 23 #[.int .i64 r1, .int .i64 r2] := At.bel (by repeat (first | with_reducible assumption | with_reducible apply At.put0 | with_reducible apply At.put1 | with_reducible refine At.far ?_ (by dsimp only; omega) _ | with_reducible apply At.al | with_reducible apply At.drw | with_reducible apply At.dr)) hb8
          have k_s : At v8 (v7.heap.size) 23 #[.int .i64 s1, .int .i64 s2] := At.bel (by (repeat (first | (with_reducible apply At.new'; (focus (simp; done))) | with_reducible apply At.al | with_reducible apply At.drw | with_reducible apply At.dr))) hb8
          replace HB : Below w.heap.size w v8 := below_then (by repeat (first | with_reducible assumption | with_reducible exact Below.refl _ _ | with_reducible refine below_al ?_ _ | with_reducible refine below_drew ?_ | with_reducible refine below_drewN ?_ _ | with_reducible refine below_set ?_ (by dsimp only; omega) _)) hb8
          clear hb8
          have Lk_a := k_a.lt
          obtain ⟨k_a0, k_a1, k_a2, k_a3⟩ := k_a.two
          have Lk_s := k_s.lt
          obtain ⟨k_s0, k_s1, k_s2, k_s3⟩ := k_s.two
          rcases HD.out with z0 | ⟨e0, z1⟩ | ⟨e0, e1, z2⟩ | ⟨e0, e1, e2, c1⟩
          · have z0a : ¬ pe = 0 := by simpa using z0
            have z0b : (pe != 0) = true := by simp [z0a]
            have z0c : decide (pe = 0) = false := by simp [z0a]
            go_wp2_with fail
            go_ret
            exact ⟨rfl, (by repeat (first | with_reducible assumption | with_reducible exact Below.refl _ _ | with_reducible refine below_al ?_ _ | with_reducible refine below_drew ?_ | with_reducible refine below_drewN ?_ _ | with_reducible refine below_set ?_ (by dsimp only; omega) _))⟩
          · subst e0
            have z1a : ¬ re = 0 := by simpa using z1
            have z1b : (re != 0) = true := by simp [z1a]
            have z1c : decide (re = 0) = false := by simp [z1a]
            go_wp2_with fail
            go_ret
            exact ⟨rfl, (by repeat (first | with_reducible assumption | with_reducible exact Below.refl _ _ | with_reducible refine below_al ?_ _ | with_reducible refine below_drew ?_ | with_reducible refine below_drewN ?_ _ | with_reducible refine below_set ?_ (by dsimp only; omega) _))⟩
          · subst e0 e1
            have z2a : ¬ ye = 0 := by simpa using z2
            have z2b : (ye != 0) = true := by simp [z2a]
            have z2c : decide (ye = 0) = false := by simp [z2a]
            go_wp2_with fail
            go_ret
            exact ⟨rfl, (by repeat (first | with_reducible assumption | with_reducible exact Below.refl _ _ | with_reducible refine below_al ?_ _ | with_reducible refine below_drew ?_ | with_reducible refine below_drewN ?_ _ | with_reducible refine below_set ?_ (by dsimp only; omega) _))⟩
          · have C1 := Lib.hid c1
            clear c1
            subst e0 e1 e2
            go_wp2_with fail
            refine (C1.out _).mono ?_
            rintro e v9 ⟨rfl, hb9⟩
            clear k_a0 k_a1 k_a2 k_a3 Lk_a k_s0 k_s1 k_s2 k_s3 Lk_s
            replace k_a : At v9 (w.heap.size) 23 #[.int .i64 an, .int .i64 ad] := At.bel (by repeat (first | with_reducible assumption | with_reducible apply At.put0 | with_reducible apply At.put1 | with_reducible refine At.far ?_ (by dsimp only; omega) _ | with_reducible apply At.al | with_reducible apply At.drw | with_reducible apply At.dr)) hb9
            replace k_b : At v9 (w.heap.size + 1) 23 #[.int .i64 bn, .int .i64 bd] := At.bel (by repeat (first | with_reducible assumption | with_reducible apply At.put0 | with_reducible apply At.put1 | with_reducible refine At.far ?_ (by dsimp only; omega) _ | with_reducible apply At.al | with_reducible apply At.drw | with_reducible apply At.dr)) hb9
            replace k_c : At v9 (w.heap.size + 1 + 1) 23 #[.int .i64 cn, .int .i64 cd] := At.bel (by repeat (first | with_reducible assumption | with_reducible apply At.put0 | with_reducible apply At.put1 | with_reducible refine At.far ?_ (by dsimp only; omega) _ | with_reducible apply At.al | with_reducible apply At.drw | with_reducible apply At.dr)) hb9
            replace k_x : At v9 (v2.heap.size) 23 #[.int .i64 x1, .int .i64 x2] := At.bel (by repeat (first | with_reducible assumption | with_reducible apply At.put0 | with_reducible apply At.put1 | with_reducible refine At.far ?_ (by dsimp only; omega) _ | with_reducible apply At.al | with_reducible apply At.drw | with_reducible apply At.dr)) hb9
            replace k_y : At v9 (v3.heap.size) 23 #[.int .i64 y1, .int .i64 y2] := At.bel (by repeat (first | with_reducible assumption | with_reducible apply At.put0 | with_reducible apply At.put1 | with_reducible refine At.far ?_ (by dsimp only; omega) _ | with_reducible apply At.al | with_reducible apply At.drw | with_reducible apply At.dr)) hb9
            replace k_p : At v9 (v4.heap.size) 23 #[.int .i64 p1, .int .i64 p2] := At.bel (by repeat (first | with_reducible assumption | with_reducible apply At.put0 | with_reducible apply At.put1 | with_reducible refine At.far ?_ (by dsimp only; omega) _ | with_reducible apply At.al | with_reducible apply At.drw | with_reducible apply At.dr)) hb9
            replace k_q : At v9 (v5.heap.size) 23 #[.int .i64 q1, .int .i64 q2] := At.bel (by repeat (first | with_reducible assumption | with_reducible apply At.put0 | with_reducible apply At.put1 | with_reducible refine At.far ?_ (by dsimp only; omega) _ | with_reducible apply At.al | with_reducible apply At.drw | with_reducible apply At.dr)) hb9
            replace k_r : At v9 (v6.heap.size) 23 #[.int .i64 r1, .int .i64 r2] := At.bel (by repeat (first | with_reducible assumption | with_reducible apply At.put0 | with_reducible apply At.put1 | with_reducible refine At.far ?_ (by dsimp only; omega) _ | with_reducible apply At.al | with_reducible apply At.drw | with_reducible apply At.dr)) hb9
            replace k_s : At v9 (v7.heap.size) 23 #[.int .i64 s1, .int .i64 s2] := At.bel (by repeat (first | with_reducible assumption | with_reducible apply At.put0 | with_reducible apply At.put1 | with_reducible refine At.far ?_ (by dsimp only; omega) _ | with_reducible apply At.al | with_reducible apply At.drw | with_reducible apply At.dr)) hb9
            have k_d : At v9 (v8.heap.size) 23 #[.int .i64 y1, .int .i64 y2] := At.bel (by (repeat (first | (with_reducible apply At.new'; (focus (simp; done))) | with_reducible apply At.al | with_reducible apply At.drw | with_reducible apply At.dr))) hb9
            replace HB : Below w.heap.size w v9 := below_then (by repeat (first | with_reducible assumption | with_reducible exact Below.refl _ _ | with_reducible refine below_al ?_ _ | with_reducible refine below_drew ?_ | with_reducible refine below_drewN ?_ _ | with_reducible refine below_set ?_ (by dsimp only; omega) _)) hb9
            clear hb9
            have Lk_a := k_a.lt
            obtain ⟨k_a0, k_a1, k_a2, k_a3⟩ := k_a.two
            have Lk_d := k_d.lt
            obtain ⟨k_d0, k_d1, k_d2, k_d3⟩ := k_d.two
            have Lk_s := k_s.lt
            obtain ⟨k_s0, k_s1, k_s2, k_s3⟩ := k_s.two
            go_wp2_with fail
            go_ret
            exact ⟨rfl, (by repeat (first | with_reducible assumption | with_reducible exact Below.refl _ _ | with_reducible refine below_al ?_ _ | with_reducible refine below_drew ?_ | with_reducible refine below_drewN ?_ _ | with_reducible refine below_set ?_ (by dsimp only; omega) _))⟩

theorem ratioLaws_walk (an ad bn bd cn cd : Int) (w : World) (ht : Tab w) :
    Calls Tryd.prog 3 #[.agg #[.int .i64 an, .int .i64 ad], .agg #[.int .i64 bn, .int .i64 bd], .agg #[.int .i64 cn, .int .i64 cd]] w fun e w' => e = .returned (.bool true) ∧ Below w.heap.size w w' := by
  have HW := Lib.hid (fun u (hb : Below w.heap.size w u) => awake_any u (ht.bel hb))
  have S1 := fun w => radd_any an ad bn bd w
  have S2 := fun w => radd_any bn bd cn cd w
  have M1 := fun w => ratiomul_any an ad bn bd w
  have M2 := fun w => ratiomul_any bn bd cn cd w
  have M3 := fun w => ratiomul_any an ad cn cd w
  have o1 := raddS_or (an := an) (ad := ad) (bn := bn) (bd := bd)
  have o2 := raddS_or (an := bn) (ad := bd) (bn := cn) (bd := cd)
  have o3 := rmulS_or (an := an) (ad := ad) (bn := bn) (bd := bd)
  have o4 := rmulS_or (an := bn) (ad := bd) (bn := cn) (bd := cd)
  have o5 := rmulS_or (an := an) (ad := ad) (bn := cn) (bd := cd)
  have nz : ∀ e : Int, e = 1 ∨ e = 5 → (e == 0) = false := fun e h => by rcases h with rfl | rfl <;> rfl
  rcases hx : raddS an ad bn bd with ⟨x1, x2, xe⟩
  rcases hy : raddS bn bd cn cd with ⟨y1, y2, ye⟩
  rcases hp : rmulS an ad bn bd with ⟨p1, p2, pe⟩
  rcases hq : rmulS bn bd cn cd with ⟨q1, q2, qe⟩
  rcases hr : rmulS an ad cn cd with ⟨r1, r2, re⟩
  rcases hs : raddS p1 p2 r1 r2 with ⟨s1, s2, se⟩
  have S3 := fun w => radd_any p1 p2 r1 r2 w
  rw [hx] at S1 o1
  rw [hy] at S2 o2
  rw [hp] at M1 o3
  rw [hq] at M2 o4
  rw [hr] at M3 o5
  rw [hs] at S3
  simp only [Prod.mk.injEq] at o1 o2 o3 o4 o5
  refine laws_core an ad bn bd cn cd x1 x2 xe y1 y2 ye p1 p2 pe q1 q2 qe r1 r2 re s1 s2 se (xe == 0 && ye == 0) (pe == 0 && qe == 0) w HW (Lib.hid S1) (Lib.hid S2) (Lib.hid ?_) (Lib.hid ?_) (Lib.hid M1) (Lib.hid M2) (Lib.hid ?_) (Lib.hid ?_) (Lib.hid M3) (Lib.hid S3) (Lib.hid ?_)
  · rcases o1 with ⟨_, _, ⟨rfl, rfl, e0⟩, a1, a2, a3, a4⟩ | ⟨e, ⟨_, _, e0⟩, k⟩
    · rcases o2 with ⟨_, _, ⟨rfl, rfl, e1⟩, b1, b2, b3, b4⟩ | ⟨e, ⟨_, _, e1⟩, k⟩
      · exact .inr (.inr ⟨e0, e1, by rw [e0, e1]; rfl⟩)
      · have q := nz e k
        exact .inr (.inl ⟨e0, by rw [e1]; exact q, by rw [e0, e1, q]; rfl⟩)
    · have q := nz e k
      exact .inl ⟨by rw [e0]; exact q, by rw [e0, q]; rfl⟩
  · rcases o1 with ⟨_, _, ⟨rfl, rfl, e0⟩, a1, a2, a3, a4⟩ | ⟨e, ⟨_, _, e0⟩, k⟩
    · rcases o2 with ⟨_, _, ⟨rfl, rfl, e1⟩, b1, b2, b3, b4⟩ | ⟨e, ⟨_, _, e1⟩, k⟩
      · have k := radd_assoc a1 a2 b2 a3 b3 a4 b4
        rcases hu : raddS an ad y1 y2 with ⟨u1, u2, ue⟩
        refine .inr ⟨by rw [e0, e1]; rfl, u1, u2, ue, fun w => ?_, fun w => ?_⟩
        · have := radd_any x1 x2 cn cd w
          rw [k, hu] at this
          exact this
        · have := radd_any an ad y1 y2 w
          rw [hu] at this
          exact this
      · have q := nz e k
        exact .inl (by rw [e0, e1, q]; rfl)
    · have q := nz e k
      exact .inl (by rw [e0, q]; rfl)
  · rcases o3 with ⟨_, _, ⟨rfl, rfl, e0⟩, a1, a2, a3, a4⟩ | ⟨e, ⟨_, _, e0⟩, k⟩
    · rcases o4 with ⟨_, _, ⟨rfl, rfl, e1⟩, b1, b2, b3, b4⟩ | ⟨e, ⟨_, _, e1⟩, k⟩
      · exact .inr (.inr ⟨e0, e1, by rw [e0, e1]; rfl⟩)
      · have q := nz e k
        exact .inr (.inl ⟨e0, by rw [e1]; exact q, by rw [e0, e1, q]; rfl⟩)
    · have q := nz e k
      exact .inl ⟨by rw [e0]; exact q, by rw [e0, q]; rfl⟩
  · rcases o3 with ⟨_, _, ⟨rfl, rfl, e0⟩, a1, a2, a3, a4⟩ | ⟨e, ⟨_, _, e0⟩, k⟩
    · rcases o4 with ⟨_, _, ⟨rfl, rfl, e1⟩, b1, b2, b3, b4⟩ | ⟨e, ⟨_, _, e1⟩, k⟩
      · have k := rmul_assoc a1 a2 b2 a3 b3 a4 b4
        rcases hu : rmulS an ad q1 q2 with ⟨u1, u2, ue⟩
        refine .inr ⟨by rw [e0, e1]; rfl, u1, u2, ue, fun w => ?_, fun w => ?_⟩
        · have := ratiomul_any p1 p2 cn cd w
          rw [k, hu] at this
          exact this
        · have := ratiomul_any an ad q1 q2 w
          rw [hu] at this
          exact this
      · have q := nz e k
        exact .inl (by rw [e0, e1, q]; rfl)
    · have q := nz e k
      exact .inl (by rw [e0, q]; rfl)
  · rcases o3 with ⟨_, _, ⟨rfl, rfl, e0⟩, a1, a2, a3, a4⟩ | ⟨e, ⟨_, _, e0⟩, k⟩
    · rcases o5 with ⟨_, _, ⟨rfl, rfl, e1⟩, b1, b2, b3, b4⟩ | ⟨e, ⟨_, _, e1⟩, k⟩
      · rcases o2 with ⟨_, _, ⟨rfl, rfl, e2⟩, d1, d2, d3, d4⟩ | ⟨e, ⟨_, _, e2⟩, k⟩
        · have k := rmul_dist a1 a2 b2 a3 b3 d3 a4 b4 d4
          refine .inr (.inr (.inr ⟨e0, e1, e2, fun w => ?_⟩))
          have := ratiomul_any an ad y1 y2 w
          rw [k, hs] at this
          exact this
        · exact .inr (.inr (.inl ⟨e0, e1, by rw [e2]; exact nz e k⟩))
      · exact .inr (.inl ⟨e0, by rw [e1]; exact nz e k⟩)
    · exact .inl (by rw [e0]; exact nz e k)

end Go.Proofs.YtpijmjffobkalaaDoor
