/- RatioOrder's walk, a part of it. -/
import Derived.Test.YtpijmjffobkalaaDoorRaTx
import Derived.Test.YtpijmjffobkalaaDoorMLa
import Derived.Deep.DeepCutAuto
import Derived.Deep.CutBlock
set_option linter.unusedVariables false
namespace Go.Proofs.YtpijmjffobkalaaDoor
open Go.ChangeShapes Go.WideShapes Go.ChangeAt Go.RowKit

set_option maxRecDepth 100000 in
set_option maxHeartbeats 8000000 in
theorem order_gt (an ad bn bd cn cd d1 d2 de x1 x2 xe y1 y2 ye u1 u2 ue n1 n2 ve : Int) (ba : Bool) (w : World)
    (HW : Hid (∀ u, Below w.heap.size w u → Calls Tryd.prog 11 #[] u fun e w' => e = .returned (.bool true) ∧ Below u.heap.size u w'))
    (HK : Hid (∀ w, Calls Tryd.prog 25 #[.agg #[.int .i64 an, .int .i64 ad], .agg #[.int .i64 bn, .int .i64 bd]] w fun e w' => e = .returned (cmv (1, 0)) ∧ Below w.heap.size w w'))
    (HL : Hid (∀ w, Calls Tryd.prog 25 #[.agg #[.int .i64 bn, .int .i64 bd], .agg #[.int .i64 an, .int .i64 ad]] w fun e w' => e = .returned (cmv ((-1), 0)) ∧ Below w.heap.size w w'))
    (NE : Hid (¬ an = bn ∨ an = bn ∧ ¬ ad = bd))
    (HD : Hid (∀ w, Calls Tryd.prog 14 #[.agg #[.int .i64 an, .int .i64 ad], .agg #[.int .i64 bn, .int .i64 bd]] w fun e w' => e = .returned (frv (d1, d2, de)) ∧ Below w.heap.size w w'))
    (HE : Hid ((de == 0) = false ∨ de = 0 ∧ decide (d1 < 0) = false ∧ decide (0 < d1) = true))
    (HX : Hid (∀ w, Calls Tryd.prog 12 #[.agg #[.int .i64 an, .int .i64 ad], .agg #[.int .i64 cn, .int .i64 cd]] w fun e w' => e = .returned (frv (x1, x2, xe)) ∧ Below w.heap.size w w'))
    (HY : Hid (∀ w, Calls Tryd.prog 12 #[.agg #[.int .i64 bn, .int .i64 bd], .agg #[.int .i64 cn, .int .i64 cd]] w fun e w' => e = .returned (frv (y1, y2, ye)) ∧ Below w.heap.size w w'))
    (HF : Hid ((xe == 0) = false ∧ ba = false ∨ xe = 0 ∧ (ye == 0) = false ∧ ba = false ∨ xe = 0 ∧ ye = 0 ∧ ba = true))
    (HF2 : Hid (ba = false ∨ ba = true ∧ (∀ w, Calls Tryd.prog 25 #[.agg #[.int .i64 x1, .int .i64 x2], .agg #[.int .i64 y1, .int .i64 y2]] w fun e w' => e = .returned (cmv (1, 0)) ∧ Below w.heap.size w w')))
    (HM : Hid (∀ w, Calls Tryd.prog 13 #[.agg #[.int .i64 an, .int .i64 ad], .agg #[.int .i64 cn, .int .i64 cd]] w fun e w' => e = .returned (frv (u1, u2, ue)) ∧ Below w.heap.size w w'))
    (HN : Hid (∀ w, Calls Tryd.prog 13 #[.agg #[.int .i64 bn, .int .i64 bd], .agg #[.int .i64 cn, .int .i64 cd]] w fun e w' => e = .returned (frv (n1, n2, ve)) ∧ Below w.heap.size w w'))
    (HG : Hid ((ue == 0) = false ∨ ue = 0 ∧ (ve == 0) = false ∨ ue = 0 ∧ ve = 0 ∧ ((decide (0 < cn) = true ∧ (∀ w, Calls Tryd.prog 25 #[.agg #[.int .i64 u1, .int .i64 u2], .agg #[.int .i64 n1, .int .i64 n2]] w fun e w' => e = .returned (cmv (1, 0)) ∧ Below w.heap.size w w')) ∨ ((decide (0 < cn) = false ∧ decide (cn < 0) = false) ∧ (∀ w, Calls Tryd.prog 25 #[.agg #[.int .i64 u1, .int .i64 u2], .agg #[.int .i64 n1, .int .i64 n2]] w fun e w' => e = .returned (cmv (0, 0)) ∧ Below w.heap.size w w')) ∨ ((decide (0 < cn) = false ∧ decide (cn < 0) = true) ∧ (∀ w, Calls Tryd.prog 25 #[.agg #[.int .i64 u1, .int .i64 u2], .agg #[.int .i64 n1, .int .i64 n2]] w fun e w' => e = .returned (cmv ((-1), 0)) ∧ Below w.heap.size w w'))))) :
    Calls Tryd.prog 6 #[.agg #[.int .i64 an, .int .i64 ad], .agg #[.int .i64 bn, .int .i64 bd], .agg #[.int .i64 cn, .int .i64 cd]] w fun e w' => e = .returned (.bool true) ∧ Below w.heap.size w w' := by
  go_enter Tryd.func6, Tryd.ntmps6
  go_wp2_with fail
  refine (HW.out _ (by repeat (first | with_reducible assumption | with_reducible exact Below.refl _ _ | with_reducible refine below_al ?_ _ | with_reducible refine below_drew ?_ | with_reducible refine below_drewN ?_ _ | with_reducible refine below_set ?_ (by dsimp only; omega) _))).mono ?_
  rintro e v1 ⟨rfl, hb1⟩
  have k_a : At v1 (w.heap.size) 23 #[.int .i64 an, .int .i64 ad] := At.bel (by (repeat (first | (with_reducible apply At.new'; (focus (simp; done))) | with_reducible apply At.al | with_reducible apply At.drw | with_reducible apply At.dr))) hb1
  have k_b : At v1 (w.heap.size + 1) 23 #[.int .i64 bn, .int .i64 bd] := At.bel (by (repeat (first | (with_reducible apply At.new'; (focus (simp; done))) | with_reducible apply At.al | with_reducible apply At.drw | with_reducible apply At.dr))) hb1
  have k_c : At v1 (w.heap.size + 1 + 1) 23 #[.int .i64 cn, .int .i64 cd] := At.bel (by (repeat (first | (with_reducible apply At.new'; (focus (simp; done))) | with_reducible apply At.al | with_reducible apply At.drw | with_reducible apply At.dr))) hb1
  have HB : Below w.heap.size w v1 := below_then (by repeat (first | with_reducible assumption | with_reducible exact Below.refl _ _ | with_reducible refine below_al ?_ _ | with_reducible refine below_drew ?_ | with_reducible refine below_drewN ?_ _ | with_reducible refine below_set ?_ (by dsimp only; omega) _)) hb1
  clear hb1
  have Lk_a := k_a.lt
  obtain ⟨k_a0, k_a1, k_a2, k_a3⟩ := k_a.two
  have Lk_b := k_b.lt
  obtain ⟨k_b0, k_b1, k_b2, k_b3⟩ := k_b.two
  have Lk_c := k_c.lt
  obtain ⟨k_c0, k_c1, k_c2, k_c3⟩ := k_c.two
  go_wp2_with fail
  refine (HK.out _).mono ?_
  rintro e v2 ⟨rfl, hb2⟩
  clear k_a0 k_a1 k_a2 k_a3 Lk_a k_b0 k_b1 k_b2 k_b3 Lk_b k_c0 k_c1 k_c2 k_c3 Lk_c
  replace k_a : At v2 (w.heap.size) 23 #[.int .i64 an, .int .i64 ad] := At.bel (by repeat (first | with_reducible assumption | with_reducible apply At.put0 | with_reducible apply At.put1 | with_reducible refine At.far ?_ (by dsimp only; omega) _ | with_reducible apply At.al | with_reducible apply At.drw | with_reducible apply At.dr)) hb2
  replace k_b : At v2 (w.heap.size + 1) 23 #[.int .i64 bn, .int .i64 bd] := At.bel (by repeat (first | with_reducible assumption | with_reducible apply At.put0 | with_reducible apply At.put1 | with_reducible refine At.far ?_ (by dsimp only; omega) _ | with_reducible apply At.al | with_reducible apply At.drw | with_reducible apply At.dr)) hb2
  replace k_c : At v2 (w.heap.size + 1 + 1) 23 #[.int .i64 cn, .int .i64 cd] := At.bel (by repeat (first | with_reducible assumption | with_reducible apply At.put0 | with_reducible apply At.put1 | with_reducible refine At.far ?_ (by dsimp only; omega) _ | with_reducible apply At.al | with_reducible apply At.drw | with_reducible apply At.dr)) hb2
  replace HB : Below w.heap.size w v2 := below_then (by repeat (first | with_reducible assumption | with_reducible exact Below.refl _ _ | with_reducible refine below_al ?_ _ | with_reducible refine below_drew ?_ | with_reducible refine below_drewN ?_ _ | with_reducible refine below_set ?_ (by dsimp only; omega) _)) hb2
  clear hb2
  have Lk_a := k_a.lt
  obtain ⟨k_a0, k_a1, k_a2, k_a3⟩ := k_a.two
  have Lk_b := k_b.lt
  obtain ⟨k_b0, k_b1, k_b2, k_b3⟩ := k_b.two
  have Lk_c := k_c.lt
  obtain ⟨k_c0, k_c1, k_c2, k_c3⟩ := k_c.two
  go_wp2_with fail
  refine (HL.out _).mono ?_
  rintro e v3 ⟨rfl, hb3⟩
  clear k_a0 k_a1 k_a2 k_a3 Lk_a k_b0 k_b1 k_b2 k_b3 Lk_b k_c0 k_c1 k_c2 k_c3 Lk_c
  replace k_a : At v3 (w.heap.size) 23 #[.int .i64 an, .int .i64 ad] := At.bel (by repeat (first | with_reducible assumption | with_reducible apply At.put0 | with_reducible apply At.put1 | with_reducible refine At.far ?_ (by dsimp only; omega) _ | with_reducible apply At.al | with_reducible apply At.drw | with_reducible apply At.dr)) hb3
  replace k_b : At v3 (w.heap.size + 1) 23 #[.int .i64 bn, .int .i64 bd] := At.bel (by repeat (first | with_reducible assumption | with_reducible apply At.put0 | with_reducible apply At.put1 | with_reducible refine At.far ?_ (by dsimp only; omega) _ | with_reducible apply At.al | with_reducible apply At.drw | with_reducible apply At.dr)) hb3
  replace k_c : At v3 (w.heap.size + 1 + 1) 23 #[.int .i64 cn, .int .i64 cd] := At.bel (by repeat (first | with_reducible assumption | with_reducible apply At.put0 | with_reducible apply At.put1 | with_reducible refine At.far ?_ (by dsimp only; omega) _ | with_reducible apply At.al | with_reducible apply At.drw | with_reducible apply At.dr)) hb3
  replace HB : Below w.heap.size w v3 := below_then (by repeat (first | with_reducible assumption | with_reducible exact Below.refl _ _ | with_reducible refine below_al ?_ _ | with_reducible refine below_drew ?_ | with_reducible refine below_drewN ?_ _ | with_reducible refine below_set ?_ (by dsimp only; omega) _)) hb3
  clear hb3
  have Lk_a := k_a.lt
  obtain ⟨k_a0, k_a1, k_a2, k_a3⟩ := k_a.two
  have Lk_b := k_b.lt
  obtain ⟨k_b0, k_b1, k_b2, k_b3⟩ := k_b.two
  have Lk_c := k_c.lt
  obtain ⟨k_c0, k_c1, k_c2, k_c3⟩ := k_c.two
  go_upto_region 7 with fail
  go_cut [64] (fun s64 wq => s64 = .bool false ∧ Below w.heap.size w wq ∧ At wq (w.heap.size) 23 #[.int .i64 an, .int .i64 ad] ∧ At wq (w.heap.size + 1) 23 #[.int .i64 bn, .int .i64 bd] ∧ At wq (w.heap.size + 1 + 1) 23 #[.int .i64 cn, .int .i64 cd])
  case first =>
    rcases NE.out with ne | ne
    · go_wp2_with fail
      go_meet
      exact ⟨rfl, (by repeat (first | with_reducible assumption | with_reducible exact Below.refl _ _ | with_reducible refine below_al ?_ _ | with_reducible refine below_drew ?_ | with_reducible refine below_drewN ?_ _ | with_reducible refine below_set ?_ (by dsimp only; omega) _)), (by repeat (first | with_reducible assumption | with_reducible apply At.put0 | with_reducible apply At.put1 | with_reducible refine At.far ?_ (by dsimp only; omega) _ | with_reducible apply At.al | with_reducible apply At.drw | with_reducible apply At.dr)), (by repeat (first | with_reducible assumption | with_reducible apply At.put0 | with_reducible apply At.put1 | with_reducible refine At.far ?_ (by dsimp only; omega) _ | with_reducible apply At.al | with_reducible apply At.drw | with_reducible apply At.dr)), (by repeat (first | with_reducible assumption | with_reducible apply At.put0 | with_reducible apply At.put1 | with_reducible refine At.far ?_ (by dsimp only; omega) _ | with_reducible apply At.al | with_reducible apply At.drw | with_reducible apply At.dr))⟩
    · obtain ⟨q0, q1⟩ := ne
      go_wp2_with fail
      go_meet
      exact ⟨rfl, (by repeat (first | with_reducible assumption | with_reducible exact Below.refl _ _ | with_reducible refine below_al ?_ _ | with_reducible refine below_drew ?_ | with_reducible refine below_drewN ?_ _ | with_reducible refine below_set ?_ (by dsimp only; omega) _)), (by repeat (first | with_reducible assumption | with_reducible apply At.put0 | with_reducible apply At.put1 | with_reducible refine At.far ?_ (by dsimp only; omega) _ | with_reducible apply At.al | with_reducible apply At.drw | with_reducible apply At.dr)), (by repeat (first | with_reducible assumption | with_reducible apply At.put0 | with_reducible apply At.put1 | with_reducible refine At.far ?_ (by dsimp only; omega) _ | with_reducible apply At.al | with_reducible apply At.drw | with_reducible apply At.dr)), (by repeat (first | with_reducible assumption | with_reducible apply At.put0 | with_reducible apply At.put1 | with_reducible refine At.far ?_ (by dsimp only; omega) _ | with_reducible apply At.al | with_reducible apply At.drw | with_reducible apply At.dr))⟩
  case rest =>
    clear k_a0 k_a1 k_a2 k_a3 Lk_a k_b0 k_b1 k_b2 k_b3 Lk_b k_c0 k_c1 k_c2 k_c3 Lk_c
    clear k_a k_b k_c
    clear HB
    obtain ⟨rfl, HB, k_a, k_b, k_c⟩ := hcut
    have Lk_a := k_a.lt
    obtain ⟨k_a0, k_a1, k_a2, k_a3⟩ := k_a.two
    have Lk_b := k_b.lt
    obtain ⟨k_b0, k_b1, k_b2, k_b3⟩ := k_b.two
    have Lk_c := k_c.lt
    obtain ⟨k_c0, k_c1, k_c2, k_c3⟩ := k_c.two
    go_wp2_with fail
    refine (HD.out _).mono ?_
    rintro e v4 ⟨rfl, hb4⟩
    clear k_a0 k_a1 k_a2 k_a3 Lk_a k_b0 k_b1 k_b2 k_b3 Lk_b k_c0 k_c1 k_c2 k_c3 Lk_c
    replace k_a : At v4 (w.heap.size) 23 #[.int .i64 an, .int .i64 ad] := At.bel (by repeat (first | with_reducible assumption | with_reducible apply At.put0 | with_reducible apply At.put1 | with_reducible refine At.far ?_ (by dsimp only; omega) _ | with_reducible apply At.al | with_reducible apply At.drw | with_reducible apply At.dr)) hb4
    replace k_b : At v4 (w.heap.size + 1) 23 #[.int .i64 bn, .int .i64 bd] := At.bel (by repeat (first | with_reducible assumption | with_reducible apply At.put0 | with_reducible apply At.put1 | with_reducible refine At.far ?_ (by dsimp only; omega) _ | with_reducible apply At.al | with_reducible apply At.drw | with_reducible apply At.dr)) hb4
    replace k_c : At v4 (w.heap.size + 1 + 1) 23 #[.int .i64 cn, .int .i64 cd] := At.bel (by repeat (first | with_reducible assumption | with_reducible apply At.put0 | with_reducible apply At.put1 | with_reducible refine At.far ?_ (by dsimp only; omega) _ | with_reducible apply At.al | with_reducible apply At.drw | with_reducible apply At.dr)) hb4
    replace HB : Below w.heap.size w v4 := below_then (by repeat (first | with_reducible assumption | with_reducible exact Below.refl _ _ | with_reducible refine below_al ?_ _ | with_reducible refine below_drew ?_ | with_reducible refine below_drewN ?_ _ | with_reducible refine below_set ?_ (by dsimp only; omega) _)) hb4
    clear hb4
    have Lk_a := k_a.lt
    obtain ⟨k_a0, k_a1, k_a2, k_a3⟩ := k_a.two
    have Lk_b := k_b.lt
    obtain ⟨k_b0, k_b1, k_b2, k_b3⟩ := k_b.two
    have Lk_c := k_c.lt
    obtain ⟨k_c0, k_c1, k_c2, k_c3⟩ := k_c.two
    have O4k_a := k_a.lt
    have O4k_b := k_b.lt
    have O4k_c := k_c.lt
    clear k_a0 k_a1 k_a2 k_a3 Lk_a k_b0 k_b1 k_b2 k_b3 Lk_b k_c0 k_c1 k_c2 k_c3 Lk_c
    go_upto_region 10 with fail
    go_cut [88] (fun s88 wc => s88 = .bool false ∧ Below w.heap.size w wc ∧ At wc (w.heap.size) 23 #[.int .i64 an, .int .i64 ad] ∧ At wc (w.heap.size + 1) 23 #[.int .i64 bn, .int .i64 bd] ∧ At wc (w.heap.size + 1 + 1) 23 #[.int .i64 cn, .int .i64 cd] ∧ At wc (v4.heap.size) 23 #[.int .i64 d1, .int .i64 d2])
    case first =>
      rcases HE.out with z0 | e01
      · go_wp2_with fail
        go_meet
        exact ⟨rfl, (by repeat (first | with_reducible assumption | with_reducible exact Below.refl _ _ | with_reducible refine below_al ?_ _ | with_reducible refine below_drew ?_ | with_reducible refine below_drewN ?_ _ | with_reducible refine below_set ?_ (by dsimp only; omega) _)), (by repeat (first | with_reducible assumption | with_reducible apply At.put0 | with_reducible apply At.put1 | with_reducible refine At.far ?_ (by dsimp only; omega) _ | with_reducible apply At.al | with_reducible apply At.drw | with_reducible apply At.dr)), (by repeat (first | with_reducible assumption | with_reducible apply At.put0 | with_reducible apply At.put1 | with_reducible refine At.far ?_ (by dsimp only; omega) _ | with_reducible apply At.al | with_reducible apply At.drw | with_reducible apply At.dr)), (by repeat (first | with_reducible assumption | with_reducible apply At.put0 | with_reducible apply At.put1 | with_reducible refine At.far ?_ (by dsimp only; omega) _ | with_reducible apply At.al | with_reducible apply At.drw | with_reducible apply At.dr)), (by (repeat (first | (with_reducible apply At.new'; (focus (simp; done))) | with_reducible apply At.al | with_reducible apply At.drw | with_reducible apply At.dr)))⟩
      · obtain ⟨e0, g1, g2⟩ := e01
        subst e0
        go_wp2_with fail
        go_meet
        exact ⟨rfl, (by repeat (first | with_reducible assumption | with_reducible exact Below.refl _ _ | with_reducible refine below_al ?_ _ | with_reducible refine below_drew ?_ | with_reducible refine below_drewN ?_ _ | with_reducible refine below_set ?_ (by dsimp only; omega) _)), (by repeat (first | with_reducible assumption | with_reducible apply At.put0 | with_reducible apply At.put1 | with_reducible refine At.far ?_ (by dsimp only; omega) _ | with_reducible apply At.al | with_reducible apply At.drw | with_reducible apply At.dr)), (by repeat (first | with_reducible assumption | with_reducible apply At.put0 | with_reducible apply At.put1 | with_reducible refine At.far ?_ (by dsimp only; omega) _ | with_reducible apply At.al | with_reducible apply At.drw | with_reducible apply At.dr)), (by repeat (first | with_reducible assumption | with_reducible apply At.put0 | with_reducible apply At.put1 | with_reducible refine At.far ?_ (by dsimp only; omega) _ | with_reducible apply At.al | with_reducible apply At.drw | with_reducible apply At.dr)), (by (repeat (first | (with_reducible apply At.new'; (focus (simp; done))) | with_reducible apply At.al | with_reducible apply At.drw | with_reducible apply At.dr)))⟩
    case rest =>
      clear k_a k_b k_c
      clear HB
      obtain ⟨rfl, HB, k_a, k_b, k_c, k_d⟩ := hcut
      have Lk_d := k_d.lt
      obtain ⟨k_d0, k_d1, k_d2, k_d3⟩ := k_d.two
      clear k_d0 k_d1 k_d2 k_d3 Lk_d
      have Lk_a := k_a.lt
      obtain ⟨k_a0, k_a1, k_a2, k_a3⟩ := k_a.two
      have Lk_b := k_b.lt
      obtain ⟨k_b0, k_b1, k_b2, k_b3⟩ := k_b.two
      have Lk_c := k_c.lt
      obtain ⟨k_c0, k_c1, k_c2, k_c3⟩ := k_c.two
      go_wp2_with fail
      refine (HX.out _).mono ?_
      rintro e v5 ⟨rfl, hb5⟩
      clear k_a0 k_a1 k_a2 k_a3 Lk_a k_b0 k_b1 k_b2 k_b3 Lk_b k_c0 k_c1 k_c2 k_c3 Lk_c
      replace k_a : At v5 (w.heap.size) 23 #[.int .i64 an, .int .i64 ad] := At.bel (by repeat (first | with_reducible assumption | with_reducible apply At.put0 | with_reducible apply At.put1 | with_reducible refine At.far ?_ (by dsimp only; omega) _ | with_reducible apply At.al | with_reducible apply At.drw | with_reducible apply At.dr)) hb5
      replace k_b : At v5 (w.heap.size + 1) 23 #[.int .i64 bn, .int .i64 bd] := At.bel (by repeat (first | with_reducible assumption | with_reducible apply At.put0 | with_reducible apply At.put1 | with_reducible refine At.far ?_ (by dsimp only; omega) _ | with_reducible apply At.al | with_reducible apply At.drw | with_reducible apply At.dr)) hb5
      replace k_c : At v5 (w.heap.size + 1 + 1) 23 #[.int .i64 cn, .int .i64 cd] := At.bel (by repeat (first | with_reducible assumption | with_reducible apply At.put0 | with_reducible apply At.put1 | with_reducible refine At.far ?_ (by dsimp only; omega) _ | with_reducible apply At.al | with_reducible apply At.drw | with_reducible apply At.dr)) hb5
      replace k_d : At v5 (v4.heap.size) 23 #[.int .i64 d1, .int .i64 d2] := At.bel (by repeat (first | with_reducible assumption | with_reducible apply At.put0 | with_reducible apply At.put1 | with_reducible refine At.far ?_ (by dsimp only; omega) _ | with_reducible apply At.al | with_reducible apply At.drw | with_reducible apply At.dr)) hb5
      replace HB : Below w.heap.size w v5 := below_then (by repeat (first | with_reducible assumption | with_reducible exact Below.refl _ _ | with_reducible refine below_al ?_ _ | with_reducible refine below_drew ?_ | with_reducible refine below_drewN ?_ _ | with_reducible refine below_set ?_ (by dsimp only; omega) _)) hb5
      clear hb5
      have Lk_a := k_a.lt
      obtain ⟨k_a0, k_a1, k_a2, k_a3⟩ := k_a.two
      have Lk_b := k_b.lt
      obtain ⟨k_b0, k_b1, k_b2, k_b3⟩ := k_b.two
      have Lk_c := k_c.lt
      obtain ⟨k_c0, k_c1, k_c2, k_c3⟩ := k_c.two
      have O5k_a := k_a.lt
      have O5k_b := k_b.lt
      have O5k_c := k_c.lt
      have O5k_d := k_d.lt
      go_wp2_with fail
      refine (HY.out _).mono ?_
      rintro e v6 ⟨rfl, hb6⟩
      clear k_a0 k_a1 k_a2 k_a3 Lk_a k_b0 k_b1 k_b2 k_b3 Lk_b k_c0 k_c1 k_c2 k_c3 Lk_c
      replace k_a : At v6 (w.heap.size) 23 #[.int .i64 an, .int .i64 ad] := At.bel (by repeat (first | with_reducible assumption | with_reducible apply At.put0 | with_reducible apply At.put1 | with_reducible refine At.far ?_ (by dsimp only; omega) _ | with_reducible apply At.al | with_reducible apply At.drw | with_reducible apply At.dr)) hb6
      replace k_b : At v6 (w.heap.size + 1) 23 #[.int .i64 bn, .int .i64 bd] := At.bel (by repeat (first | with_reducible assumption | with_reducible apply At.put0 | with_reducible apply At.put1 | with_reducible refine At.far ?_ (by dsimp only; omega) _ | with_reducible apply At.al | with_reducible apply At.drw | with_reducible apply At.dr)) hb6
      replace k_c : At v6 (w.heap.size + 1 + 1) 23 #[.int .i64 cn, .int .i64 cd] := At.bel (by repeat (first | with_reducible assumption | with_reducible apply At.put0 | with_reducible apply At.put1 | with_reducible refine At.far ?_ (by dsimp only; omega) _ | with_reducible apply At.al | with_reducible apply At.drw | with_reducible apply At.dr)) hb6
      replace k_d : At v6 (v4.heap.size) 23 #[.int .i64 d1, .int .i64 d2] := At.bel (by repeat (first | with_reducible assumption | with_reducible apply At.put0 | with_reducible apply At.put1 | with_reducible refine At.far ?_ (by dsimp only; omega) _ | with_reducible apply At.al | with_reducible apply At.drw | with_reducible apply At.dr)) hb6
      have k_x : At v6 (v5.heap.size) 23 #[.int .i64 x1, .int .i64 x2] := At.bel (by (repeat (first | (with_reducible apply At.new'; (focus (simp; done))) | with_reducible apply At.al | with_reducible apply At.drw | with_reducible apply At.dr))) hb6
      replace HB : Below w.heap.size w v6 := below_then (by repeat (first | with_reducible assumption | with_reducible exact Below.refl _ _ | with_reducible refine below_al ?_ _ | with_reducible refine below_drew ?_ | with_reducible refine below_drewN ?_ _ | with_reducible refine below_set ?_ (by dsimp only; omega) _)) hb6
      clear hb6
      have Lk_a := k_a.lt
      obtain ⟨k_a0, k_a1, k_a2, k_a3⟩ := k_a.two
      have Lk_b := k_b.lt
      obtain ⟨k_b0, k_b1, k_b2, k_b3⟩ := k_b.two
      have Lk_c := k_c.lt
      obtain ⟨k_c0, k_c1, k_c2, k_c3⟩ := k_c.two
      have O6k_a := k_a.lt
      have O6k_b := k_b.lt
      have O6k_c := k_c.lt
      have O6k_d := k_d.lt
      have O6k_x := k_x.lt
      clear k_a0 k_a1 k_a2 k_a3 Lk_a k_b0 k_b1 k_b2 k_b3 Lk_b k_c0 k_c1 k_c2 k_c3 Lk_c
      go_upto_region 14 with fail
      go_cut [106] (fun s106 wa => s106 = .bool ba ∧ Below w.heap.size w wa ∧ At wa (w.heap.size) 23 #[.int .i64 an, .int .i64 ad] ∧ At wa (w.heap.size + 1) 23 #[.int .i64 bn, .int .i64 bd] ∧ At wa (w.heap.size + 1 + 1) 23 #[.int .i64 cn, .int .i64 cd] ∧ At wa (v4.heap.size) 23 #[.int .i64 d1, .int .i64 d2] ∧ At wa (v5.heap.size) 23 #[.int .i64 x1, .int .i64 x2] ∧ At wa (v6.heap.size) 23 #[.int .i64 y1, .int .i64 y2])
      case first =>
        rcases HF.out with ⟨z0, eb⟩ | ⟨e0, z1, eb⟩ | ⟨e0, e1, eb⟩
        · go_wp2_with fail
          go_meet
          exact ⟨by rw [eb], (by repeat (first | with_reducible assumption | with_reducible exact Below.refl _ _ | with_reducible refine below_al ?_ _ | with_reducible refine below_drew ?_ | with_reducible refine below_drewN ?_ _ | with_reducible refine below_set ?_ (by dsimp only; omega) _)), (by repeat (first | with_reducible assumption | with_reducible apply At.put0 | with_reducible apply At.put1 | with_reducible refine At.far ?_ (by dsimp only; omega) _ | with_reducible apply At.al | with_reducible apply At.drw | with_reducible apply At.dr)), (by repeat (first | with_reducible assumption | with_reducible apply At.put0 | with_reducible apply At.put1 | with_reducible refine At.far ?_ (by dsimp only; omega) _ | with_reducible apply At.al | with_reducible apply At.drw | with_reducible apply At.dr)), (by repeat (first | with_reducible assumption | with_reducible apply At.put0 | with_reducible apply At.put1 | with_reducible refine At.far ?_ (by dsimp only; omega) _ | with_reducible apply At.al | with_reducible apply At.drw | with_reducible apply At.dr)), (by repeat (first | with_reducible assumption | with_reducible apply At.put0 | with_reducible apply At.put1 | with_reducible refine At.far ?_ (by dsimp only; omega) _ | with_reducible apply At.al | with_reducible apply At.drw | with_reducible apply At.dr)), (by repeat (first | with_reducible assumption | with_reducible apply At.put0 | with_reducible apply At.put1 | with_reducible refine At.far ?_ (by dsimp only; omega) _ | with_reducible apply At.al | with_reducible apply At.drw | with_reducible apply At.dr)), (by (repeat (first | (with_reducible apply At.new'; (focus (simp; done))) | with_reducible apply At.al | with_reducible apply At.drw | with_reducible apply At.dr)))⟩
        · subst e0
          go_wp2_with fail
          go_meet
          exact ⟨by rw [eb], (by repeat (first | with_reducible assumption | with_reducible exact Below.refl _ _ | with_reducible refine below_al ?_ _ | with_reducible refine below_drew ?_ | with_reducible refine below_drewN ?_ _ | with_reducible refine below_set ?_ (by dsimp only; omega) _)), (by repeat (first | with_reducible assumption | with_reducible apply At.put0 | with_reducible apply At.put1 | with_reducible refine At.far ?_ (by dsimp only; omega) _ | with_reducible apply At.al | with_reducible apply At.drw | with_reducible apply At.dr)), (by repeat (first | with_reducible assumption | with_reducible apply At.put0 | with_reducible apply At.put1 | with_reducible refine At.far ?_ (by dsimp only; omega) _ | with_reducible apply At.al | with_reducible apply At.drw | with_reducible apply At.dr)), (by repeat (first | with_reducible assumption | with_reducible apply At.put0 | with_reducible apply At.put1 | with_reducible refine At.far ?_ (by dsimp only; omega) _ | with_reducible apply At.al | with_reducible apply At.drw | with_reducible apply At.dr)), (by repeat (first | with_reducible assumption | with_reducible apply At.put0 | with_reducible apply At.put1 | with_reducible refine At.far ?_ (by dsimp only; omega) _ | with_reducible apply At.al | with_reducible apply At.drw | with_reducible apply At.dr)), (by repeat (first | with_reducible assumption | with_reducible apply At.put0 | with_reducible apply At.put1 | with_reducible refine At.far ?_ (by dsimp only; omega) _ | with_reducible apply At.al | with_reducible apply At.drw | with_reducible apply At.dr)), (by (repeat (first | (with_reducible apply At.new'; (focus (simp; done))) | with_reducible apply At.al | with_reducible apply At.drw | with_reducible apply At.dr)))⟩
        · subst e0 e1
          go_wp2_with fail
          go_meet
          exact ⟨by rw [eb], (by repeat (first | with_reducible assumption | with_reducible exact Below.refl _ _ | with_reducible refine below_al ?_ _ | with_reducible refine below_drew ?_ | with_reducible refine below_drewN ?_ _ | with_reducible refine below_set ?_ (by dsimp only; omega) _)), (by repeat (first | with_reducible assumption | with_reducible apply At.put0 | with_reducible apply At.put1 | with_reducible refine At.far ?_ (by dsimp only; omega) _ | with_reducible apply At.al | with_reducible apply At.drw | with_reducible apply At.dr)), (by repeat (first | with_reducible assumption | with_reducible apply At.put0 | with_reducible apply At.put1 | with_reducible refine At.far ?_ (by dsimp only; omega) _ | with_reducible apply At.al | with_reducible apply At.drw | with_reducible apply At.dr)), (by repeat (first | with_reducible assumption | with_reducible apply At.put0 | with_reducible apply At.put1 | with_reducible refine At.far ?_ (by dsimp only; omega) _ | with_reducible apply At.al | with_reducible apply At.drw | with_reducible apply At.dr)), (by repeat (first | with_reducible assumption | with_reducible apply At.put0 | with_reducible apply At.put1 | with_reducible refine At.far ?_ (by dsimp only; omega) _ | with_reducible apply At.al | with_reducible apply At.drw | with_reducible apply At.dr)), (by repeat (first | with_reducible assumption | with_reducible apply At.put0 | with_reducible apply At.put1 | with_reducible refine At.far ?_ (by dsimp only; omega) _ | with_reducible apply At.al | with_reducible apply At.drw | with_reducible apply At.dr)), (by (repeat (first | (with_reducible apply At.new'; (focus (simp; done))) | with_reducible apply At.al | with_reducible apply At.drw | with_reducible apply At.dr)))⟩
      case rest =>
        clear k_a k_b k_c k_d k_x
        clear HB
        obtain ⟨rfl, HB, k_a, k_b, k_c, k_d, k_x, k_y⟩ := hcut
        go_upto_if 106 with fail
        go_cut [] (fun  wd => Below w.heap.size w wd ∧ At wd (w.heap.size) 23 #[.int .i64 an, .int .i64 ad] ∧ At wd (w.heap.size + 1) 23 #[.int .i64 bn, .int .i64 bd] ∧ At wd (w.heap.size + 1 + 1) 23 #[.int .i64 cn, .int .i64 cd] ∧ At wd (v4.heap.size) 23 #[.int .i64 d1, .int .i64 d2] ∧ At wd (v5.heap.size) 23 #[.int .i64 x1, .int .i64 x2] ∧ At wd (v6.heap.size) 23 #[.int .i64 y1, .int .i64 y2])
        case first =>
          rcases HF2.out with eb | ⟨eb, c1⟩
          · subst eb
            go_wp2_with fail
            go_meet
            exact ⟨(by repeat (first | with_reducible assumption | with_reducible exact Below.refl _ _ | with_reducible refine below_al ?_ _ | with_reducible refine below_drew ?_ | with_reducible refine below_drewN ?_ _ | with_reducible refine below_set ?_ (by dsimp only; omega) _)), (by repeat (first | with_reducible assumption | with_reducible apply At.put0 | with_reducible apply At.put1 | with_reducible refine At.far ?_ (by dsimp only; omega) _ | with_reducible apply At.al | with_reducible apply At.drw | with_reducible apply At.dr)), (by repeat (first | with_reducible assumption | with_reducible apply At.put0 | with_reducible apply At.put1 | with_reducible refine At.far ?_ (by dsimp only; omega) _ | with_reducible apply At.al | with_reducible apply At.drw | with_reducible apply At.dr)), (by repeat (first | with_reducible assumption | with_reducible apply At.put0 | with_reducible apply At.put1 | with_reducible refine At.far ?_ (by dsimp only; omega) _ | with_reducible apply At.al | with_reducible apply At.drw | with_reducible apply At.dr)), (by repeat (first | with_reducible assumption | with_reducible apply At.put0 | with_reducible apply At.put1 | with_reducible refine At.far ?_ (by dsimp only; omega) _ | with_reducible apply At.al | with_reducible apply At.drw | with_reducible apply At.dr)), (by repeat (first | with_reducible assumption | with_reducible apply At.put0 | with_reducible apply At.put1 | with_reducible refine At.far ?_ (by dsimp only; omega) _ | with_reducible apply At.al | with_reducible apply At.drw | with_reducible apply At.dr)), (by repeat (first | with_reducible assumption | with_reducible apply At.put0 | with_reducible apply At.put1 | with_reducible refine At.far ?_ (by dsimp only; omega) _ | with_reducible apply At.al | with_reducible apply At.drw | with_reducible apply At.dr))⟩
          · have C1 := Lib.hid c1
            clear c1
            subst eb
            have Lk_x := k_x.lt
            obtain ⟨k_x0, k_x1, k_x2, k_x3⟩ := k_x.two
            have Lk_y := k_y.lt
            obtain ⟨k_y0, k_y1, k_y2, k_y3⟩ := k_y.two
            go_wp2_with fail
            refine (C1.out _).mono ?_
            rintro e v7 ⟨rfl, hb7⟩
            clear k_x0 k_x1 k_x2 k_x3 Lk_x k_y0 k_y1 k_y2 k_y3 Lk_y
            replace k_a : At v7 (w.heap.size) 23 #[.int .i64 an, .int .i64 ad] := At.bel (by repeat (first | with_reducible assumption | with_reducible apply At.put0 | with_reducible apply At.put1 | with_reducible refine At.far ?_ (by dsimp only; omega) _ | with_reducible apply At.al | with_reducible apply At.drw | with_reducible apply At.dr)) hb7
            replace k_b : At v7 (w.heap.size + 1) 23 #[.int .i64 bn, .int .i64 bd] := At.bel (by repeat (first | with_reducible assumption | with_reducible apply At.put0 | with_reducible apply At.put1 | with_reducible refine At.far ?_ (by dsimp only; omega) _ | with_reducible apply At.al | with_reducible apply At.drw | with_reducible apply At.dr)) hb7
            replace k_c : At v7 (w.heap.size + 1 + 1) 23 #[.int .i64 cn, .int .i64 cd] := At.bel (by repeat (first | with_reducible assumption | with_reducible apply At.put0 | with_reducible apply At.put1 | with_reducible refine At.far ?_ (by dsimp only; omega) _ | with_reducible apply At.al | with_reducible apply At.drw | with_reducible apply At.dr)) hb7
            replace k_d : At v7 (v4.heap.size) 23 #[.int .i64 d1, .int .i64 d2] := At.bel (by repeat (first | with_reducible assumption | with_reducible apply At.put0 | with_reducible apply At.put1 | with_reducible refine At.far ?_ (by dsimp only; omega) _ | with_reducible apply At.al | with_reducible apply At.drw | with_reducible apply At.dr)) hb7
            replace k_x : At v7 (v5.heap.size) 23 #[.int .i64 x1, .int .i64 x2] := At.bel (by repeat (first | with_reducible assumption | with_reducible apply At.put0 | with_reducible apply At.put1 | with_reducible refine At.far ?_ (by dsimp only; omega) _ | with_reducible apply At.al | with_reducible apply At.drw | with_reducible apply At.dr)) hb7
            replace k_y : At v7 (v6.heap.size) 23 #[.int .i64 y1, .int .i64 y2] := At.bel (by repeat (first | with_reducible assumption | with_reducible apply At.put0 | with_reducible apply At.put1 | with_reducible refine At.far ?_ (by dsimp only; omega) _ | with_reducible apply At.al | with_reducible apply At.drw | with_reducible apply At.dr)) hb7
            replace HB : Below w.heap.size w v7 := below_then (by repeat (first | with_reducible assumption | with_reducible exact Below.refl _ _ | with_reducible refine below_al ?_ _ | with_reducible refine below_drew ?_ | with_reducible refine below_drewN ?_ _ | with_reducible refine below_set ?_ (by dsimp only; omega) _)) hb7
            clear hb7
            have Lk_x := k_x.lt
            obtain ⟨k_x0, k_x1, k_x2, k_x3⟩ := k_x.two
            have Lk_y := k_y.lt
            obtain ⟨k_y0, k_y1, k_y2, k_y3⟩ := k_y.two
            go_wp2_with fail
            go_meet
            exact ⟨(by repeat (first | with_reducible assumption | with_reducible exact Below.refl _ _ | with_reducible refine below_al ?_ _ | with_reducible refine below_drew ?_ | with_reducible refine below_drewN ?_ _ | with_reducible refine below_set ?_ (by dsimp only; omega) _)), (by repeat (first | with_reducible assumption | with_reducible apply At.put0 | with_reducible apply At.put1 | with_reducible refine At.far ?_ (by dsimp only; omega) _ | with_reducible apply At.al | with_reducible apply At.drw | with_reducible apply At.dr)), (by repeat (first | with_reducible assumption | with_reducible apply At.put0 | with_reducible apply At.put1 | with_reducible refine At.far ?_ (by dsimp only; omega) _ | with_reducible apply At.al | with_reducible apply At.drw | with_reducible apply At.dr)), (by repeat (first | with_reducible assumption | with_reducible apply At.put0 | with_reducible apply At.put1 | with_reducible refine At.far ?_ (by dsimp only; omega) _ | with_reducible apply At.al | with_reducible apply At.drw | with_reducible apply At.dr)), (by repeat (first | with_reducible assumption | with_reducible apply At.put0 | with_reducible apply At.put1 | with_reducible refine At.far ?_ (by dsimp only; omega) _ | with_reducible apply At.al | with_reducible apply At.drw | with_reducible apply At.dr)), (by repeat (first | with_reducible assumption | with_reducible apply At.put0 | with_reducible apply At.put1 | with_reducible refine At.far ?_ (by dsimp only; omega) _ | with_reducible apply At.al | with_reducible apply At.drw | with_reducible apply At.dr)), (by repeat (first | with_reducible assumption | with_reducible apply At.put0 | with_reducible apply At.put1 | with_reducible refine At.far ?_ (by dsimp only; omega) _ | with_reducible apply At.al | with_reducible apply At.drw | with_reducible apply At.dr))⟩
        case rest =>
          clear k_a k_b k_c k_d k_x k_y
          clear HB
          obtain ⟨HB, k_a, k_b, k_c, k_d, k_x, k_y⟩ := hcut
          have Lk_a := k_a.lt
          obtain ⟨k_a0, k_a1, k_a2, k_a3⟩ := k_a.two
          have Lk_b := k_b.lt
          obtain ⟨k_b0, k_b1, k_b2, k_b3⟩ := k_b.two
          have Lk_c := k_c.lt
          obtain ⟨k_c0, k_c1, k_c2, k_c3⟩ := k_c.two
          go_wp2_with fail
          refine (HM.out _).mono ?_
          rintro e v7 ⟨rfl, hb7⟩
          clear k_a0 k_a1 k_a2 k_a3 Lk_a k_b0 k_b1 k_b2 k_b3 Lk_b k_c0 k_c1 k_c2 k_c3 Lk_c
          replace k_a : At v7 (w.heap.size) 23 #[.int .i64 an, .int .i64 ad] := At.bel (by repeat (first | with_reducible assumption | with_reducible apply At.put0 | with_reducible apply At.put1 | with_reducible refine At.far ?_ (by dsimp only; omega) _ | with_reducible apply At.al | with_reducible apply At.drw | with_reducible apply At.dr)) hb7
          replace k_b : At v7 (w.heap.size + 1) 23 #[.int .i64 bn, .int .i64 bd] := At.bel (by repeat (first | with_reducible assumption | with_reducible apply At.put0 | with_reducible apply At.put1 | with_reducible refine At.far ?_ (by dsimp only; omega) _ | with_reducible apply At.al | with_reducible apply At.drw | with_reducible apply At.dr)) hb7
          replace k_c : At v7 (w.heap.size + 1 + 1) 23 #[.int .i64 cn, .int .i64 cd] := At.bel (by repeat (first | with_reducible assumption | with_reducible apply At.put0 | with_reducible apply At.put1 | with_reducible refine At.far ?_ (by dsimp only; omega) _ | with_reducible apply At.al | with_reducible apply At.drw | with_reducible apply At.dr)) hb7
          replace k_d : At v7 (v4.heap.size) 23 #[.int .i64 d1, .int .i64 d2] := At.bel (by repeat (first | with_reducible assumption | with_reducible apply At.put0 | with_reducible apply At.put1 | with_reducible refine At.far ?_ (by dsimp only; omega) _ | with_reducible apply At.al | with_reducible apply At.drw | with_reducible apply At.dr)) hb7
          replace k_x : At v7 (v5.heap.size) 23 #[.int .i64 x1, .int .i64 x2] := At.bel (by repeat (first | with_reducible assumption | with_reducible apply At.put0 | with_reducible apply At.put1 | with_reducible refine At.far ?_ (by dsimp only; omega) _ | with_reducible apply At.al | with_reducible apply At.drw | with_reducible apply At.dr)) hb7
          replace k_y : At v7 (v6.heap.size) 23 #[.int .i64 y1, .int .i64 y2] := At.bel (by repeat (first | with_reducible assumption | with_reducible apply At.put0 | with_reducible apply At.put1 | with_reducible refine At.far ?_ (by dsimp only; omega) _ | with_reducible apply At.al | with_reducible apply At.drw | with_reducible apply At.dr)) hb7
          replace HB : Below w.heap.size w v7 := below_then (by repeat (first | with_reducible assumption | with_reducible exact Below.refl _ _ | with_reducible refine below_al ?_ _ | with_reducible refine below_drew ?_ | with_reducible refine below_drewN ?_ _ | with_reducible refine below_set ?_ (by dsimp only; omega) _)) hb7
          clear hb7
          have Lk_a := k_a.lt
          obtain ⟨k_a0, k_a1, k_a2, k_a3⟩ := k_a.two
          have Lk_b := k_b.lt
          obtain ⟨k_b0, k_b1, k_b2, k_b3⟩ := k_b.two
          have Lk_c := k_c.lt
          obtain ⟨k_c0, k_c1, k_c2, k_c3⟩ := k_c.two
          have Lk_x := k_x.lt
          obtain ⟨k_x0, k_x1, k_x2, k_x3⟩ := k_x.two
          go_wp2_with fail
          refine (HN.out _).mono ?_
          rintro e v8 ⟨rfl, hb8⟩
          clear k_a0 k_a1 k_a2 k_a3 Lk_a k_b0 k_b1 k_b2 k_b3 Lk_b k_c0 k_c1 k_c2 k_c3 Lk_c k_x0 k_x1 k_x2 k_x3 Lk_x
          replace k_a : At v8 (w.heap.size) 23 #[.int .i64 an, .int .i64 ad] := At.bel (by repeat (first | with_reducible assumption | with_reducible apply At.put0 | with_reducible apply At.put1 | with_reducible refine At.far ?_ (by dsimp only; omega) _ | with_reducible apply At.al | with_reducible apply At.drw | with_reducible apply At.dr)) hb8
          replace k_b : At v8 (w.heap.size + 1) 23 #[.int .i64 bn, .int .i64 bd] := At.bel (by repeat (first | with_reducible assumption | with_reducible apply At.put0 | with_reducible apply At.put1 | with_reducible refine At.far ?_ (by dsimp only; omega) _ | with_reducible apply At.al | with_reducible apply At.drw | with_reducible apply At.dr)) hb8
          replace k_c : At v8 (w.heap.size + 1 + 1) 23 #[.int .i64 cn, .int .i64 cd] := At.bel (by repeat (first | with_reducible assumption | with_reducible apply At.put0 | with_reducible apply At.put1 | with_reducible refine At.far ?_ (by dsimp only; omega) _ | with_reducible apply At.al | with_reducible apply At.drw | with_reducible apply At.dr)) hb8
          replace k_d : At v8 (v4.heap.size) 23 #[.int .i64 d1, .int .i64 d2] := At.bel (by repeat (first | with_reducible assumption | with_reducible apply At.put0 | with_reducible apply At.put1 | with_reducible refine At.far ?_ (by dsimp only; omega) _ | with_reducible apply At.al | with_reducible apply At.drw | with_reducible apply At.dr)) hb8
          replace k_x : At v8 (v5.heap.size) 23 #[.int .i64 u1, .int .i64 u2] := At.bel (by repeat (first | with_reducible assumption | with_reducible apply At.put0 | with_reducible apply At.put1 | with_reducible refine At.far ?_ (by dsimp only; omega) _ | with_reducible apply At.al | with_reducible apply At.drw | with_reducible apply At.dr)) hb8
          replace k_y : At v8 (v6.heap.size) 23 #[.int .i64 y1, .int .i64 y2] := At.bel (by repeat (first | with_reducible assumption | with_reducible apply At.put0 | with_reducible apply At.put1 | with_reducible refine At.far ?_ (by dsimp only; omega) _ | with_reducible apply At.al | with_reducible apply At.drw | with_reducible apply At.dr)) hb8
          replace HB : Below w.heap.size w v8 := below_then (by repeat (first | with_reducible assumption | with_reducible exact Below.refl _ _ | with_reducible refine below_al ?_ _ | with_reducible refine below_drew ?_ | with_reducible refine below_drewN ?_ _ | with_reducible refine below_set ?_ (by dsimp only; omega) _)) hb8
          clear hb8
          have Lk_a := k_a.lt
          obtain ⟨k_a0, k_a1, k_a2, k_a3⟩ := k_a.two
          have Lk_b := k_b.lt
          obtain ⟨k_b0, k_b1, k_b2, k_b3⟩ := k_b.two
          have Lk_c := k_c.lt
          obtain ⟨k_c0, k_c1, k_c2, k_c3⟩ := k_c.two
          have Lk_x := k_x.lt
          obtain ⟨k_x0, k_x1, k_x2, k_x3⟩ := k_x.two
          have Lk_y := k_y.lt
          obtain ⟨k_y0, k_y1, k_y2, k_y3⟩ := k_y.two
          rcases HG.out with z0 | ⟨e0, z1⟩ | ⟨e0, e1, ⟨g, c1⟩ | ⟨⟨g, g'⟩, c1⟩ | ⟨⟨g, g'⟩, c1⟩⟩
          · have z0a : ¬ ue = 0 := by simpa using z0
            have z0b : (ue != 0) = true := by simp [z0a]
            have z0c : decide (ue = 0) = false := by simp [z0a]
            go_wp2_with fail
            go_ret
            exact ⟨rfl, (by repeat (first | with_reducible assumption | with_reducible exact Below.refl _ _ | with_reducible refine below_al ?_ _ | with_reducible refine below_drew ?_ | with_reducible refine below_drewN ?_ _ | with_reducible refine below_set ?_ (by dsimp only; omega) _))⟩
          · subst e0
            have z1a : ¬ ve = 0 := by simpa using z1
            have z1b : (ve != 0) = true := by simp [z1a]
            have z1c : decide (ve = 0) = false := by simp [z1a]
            go_wp2_with fail
            go_ret
            exact ⟨rfl, (by repeat (first | with_reducible assumption | with_reducible exact Below.refl _ _ | with_reducible refine below_al ?_ _ | with_reducible refine below_drew ?_ | with_reducible refine below_drewN ?_ _ | with_reducible refine below_set ?_ (by dsimp only; omega) _))⟩
          · have C1 := Lib.hid c1
            clear c1
            subst e0 e1
            go_wp2_with fail
            refine (C1.out _).mono ?_
            rintro e v9 ⟨rfl, hb9⟩
            clear k_a0 k_a1 k_a2 k_a3 Lk_a k_b0 k_b1 k_b2 k_b3 Lk_b k_c0 k_c1 k_c2 k_c3 Lk_c k_x0 k_x1 k_x2 k_x3 Lk_x k_y0 k_y1 k_y2 k_y3 Lk_y
            replace k_a : At v9 (w.heap.size) 23 #[.int .i64 an, .int .i64 ad] := At.bel (by repeat (first | with_reducible assumption | with_reducible apply At.put0 | with_reducible apply At.put1 | with_reducible refine At.far ?_ (by dsimp only; omega) _ | with_reducible apply At.al | with_reducible apply At.drw | with_reducible apply At.dr)) hb9
            replace k_b : At v9 (w.heap.size + 1) 23 #[.int .i64 bn, .int .i64 bd] := At.bel (by repeat (first | with_reducible assumption | with_reducible apply At.put0 | with_reducible apply At.put1 | with_reducible refine At.far ?_ (by dsimp only; omega) _ | with_reducible apply At.al | with_reducible apply At.drw | with_reducible apply At.dr)) hb9
            replace k_c : At v9 (w.heap.size + 1 + 1) 23 #[.int .i64 cn, .int .i64 cd] := At.bel (by repeat (first | with_reducible assumption | with_reducible apply At.put0 | with_reducible apply At.put1 | with_reducible refine At.far ?_ (by dsimp only; omega) _ | with_reducible apply At.al | with_reducible apply At.drw | with_reducible apply At.dr)) hb9
            replace k_d : At v9 (v4.heap.size) 23 #[.int .i64 d1, .int .i64 d2] := At.bel (by repeat (first | with_reducible assumption | with_reducible apply At.put0 | with_reducible apply At.put1 | with_reducible refine At.far ?_ (by dsimp only; omega) _ | with_reducible apply At.al | with_reducible apply At.drw | with_reducible apply At.dr)) hb9
            replace k_x : At v9 (v5.heap.size) 23 #[.int .i64 u1, .int .i64 u2] := At.bel (by repeat (first | with_reducible assumption | with_reducible apply At.put0 | with_reducible apply At.put1 | with_reducible refine At.far ?_ (by dsimp only; omega) _ | with_reducible apply At.al | with_reducible apply At.drw | with_reducible apply At.dr)) hb9
            replace k_y : At v9 (v6.heap.size) 23 #[.int .i64 n1, .int .i64 n2] := At.bel (by repeat (first | with_reducible assumption | with_reducible apply At.put0 | with_reducible apply At.put1 | with_reducible refine At.far ?_ (by dsimp only; omega) _ | with_reducible apply At.al | with_reducible apply At.drw | with_reducible apply At.dr)) hb9
            replace HB : Below w.heap.size w v9 := below_then (by repeat (first | with_reducible assumption | with_reducible exact Below.refl _ _ | with_reducible refine below_al ?_ _ | with_reducible refine below_drew ?_ | with_reducible refine below_drewN ?_ _ | with_reducible refine below_set ?_ (by dsimp only; omega) _)) hb9
            clear hb9
            have Lk_c := k_c.lt
            obtain ⟨k_c0, k_c1, k_c2, k_c3⟩ := k_c.two
            go_wp2_with fail
            go_ret
            exact ⟨rfl, (by repeat (first | with_reducible assumption | with_reducible exact Below.refl _ _ | with_reducible refine below_al ?_ _ | with_reducible refine below_drew ?_ | with_reducible refine below_drewN ?_ _ | with_reducible refine below_set ?_ (by dsimp only; omega) _))⟩
          · have C1 := Lib.hid c1
            clear c1
            subst e0 e1
            go_wp2_with fail
            refine (C1.out _).mono ?_
            rintro e v9 ⟨rfl, hb9⟩
            clear k_a0 k_a1 k_a2 k_a3 Lk_a k_b0 k_b1 k_b2 k_b3 Lk_b k_c0 k_c1 k_c2 k_c3 Lk_c k_x0 k_x1 k_x2 k_x3 Lk_x k_y0 k_y1 k_y2 k_y3 Lk_y
            replace k_a : At v9 (w.heap.size) 23 #[.int .i64 an, .int .i64 ad] := At.bel (by repeat (first | with_reducible assumption | with_reducible apply At.put0 | with_reducible apply At.put1 | with_reducible refine At.far ?_ (by dsimp only; omega) _ | with_reducible apply At.al | with_reducible apply At.drw | with_reducible apply At.dr)) hb9
            replace k_b : At v9 (w.heap.size + 1) 23 #[.int .i64 bn, .int .i64 bd] := At.bel (by repeat (first | with_reducible assumption | with_reducible apply At.put0 | with_reducible apply At.put1 | with_reducible refine At.far ?_ (by dsimp only; omega) _ | with_reducible apply At.al | with_reducible apply At.drw | with_reducible apply At.dr)) hb9
            replace k_c : At v9 (w.heap.size + 1 + 1) 23 #[.int .i64 cn, .int .i64 cd] := At.bel (by repeat (first | with_reducible assumption | with_reducible apply At.put0 | with_reducible apply At.put1 | with_reducible refine At.far ?_ (by dsimp only; omega) _ | with_reducible apply At.al | with_reducible apply At.drw | with_reducible apply At.dr)) hb9
            replace k_d : At v9 (v4.heap.size) 23 #[.int .i64 d1, .int .i64 d2] := At.bel (by repeat (first | with_reducible assumption | with_reducible apply At.put0 | with_reducible apply At.put1 | with_reducible refine At.far ?_ (by dsimp only; omega) _ | with_reducible apply At.al | with_reducible apply At.drw | with_reducible apply At.dr)) hb9
            replace k_x : At v9 (v5.heap.size) 23 #[.int .i64 u1, .int .i64 u2] := At.bel (by repeat (first | with_reducible assumption | with_reducible apply At.put0 | with_reducible apply At.put1 | with_reducible refine At.far ?_ (by dsimp only; omega) _ | with_reducible apply At.al | with_reducible apply At.drw | with_reducible apply At.dr)) hb9
            replace k_y : At v9 (v6.heap.size) 23 #[.int .i64 n1, .int .i64 n2] := At.bel (by repeat (first | with_reducible assumption | with_reducible apply At.put0 | with_reducible apply At.put1 | with_reducible refine At.far ?_ (by dsimp only; omega) _ | with_reducible apply At.al | with_reducible apply At.drw | with_reducible apply At.dr)) hb9
            replace HB : Below w.heap.size w v9 := below_then (by repeat (first | with_reducible assumption | with_reducible exact Below.refl _ _ | with_reducible refine below_al ?_ _ | with_reducible refine below_drew ?_ | with_reducible refine below_drewN ?_ _ | with_reducible refine below_set ?_ (by dsimp only; omega) _)) hb9
            clear hb9
            have Lk_c := k_c.lt
            obtain ⟨k_c0, k_c1, k_c2, k_c3⟩ := k_c.two
            go_wp2_with fail
            go_ret
            exact ⟨rfl, (by repeat (first | with_reducible assumption | with_reducible exact Below.refl _ _ | with_reducible refine below_al ?_ _ | with_reducible refine below_drew ?_ | with_reducible refine below_drewN ?_ _ | with_reducible refine below_set ?_ (by dsimp only; omega) _))⟩
          · have C1 := Lib.hid c1
            clear c1
            subst e0 e1
            go_wp2_with fail
            refine (C1.out _).mono ?_
            rintro e v9 ⟨rfl, hb9⟩
            clear k_a0 k_a1 k_a2 k_a3 Lk_a k_b0 k_b1 k_b2 k_b3 Lk_b k_c0 k_c1 k_c2 k_c3 Lk_c k_x0 k_x1 k_x2 k_x3 Lk_x k_y0 k_y1 k_y2 k_y3 Lk_y
            replace k_a : At v9 (w.heap.size) 23 #[.int .i64 an, .int .i64 ad] := At.bel (by repeat (first | with_reducible assumption | with_reducible apply At.put0 | with_reducible apply At.put1 | with_reducible refine At.far ?_ (by dsimp only; omega) _ | with_reducible apply At.al | with_reducible apply At.drw | with_reducible apply At.dr)) hb9
            replace k_b : At v9 (w.heap.size + 1) 23 #[.int .i64 bn, .int .i64 bd] := At.bel (by repeat (first | with_reducible assumption | with_reducible apply At.put0 | with_reducible apply At.put1 | with_reducible refine At.far ?_ (by dsimp only; omega) _ | with_reducible apply At.al | with_reducible apply At.drw | with_reducible apply At.dr)) hb9
            replace k_c : At v9 (w.heap.size + 1 + 1) 23 #[.int .i64 cn, .int .i64 cd] := At.bel (by repeat (first | with_reducible assumption | with_reducible apply At.put0 | with_reducible apply At.put1 | with_reducible refine At.far ?_ (by dsimp only; omega) _ | with_reducible apply At.al | with_reducible apply At.drw | with_reducible apply At.dr)) hb9
            replace k_d : At v9 (v4.heap.size) 23 #[.int .i64 d1, .int .i64 d2] := At.bel (by repeat (first | with_reducible assumption | with_reducible apply At.put0 | with_reducible apply At.put1 | with_reducible refine At.far ?_ (by dsimp only; omega) _ | with_reducible apply At.al | with_reducible apply At.drw | with_reducible apply At.dr)) hb9
            replace k_x : At v9 (v5.heap.size) 23 #[.int .i64 u1, .int .i64 u2] := At.bel (by repeat (first | with_reducible assumption | with_reducible apply At.put0 | with_reducible apply At.put1 | with_reducible refine At.far ?_ (by dsimp only; omega) _ | with_reducible apply At.al | with_reducible apply At.drw | with_reducible apply At.dr)) hb9
            replace k_y : At v9 (v6.heap.size) 23 #[.int .i64 n1, .int .i64 n2] := At.bel (by repeat (first | with_reducible assumption | with_reducible apply At.put0 | with_reducible apply At.put1 | with_reducible refine At.far ?_ (by dsimp only; omega) _ | with_reducible apply At.al | with_reducible apply At.drw | with_reducible apply At.dr)) hb9
            replace HB : Below w.heap.size w v9 := below_then (by repeat (first | with_reducible assumption | with_reducible exact Below.refl _ _ | with_reducible refine below_al ?_ _ | with_reducible refine below_drew ?_ | with_reducible refine below_drewN ?_ _ | with_reducible refine below_set ?_ (by dsimp only; omega) _)) hb9
            clear hb9
            have Lk_c := k_c.lt
            obtain ⟨k_c0, k_c1, k_c2, k_c3⟩ := k_c.two
            go_wp2_with fail
            go_ret
            exact ⟨rfl, (by repeat (first | with_reducible assumption | with_reducible exact Below.refl _ _ | with_reducible refine below_al ?_ _ | with_reducible refine below_drew ?_ | with_reducible refine below_drewN ?_ _ | with_reducible refine below_set ?_ (by dsimp only; omega) _))⟩

end Go.Proofs.YtpijmjffobkalaaDoor
