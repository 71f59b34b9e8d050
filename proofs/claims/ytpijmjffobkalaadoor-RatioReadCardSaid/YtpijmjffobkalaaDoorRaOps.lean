/- ratio.Sub, Div, Make, Cmp: what they return. -/
import Derived.Test.YtpijmjffobkalaaDoorRaAdd2
set_option linter.unusedVariables false
namespace Go.Proofs.YtpijmjffobkalaaDoor
open Go.ChangeShapes Go.WideShapes Go.ChangeAt Go.RowKit

set_option maxRecDepth 100000 in
set_option maxHeartbeats 1000000 in
theorem rsub_core (an ad bn bd : Int) (r : Int × Int × Int) (e1 : IntKind.i64.wrap (-bn) = -bn)
    (HV1 : Hid (∀ w, Calls Tryd.prog 15 #[.agg #[.int .i64 an, .int .i64 ad]] w fun e w' => e = .returned (.bool true) ∧ Below w.heap.size w w'))
    (HV2 : Hid (∀ w, Calls Tryd.prog 15 #[.agg #[.int .i64 bn, .int .i64 bd]] w fun e w' => e = .returned (.bool true) ∧ Below w.heap.size w w'))
    (HA : Hid (∀ w, Calls Tryd.prog 12 #[.agg #[.int .i64 an, .int .i64 ad], .agg #[.int .i64 (-bn), .int .i64 bd]] w fun e w' => e = .returned (frv r) ∧ Below w.heap.size w w')) (w : World) :
    Calls Tryd.prog 14 #[.agg #[.int .i64 an, .int .i64 ad], .agg #[.int .i64 bn, .int .i64 bd]] w fun e w' => e = .returned (frv r) ∧ Below w.heap.size w w' := by
  go_enter Tryd.func14, Tryd.ntmps14
  go_wp2_with fail
  refine (HV1.out _).mono ?_
  rintro e v1 ⟨rfl, hb1⟩
  have k_a : At v1 (w.heap.size) 23 #[.int .i64 an, .int .i64 ad] := At.bel (by (repeat (first | (with_reducible apply At.new'; (focus (simp; done))) | with_reducible apply At.al | with_reducible apply At.drw | with_reducible apply At.dr))) hb1
  have k_b : At v1 (w.heap.size + 1) 23 #[.int .i64 bn, .int .i64 bd] := At.bel (by (repeat (first | (with_reducible apply At.new'; (focus (simp; done))) | with_reducible apply At.al | with_reducible apply At.drw | with_reducible apply At.dr))) hb1
  have k_o : At v1 (w.heap.size + 1 + 1) 23 #[.int .i64 0, .int .i64 0] := At.bel (by (repeat (first | (with_reducible apply At.new'; (focus (simp; done))) | with_reducible apply At.al | with_reducible apply At.drw | with_reducible apply At.dr))) hb1
  have HB : Below w.heap.size w v1 := below_then (by repeat (first | with_reducible assumption | with_reducible exact Below.refl _ _ | with_reducible refine below_al ?_ _ | with_reducible refine below_drew ?_ | with_reducible refine below_drewN ?_ _ | with_reducible refine below_set ?_ (by dsimp only; omega) _)) hb1
  clear hb1
  have Lk_a := k_a.lt
  obtain ⟨k_a0, k_a1, k_a2, k_a3⟩ := k_a.two
  have Lk_b := k_b.lt
  obtain ⟨k_b0, k_b1, k_b2, k_b3⟩ := k_b.two
  have Lk_o := k_o.lt
  obtain ⟨k_o0, k_o1, k_o2, k_o3⟩ := k_o.two
  go_wp2_with fail
  refine (HV2.out _).mono ?_
  rintro e v2 ⟨rfl, hb2⟩
  clear k_a0 k_a1 k_a2 k_a3 Lk_a k_b0 k_b1 k_b2 k_b3 Lk_b k_o0 k_o1 k_o2 k_o3 Lk_o
  replace k_a : At v2 (w.heap.size) 23 #[.int .i64 an, .int .i64 ad] := At.bel (by repeat (first | with_reducible assumption | with_reducible apply At.put0 | with_reducible apply At.put1 | with_reducible refine At.far ?_ (by dsimp only; omega) _ | with_reducible apply At.al | with_reducible apply At.drw | with_reducible apply At.dr)) hb2
  replace k_b : At v2 (w.heap.size + 1) 23 #[.int .i64 bn, .int .i64 bd] := At.bel (by repeat (first | with_reducible assumption | with_reducible apply At.put0 | with_reducible apply At.put1 | with_reducible refine At.far ?_ (by dsimp only; omega) _ | with_reducible apply At.al | with_reducible apply At.drw | with_reducible apply At.dr)) hb2
  replace k_o : At v2 (w.heap.size + 1 + 1) 23 #[.int .i64 0, .int .i64 0] := At.bel (by repeat (first | with_reducible assumption | with_reducible apply At.put0 | with_reducible apply At.put1 | with_reducible refine At.far ?_ (by dsimp only; omega) _ | with_reducible apply At.al | with_reducible apply At.drw | with_reducible apply At.dr)) hb2
  replace HB : Below w.heap.size w v2 := below_then (by repeat (first | with_reducible assumption | with_reducible exact Below.refl _ _ | with_reducible refine below_al ?_ _ | with_reducible refine below_drew ?_ | with_reducible refine below_drewN ?_ _ | with_reducible refine below_set ?_ (by dsimp only; omega) _)) hb2
  clear hb2
  have Lk_a := k_a.lt
  obtain ⟨k_a0, k_a1, k_a2, k_a3⟩ := k_a.two
  have Lk_b := k_b.lt
  obtain ⟨k_b0, k_b1, k_b2, k_b3⟩ := k_b.two
  have Lk_o := k_o.lt
  obtain ⟨k_o0, k_o1, k_o2, k_o3⟩ := k_o.two
  go_wp2_with fail
  refine (HA.out _).mono ?_
  rintro e v3 ⟨rfl, hb3⟩
  clear k_a0 k_a1 k_a2 k_a3 Lk_a k_b0 k_b1 k_b2 k_b3 Lk_b k_o0 k_o1 k_o2 k_o3 Lk_o
  replace k_a : At v3 (w.heap.size) 23 #[.int .i64 an, .int .i64 ad] := At.bel (by repeat (first | with_reducible assumption | with_reducible apply At.put0 | with_reducible apply At.put1 | with_reducible refine At.far ?_ (by dsimp only; omega) _ | with_reducible apply At.al | with_reducible apply At.drw | with_reducible apply At.dr)) hb3
  replace k_b : At v3 (w.heap.size + 1) 23 #[.int .i64 bn, .int .i64 bd] := At.bel (by repeat (first | with_reducible assumption | with_reducible apply At.put0 | with_reducible apply At.put1 | with_reducible refine At.far ?_ (by dsimp only; omega) _ | with_reducible apply At.al | with_reducible apply At.drw | with_reducible apply At.dr)) hb3
  replace k_o : At v3 (w.heap.size + 1 + 1) 23 #[.int .i64 0, .int .i64 0] := At.bel (by repeat (first | with_reducible assumption | with_reducible apply At.put0 | with_reducible apply At.put1 | with_reducible refine At.far ?_ (by dsimp only; omega) _ | with_reducible apply At.al | with_reducible apply At.drw | with_reducible apply At.dr)) hb3
  replace HB : Below w.heap.size w v3 := below_then (by repeat (first | with_reducible assumption | with_reducible exact Below.refl _ _ | with_reducible refine below_al ?_ _ | with_reducible refine below_drew ?_ | with_reducible refine below_drewN ?_ _ | with_reducible refine below_set ?_ (by dsimp only; omega) _)) hb3
  clear hb3
  have Lk_a := k_a.lt
  obtain ⟨k_a0, k_a1, k_a2, k_a3⟩ := k_a.two
  have Lk_b := k_b.lt
  obtain ⟨k_b0, k_b1, k_b2, k_b3⟩ := k_b.two
  have Lk_o := k_o.lt
  obtain ⟨k_o0, k_o1, k_o2, k_o3⟩ := k_o.two
  go_wp2_with fail
  exact bodyPost_ret (v := frv r) (by simp [results, Tryd.results14, go_sem, *]) rfl ⟨rfl, (by repeat (first | with_reducible assumption | with_reducible exact Below.refl _ _ | with_reducible refine below_al ?_ _ | with_reducible refine below_drew ?_ | with_reducible refine below_drewN ?_ _ | with_reducible refine below_set ?_ (by dsimp only; omega) _))⟩

theorem fracB_neg {n d : Int} : fracB (-n) d = fracB n d := by
  rw [Bool.eq_iff_iff, fracB_iff, fracB_iff, Int.natAbs_neg]
  constructor <;> (rintro ⟨a, b, c, d, e⟩; exact ⟨a, b, by omega, by omega, e⟩)
def rsubS (an ad bn bd : Int) : Int × Int × Int := if fracB an ad && fracB bn bd then raddS an ad (-bn) bd else (0, 0, 1)

set_option maxRecDepth 100000 in
theorem rsub_bad1 (an ad bn bd : Int) 
    (HV1 : Hid (∀ w, Calls Tryd.prog 15 #[.agg #[.int .i64 an, .int .i64 ad]] w fun e w' => e = .returned (.bool false) ∧ Below w.heap.size w w')) (w : World) :
    Calls Tryd.prog 14 #[.agg #[.int .i64 an, .int .i64 ad], .agg #[.int .i64 bn, .int .i64 bd]] w fun e w' => e = .returned (frv (0, 0, 1)) ∧ Below w.heap.size w w' := by
  go_enter Tryd.func14, Tryd.ntmps14
  go_wp2_with fail
  refine (HV1.out _).mono ?_
  rintro e v1 ⟨rfl, hb1⟩
  have k_a : At v1 (w.heap.size) 23 #[.int .i64 an, .int .i64 ad] := At.bel (by (repeat (first | (with_reducible apply At.new'; (focus (simp; done))) | with_reducible apply At.al | with_reducible apply At.drw | with_reducible apply At.dr))) hb1
  have k_b : At v1 (w.heap.size + 1) 23 #[.int .i64 bn, .int .i64 bd] := At.bel (by (repeat (first | (with_reducible apply At.new'; (focus (simp; done))) | with_reducible apply At.al | with_reducible apply At.drw | with_reducible apply At.dr))) hb1
  have k_o : At v1 (w.heap.size + 1 + 1) 23 #[.int .i64 0, .int .i64 0] := At.bel (by (repeat (first | (with_reducible apply At.new'; (focus (simp; done))) | with_reducible apply At.al | with_reducible apply At.drw | with_reducible apply At.dr))) hb1
  have HB : Below w.heap.size w v1 := below_then (by repeat (first | with_reducible assumption | with_reducible exact Below.refl _ _ | with_reducible refine below_al ?_ _ | with_reducible refine below_drew ?_ | with_reducible refine below_drewN ?_ _ | with_reducible refine below_set ?_ (by dsimp only; omega) _)) hb1
  clear hb1
  have Lk_a := k_a.lt
  obtain ⟨k_a0, k_a1, k_a2, k_a3⟩ := k_a.two
  have Lk_b := k_b.lt
  obtain ⟨k_b0, k_b1, k_b2, k_b3⟩ := k_b.two
  have Lk_o := k_o.lt
  obtain ⟨k_o0, k_o1, k_o2, k_o3⟩ := k_o.two
  go_wp2_with fail
  exact bodyPost_ret (v := frv (0, 0, 1)) (by simp [results, Tryd.results14, go_sem, *]) rfl ⟨rfl, (by repeat (first | with_reducible assumption | with_reducible exact Below.refl _ _ | with_reducible refine below_al ?_ _ | with_reducible refine below_drew ?_ | with_reducible refine below_drewN ?_ _ | with_reducible refine below_set ?_ (by dsimp only; omega) _))⟩

set_option maxRecDepth 100000 in
theorem rsub_bad2 (an ad bn bd : Int) 
    (HV1 : Hid (∀ w, Calls Tryd.prog 15 #[.agg #[.int .i64 an, .int .i64 ad]] w fun e w' => e = .returned (.bool true) ∧ Below w.heap.size w w'))
    (HV2 : Hid (∀ w, Calls Tryd.prog 15 #[.agg #[.int .i64 bn, .int .i64 bd]] w fun e w' => e = .returned (.bool false) ∧ Below w.heap.size w w')) (w : World) :
    Calls Tryd.prog 14 #[.agg #[.int .i64 an, .int .i64 ad], .agg #[.int .i64 bn, .int .i64 bd]] w fun e w' => e = .returned (frv (0, 0, 1)) ∧ Below w.heap.size w w' := by
  go_enter Tryd.func14, Tryd.ntmps14
  go_wp2_with fail
  refine (HV1.out _).mono ?_
  rintro e v1 ⟨rfl, hb1⟩
  have k_a : At v1 (w.heap.size) 23 #[.int .i64 an, .int .i64 ad] := At.bel (by (repeat (first | (with_reducible apply At.new'; (focus (simp; done))) | with_reducible apply At.al | with_reducible apply At.drw | with_reducible apply At.dr))) hb1
  have k_b : At v1 (w.heap.size + 1) 23 #[.int .i64 bn, .int .i64 bd] := At.bel (by (repeat (first | (with_reducible apply At.new'; (focus (simp; done))) | with_reducible apply At.al | with_reducible apply At.drw | with_reducible apply At.dr))) hb1
  have k_o : At v1 (w.heap.size + 1 + 1) 23 #[.int .i64 0, .int .i64 0] := At.bel (by (repeat (first | (with_reducible apply At.new'; (focus (simp; done))) | with_reducible apply At.al | with_reducible apply At.drw | with_reducible apply At.dr))) hb1
  have HB : Below w.heap.size w v1 := below_then (by repeat (first | with_reducible assumption | with_reducible exact Below.refl _ _ | with_reducible refine below_al ?_ _ | with_reducible refine below_drew ?_ | with_reducible refine below_drewN ?_ _ | with_reducible refine below_set ?_ (by dsimp only; omega) _)) hb1
  clear hb1
  have Lk_a := k_a.lt
  obtain ⟨k_a0, k_a1, k_a2, k_a3⟩ := k_a.two
  have Lk_b := k_b.lt
  obtain ⟨k_b0, k_b1, k_b2, k_b3⟩ := k_b.two
  have Lk_o := k_o.lt
  obtain ⟨k_o0, k_o1, k_o2, k_o3⟩ := k_o.two
  go_wp2_with fail
  refine (HV2.out _).mono ?_
  rintro e v2 ⟨rfl, hb2⟩
  clear k_a0 k_a1 k_a2 k_a3 Lk_a k_b0 k_b1 k_b2 k_b3 Lk_b k_o0 k_o1 k_o2 k_o3 Lk_o
  replace k_a : At v2 (w.heap.size) 23 #[.int .i64 an, .int .i64 ad] := At.bel (by repeat (first | with_reducible assumption | with_reducible apply At.put0 | with_reducible apply At.put1 | with_reducible refine At.far ?_ (by dsimp only; omega) _ | with_reducible apply At.al | with_reducible apply At.drw | with_reducible apply At.dr)) hb2
  replace k_b : At v2 (w.heap.size + 1) 23 #[.int .i64 bn, .int .i64 bd] := At.bel (by repeat (first | with_reducible assumption | with_reducible apply At.put0 | with_reducible apply At.put1 | with_reducible refine At.far ?_ (by dsimp only; omega) _ | with_reducible apply At.al | with_reducible apply At.drw | with_reducible apply At.dr)) hb2
  replace k_o : At v2 (w.heap.size + 1 + 1) 23 #[.int .i64 0, .int .i64 0] := At.bel (by repeat (first | with_reducible assumption | with_reducible apply At.put0 | with_reducible apply At.put1 | with_reducible refine At.far ?_ (by dsimp only; omega) _ | with_reducible apply At.al | with_reducible apply At.drw | with_reducible apply At.dr)) hb2
  replace HB : Below w.heap.size w v2 := below_then (by repeat (first | with_reducible assumption | with_reducible exact Below.refl _ _ | with_reducible refine below_al ?_ _ | with_reducible refine below_drew ?_ | with_reducible refine below_drewN ?_ _ | with_reducible refine below_set ?_ (by dsimp only; omega) _)) hb2
  clear hb2
  have Lk_a := k_a.lt
  obtain ⟨k_a0, k_a1, k_a2, k_a3⟩ := k_a.two
  have Lk_b := k_b.lt
  obtain ⟨k_b0, k_b1, k_b2, k_b3⟩ := k_b.two
  have Lk_o := k_o.lt
  obtain ⟨k_o0, k_o1, k_o2, k_o3⟩ := k_o.two
  go_wp2_with fail
  exact bodyPost_ret (v := frv (0, 0, 1)) (by simp [results, Tryd.results14, go_sem, *]) rfl ⟨rfl, (by repeat (first | with_reducible assumption | with_reducible exact Below.refl _ _ | with_reducible refine below_al ?_ _ | with_reducible refine below_drew ?_ | with_reducible refine below_drewN ?_ _ | with_reducible refine below_set ?_ (by dsimp only; omega) _))⟩

theorem rsub_any (an ad bn bd : Int) (w : World) :
    Calls Tryd.prog 14 #[.agg #[.int .i64 an, .int .i64 ad], .agg #[.int .i64 bn, .int .i64 bd]] w fun e w' => e = .returned (frv (rsubS an ad bn bd)) ∧ Below w.heap.size w w' := by
  cases h1 : fracB an ad
  · rw [show rsubS an ad bn bd = (0, 0, 1) from by simp [rsubS, h1]]
    exact rsub_bad1 an ad bn bd (Lib.hid (fun w => by have := fvalid_any an ad w; rw [h1] at this; exact this)) w
  · cases h2 : fracB bn bd
    · rw [show rsubS an ad bn bd = (0, 0, 1) from by simp [rsubS, h2]]
      exact rsub_bad2 an ad bn bd (Lib.hid (fun w => by have := fvalid_any an ad w; rw [h1] at this; exact this)) (Lib.hid (fun w => by have := fvalid_any bn bd w; rw [h2] at this; exact this)) w
    · obtain ⟨p, rfl⟩ : ∃ p : Nat, ad = (p : Int) := ⟨ad.toNat, by have := (fracB_iff.1 h1).1; omega⟩
      obtain ⟨q, rfl⟩ : ∃ q : Nat, bd = (q : Int) := ⟨bd.toNat, by have := (fracB_iff.1 h2).1; omega⟩
      have g2 := fracB_iff.1 h2
      rw [show rsubS an p bn q = raddS an p (-bn) q from by simp [rsubS, h1, h2]]
      exact rsub_core an p bn q _ (IntWalk.i64_in _ (by omega)) (Lib.hid (fun w => by have := fvalid_any an p w; rw [h1] at this; exact this)) (Lib.hid (fun w => by have := fvalid_any bn q w; rw [h2] at this; exact this)) (Lib.hid (fun w => radd_any an p (-bn) q w)) w

set_option maxRecDepth 100000 in
set_option maxHeartbeats 1000000 in
theorem rdiv_zero (an ad bn bd : Int) (z : (bn == 0) = true)
    (HV1 : Hid (∀ w, Calls Tryd.prog 15 #[.agg #[.int .i64 an, .int .i64 ad]] w fun e w' => e = .returned (.bool true) ∧ Below w.heap.size w w'))
    (HV2 : Hid (∀ w, Calls Tryd.prog 15 #[.agg #[.int .i64 bn, .int .i64 bd]] w fun e w' => e = .returned (.bool true) ∧ Below w.heap.size w w')) (w : World) :
    Calls Tryd.prog 16 #[.agg #[.int .i64 an, .int .i64 ad], .agg #[.int .i64 bn, .int .i64 bd]] w fun e w' => e = .returned (frv (0, 0, 16)) ∧ Below w.heap.size w w' := by
  go_enter Tryd.func16, Tryd.ntmps16
  go_wp2_with fail
  refine (HV1.out _).mono ?_
  rintro e v1 ⟨rfl, hb1⟩
  have k_a : At v1 (w.heap.size) 23 #[.int .i64 an, .int .i64 ad] := At.bel (by (repeat (first | (with_reducible apply At.new'; (focus (simp; done))) | with_reducible apply At.al | with_reducible apply At.drw | with_reducible apply At.dr))) hb1
  have k_b : At v1 (w.heap.size + 1) 23 #[.int .i64 bn, .int .i64 bd] := At.bel (by (repeat (first | (with_reducible apply At.new'; (focus (simp; done))) | with_reducible apply At.al | with_reducible apply At.drw | with_reducible apply At.dr))) hb1
  have k_o : At v1 (w.heap.size + 1 + 1) 23 #[.int .i64 0, .int .i64 0] := At.bel (by (repeat (first | (with_reducible apply At.new'; (focus (simp; done))) | with_reducible apply At.al | with_reducible apply At.drw | with_reducible apply At.dr))) hb1
  have HB : Below w.heap.size w v1 := below_then (by repeat (first | with_reducible assumption | with_reducible exact Below.refl _ _ | with_reducible refine below_al ?_ _ | with_reducible refine below_drew ?_ | with_reducible refine below_drewN ?_ _ | with_reducible refine below_set ?_ (by dsimp only; omega) _)) hb1
  clear hb1
  have Lk_a := k_a.lt
  obtain ⟨k_a0, k_a1, k_a2, k_a3⟩ := k_a.two
  have Lk_b := k_b.lt
  obtain ⟨k_b0, k_b1, k_b2, k_b3⟩ := k_b.two
  have Lk_o := k_o.lt
  obtain ⟨k_o0, k_o1, k_o2, k_o3⟩ := k_o.two
  go_wp2_with fail
  refine (HV2.out _).mono ?_
  rintro e v2 ⟨rfl, hb2⟩
  clear k_a0 k_a1 k_a2 k_a3 Lk_a k_b0 k_b1 k_b2 k_b3 Lk_b k_o0 k_o1 k_o2 k_o3 Lk_o
  replace k_a : At v2 (w.heap.size) 23 #[.int .i64 an, .int .i64 ad] := At.bel (by repeat (first | with_reducible assumption | with_reducible apply At.put0 | with_reducible apply At.put1 | with_reducible refine At.far ?_ (by dsimp only; omega) _ | with_reducible apply At.al | with_reducible apply At.drw | with_reducible apply At.dr)) hb2
  replace k_b : At v2 (w.heap.size + 1) 23 #[.int .i64 bn, .int .i64 bd] := At.bel (by repeat (first | with_reducible assumption | with_reducible apply At.put0 | with_reducible apply At.put1 | with_reducible refine At.far ?_ (by dsimp only; omega) _ | with_reducible apply At.al | with_reducible apply At.drw | with_reducible apply At.dr)) hb2
  replace k_o : At v2 (w.heap.size + 1 + 1) 23 #[.int .i64 0, .int .i64 0] := At.bel (by repeat (first | with_reducible assumption | with_reducible apply At.put0 | with_reducible apply At.put1 | with_reducible refine At.far ?_ (by dsimp only; omega) _ | with_reducible apply At.al | with_reducible apply At.drw | with_reducible apply At.dr)) hb2
  replace HB : Below w.heap.size w v2 := below_then (by repeat (first | with_reducible assumption | with_reducible exact Below.refl _ _ | with_reducible refine below_al ?_ _ | with_reducible refine below_drew ?_ | with_reducible refine below_drewN ?_ _ | with_reducible refine below_set ?_ (by dsimp only; omega) _)) hb2
  clear hb2
  have Lk_a := k_a.lt
  obtain ⟨k_a0, k_a1, k_a2, k_a3⟩ := k_a.two
  have Lk_b := k_b.lt
  obtain ⟨k_b0, k_b1, k_b2, k_b3⟩ := k_b.two
  have Lk_o := k_o.lt
  obtain ⟨k_o0, k_o1, k_o2, k_o3⟩ := k_o.two
  go_wp2_with fail
  exact bodyPost_ret (v := frv (0, 0, 16)) (by simp [results, Tryd.results16, go_sem, *]) rfl ⟨rfl, (by repeat (first | with_reducible assumption | with_reducible exact Below.refl _ _ | with_reducible refine below_al ?_ _ | with_reducible refine below_drew ?_ | with_reducible refine below_drewN ?_ _ | with_reducible refine below_set ?_ (by dsimp only; omega) _))⟩

set_option maxRecDepth 100000 in
set_option maxHeartbeats 1000000 in
theorem rdiv_neg (an ad bn bd : Int) (r : Int × Int × Int) (z : (bn == 0) = false) (z2 : bn < 0) (e1 : IntKind.i64.wrap (-bn) = -bn) (e2 : IntKind.i64.wrap (-bd) = -bd)
    (HV1 : Hid (∀ w, Calls Tryd.prog 15 #[.agg #[.int .i64 an, .int .i64 ad]] w fun e w' => e = .returned (.bool true) ∧ Below w.heap.size w w'))
    (HV2 : Hid (∀ w, Calls Tryd.prog 15 #[.agg #[.int .i64 bn, .int .i64 bd]] w fun e w' => e = .returned (.bool true) ∧ Below w.heap.size w w'))
    (HA : Hid (∀ w, Calls Tryd.prog 13 #[.agg #[.int .i64 an, .int .i64 ad], .agg #[.int .i64 (-bd), .int .i64 (-bn)]] w fun e w' => e = .returned (frv r) ∧ Below w.heap.size w w')) (w : World) :
    Calls Tryd.prog 16 #[.agg #[.int .i64 an, .int .i64 ad], .agg #[.int .i64 bn, .int .i64 bd]] w fun e w' => e = .returned (frv r) ∧ Below w.heap.size w w' := by
  go_enter Tryd.func16, Tryd.ntmps16
  go_wp2_with fail
  refine (HV1.out _).mono ?_
  rintro e v1 ⟨rfl, hb1⟩
  have k_a : At v1 (w.heap.size) 23 #[.int .i64 an, .int .i64 ad] := At.bel (by (repeat (first | (with_reducible apply At.new'; (focus (simp; done))) | with_reducible apply At.al | with_reducible apply At.drw | with_reducible apply At.dr))) hb1
  have k_b : At v1 (w.heap.size + 1) 23 #[.int .i64 bn, .int .i64 bd] := At.bel (by (repeat (first | (with_reducible apply At.new'; (focus (simp; done))) | with_reducible apply At.al | with_reducible apply At.drw | with_reducible apply At.dr))) hb1
  have k_o : At v1 (w.heap.size + 1 + 1) 23 #[.int .i64 0, .int .i64 0] := At.bel (by (repeat (first | (with_reducible apply At.new'; (focus (simp; done))) | with_reducible apply At.al | with_reducible apply At.drw | with_reducible apply At.dr))) hb1
  have HB : Below w.heap.size w v1 := below_then (by repeat (first | with_reducible assumption | with_reducible exact Below.refl _ _ | with_reducible refine below_al ?_ _ | with_reducible refine below_drew ?_ | with_reducible refine below_drewN ?_ _ | with_reducible refine below_set ?_ (by dsimp only; omega) _)) hb1
  clear hb1
  have Lk_a := k_a.lt
  obtain ⟨k_a0, k_a1, k_a2, k_a3⟩ := k_a.two
  have Lk_b := k_b.lt
  obtain ⟨k_b0, k_b1, k_b2, k_b3⟩ := k_b.two
  have Lk_o := k_o.lt
  obtain ⟨k_o0, k_o1, k_o2, k_o3⟩ := k_o.two
  go_wp2_with fail
  refine (HV2.out _).mono ?_
  rintro e v2 ⟨rfl, hb2⟩
  clear k_a0 k_a1 k_a2 k_a3 Lk_a k_b0 k_b1 k_b2 k_b3 Lk_b k_o0 k_o1 k_o2 k_o3 Lk_o
  replace k_a : At v2 (w.heap.size) 23 #[.int .i64 an, .int .i64 ad] := At.bel (by repeat (first | with_reducible assumption | with_reducible apply At.put0 | with_reducible apply At.put1 | with_reducible refine At.far ?_ (by dsimp only; omega) _ | with_reducible apply At.al | with_reducible apply At.drw | with_reducible apply At.dr)) hb2
  replace k_b : At v2 (w.heap.size + 1) 23 #[.int .i64 bn, .int .i64 bd] := At.bel (by repeat (first | with_reducible assumption | with_reducible apply At.put0 | with_reducible apply At.put1 | with_reducible refine At.far ?_ (by dsimp only; omega) _ | with_reducible apply At.al | with_reducible apply At.drw | with_reducible apply At.dr)) hb2
  replace k_o : At v2 (w.heap.size + 1 + 1) 23 #[.int .i64 0, .int .i64 0] := At.bel (by repeat (first | with_reducible assumption | with_reducible apply At.put0 | with_reducible apply At.put1 | with_reducible refine At.far ?_ (by dsimp only; omega) _ | with_reducible apply At.al | with_reducible apply At.drw | with_reducible apply At.dr)) hb2
  replace HB : Below w.heap.size w v2 := below_then (by repeat (first | with_reducible assumption | with_reducible exact Below.refl _ _ | with_reducible refine below_al ?_ _ | with_reducible refine below_drew ?_ | with_reducible refine below_drewN ?_ _ | with_reducible refine below_set ?_ (by dsimp only; omega) _)) hb2
  clear hb2
  have Lk_a := k_a.lt
  obtain ⟨k_a0, k_a1, k_a2, k_a3⟩ := k_a.two
  have Lk_b := k_b.lt
  obtain ⟨k_b0, k_b1, k_b2, k_b3⟩ := k_b.two
  have Lk_o := k_o.lt
  obtain ⟨k_o0, k_o1, k_o2, k_o3⟩ := k_o.two
  go_wp2_with fail
  refine (HA.out _).mono ?_
  rintro e v3 ⟨rfl, hb3⟩
  clear k_a0 k_a1 k_a2 k_a3 Lk_a k_b0 k_b1 k_b2 k_b3 Lk_b k_o0 k_o1 k_o2 k_o3 Lk_o
  replace k_a : At v3 (w.heap.size) 23 #[.int .i64 an, .int .i64 ad] := At.bel (by repeat (first | with_reducible assumption | with_reducible apply At.put0 | with_reducible apply At.put1 | with_reducible refine At.far ?_ (by dsimp only; omega) _ | with_reducible apply At.al | with_reducible apply At.drw | with_reducible apply At.dr)) hb3
  replace k_b : At v3 (w.heap.size + 1) 23 #[.int .i64 bn, .int .i64 bd] := At.bel (by repeat (first | with_reducible assumption | with_reducible apply At.put0 | with_reducible apply At.put1 | with_reducible refine At.far ?_ (by dsimp only; omega) _ | with_reducible apply At.al | with_reducible apply At.drw | with_reducible apply At.dr)) hb3
  replace k_o : At v3 (w.heap.size + 1 + 1) 23 #[.int .i64 0, .int .i64 0] := At.bel (by repeat (first | with_reducible assumption | with_reducible apply At.put0 | with_reducible apply At.put1 | with_reducible refine At.far ?_ (by dsimp only; omega) _ | with_reducible apply At.al | with_reducible apply At.drw | with_reducible apply At.dr)) hb3
  replace HB : Below w.heap.size w v3 := below_then (by repeat (first | with_reducible assumption | with_reducible exact Below.refl _ _ | with_reducible refine below_al ?_ _ | with_reducible refine below_drew ?_ | with_reducible refine below_drewN ?_ _ | with_reducible refine below_set ?_ (by dsimp only; omega) _)) hb3
  clear hb3
  have Lk_a := k_a.lt
  obtain ⟨k_a0, k_a1, k_a2, k_a3⟩ := k_a.two
  have Lk_b := k_b.lt
  obtain ⟨k_b0, k_b1, k_b2, k_b3⟩ := k_b.two
  have Lk_o := k_o.lt
  obtain ⟨k_o0, k_o1, k_o2, k_o3⟩ := k_o.two
  go_wp2_with fail
  exact bodyPost_ret (v := frv r) (by simp [results, Tryd.results16, go_sem, *]) rfl ⟨rfl, (by repeat (first | with_reducible assumption | with_reducible exact Below.refl _ _ | with_reducible refine below_al ?_ _ | with_reducible refine below_drew ?_ | with_reducible refine below_drewN ?_ _ | with_reducible refine below_set ?_ (by dsimp only; omega) _))⟩

set_option maxRecDepth 100000 in
set_option maxHeartbeats 1000000 in
theorem rdiv_pos (an ad bn bd : Int) (r : Int × Int × Int) (z : (bn == 0) = false) (z2 : ¬ bn < 0)
    (HV1 : Hid (∀ w, Calls Tryd.prog 15 #[.agg #[.int .i64 an, .int .i64 ad]] w fun e w' => e = .returned (.bool true) ∧ Below w.heap.size w w'))
    (HV2 : Hid (∀ w, Calls Tryd.prog 15 #[.agg #[.int .i64 bn, .int .i64 bd]] w fun e w' => e = .returned (.bool true) ∧ Below w.heap.size w w'))
    (HA : Hid (∀ w, Calls Tryd.prog 13 #[.agg #[.int .i64 an, .int .i64 ad], .agg #[.int .i64 bd, .int .i64 bn]] w fun e w' => e = .returned (frv r) ∧ Below w.heap.size w w')) (w : World) :
    Calls Tryd.prog 16 #[.agg #[.int .i64 an, .int .i64 ad], .agg #[.int .i64 bn, .int .i64 bd]] w fun e w' => e = .returned (frv r) ∧ Below w.heap.size w w' := by
  go_enter Tryd.func16, Tryd.ntmps16
  go_wp2_with fail
  refine (HV1.out _).mono ?_
  rintro e v1 ⟨rfl, hb1⟩
  have k_a : At v1 (w.heap.size) 23 #[.int .i64 an, .int .i64 ad] := At.bel (by (repeat (first | (with_reducible apply At.new'; (focus (simp; done))) | with_reducible apply At.al | with_reducible apply At.drw | with_reducible apply At.dr))) hb1
  have k_b : At v1 (w.heap.size + 1) 23 #[.int .i64 bn, .int .i64 bd] := At.bel (by (repeat (first | (with_reducible apply At.new'; (focus (simp; done))) | with_reducible apply At.al | with_reducible apply At.drw | with_reducible apply At.dr))) hb1
  have k_o : At v1 (w.heap.size + 1 + 1) 23 #[.int .i64 0, .int .i64 0] := At.bel (by (repeat (first | (with_reducible apply At.new'; (focus (simp; done))) | with_reducible apply At.al | with_reducible apply At.drw | with_reducible apply At.dr))) hb1
  have HB : Below w.heap.size w v1 := below_then (by repeat (first | with_reducible assumption | with_reducible exact Below.refl _ _ | with_reducible refine below_al ?_ _ | with_reducible refine below_drew ?_ | with_reducible refine below_drewN ?_ _ | with_reducible refine below_set ?_ (by dsimp only; omega) _)) hb1
  clear hb1
  have Lk_a := k_a.lt
  obtain ⟨k_a0, k_a1, k_a2, k_a3⟩ := k_a.two
  have Lk_b := k_b.lt
  obtain ⟨k_b0, k_b1, k_b2, k_b3⟩ := k_b.two
  have Lk_o := k_o.lt
  obtain ⟨k_o0, k_o1, k_o2, k_o3⟩ := k_o.two
  go_wp2_with fail
  refine (HV2.out _).mono ?_
  rintro e v2 ⟨rfl, hb2⟩
  clear k_a0 k_a1 k_a2 k_a3 Lk_a k_b0 k_b1 k_b2 k_b3 Lk_b k_o0 k_o1 k_o2 k_o3 Lk_o
  replace k_a : At v2 (w.heap.size) 23 #[.int .i64 an, .int .i64 ad] := At.bel (by repeat (first | with_reducible assumption | with_reducible apply At.put0 | with_reducible apply At.put1 | with_reducible refine At.far ?_ (by dsimp only; omega) _ | with_reducible apply At.al | with_reducible apply At.drw | with_reducible apply At.dr)) hb2
  replace k_b : At v2 (w.heap.size + 1) 23 #[.int .i64 bn, .int .i64 bd] := At.bel (by repeat (first | with_reducible assumption | with_reducible apply At.put0 | with_reducible apply At.put1 | with_reducible refine At.far ?_ (by dsimp only; omega) _ | with_reducible apply At.al | with_reducible apply At.drw | with_reducible apply At.dr)) hb2
  replace k_o : At v2 (w.heap.size + 1 + 1) 23 #[.int .i64 0, .int .i64 0] := At.bel (by repeat (first | with_reducible assumption | with_reducible apply At.put0 | with_reducible apply At.put1 | with_reducible refine At.far ?_ (by dsimp only; omega) _ | with_reducible apply At.al | with_reducible apply At.drw | with_reducible apply At.dr)) hb2
  replace HB : Below w.heap.size w v2 := below_then (by repeat (first | with_reducible assumption | with_reducible exact Below.refl _ _ | with_reducible refine below_al ?_ _ | with_reducible refine below_drew ?_ | with_reducible refine below_drewN ?_ _ | with_reducible refine below_set ?_ (by dsimp only; omega) _)) hb2
  clear hb2
  have Lk_a := k_a.lt
  obtain ⟨k_a0, k_a1, k_a2, k_a3⟩ := k_a.two
  have Lk_b := k_b.lt
  obtain ⟨k_b0, k_b1, k_b2, k_b3⟩ := k_b.two
  have Lk_o := k_o.lt
  obtain ⟨k_o0, k_o1, k_o2, k_o3⟩ := k_o.two
  go_wp2_with fail
  refine (HA.out _).mono ?_
  rintro e v3 ⟨rfl, hb3⟩
  clear k_a0 k_a1 k_a2 k_a3 Lk_a k_b0 k_b1 k_b2 k_b3 Lk_b k_o0 k_o1 k_o2 k_o3 Lk_o
  replace k_a : At v3 (w.heap.size) 23 #[.int .i64 an, .int .i64 ad] := At.bel (by repeat (first | with_reducible assumption | with_reducible apply At.put0 | with_reducible apply At.put1 | with_reducible refine At.far ?_ (by dsimp only; omega) _ | with_reducible apply At.al | with_reducible apply At.drw | with_reducible apply At.dr)) hb3
  replace k_b : At v3 (w.heap.size + 1) 23 #[.int .i64 bn, .int .i64 bd] := At.bel (by repeat (first | with_reducible assumption | with_reducible apply At.put0 | with_reducible apply At.put1 | with_reducible refine At.far ?_ (by dsimp only; omega) _ | with_reducible apply At.al | with_reducible apply At.drw | with_reducible apply At.dr)) hb3
  replace k_o : At v3 (w.heap.size + 1 + 1) 23 #[.int .i64 0, .int .i64 0] := At.bel (by repeat (first | with_reducible assumption | with_reducible apply At.put0 | with_reducible apply At.put1 | with_reducible refine At.far ?_ (by dsimp only; omega) _ | with_reducible apply At.al | with_reducible apply At.drw | with_reducible apply At.dr)) hb3
  replace HB : Below w.heap.size w v3 := below_then (by repeat (first | with_reducible assumption | with_reducible exact Below.refl _ _ | with_reducible refine below_al ?_ _ | with_reducible refine below_drew ?_ | with_reducible refine below_drewN ?_ _ | with_reducible refine below_set ?_ (by dsimp only; omega) _)) hb3
  clear hb3
  have Lk_a := k_a.lt
  obtain ⟨k_a0, k_a1, k_a2, k_a3⟩ := k_a.two
  have Lk_b := k_b.lt
  obtain ⟨k_b0, k_b1, k_b2, k_b3⟩ := k_b.two
  have Lk_o := k_o.lt
  obtain ⟨k_o0, k_o1, k_o2, k_o3⟩ := k_o.two
  go_wp2_with fail
  exact bodyPost_ret (v := frv r) (by simp [results, Tryd.results16, go_sem, *]) rfl ⟨rfl, (by repeat (first | with_reducible assumption | with_reducible exact Below.refl _ _ | with_reducible refine below_al ?_ _ | with_reducible refine below_drew ?_ | with_reducible refine below_drewN ?_ _ | with_reducible refine below_set ?_ (by dsimp only; omega) _))⟩

def rdivS (an ad bn bd : Int) : Int × Int × Int := if fracB an ad && fracB bn bd then (if bn = 0 then (0, 0, 16) else if bn < 0 then rmulS an ad (-bd) (-bn) else rmulS an ad bd bn) else (0, 0, 1)

set_option maxRecDepth 100000 in
theorem rdiv_bad1 (an ad bn bd : Int) 
    (HV1 : Hid (∀ w, Calls Tryd.prog 15 #[.agg #[.int .i64 an, .int .i64 ad]] w fun e w' => e = .returned (.bool false) ∧ Below w.heap.size w w')) (w : World) :
    Calls Tryd.prog 16 #[.agg #[.int .i64 an, .int .i64 ad], .agg #[.int .i64 bn, .int .i64 bd]] w fun e w' => e = .returned (frv (0, 0, 1)) ∧ Below w.heap.size w w' := by
  go_enter Tryd.func16, Tryd.ntmps16
  go_wp2_with fail
  refine (HV1.out _).mono ?_
  rintro e v1 ⟨rfl, hb1⟩
  have k_a : At v1 (w.heap.size) 23 #[.int .i64 an, .int .i64 ad] := At.bel (by (repeat (first | (with_reducible apply At.new'; (focus (simp; done))) | with_reducible apply At.al | with_reducible apply At.drw | with_reducible apply At.dr))) hb1
  have k_b : At v1 (w.heap.size + 1) 23 #[.int .i64 bn, .int .i64 bd] := At.bel (by (repeat (first | (with_reducible apply At.new'; (focus (simp; done))) | with_reducible apply At.al | with_reducible apply At.drw | with_reducible apply At.dr))) hb1
  have k_o : At v1 (w.heap.size + 1 + 1) 23 #[.int .i64 0, .int .i64 0] := At.bel (by (repeat (first | (with_reducible apply At.new'; (focus (simp; done))) | with_reducible apply At.al | with_reducible apply At.drw | with_reducible apply At.dr))) hb1
  have HB : Below w.heap.size w v1 := below_then (by repeat (first | with_reducible assumption | with_reducible exact Below.refl _ _ | with_reducible refine below_al ?_ _ | with_reducible refine below_drew ?_ | with_reducible refine below_drewN ?_ _ | with_reducible refine below_set ?_ (by dsimp only; omega) _)) hb1
  clear hb1
  have Lk_a := k_a.lt
  obtain ⟨k_a0, k_a1, k_a2, k_a3⟩ := k_a.two
  have Lk_b := k_b.lt
  obtain ⟨k_b0, k_b1, k_b2, k_b3⟩ := k_b.two
  have Lk_o := k_o.lt
  obtain ⟨k_o0, k_o1, k_o2, k_o3⟩ := k_o.two
  go_wp2_with fail
  exact bodyPost_ret (v := frv (0, 0, 1)) (by simp [results, Tryd.results16, go_sem, *]) rfl ⟨rfl, (by repeat (first | with_reducible assumption | with_reducible exact Below.refl _ _ | with_reducible refine below_al ?_ _ | with_reducible refine below_drew ?_ | with_reducible refine below_drewN ?_ _ | with_reducible refine below_set ?_ (by dsimp only; omega) _))⟩

set_option maxRecDepth 100000 in
theorem rdiv_bad2 (an ad bn bd : Int) 
    (HV1 : Hid (∀ w, Calls Tryd.prog 15 #[.agg #[.int .i64 an, .int .i64 ad]] w fun e w' => e = .returned (.bool true) ∧ Below w.heap.size w w'))
    (HV2 : Hid (∀ w, Calls Tryd.prog 15 #[.agg #[.int .i64 bn, .int .i64 bd]] w fun e w' => e = .returned (.bool false) ∧ Below w.heap.size w w')) (w : World) :
    Calls Tryd.prog 16 #[.agg #[.int .i64 an, .int .i64 ad], .agg #[.int .i64 bn, .int .i64 bd]] w fun e w' => e = .returned (frv (0, 0, 1)) ∧ Below w.heap.size w w' := by
  go_enter Tryd.func16, Tryd.ntmps16
  go_wp2_with fail
  refine (HV1.out _).mono ?_
  rintro e v1 ⟨rfl, hb1⟩
  have k_a : At v1 (w.heap.size) 23 #[.int .i64 an, .int .i64 ad] := At.bel (by (repeat (first | (with_reducible apply At.new'; (focus (simp; done))) | with_reducible apply At.al | with_reducible apply At.drw | with_reducible apply At.dr))) hb1
  have k_b : At v1 (w.heap.size + 1) 23 #[.int .i64 bn, .int .i64 bd] := At.bel (by (repeat (first | (with_reducible apply At.new'; (focus (simp; done))) | with_reducible apply At.al | with_reducible apply At.drw | with_reducible apply At.dr))) hb1
  have k_o : At v1 (w.heap.size + 1 + 1) 23 #[.int .i64 0, .int .i64 0] := At.bel (by (repeat (first | (with_reducible apply At.new'; (focus (simp; done))) | with_reducible apply At.al | with_reducible apply At.drw | with_reducible apply At.dr))) hb1
  have HB : Below w.heap.size w v1 := below_then (by repeat (first | with_reducible assumption | with_reducible exact Below.refl _ _ | with_reducible refine below_al ?_ _ | with_reducible refine below_drew ?_ | with_reducible refine below_drewN ?_ _ | with_reducible refine below_set ?_ (by dsimp only; omega) _)) hb1
  clear hb1
  have Lk_a := k_a.lt
  obtain ⟨k_a0, k_a1, k_a2, k_a3⟩ := k_a.two
  have Lk_b := k_b.lt
  obtain ⟨k_b0, k_b1, k_b2, k_b3⟩ := k_b.two
  have Lk_o := k_o.lt
  obtain ⟨k_o0, k_o1, k_o2, k_o3⟩ := k_o.two
  go_wp2_with fail
  refine (HV2.out _).mono ?_
  rintro e v2 ⟨rfl, hb2⟩
  clear k_a0 k_a1 k_a2 k_a3 Lk_a k_b0 k_b1 k_b2 k_b3 Lk_b k_o0 k_o1 k_o2 k_o3 Lk_o
  replace k_a : At v2 (w.heap.size) 23 #[.int .i64 an, .int .i64 ad] := At.bel (by repeat (first | with_reducible assumption | with_reducible apply At.put0 | with_reducible apply At.put1 | with_reducible refine At.far ?_ (by dsimp only; omega) _ | with_reducible apply At.al | with_reducible apply At.drw | with_reducible apply At.dr)) hb2
  replace k_b : At v2 (w.heap.size + 1) 23 #[.int .i64 bn, .int .i64 bd] := At.bel (by repeat (first | with_reducible assumption | with_reducible apply At.put0 | with_reducible apply At.put1 | with_reducible refine At.far ?_ (by dsimp only; omega) _ | with_reducible apply At.al | with_reducible apply At.drw | with_reducible apply At.dr)) hb2
  replace k_o : At v2 (w.heap.size + 1 + 1) 23 #[.int .i64 0, .int .i64 0] := At.bel (by repeat (first | with_reducible assumption | with_reducible apply At.put0 | with_reducible apply At.put1 | with_reducible refine At.far ?_ (by dsimp only; omega) _ | with_reducible apply At.al | with_reducible apply At.drw | with_reducible apply At.dr)) hb2
  replace HB : Below w.heap.size w v2 := below_then (by repeat (first | with_reducible assumption | with_reducible exact Below.refl _ _ | with_reducible refine below_al ?_ _ | with_reducible refine below_drew ?_ | with_reducible refine below_drewN ?_ _ | with_reducible refine below_set ?_ (by dsimp only; omega) _)) hb2
  clear hb2
  have Lk_a := k_a.lt
  obtain ⟨k_a0, k_a1, k_a2, k_a3⟩ := k_a.two
  have Lk_b := k_b.lt
  obtain ⟨k_b0, k_b1, k_b2, k_b3⟩ := k_b.two
  have Lk_o := k_o.lt
  obtain ⟨k_o0, k_o1, k_o2, k_o3⟩ := k_o.two
  go_wp2_with fail
  exact bodyPost_ret (v := frv (0, 0, 1)) (by simp [results, Tryd.results16, go_sem, *]) rfl ⟨rfl, (by repeat (first | with_reducible assumption | with_reducible exact Below.refl _ _ | with_reducible refine below_al ?_ _ | with_reducible refine below_drew ?_ | with_reducible refine below_drewN ?_ _ | with_reducible refine below_set ?_ (by dsimp only; omega) _))⟩

theorem rdiv_any (an ad bn bd : Int) (w : World) :
    Calls Tryd.prog 16 #[.agg #[.int .i64 an, .int .i64 ad], .agg #[.int .i64 bn, .int .i64 bd]] w fun e w' => e = .returned (frv (rdivS an ad bn bd)) ∧ Below w.heap.size w w' := by
  cases h1 : fracB an ad
  · rw [show rdivS an ad bn bd = (0, 0, 1) from by simp [rdivS, h1]]
    exact rdiv_bad1 an ad bn bd (Lib.hid (fun w => by have := fvalid_any an ad w; rw [h1] at this; exact this)) w
  · cases h2 : fracB bn bd
    · rw [show rdivS an ad bn bd = (0, 0, 1) from by simp [rdivS, h2]]
      exact rdiv_bad2 an ad bn bd (Lib.hid (fun w => by have := fvalid_any an ad w; rw [h1] at this; exact this)) (Lib.hid (fun w => by have := fvalid_any bn bd w; rw [h2] at this; exact this)) w
    · obtain ⟨p, rfl⟩ : ∃ p : Nat, ad = (p : Int) := ⟨ad.toNat, by have := (fracB_iff.1 h1).1; omega⟩
      obtain ⟨q, rfl⟩ : ∃ q : Nat, bd = (q : Int) := ⟨bd.toNat, by have := (fracB_iff.1 h2).1; omega⟩
      have g2 := fracB_iff.1 h2
      by_cases z : bn = 0
      · rw [show rdivS an p bn q = (0, 0, 16) from by simp only [rdivS, h1, h2, Bool.and_self, if_true]; exact if_pos z]
        exact rdiv_zero an p bn q (by simpa using z) (Lib.hid (fun w => by have := fvalid_any an p w; rw [h1] at this; exact this)) (Lib.hid (fun w => by have := fvalid_any bn q w; rw [h2] at this; exact this)) w
      · by_cases z2 : bn < 0
        · rw [show rdivS an p bn q = rmulS an p (-q) (-bn) from by simp [rdivS, h1, h2, z, z2]]
          exact rdiv_neg an p bn q _ (by simpa using z) z2 (IntWalk.i64_in _ (by omega)) (IntWalk.i64_in _ (by omega)) (Lib.hid (fun w => by have := fvalid_any an p w; rw [h1] at this; exact this)) (Lib.hid (fun w => by have := fvalid_any bn q w; rw [h2] at this; exact this)) (Lib.hid (fun w => ratiomul_any an p (-q) (-bn) w)) w
        · rw [show rdivS an p bn q = rmulS an p q bn from by simp [rdivS, h1, h2, z, z2]]
          exact rdiv_pos an p bn q _ (by simpa using z) z2 (Lib.hid (fun w => by have := fvalid_any an p w; rw [h1] at this; exact this)) (Lib.hid (fun w => by have := fvalid_any bn q w; rw [h2] at this; exact this)) (Lib.hid (fun w => ratiomul_any an p q bn w)) w

set_option maxRecDepth 100000 in
set_option maxHeartbeats 1000000 in
theorem rmake_pos (num den : Int) (x y g N D : Nat) (s : Int × Int × Int) (zn : (num == 0) = false) (zn2 : ¬ num = 0) (zn3 : (num != 0) = true) (zn4 : decide (num = 0) = false) (zd : (den == 0) = false) (bg : (1 : Int) ≤ (g : Int)) (z1 : ((g : Int) == 0) = false) (z3 : ¬ (g : Int) = 0) (e1 : (x : Int) / (g : Int) = (N : Int)) (e1w : IntKind.u64.wrap (N : Int) = (N : Int)) (e2 : (y : Int) / (g : Int) = (D : Int)) (e2w : IntKind.u64.wrap (D : Int) = (D : Int))
    (HX : Hid (∀ w, Calls Tryd.prog 42 #[.int .i64 num] w fun e w' => e = .returned (.int .u64 (x : Int)) ∧ Below w.heap.size w w'))
    (HY : Hid (∀ w, Calls Tryd.prog 42 #[.int .i64 den] w fun e w' => e = .returned (.int .u64 (y : Int)) ∧ Below w.heap.size w w'))
    (HG : Hid (∀ w, Calls Tryd.prog 40 #[.int .u64 (x : Int), .int .u64 (y : Int)] w fun e w' => e = .returned (.int .u64 (g : Int)) ∧ Below w.heap.size w w'))
    (HS : Hid (∀ w, Calls Tryd.prog 47 #[.bool (!(decide (num < 0) == decide (den < 0))), .int .u64 (N : Int), .int .u64 (D : Int)] w fun e w' => e = .returned (frv s) ∧ Below w.heap.size w w')) (w : World) :
    Calls Tryd.prog 17 #[.int .i64 num, .int .i64 den] w fun e w' => e = .returned (frv s) ∧ Below w.heap.size w w' := by
  go_enter Tryd.func17, Tryd.ntmps17
  go_wp2_with fail
  refine (HX.out _).mono ?_
  rintro e v1 ⟨rfl, hb1⟩
  have k_o : At v1 (w.heap.size) 23 #[.int .i64 0, .int .i64 0] := At.bel (by (repeat (first | (with_reducible apply At.new'; (focus (simp; done))) | with_reducible apply At.al | with_reducible apply At.drw | with_reducible apply At.dr))) hb1
  have HB : Below w.heap.size w v1 := below_then (by repeat (first | with_reducible assumption | with_reducible exact Below.refl _ _ | with_reducible refine below_al ?_ _ | with_reducible refine below_drew ?_ | with_reducible refine below_drewN ?_ _ | with_reducible refine below_set ?_ (by dsimp only; omega) _)) hb1
  clear hb1
  have Lk_o := k_o.lt
  obtain ⟨k_o0, k_o1, k_o2, k_o3⟩ := k_o.two
  go_wp2_with fail
  refine (HY.out _).mono ?_
  rintro e v2 ⟨rfl, hb2⟩
  clear k_o0 k_o1 k_o2 k_o3 Lk_o
  replace k_o : At v2 (w.heap.size) 23 #[.int .i64 0, .int .i64 0] := At.bel (by repeat (first | with_reducible assumption | with_reducible apply At.put0 | with_reducible apply At.put1 | with_reducible refine At.far ?_ (by dsimp only; omega) _ | with_reducible apply At.al | with_reducible apply At.drw | with_reducible apply At.dr)) hb2
  replace HB : Below w.heap.size w v2 := below_then (by repeat (first | with_reducible assumption | with_reducible exact Below.refl _ _ | with_reducible refine below_al ?_ _ | with_reducible refine below_drew ?_ | with_reducible refine below_drewN ?_ _ | with_reducible refine below_set ?_ (by dsimp only; omega) _)) hb2
  clear hb2
  have Lk_o := k_o.lt
  obtain ⟨k_o0, k_o1, k_o2, k_o3⟩ := k_o.two
  go_wp2_with fail
  refine (HG.out _).mono ?_
  rintro e v3 ⟨rfl, hb3⟩
  clear k_o0 k_o1 k_o2 k_o3 Lk_o
  replace k_o : At v3 (w.heap.size) 23 #[.int .i64 0, .int .i64 0] := At.bel (by repeat (first | with_reducible assumption | with_reducible apply At.put0 | with_reducible apply At.put1 | with_reducible refine At.far ?_ (by dsimp only; omega) _ | with_reducible apply At.al | with_reducible apply At.drw | with_reducible apply At.dr)) hb3
  replace HB : Below w.heap.size w v3 := below_then (by repeat (first | with_reducible assumption | with_reducible exact Below.refl _ _ | with_reducible refine below_al ?_ _ | with_reducible refine below_drew ?_ | with_reducible refine below_drewN ?_ _ | with_reducible refine below_set ?_ (by dsimp only; omega) _)) hb3
  clear hb3
  have Lk_o := k_o.lt
  obtain ⟨k_o0, k_o1, k_o2, k_o3⟩ := k_o.two
  go_wp2_with fail
  clear k_o0 k_o1 k_o2 k_o3 Lk_o
  refine wp_only ?_
  refine wp_region_grow0 18 (by kernel_rfl)     (by kernel_rfl) only_panic ?_
  apply Exists.intro
  refine And.intro (fun W' hW' => ?_) ?_
  focus
    have Kk_o := At.bel (show At _ (w.heap.size) 23 #[.int .i64 0, .int .i64 0] from (by repeat (first | with_reducible assumption | with_reducible apply At.put0 | with_reducible apply At.put1 | with_reducible refine At.far ?_ (by dsimp only; omega) _ | with_reducible apply At.al | with_reducible apply At.drw | with_reducible apply At.dr))) hW'
    have Kk_o0 := cell_regrown Kk_o.c0
    have Kk_o1 := cell_regrown Kk_o.c1
    simp only [List.take_succ_cons, List.take_zero]
    repeat (go_big_quiet_step ((first | with_reducible exact regrown_call HS.out)))
    exact wpQuiet_nil rfl
  intro  v4 hb4  
  have Mk_o := k_o.lt
  replace k_o : At v4 (w.heap.size) 23 #[.int .i64 0, .int .i64 0] := At.bel (by repeat (first | with_reducible assumption | with_reducible apply At.put0 | with_reducible apply At.put1 | with_reducible refine At.far ?_ (by dsimp only; omega) _ | with_reducible apply At.al | with_reducible apply At.drw | with_reducible apply At.dr)) hb4
  replace HB : Below w.heap.size w v4 := below_then (by repeat (first | with_reducible assumption | with_reducible exact Below.refl _ _ | with_reducible refine below_al ?_ _ | with_reducible refine below_drew ?_ | with_reducible refine below_drewN ?_ _ | with_reducible refine below_set ?_ (by dsimp only; omega) _)) hb4
  clear hb4
  have Lk_o := k_o.lt
  obtain ⟨k_o0, k_o1, k_o2, k_o3⟩ := k_o.two
  simp only [List.drop_succ_cons, List.drop_zero]
  go_wp2_with fail
  exact bodyPost_ret (v := frv s) (by simp [results, Tryd.results17, go_sem, *]) rfl ⟨rfl, (by repeat (first | with_reducible assumption | with_reducible exact Below.refl _ _ | with_reducible refine below_al ?_ _ | with_reducible refine below_drew ?_ | with_reducible refine below_drewN ?_ _ | with_reducible refine below_set ?_ (by dsimp only; omega) _))⟩

set_option maxRecDepth 100000 in
set_option maxHeartbeats 1000000 in
theorem rmake_nil (num den : Int) (x y g N D : Nat) (s : Int × Int × Int) (zn : (num == 0) = true) (zn3 : (num != 0) = false) (zn4 : decide (num = 0) = true) (zd : (den == 0) = false) (bg : (1 : Int) ≤ (g : Int)) (z1 : ((g : Int) == 0) = false) (z3 : ¬ (g : Int) = 0) (e1 : (x : Int) / (g : Int) = (N : Int)) (e1w : IntKind.u64.wrap (N : Int) = (N : Int)) (e2 : (y : Int) / (g : Int) = (D : Int)) (e2w : IntKind.u64.wrap (D : Int) = (D : Int))
    (HX : Hid (∀ w, Calls Tryd.prog 42 #[.int .i64 num] w fun e w' => e = .returned (.int .u64 (x : Int)) ∧ Below w.heap.size w w'))
    (HY : Hid (∀ w, Calls Tryd.prog 42 #[.int .i64 den] w fun e w' => e = .returned (.int .u64 (y : Int)) ∧ Below w.heap.size w w'))
    (HG : Hid (∀ w, Calls Tryd.prog 40 #[.int .u64 (x : Int), .int .u64 (y : Int)] w fun e w' => e = .returned (.int .u64 (g : Int)) ∧ Below w.heap.size w w'))
    (HS : Hid (∀ w, Calls Tryd.prog 47 #[.bool false, .int .u64 (N : Int), .int .u64 (D : Int)] w fun e w' => e = .returned (frv s) ∧ Below w.heap.size w w')) (w : World) :
    Calls Tryd.prog 17 #[.int .i64 num, .int .i64 den] w fun e w' => e = .returned (frv s) ∧ Below w.heap.size w w' := by
  go_enter Tryd.func17, Tryd.ntmps17
  go_wp2_with fail
  refine (HX.out _).mono ?_
  rintro e v1 ⟨rfl, hb1⟩
  have k_o : At v1 (w.heap.size) 23 #[.int .i64 0, .int .i64 0] := At.bel (by (repeat (first | (with_reducible apply At.new'; (focus (simp; done))) | with_reducible apply At.al | with_reducible apply At.drw | with_reducible apply At.dr))) hb1
  have HB : Below w.heap.size w v1 := below_then (by repeat (first | with_reducible assumption | with_reducible exact Below.refl _ _ | with_reducible refine below_al ?_ _ | with_reducible refine below_drew ?_ | with_reducible refine below_drewN ?_ _ | with_reducible refine below_set ?_ (by dsimp only; omega) _)) hb1
  clear hb1
  have Lk_o := k_o.lt
  obtain ⟨k_o0, k_o1, k_o2, k_o3⟩ := k_o.two
  go_wp2_with fail
  refine (HY.out _).mono ?_
  rintro e v2 ⟨rfl, hb2⟩
  clear k_o0 k_o1 k_o2 k_o3 Lk_o
  replace k_o : At v2 (w.heap.size) 23 #[.int .i64 0, .int .i64 0] := At.bel (by repeat (first | with_reducible assumption | with_reducible apply At.put0 | with_reducible apply At.put1 | with_reducible refine At.far ?_ (by dsimp only; omega) _ | with_reducible apply At.al | with_reducible apply At.drw | with_reducible apply At.dr)) hb2
  replace HB : Below w.heap.size w v2 := below_then (by repeat (first | with_reducible assumption | with_reducible exact Below.refl _ _ | with_reducible refine below_al ?_ _ | with_reducible refine below_drew ?_ | with_reducible refine below_drewN ?_ _ | with_reducible refine below_set ?_ (by dsimp only; omega) _)) hb2
  clear hb2
  have Lk_o := k_o.lt
  obtain ⟨k_o0, k_o1, k_o2, k_o3⟩ := k_o.two
  go_wp2_with fail
  refine (HG.out _).mono ?_
  rintro e v3 ⟨rfl, hb3⟩
  clear k_o0 k_o1 k_o2 k_o3 Lk_o
  replace k_o : At v3 (w.heap.size) 23 #[.int .i64 0, .int .i64 0] := At.bel (by repeat (first | with_reducible assumption | with_reducible apply At.put0 | with_reducible apply At.put1 | with_reducible refine At.far ?_ (by dsimp only; omega) _ | with_reducible apply At.al | with_reducible apply At.drw | with_reducible apply At.dr)) hb3
  replace HB : Below w.heap.size w v3 := below_then (by repeat (first | with_reducible assumption | with_reducible exact Below.refl _ _ | with_reducible refine below_al ?_ _ | with_reducible refine below_drew ?_ | with_reducible refine below_drewN ?_ _ | with_reducible refine below_set ?_ (by dsimp only; omega) _)) hb3
  clear hb3
  have Lk_o := k_o.lt
  obtain ⟨k_o0, k_o1, k_o2, k_o3⟩ := k_o.two
  go_wp2_with fail
  clear k_o0 k_o1 k_o2 k_o3 Lk_o
  refine wp_only ?_
  refine wp_region_grow0 18 (by kernel_rfl)     (by kernel_rfl) only_panic ?_
  apply Exists.intro
  refine And.intro (fun W' hW' => ?_) ?_
  focus
    have Kk_o := At.bel (show At _ (w.heap.size) 23 #[.int .i64 0, .int .i64 0] from (by repeat (first | with_reducible assumption | with_reducible apply At.put0 | with_reducible apply At.put1 | with_reducible refine At.far ?_ (by dsimp only; omega) _ | with_reducible apply At.al | with_reducible apply At.drw | with_reducible apply At.dr))) hW'
    have Kk_o0 := cell_regrown Kk_o.c0
    have Kk_o1 := cell_regrown Kk_o.c1
    simp only [List.take_succ_cons, List.take_zero]
    repeat (go_big_quiet_step ((first | with_reducible exact regrown_call HS.out)))
    exact wpQuiet_nil rfl
  intro  v4 hb4  
  have Mk_o := k_o.lt
  replace k_o : At v4 (w.heap.size) 23 #[.int .i64 0, .int .i64 0] := At.bel (by repeat (first | with_reducible assumption | with_reducible apply At.put0 | with_reducible apply At.put1 | with_reducible refine At.far ?_ (by dsimp only; omega) _ | with_reducible apply At.al | with_reducible apply At.drw | with_reducible apply At.dr)) hb4
  replace HB : Below w.heap.size w v4 := below_then (by repeat (first | with_reducible assumption | with_reducible exact Below.refl _ _ | with_reducible refine below_al ?_ _ | with_reducible refine below_drew ?_ | with_reducible refine below_drewN ?_ _ | with_reducible refine below_set ?_ (by dsimp only; omega) _)) hb4
  clear hb4
  have Lk_o := k_o.lt
  obtain ⟨k_o0, k_o1, k_o2, k_o3⟩ := k_o.two
  simp only [List.drop_succ_cons, List.drop_zero]
  go_wp2_with fail
  exact bodyPost_ret (v := frv s) (by simp [results, Tryd.results17, go_sem, *]) rfl ⟨rfl, (by repeat (first | with_reducible assumption | with_reducible exact Below.refl _ _ | with_reducible refine below_al ?_ _ | with_reducible refine below_drew ?_ | with_reducible refine below_drewN ?_ _ | with_reducible refine below_set ?_ (by dsimp only; omega) _))⟩

set_option maxRecDepth 100000 in
theorem rmake_zero (num den : Int) (z : den = 0) (w : World) :
    Calls Tryd.prog 17 #[.int .i64 num, .int .i64 den] w fun e w' => e = .returned (frv (0, 0, 16)) ∧ Below w.heap.size w w' := by
  subst z
  go_enter Tryd.func17, Tryd.ntmps17
  go_wp2
  exact bodyPost_ret (v := frv (0, 0, 16)) (by simp [results, Tryd.results17, go_sem]) rfl ⟨rfl, (by repeat (first | with_reducible assumption | with_reducible exact Below.refl _ _ | with_reducible refine below_al ?_ _ | with_reducible refine below_drew ?_ | with_reducible refine below_drewN ?_ _ | with_reducible refine below_set ?_ (by dsimp only; omega) _))⟩
def rmakeS (num den : Int) : Int × Int × Int := if den = 0 then (0, 0, 16) else redS (decide (num < 0) != decide (den < 0)) num.natAbs den.natAbs
theorem rmake_any (num den : Int) (hn : (Lit.int .i64 num).wf = true) (hd : (Lit.int .i64 den).wf = true) (w : World) :
    Calls Tryd.prog 17 #[.int .i64 num, .int .i64 den] w fun e w' => e = .returned (frv (rmakeS num den)) ∧ Below w.heap.size w w' := by
  have lim : ∀ n : Int, (Lit.int .i64 n).wf = true → -9223372036854775808 ≤ n ∧ n ≤ 9223372036854775807 := fun n h => by
    simp only [Lit.wf, Bool.and_eq_true, decide_eq_true_eq] at h
    have e1 : IntKind.i64.min = -9223372036854775808 := by decide
    have e2 : IntKind.i64.max = 9223372036854775807 := by decide
    rw [e1, e2] at h
    exact h
  have b1 := lim num hn
  have b2 := lim den hd
  by_cases z : den = 0
  · rw [show rmakeS num den = (0, 0, 16) from by simp [rmakeS, z]]
    exact rmake_zero num den z w
  · rw [show rmakeS num den = redS (decide (num < 0) != decide (den < 0)) num.natAbs den.natAbs from by simp [rmakeS, z]]
    have HX := hid_same (fun w => rsize_any num b1 w)
    have HY := hid_same (fun w => rsize_any den b2 w)
    have hg : 0 < Nat.gcd num.natAbs den.natAbs := Nat.gcd_pos_of_pos_right _ (by omega)
    have HG := hid_drawn (fun w => gcd_any num.natAbs den.natAbs (by omega) (by omega) w)
    have k1 : num.natAbs / Nat.gcd num.natAbs den.natAbs ≤ num.natAbs := Nat.div_le_self _ _
    have k2 : den.natAbs / Nat.gcd num.natAbs den.natAbs ≤ den.natAbs := Nat.div_le_self _ _
    have e1 := div_cast num.natAbs (Nat.gcd num.natAbs den.natAbs)
    have e2 := div_cast den.natAbs (Nat.gcd num.natAbs den.natAbs)
    have w1 : ∀ k : Nat, k < 18446744073709551616 → IntKind.u64.wrap (k : Int) = (k : Int) := fun k hk => by rw [IntKind.wrap_u64]; omega
    have c1 := w1 _ (Nat.lt_of_le_of_lt k1 (by omega))
    have c2 := w1 _ (Nat.lt_of_le_of_lt k2 (by omega))
    unfold redS
    have HS := fun b => Lib.hid (fun w => signed_any b (num.natAbs / Nat.gcd num.natAbs den.natAbs) (den.natAbs / Nat.gcd num.natAbs den.natAbs) (by omega) (by omega) w)
    by_cases zn : num = 0
    · have e0 : num.natAbs / Nat.gcd num.natAbs den.natAbs = 0 := by rw [zn]; exact Nat.zero_div _
      rw [e0, sgnS_zero, ← e0]
      exact rmake_nil num den _ _ _ _ _ _ (by simpa using zn) (by simpa using zn) (by simpa using zn) (by simpa using z) (by omega) (by simp; omega) (by omega) e1 c1 e2 c2 HX HY HG (HS false) w
    · exact rmake_pos num den _ _ _ _ _ _ (by simpa using zn) zn (by simpa using zn) (by simpa using zn) (by simpa using z) (by omega) (by simp; omega) (by omega) e1 c1 e2 c2 HX HY HG (HS _) w

#print axioms rmake_any

end Go.Proofs.YtpijmjffobkalaaDoor
