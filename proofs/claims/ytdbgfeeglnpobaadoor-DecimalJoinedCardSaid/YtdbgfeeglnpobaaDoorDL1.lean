/- DecimalRounds' and DecimalHalf's walks: they return true. -/
import Derived.Test.YtdbgfeeglnpobaaDoorDcAw
set_option linter.unusedVariables false
namespace Go.Proofs.YtdbgfeeglnpobaaDoor
open Go.ChangeShapes Go.WideShapes Go.ChangeAt Go.RowKit

set_option maxRecDepth 100000 in
set_option maxHeartbeats 1000000 in
theorem refround_core (n u q r : Int) (g1 : 1 ≤ u) (hq : n.tdiv u = q) (hm : IntKind.i64.wrap (q * u) = q * u) (hs : IntKind.i64.wrap (n - q * u) = r) (bq : -1152921504606846976 ≤ q ∧ q ≤ 1152921504606846976) (br : -u < r ∧ r < u) (g2 : u ≤ 1099511627776) (w : World) :
    Calls Tryd.prog 18 #[.int .i64 n, .int .i64 u] w fun e w' => e = .returned (.int .i64 (if r < 0 then (if u ≤ 2 * (r + u) then q - 1 + 1 else q - 1) else (if u ≤ 2 * r then q + 1 else q))) ∧ Below w.heap.size w w' := by
  have z1 : (u == 0) = false := by simp; omega
  have z2 : ¬ u = 0 := by omega
  have e1 : IntKind.i64.wrap q = q := wrap_in (by omega)
  have e3 : IntKind.i64.wrap (q - 1) = q - 1 := wrap_in (by omega)
  have e4 : IntKind.i64.wrap (r + u) = r + u := wrap_in (by omega)
  have e5 : IntKind.i64.wrap (2 * (r + u)) = 2 * (r + u) := wrap_in (by omega)
  have e6 : IntKind.i64.wrap (2 * r) = 2 * r := wrap_in (by omega)
  have e7 : IntKind.i64.wrap (q + 1) = q + 1 := wrap_in (by omega)
  have e8 : IntKind.i64.wrap (q - 1 + 1) = q - 1 + 1 := wrap_in (by omega)
  by_cases c1 : r < 0
  · rw [if_pos c1]
    by_cases c2 : u ≤ 2 * (r + u)
    · rw [if_pos c2]
      clear bq br g1 g2
      go_enter Tryd.func18, Tryd.ntmps18
      go_wp2_with fail
      go_ret
      exact ⟨by first | rfl | simp, (by repeat (first | with_reducible assumption | with_reducible exact Below.refl _ _ | with_reducible refine below_al ?_ _ | with_reducible refine below_drew ?_ | with_reducible refine below_drewN ?_ _ | with_reducible refine below_set ?_ (by dsimp only; omega) _))⟩
    · rw [if_neg c2]
      clear bq br g1 g2
      go_enter Tryd.func18, Tryd.ntmps18
      go_wp2_with fail
      go_ret
      exact ⟨by first | rfl | simp, (by repeat (first | with_reducible assumption | with_reducible exact Below.refl _ _ | with_reducible refine below_al ?_ _ | with_reducible refine below_drew ?_ | with_reducible refine below_drewN ?_ _ | with_reducible refine below_set ?_ (by dsimp only; omega) _))⟩
  · rw [if_neg c1]
    by_cases c2 : u ≤ 2 * r
    · rw [if_pos c2]
      clear bq br g1 g2
      go_enter Tryd.func18, Tryd.ntmps18
      go_wp2_with fail
      go_ret
      exact ⟨by first | rfl | simp, (by repeat (first | with_reducible assumption | with_reducible exact Below.refl _ _ | with_reducible refine below_al ?_ _ | with_reducible refine below_drew ?_ | with_reducible refine below_drewN ?_ _ | with_reducible refine below_set ?_ (by dsimp only; omega) _))⟩
    · rw [if_neg c2]
      clear bq br g1 g2
      go_enter Tryd.func18, Tryd.ntmps18
      go_wp2_with fail
      go_ret
      exact ⟨by first | rfl | simp, (by repeat (first | with_reducible assumption | with_reducible exact Below.refl _ _ | with_reducible refine below_al ?_ _ | with_reducible refine below_drew ?_ | with_reducible refine below_drewN ?_ _ | with_reducible refine below_set ?_ (by dsimp only; omega) _))⟩

theorem refround_ok (n u : Int) (h1 : ¬ u < 1) (h2 : ¬ 1099511627776 < u) (hn : numB n = true) (w : World) :
    Calls Tryd.prog 18 #[.int .i64 n, .int .i64 u] w fun e w' => e = .returned (.int .i64 (rndS n u)) ∧ Below w.heap.size w w' := by
  have hb := numB_iff.1 hn
  have bq := tdiv_le n u
  have h5 : -u < n.tmod u ∧ n.tmod u < u := by
    have a := Int.tmod_lt_of_pos n (show 0 < u by omega)
    have b := Int.lt_tmod_of_pos n (show 0 < u by omega)
    omega
  have he := Int.tmod_add_mul_tdiv n u
  rw [Int.mul_comm u] at he
  rw [rnd_of (by omega)]
  exact refround_core n u _ _ (by omega) rfl (wrap_in (by omega)) (by rw [wrap_in (by omega)]; omega) (by omega) h5 (by omega) w

set_option maxRecDepth 100000 in
set_option maxHeartbeats 1000000 in
theorem rounds_a (n u : Int) (w : World)
    (HW : Hid (∀ u, Below w.heap.size w u → Calls Tryd.prog 11 #[] u fun e w' => e = .returned (.bool true) ∧ Below u.heap.size u w'))
    (HR : Hid (∀ w, Calls Tryd.prog 17 #[.int .i64 n, .int .i64 u] w fun e w' => e = .returned (pav (0, 2)) ∧ Below w.heap.size w w')) (h : u < 1) :
    Calls Tryd.prog 5 #[.int .i64 n, .int .i64 u] w fun e w' => e = .returned (.bool true) ∧ Below w.heap.size w w' := by
  go_enter Tryd.func5, Tryd.ntmps5
  go_wp2_with fail
  refine (HW.out _ (Below.refl _ _)).mono ?_
  rintro e w1 ⟨rfl, HB⟩
  go_wp2_with fail
  refine (HR.out _).mono ?_
  rintro e w2 ⟨rfl, hb⟩
  replace HB := below_then HB hb
  clear hb
  go_wp2_with fail
  go_ret
  exact ⟨rfl, (by repeat (first | with_reducible assumption | with_reducible exact Below.refl _ _ | with_reducible refine below_al ?_ _ | with_reducible refine below_drew ?_ | with_reducible refine below_drewN ?_ _ | with_reducible refine below_set ?_ (by dsimp only; omega) _))⟩

set_option maxRecDepth 100000 in
set_option maxHeartbeats 1000000 in
theorem rounds_b (n u : Int) (w : World)
    (HW : Hid (∀ u, Below w.heap.size w u → Calls Tryd.prog 11 #[] u fun e w' => e = .returned (.bool true) ∧ Below u.heap.size u w'))
    (HR : Hid (∀ w, Calls Tryd.prog 17 #[.int .i64 n, .int .i64 u] w fun e w' => e = .returned (pav (0, 2)) ∧ Below w.heap.size w w')) (h : ¬ u < 1) (h2 : 1099511627776 < u) :
    Calls Tryd.prog 5 #[.int .i64 n, .int .i64 u] w fun e w' => e = .returned (.bool true) ∧ Below w.heap.size w w' := by
  go_enter Tryd.func5, Tryd.ntmps5
  go_wp2_with fail
  refine (HW.out _ (Below.refl _ _)).mono ?_
  rintro e w1 ⟨rfl, HB⟩
  go_wp2_with fail
  refine (HR.out _).mono ?_
  rintro e w2 ⟨rfl, hb⟩
  replace HB := below_then HB hb
  clear hb
  go_wp2_with fail
  go_ret
  exact ⟨rfl, (by repeat (first | with_reducible assumption | with_reducible exact Below.refl _ _ | with_reducible refine below_al ?_ _ | with_reducible refine below_drew ?_ | with_reducible refine below_drewN ?_ _ | with_reducible refine below_set ?_ (by dsimp only; omega) _))⟩

set_option maxRecDepth 100000 in
set_option maxHeartbeats 1000000 in
theorem rounds_c (n u : Int) (w : World)
    (HW : Hid (∀ u, Below w.heap.size w u → Calls Tryd.prog 11 #[] u fun e w' => e = .returned (.bool true) ∧ Below u.heap.size u w'))
    (HR : Hid (∀ w, Calls Tryd.prog 17 #[.int .i64 n, .int .i64 u] w fun e w' => e = .returned (pav (0, 5)) ∧ Below w.heap.size w w'))
    (HN : Hid (∀ w, Calls Tryd.prog 13 #[.int .i64 n] w fun e w' => e = .returned (.bool false) ∧ Below w.heap.size w w')) (h : ¬ u < 1) (h2 : ¬ 1099511627776 < u) :
    Calls Tryd.prog 5 #[.int .i64 n, .int .i64 u] w fun e w' => e = .returned (.bool true) ∧ Below w.heap.size w w' := by
  go_enter Tryd.func5, Tryd.ntmps5
  go_wp2_with fail
  refine (HW.out _ (Below.refl _ _)).mono ?_
  rintro e w1 ⟨rfl, HB⟩
  go_wp2_with fail
  refine (HR.out _).mono ?_
  rintro e w2 ⟨rfl, hb⟩
  replace HB := below_then HB hb
  clear hb
  go_wp2_with fail
  refine (HN.out _).mono ?_
  rintro e w3 ⟨rfl, hb⟩
  replace HB := below_then HB hb
  clear hb
  go_wp2_with fail
  go_ret
  exact ⟨rfl, (by repeat (first | with_reducible assumption | with_reducible exact Below.refl _ _ | with_reducible refine below_al ?_ _ | with_reducible refine below_drew ?_ | with_reducible refine below_drewN ?_ _ | with_reducible refine below_set ?_ (by dsimp only; omega) _))⟩

set_option maxRecDepth 100000 in
set_option maxHeartbeats 1000000 in
theorem rounds_d (n u r : Int) (w : World)
    (HW : Hid (∀ u, Below w.heap.size w u → Calls Tryd.prog 11 #[] u fun e w' => e = .returned (.bool true) ∧ Below u.heap.size u w'))
    (HR : Hid (∀ w, Calls Tryd.prog 17 #[.int .i64 n, .int .i64 u] w fun e w' => e = .returned (pav (r, 0)) ∧ Below w.heap.size w w'))
    (HN : Hid (∀ w, Calls Tryd.prog 13 #[.int .i64 n] w fun e w' => e = .returned (.bool true) ∧ Below w.heap.size w w'))
    (HQ : Hid (∀ w, Calls Tryd.prog 18 #[.int .i64 n, .int .i64 u] w fun e w' => e = .returned (.int .i64 r) ∧ Below w.heap.size w w')) (h : ¬ u < 1) (h2 : ¬ 1099511627776 < u) :
    Calls Tryd.prog 5 #[.int .i64 n, .int .i64 u] w fun e w' => e = .returned (.bool true) ∧ Below w.heap.size w w' := by
  go_enter Tryd.func5, Tryd.ntmps5
  go_wp2_with fail
  refine (HW.out _ (Below.refl _ _)).mono ?_
  rintro e w1 ⟨rfl, HB⟩
  go_wp2_with fail
  refine (HR.out _).mono ?_
  rintro e w2 ⟨rfl, hb⟩
  replace HB := below_then HB hb
  clear hb
  go_wp2_with fail
  refine (HN.out _).mono ?_
  rintro e w3 ⟨rfl, hb⟩
  replace HB := below_then HB hb
  clear hb
  go_wp2_with fail
  refine (HQ.out _).mono ?_
  rintro e w4 ⟨rfl, hb⟩
  replace HB := below_then HB hb
  clear hb
  go_wp2_with fail
  go_ret
  exact ⟨rfl, (by repeat (first | with_reducible assumption | with_reducible exact Below.refl _ _ | with_reducible refine below_al ?_ _ | with_reducible refine below_drew ?_ | with_reducible refine below_drewN ?_ _ | with_reducible refine below_set ?_ (by dsimp only; omega) _))⟩

theorem refnum (n : Int) {b : Bool} (h : numB n = b) : Hid (∀ w, Calls Tryd.prog 13 #[.int .i64 n] w fun e w' => e = .returned (.bool b) ∧ Below w.heap.size w w') := Lib.hid fun w => by
  have := refNumber_any n w
  rw [h] at this
  exact this.mono fun _ _ ⟨a, b⟩ => ⟨a, by rw [← b]; exact Below.refl _ _⟩
theorem decimalRounds_walk (n u : Int) (w : World) (ht : Tab w) :
    Calls Tryd.prog 5 #[.int .i64 n, .int .i64 u] w fun e w' => e = .returned (.bool true) ∧ Below w.heap.size w w' := by
  have HW := Lib.hid (fun u (hb : Below w.heap.size w u) => awake_any u (ht.bel hb))
  have HR := fun w => round_any n u w
  unfold rndV at HR
  by_cases h1 : u < 1
  · rw [if_pos (by simp [h1])] at HR
    exact rounds_a n u w HW (Lib.hid HR) h1
  by_cases h2 : 1099511627776 < u
  · rw [if_pos (by simp [h2])] at HR
    exact rounds_b n u w HW (Lib.hid HR) h1 h2
  rw [if_neg (by simp [h1, h2])] at HR
  cases hn : numB n
  · rw [hn, if_neg (by simp)] at HR
    exact rounds_c n u w HW (Lib.hid HR) (refnum n hn) h1 h2
  · rw [hn, if_pos rfl] at HR
    exact rounds_d n u _ w HW (Lib.hid HR) (refnum n hn) (Lib.hid (fun w => refround_ok n u h1 h2 hn w)) h1 h2

def farB (n : Int) : Bool := decide (n < -288230376151711744) || decide (288230376151711744 < n)
theorem far_any (n : Int) (w : World) : Calls Tryd.prog 22 #[.int .i64 n] w fun e w' => e = .returned (.bool (farB n)) ∧ w = w' := by
  unfold farB
  by_cases h1 : n < -288230376151711744 <;> by_cases h2 : 288230376151711744 < n <;> (go_enter Tryd.func22, Tryd.ntmps22; go_wp2; all_goals (go_ret; exact ⟨ret_bool (by simp [*]), rfl⟩))
theorem far_hid (n : Int) {b : Bool} (h : farB n = b) : Hid (∀ w, Calls Tryd.prog 22 #[.int .i64 n] w fun e w' => e = .returned (.bool b) ∧ Below w.heap.size w w') := Lib.hid fun w => by
  have := far_any n w
  rw [h] at this
  exact this.mono fun _ _ ⟨a, b⟩ => ⟨a, by rw [← b]; exact Below.refl _ _⟩

set_option maxRecDepth 100000 in
set_option maxHeartbeats 1000000 in
theorem half_a (n m u : Int) (w : World)
    (HW : Hid (∀ u, Below w.heap.size w u → Calls Tryd.prog 11 #[] u fun e w' => e = .returned (.bool true) ∧ Below u.heap.size u w'))
    (F1 : Hid (∀ w, Calls Tryd.prog 22 #[.int .i64 n] w fun e w' => e = .returned (.bool true) ∧ Below w.heap.size w w')) :
    Calls Tryd.prog 8 #[.int .i64 n, .int .i64 m, .int .i64 u] w fun e w' => e = .returned (.bool true) ∧ Below w.heap.size w w' := by
  go_enter Tryd.func8, Tryd.ntmps8
  go_wp2_with fail
  refine (HW.out _ (Below.refl _ _)).mono ?_
  rintro e w1 ⟨rfl, HB⟩
  go_wp2_with fail
  refine (F1.out _).mono ?_
  rintro e w2 ⟨rfl, hb⟩
  replace HB := below_then HB hb
  clear hb
  go_wp2_with fail
  go_ret
  exact ⟨rfl, (by repeat (first | with_reducible assumption | with_reducible exact Below.refl _ _ | with_reducible refine below_al ?_ _ | with_reducible refine below_drew ?_ | with_reducible refine below_drewN ?_ _ | with_reducible refine below_set ?_ (by dsimp only; omega) _))⟩

set_option maxRecDepth 100000 in
set_option maxHeartbeats 1000000 in
theorem half_b (n m u : Int) (w : World)
    (HW : Hid (∀ u, Below w.heap.size w u → Calls Tryd.prog 11 #[] u fun e w' => e = .returned (.bool true) ∧ Below u.heap.size u w'))
    (F1 : Hid (∀ w, Calls Tryd.prog 22 #[.int .i64 n] w fun e w' => e = .returned (.bool false) ∧ Below w.heap.size w w'))
    (F2 : Hid (∀ w, Calls Tryd.prog 22 #[.int .i64 m] w fun e w' => e = .returned (.bool true) ∧ Below w.heap.size w w')) :
    Calls Tryd.prog 8 #[.int .i64 n, .int .i64 m, .int .i64 u] w fun e w' => e = .returned (.bool true) ∧ Below w.heap.size w w' := by
  go_enter Tryd.func8, Tryd.ntmps8
  go_wp2_with fail
  refine (HW.out _ (Below.refl _ _)).mono ?_
  rintro e w1 ⟨rfl, HB⟩
  go_wp2_with fail
  refine (F1.out _).mono ?_
  rintro e w2 ⟨rfl, hb⟩
  replace HB := below_then HB hb
  clear hb
  go_wp2_with fail
  refine (F2.out _).mono ?_
  rintro e w3 ⟨rfl, hb⟩
  replace HB := below_then HB hb
  clear hb
  go_wp2_with fail
  go_ret
  exact ⟨rfl, (by repeat (first | with_reducible assumption | with_reducible exact Below.refl _ _ | with_reducible refine below_al ?_ _ | with_reducible refine below_drew ?_ | with_reducible refine below_drewN ?_ _ | with_reducible refine below_set ?_ (by dsimp only; omega) _))⟩

set_option maxRecDepth 100000 in
set_option maxHeartbeats 1000000 in
theorem half_c (n m u : Int) (w : World)
    (HW : Hid (∀ u, Below w.heap.size w u → Calls Tryd.prog 11 #[] u fun e w' => e = .returned (.bool true) ∧ Below u.heap.size u w'))
    (F1 : Hid (∀ w, Calls Tryd.prog 22 #[.int .i64 n] w fun e w' => e = .returned (.bool false) ∧ Below w.heap.size w w'))
    (F2 : Hid (∀ w, Calls Tryd.prog 22 #[.int .i64 m] w fun e w' => e = .returned (.bool false) ∧ Below w.heap.size w w')) (h : u < 1) :
    Calls Tryd.prog 8 #[.int .i64 n, .int .i64 m, .int .i64 u] w fun e w' => e = .returned (.bool true) ∧ Below w.heap.size w w' := by
  go_enter Tryd.func8, Tryd.ntmps8
  go_wp2_with fail
  refine (HW.out _ (Below.refl _ _)).mono ?_
  rintro e w1 ⟨rfl, HB⟩
  go_wp2_with fail
  refine (F1.out _).mono ?_
  rintro e w2 ⟨rfl, hb⟩
  replace HB := below_then HB hb
  clear hb
  go_wp2_with fail
  refine (F2.out _).mono ?_
  rintro e w3 ⟨rfl, hb⟩
  replace HB := below_then HB hb
  clear hb
  go_wp2_with fail
  go_ret
  exact ⟨rfl, (by repeat (first | with_reducible assumption | with_reducible exact Below.refl _ _ | with_reducible refine below_al ?_ _ | with_reducible refine below_drew ?_ | with_reducible refine below_drewN ?_ _ | with_reducible refine below_set ?_ (by dsimp only; omega) _))⟩

set_option maxRecDepth 100000 in
set_option maxHeartbeats 1000000 in
theorem half_d (n m u : Int) (w : World)
    (HW : Hid (∀ u, Below w.heap.size w u → Calls Tryd.prog 11 #[] u fun e w' => e = .returned (.bool true) ∧ Below u.heap.size u w'))
    (F1 : Hid (∀ w, Calls Tryd.prog 22 #[.int .i64 n] w fun e w' => e = .returned (.bool false) ∧ Below w.heap.size w w'))
    (F2 : Hid (∀ w, Calls Tryd.prog 22 #[.int .i64 m] w fun e w' => e = .returned (.bool false) ∧ Below w.heap.size w w')) (h : ¬ u < 1) (h2 : 1099511627776 < u) :
    Calls Tryd.prog 8 #[.int .i64 n, .int .i64 m, .int .i64 u] w fun e w' => e = .returned (.bool true) ∧ Below w.heap.size w w' := by
  go_enter Tryd.func8, Tryd.ntmps8
  go_wp2_with fail
  refine (HW.out _ (Below.refl _ _)).mono ?_
  rintro e w1 ⟨rfl, HB⟩
  go_wp2_with fail
  refine (F1.out _).mono ?_
  rintro e w2 ⟨rfl, hb⟩
  replace HB := below_then HB hb
  clear hb
  go_wp2_with fail
  refine (F2.out _).mono ?_
  rintro e w3 ⟨rfl, hb⟩
  replace HB := below_then HB hb
  clear hb
  go_wp2_with fail
  go_ret
  exact ⟨rfl, (by repeat (first | with_reducible assumption | with_reducible exact Below.refl _ _ | with_reducible refine below_al ?_ _ | with_reducible refine below_drew ?_ | with_reducible refine below_drewN ?_ _ | with_reducible refine below_set ?_ (by dsimp only; omega) _))⟩

set_option maxRecDepth 100000 in
set_option maxHeartbeats 1000000 in
theorem half_e (n m u x y p s x1 d nu q : Int) (w : World)
    (HW : Hid (∀ u, Below w.heap.size w u → Calls Tryd.prog 11 #[] u fun e w' => e = .returned (.bool true) ∧ Below u.heap.size u w'))
    (F1 : Hid (∀ w, Calls Tryd.prog 22 #[.int .i64 n] w fun e w' => e = .returned (.bool false) ∧ Below w.heap.size w w'))
    (F2 : Hid (∀ w, Calls Tryd.prog 22 #[.int .i64 m] w fun e w' => e = .returned (.bool false) ∧ Below w.heap.size w w')) (h : ¬ u < 1) (h2 : ¬ 1099511627776 < u)
    (R1 : Hid (∀ w, Calls Tryd.prog 17 #[.int .i64 n, .int .i64 u] w fun e w' => e = .returned (pav (x, 0)) ∧ Below w.heap.size w w'))
    (R2 : Hid (∀ w, Calls Tryd.prog 17 #[.int .i64 m, .int .i64 u] w fun e w' => e = .returned (pav (y, 0)) ∧ Below w.heap.size w w'))
    (R3 : Hid (∀ w, Calls Tryd.prog 17 #[.int .i64 p, .int .i64 u] w fun e w' => e = .returned (pav (x, 0)) ∧ Below w.heap.size w w'))
    (R4 : Hid (∀ w, Calls Tryd.prog 17 #[.int .i64 s, .int .i64 u] w fun e w' => e = .returned (pav (x1, 0)) ∧ Below w.heap.size w w'))
    (e1 : IntKind.i64.wrap (x * u) = p) (e2 : IntKind.i64.wrap (n + u) = s) (e3 : IntKind.i64.wrap (n - p) = q) (e4 : IntKind.i64.wrap (2 * q) = d) (e5 : IntKind.i64.wrap (x + 1) = x1) (e6 : IntKind.i64.wrap (-u) = nu) (c1 : nu ≤ d) (c2 : d < u) (c3 : m < n) :
    Calls Tryd.prog 8 #[.int .i64 n, .int .i64 m, .int .i64 u] w fun e w' => e = .returned (.bool true) ∧ Below w.heap.size w w' := by
  go_enter Tryd.func8, Tryd.ntmps8
  go_wp2_with fail
  refine (HW.out _ (Below.refl _ _)).mono ?_
  rintro e w1 ⟨rfl, HB⟩
  go_wp2_with fail
  refine (F1.out _).mono ?_
  rintro e w2 ⟨rfl, hb⟩
  replace HB := below_then HB hb
  clear hb
  go_wp2_with fail
  refine (F2.out _).mono ?_
  rintro e w3 ⟨rfl, hb⟩
  replace HB := below_then HB hb
  clear hb
  go_wp2_with fail
  refine (R1.out _).mono ?_
  rintro e w4 ⟨rfl, hb⟩
  replace HB := below_then HB hb
  clear hb
  go_wp2_with fail
  refine (R2.out _).mono ?_
  rintro e w5 ⟨rfl, hb⟩
  replace HB := below_then HB hb
  clear hb
  go_wp2_with fail
  refine (R3.out _).mono ?_
  rintro e w6 ⟨rfl, hb⟩
  replace HB := below_then HB hb
  clear hb
  go_wp2_with fail
  refine (R4.out _).mono ?_
  rintro e w7 ⟨rfl, hb⟩
  replace HB := below_then HB hb
  clear hb
  go_wp2_with fail
  go_ret
  exact ⟨rfl, (by repeat (first | with_reducible assumption | with_reducible exact Below.refl _ _ | with_reducible refine below_al ?_ _ | with_reducible refine below_drew ?_ | with_reducible refine below_drewN ?_ _ | with_reducible refine below_set ?_ (by dsimp only; omega) _))⟩

set_option maxRecDepth 100000 in
set_option maxHeartbeats 1000000 in
theorem half_f (n m u x y p s x1 d nu q : Int) (w : World)
    (HW : Hid (∀ u, Below w.heap.size w u → Calls Tryd.prog 11 #[] u fun e w' => e = .returned (.bool true) ∧ Below u.heap.size u w'))
    (F1 : Hid (∀ w, Calls Tryd.prog 22 #[.int .i64 n] w fun e w' => e = .returned (.bool false) ∧ Below w.heap.size w w'))
    (F2 : Hid (∀ w, Calls Tryd.prog 22 #[.int .i64 m] w fun e w' => e = .returned (.bool false) ∧ Below w.heap.size w w')) (h : ¬ u < 1) (h2 : ¬ 1099511627776 < u)
    (R1 : Hid (∀ w, Calls Tryd.prog 17 #[.int .i64 n, .int .i64 u] w fun e w' => e = .returned (pav (x, 0)) ∧ Below w.heap.size w w'))
    (R2 : Hid (∀ w, Calls Tryd.prog 17 #[.int .i64 m, .int .i64 u] w fun e w' => e = .returned (pav (y, 0)) ∧ Below w.heap.size w w'))
    (R3 : Hid (∀ w, Calls Tryd.prog 17 #[.int .i64 p, .int .i64 u] w fun e w' => e = .returned (pav (x, 0)) ∧ Below w.heap.size w w'))
    (R4 : Hid (∀ w, Calls Tryd.prog 17 #[.int .i64 s, .int .i64 u] w fun e w' => e = .returned (pav (x1, 0)) ∧ Below w.heap.size w w'))
    (e1 : IntKind.i64.wrap (x * u) = p) (e2 : IntKind.i64.wrap (n + u) = s) (e3 : IntKind.i64.wrap (n - p) = q) (e4 : IntKind.i64.wrap (2 * q) = d) (e5 : IntKind.i64.wrap (x + 1) = x1) (e6 : IntKind.i64.wrap (-u) = nu) (c1 : nu ≤ d) (c2 : d < u) (c3 : ¬ m < n) (c4 : x ≤ y) :
    Calls Tryd.prog 8 #[.int .i64 n, .int .i64 m, .int .i64 u] w fun e w' => e = .returned (.bool true) ∧ Below w.heap.size w w' := by
  go_enter Tryd.func8, Tryd.ntmps8
  go_wp2_with fail
  refine (HW.out _ (Below.refl _ _)).mono ?_
  rintro e w1 ⟨rfl, HB⟩
  go_wp2_with fail
  refine (F1.out _).mono ?_
  rintro e w2 ⟨rfl, hb⟩
  replace HB := below_then HB hb
  clear hb
  go_wp2_with fail
  refine (F2.out _).mono ?_
  rintro e w3 ⟨rfl, hb⟩
  replace HB := below_then HB hb
  clear hb
  go_wp2_with fail
  refine (R1.out _).mono ?_
  rintro e w4 ⟨rfl, hb⟩
  replace HB := below_then HB hb
  clear hb
  go_wp2_with fail
  refine (R2.out _).mono ?_
  rintro e w5 ⟨rfl, hb⟩
  replace HB := below_then HB hb
  clear hb
  go_wp2_with fail
  refine (R3.out _).mono ?_
  rintro e w6 ⟨rfl, hb⟩
  replace HB := below_then HB hb
  clear hb
  go_wp2_with fail
  refine (R4.out _).mono ?_
  rintro e w7 ⟨rfl, hb⟩
  replace HB := below_then HB hb
  clear hb
  go_wp2_with fail
  go_ret
  exact ⟨rfl, (by repeat (first | with_reducible assumption | with_reducible exact Below.refl _ _ | with_reducible refine below_al ?_ _ | with_reducible refine below_drew ?_ | with_reducible refine below_drewN ?_ _ | with_reducible refine below_set ?_ (by dsimp only; omega) _))⟩

theorem decimalHalf_walk (n m u : Int) (w : World) (ht : Tab w) :
    Calls Tryd.prog 8 #[.int .i64 n, .int .i64 m, .int .i64 u] w fun e w' => e = .returned (.bool true) ∧ Below w.heap.size w w' := by
  have HW := Lib.hid (fun u (hb : Below w.heap.size w u) => awake_any u (ht.bel hb))
  cases f1 : farB n
  · cases f2 : farB m
    · by_cases h1 : u < 1
      · exact half_c n m u w HW (far_hid n f1) (far_hid m f2) h1
      by_cases h2 : 1099511627776 < u
      · exact half_d n m u w HW (far_hid n f1) (far_hid m f2) h1 h2
      have b1 : -288230376151711744 ≤ n ∧ n ≤ 288230376151711744 := by simp [farB] at f1; omega
      have b2 : -288230376151711744 ≤ m ∧ m ≤ 288230376151711744 := by simp [farB] at f2; omega
      have RR : ∀ a : Int, -1152921504606846976 ≤ a → a ≤ 1152921504606846976 → ∀ w, Calls Tryd.prog 17 #[.int .i64 a, .int .i64 u] w fun e w' => e = .returned (pav (rndS a u, 0)) ∧ Below w.heap.size w w' := fun a h3 h4 w => by
        have := round_any a u w
        unfold rndV at this
        rw [if_neg (by simp [h1, h2]), numB_iff.2 ⟨h3, h4⟩, if_pos rfl] at this
        exact this
      have nr := rnd_near (n := n) (u := u) (by omega)
      have xb := rnd_bound (n := n) (u := u) (by omega)
      have R3 := RR (rndS n u * u) (by omega) (by omega)
      have R4 := RR (n + u) (by omega) (by omega)
      rw [rnd_mult (by omega)] at R3
      rw [rnd_further (by omega)] at R4
      by_cases c : m < n
      · exact half_e n m u (rndS n u) (rndS m u) (rndS n u * u) (n + u) (rndS n u + 1) (2 * (n - rndS n u * u)) (-u) (n - rndS n u * u) w HW (far_hid n f1) (far_hid m f2) h1 h2 (Lib.hid (RR n (by omega) (by omega))) (Lib.hid (RR m (by omega) (by omega))) (Lib.hid R3) (Lib.hid R4)
          (wrap_in (by omega)) (wrap_in (by omega)) (wrap_in (by omega)) (wrap_in (by omega)) (wrap_in (by omega)) (wrap_in (by omega)) nr.1 nr.2 c
      · exact half_f n m u (rndS n u) (rndS m u) (rndS n u * u) (n + u) (rndS n u + 1) (2 * (n - rndS n u * u)) (-u) (n - rndS n u * u) w HW (far_hid n f1) (far_hid m f2) h1 h2 (Lib.hid (RR n (by omega) (by omega))) (Lib.hid (RR m (by omega) (by omega))) (Lib.hid R3) (Lib.hid R4)
          (wrap_in (by omega)) (wrap_in (by omega)) (wrap_in (by omega)) (wrap_in (by omega)) (wrap_in (by omega)) (wrap_in (by omega)) nr.1 nr.2 c (rnd_mono (by omega) (by omega))
    · exact half_b n m u w HW (far_hid n f1) (far_hid m f2)
  · exact half_a n m u w HW (far_hid n f1)

end Go.Proofs.YtdbgfeeglnpobaaDoor
