/- decimal: the small functions and rounding; the reference's. -/
import Derived.Test.YtdbgfeeglnpobaaDoorBase
import Derived.Test.YtdbgfeeglnpobaaDoorMDec
import Derived.Test.YtdbgfeeglnpobaaDoorMTok
import Derived.Deep.LoopGhost
set_option linter.unusedVariables false
namespace Go.Proofs.YtdbgfeeglnpobaaDoor
open Go.ChangeShapes Go.WideShapes Go.ChangeAt Go.RowKit

theorem isDig_int (c : UInt8) : isDig c = (decide (48 ≤ (c.toNat : Int)) && decide ((c.toNat : Int) ≤ 57)) := by
  unfold isDig
  congr 1
  · exact decide_eq_decide.2 (by omega)
  · exact decide_eq_decide.2 (by omega)
theorem isLet_int (c : UInt8) : isLet c = (decide (97 ≤ (c.toNat : Int)) && decide ((c.toNat : Int) ≤ 122) || decide (65 ≤ (c.toNat : Int)) && decide ((c.toNat : Int) ≤ 90)) := by
  unfold isLet
  congr 2
  · exact decide_eq_decide.2 (by omega)
  · exact decide_eq_decide.2 (by omega)
  · exact decide_eq_decide.2 (by omega)
  · exact decide_eq_decide.2 (by omega)

theorem digit_any (c : UInt8) (w : World) : Calls Tryd.prog 42 #[.int .u8 (c.toNat : Int)] w fun e w' => e = .returned (.bool (isDig c)) ∧ w = w' := by
  rw [isDig_int]
  generalize (c.toNat : Int) = n
  by_cases h1 : 48 ≤ n <;> by_cases h2 : n ≤ 57 <;> (go_enter Tryd.func42, Tryd.ntmps42; go_wp2; all_goals (go_ret; exact ⟨ret_bool (by simp [*]), rfl⟩))

theorem refDigit_any (c : UInt8) (w : World) : Calls Tryd.prog 39 #[.int .u8 (c.toNat : Int)] w fun e w' => e = .returned (.bool (isDig c)) ∧ w = w' := by
  rw [isDig_int]
  generalize (c.toNat : Int) = n
  by_cases h1 : 48 ≤ n <;> by_cases h2 : n ≤ 57 <;> (go_enter Tryd.func39, Tryd.ntmps39; go_wp2; all_goals (go_ret; exact ⟨ret_bool (by simp [*]), rfl⟩))

theorem letter_any (c : UInt8) (w : World) : Calls Tryd.prog 40 #[.int .u8 (c.toNat : Int)] w fun e w' => e = .returned (.bool (isLet c)) ∧ w = w' := by
  rw [isLet_int]
  generalize (c.toNat : Int) = n
  by_cases h1 : 97 ≤ n <;> by_cases h2 : n ≤ 122 <;> by_cases h3 : 65 ≤ n <;> by_cases h4 : n ≤ 90 <;> (go_enter Tryd.func40, Tryd.ntmps40; go_wp2; all_goals (go_ret; exact ⟨ret_bool (by simp [*]), rfl⟩))

theorem refLetter_any (c : UInt8) (w : World) : Calls Tryd.prog 52 #[.int .u8 (c.toNat : Int)] w fun e w' => e = .returned (.bool (isLet c)) ∧ w = w' := by
  rw [isLet_int]
  generalize (c.toNat : Int) = n
  by_cases h1 : 97 ≤ n <;> by_cases h2 : n ≤ 122 <;> by_cases h3 : 65 ≤ n <;> by_cases h4 : n ≤ 90 <;> (go_enter Tryd.func52, Tryd.ntmps52; go_wp2; all_goals (go_ret; exact ⟨ret_bool (by simp [*]), rfl⟩))

theorem wrap_in {n : Int} (h : -9223372036854775808 ≤ n ∧ n ≤ 9223372036854775807) : IntKind.i64.wrap n = n := IntWalk.i64_in _ (by omega)
theorem tdiv_le (n u : Int) : (n.tdiv u).natAbs ≤ n.natAbs := by
  rw [Int.natAbs_tdiv]
  exact Nat.div_le_self _ _
/-- What rounding reckons with. -/
def numB (n : Int) : Bool := decide (-1152921504606846976 ≤ n) && decide (n ≤ 1152921504606846976)
theorem numB_iff {n : Int} : numB n = true ↔ -1152921504606846976 ≤ n ∧ n ≤ 1152921504606846976 := by simp [numB]

theorem number_any (n : Int) (w : World) : Calls Tryd.prog 33 #[.int .i64 n] w fun e w' => e = .returned (.bool (numB n)) ∧ w = w' := by
  unfold numB
  by_cases h1 : -1152921504606846976 ≤ n <;> by_cases h2 : n ≤ 1152921504606846976 <;> (go_enter Tryd.func33, Tryd.ntmps33; go_wp2; go_ret; exact ⟨ret_bool (by simp [h1, h2]), rfl⟩)

theorem refNumber_any (n : Int) (w : World) : Calls Tryd.prog 13 #[.int .i64 n] w fun e w' => e = .returned (.bool (numB n)) ∧ w = w' := by
  unfold numB
  by_cases h1 : -1152921504606846976 ≤ n <;> by_cases h2 : n ≤ 1152921504606846976 <;> (go_enter Tryd.func13, Tryd.ntmps13; go_wp2; go_ret; exact ⟨ret_bool (by simp [h1, h2]), rfl⟩)

set_option maxRecDepth 100000 in
set_option maxHeartbeats 1000000 in
theorem round_core (n u q r : Int) (g1 : ¬ u < 1) (g2 : ¬ 1099511627776 < u) (hq : n.tdiv u = q) (hr : n.tmod u = r) (bq : -1152921504606846976 ≤ q ∧ q ≤ 1152921504606846976) (br : -u < r ∧ r < u)
    (HN : Hid (∀ w, Calls Tryd.prog 33 #[.int .i64 n] w fun e w' => e = .returned (.bool true) ∧ w = w')) (w : World) :
    Calls Tryd.prog 17 #[.int .i64 n, .int .i64 u] w fun e w' => e = .returned (.tuple #[.int .i64 (if r < 0 then (if u ≤ 2 * (r + u) then q - 1 + 1 else q - 1) else (if u ≤ 2 * r then q + 1 else q)), .int .i64 0]) ∧ Below w.heap.size w w' := by
  have z1 : (u == 0) = false := by simp; omega
  have z2 : ¬ u = 0 := by omega
  have e1 : IntKind.i64.wrap q = q := wrap_in (by omega)
  have e2 : IntKind.i64.wrap r = r := wrap_in (by omega)
  have e3 : IntKind.i64.wrap (q - 1) = q - 1 := wrap_in (by omega)
  have e4 : IntKind.i64.wrap (r + u) = r + u := wrap_in (by omega)
  have e5 : IntKind.i64.wrap (2 * (r + u)) = 2 * (r + u) := wrap_in (by omega)
  have e6 : IntKind.i64.wrap (2 * r) = 2 * r := wrap_in (by omega)
  have e7 : IntKind.i64.wrap (q + 1) = q + 1 := wrap_in (by omega)
  have e8 : IntKind.i64.wrap (q - 1 + 1) = q - 1 + 1 := wrap_in (by omega)
  by_cases c1 : r < 0
  · rw [if_pos c1]
    by_cases c2 : u ≤ 2 * (r + u)
    · rw [if_pos c2]
      clear bq br
      go_enter Tryd.func17, Tryd.ntmps17
      go_wp2_with fail
      refine (HN.out _).mono ?_
      rintro e v1 ⟨rfl, hw⟩
      subst hw
      go_wp2_with fail
      go_quiet (fail)
      go_wp2_with fail
      go_ret2
      exact ⟨by first | rfl | simp, (by repeat (first | with_reducible exact Below.refl _ _ | with_reducible refine below_al ?_ _ | with_reducible refine below_drew ?_ | with_reducible refine below_drewN ?_ _ | with_reducible refine below_set ?_ (by dsimp only; omega) _))⟩
    · rw [if_neg c2]
      clear bq br
      go_enter Tryd.func17, Tryd.ntmps17
      go_wp2_with fail
      refine (HN.out _).mono ?_
      rintro e v1 ⟨rfl, hw⟩
      subst hw
      go_wp2_with fail
      go_quiet (fail)
      go_wp2_with fail
      go_ret2
      exact ⟨by first | rfl | simp, (by repeat (first | with_reducible exact Below.refl _ _ | with_reducible refine below_al ?_ _ | with_reducible refine below_drew ?_ | with_reducible refine below_drewN ?_ _ | with_reducible refine below_set ?_ (by dsimp only; omega) _))⟩
  · rw [if_neg c1]
    by_cases c2 : u ≤ 2 * r
    · rw [if_pos c2]
      clear bq br
      go_enter Tryd.func17, Tryd.ntmps17
      go_wp2_with fail
      refine (HN.out _).mono ?_
      rintro e v1 ⟨rfl, hw⟩
      subst hw
      go_wp2_with fail
      go_quiet (fail)
      go_wp2_with fail
      go_ret2
      exact ⟨by first | rfl | simp, (by repeat (first | with_reducible exact Below.refl _ _ | with_reducible refine below_al ?_ _ | with_reducible refine below_drew ?_ | with_reducible refine below_drewN ?_ _ | with_reducible refine below_set ?_ (by dsimp only; omega) _))⟩
    · rw [if_neg c2]
      clear bq br
      go_enter Tryd.func17, Tryd.ntmps17
      go_wp2_with fail
      refine (HN.out _).mono ?_
      rintro e v1 ⟨rfl, hw⟩
      subst hw
      go_wp2_with fail
      go_quiet (fail)
      go_wp2_with fail
      go_ret2
      exact ⟨by first | rfl | simp, (by repeat (first | with_reducible exact Below.refl _ _ | with_reducible refine below_al ?_ _ | with_reducible refine below_drew ?_ | with_reducible refine below_drewN ?_ _ | with_reducible refine below_set ?_ (by dsimp only; omega) _))⟩

end Go.Proofs.YtdbgfeeglnpobaaDoor
