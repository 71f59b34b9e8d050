/- DecimalParses' walk: it returns true. -/
import Derived.Test.YtdbgfeeglnpobaaDoorDcV
import Derived.Test.YtdbgfeeglnpobaaDoorDL1
set_option linter.unusedVariables false
namespace Go.Proofs.YtdbgfeeglnpobaaDoor
open Go.ChangeShapes Go.WideShapes Go.ChangeAt Go.RowKit

set_option maxRecDepth 100000 in
set_option maxHeartbeats 1000000 in
theorem parses_a (s : ByteArray) (k : Int) (w : World)
    (HW : Hid (∀ u, Below w.heap.size w u → Calls Tryd.prog 11 #[] u fun e w' => e = .returned (.bool true) ∧ Below u.heap.size u w')) (h : (100 : Int) < (s.size : Int)) :
    Calls Tryd.prog 4 #[.string s, .int .i64 k] w fun e w' => e = .returned (.bool true) ∧ Below w.heap.size w w' := by
  go_enter Tryd.func4, Tryd.ntmps4
  go_wp2_with fail
  refine (HW.out _ (Below.refl _ _)).mono ?_
  rintro e w1 ⟨rfl, HB⟩
  go_wp2_with fail
  go_ret
  exact ⟨rfl, (by repeat (first | with_reducible assumption | with_reducible exact Below.refl _ _ | with_reducible refine below_al ?_ _ | with_reducible refine below_drew ?_ | with_reducible refine below_drewN ?_ _ | with_reducible refine below_set ?_ (by dsimp only; omega) _))⟩

set_option maxRecDepth 100000 in
set_option maxHeartbeats 1000000 in
theorem parses_b (s : ByteArray) (k : Int) (w : World)
    (HW : Hid (∀ u, Below w.heap.size w u → Calls Tryd.prog 11 #[] u fun e w' => e = .returned (.bool true) ∧ Below u.heap.size u w')) (h : ¬ (100 : Int) < (s.size : Int))
    (HP : Hid (∀ w, Calls Tryd.prog 15 #[.string s, .int .i64 k] w fun e w' => e = .returned (pav (0, 2)) ∧ Below w.heap.size w w')) (h1 : k < 0) :
    Calls Tryd.prog 4 #[.string s, .int .i64 k] w fun e w' => e = .returned (.bool true) ∧ Below w.heap.size w w' := by
  go_enter Tryd.func4, Tryd.ntmps4
  go_wp2_with fail
  refine (HW.out _ (Below.refl _ _)).mono ?_
  rintro e w1 ⟨rfl, HB⟩
  go_wp2_with fail
  refine (HP.out _).mono ?_
  rintro e w2 ⟨rfl, hb⟩
  replace HB := below_then HB hb
  clear hb
  go_wp2_with fail
  go_ret
  exact ⟨rfl, (by repeat (first | with_reducible assumption | with_reducible exact Below.refl _ _ | with_reducible refine below_al ?_ _ | with_reducible refine below_drew ?_ | with_reducible refine below_drewN ?_ _ | with_reducible refine below_set ?_ (by dsimp only; omega) _))⟩

set_option maxRecDepth 100000 in
set_option maxHeartbeats 1000000 in
theorem parses_c (s : ByteArray) (k : Int) (w : World)
    (HW : Hid (∀ u, Below w.heap.size w u → Calls Tryd.prog 11 #[] u fun e w' => e = .returned (.bool true) ∧ Below u.heap.size u w')) (h : ¬ (100 : Int) < (s.size : Int))
    (HP : Hid (∀ w, Calls Tryd.prog 15 #[.string s, .int .i64 k] w fun e w' => e = .returned (pav (0, 2)) ∧ Below w.heap.size w w')) (h1 : ¬ k < 0) (h2 : 9 < k) :
    Calls Tryd.prog 4 #[.string s, .int .i64 k] w fun e w' => e = .returned (.bool true) ∧ Below w.heap.size w w' := by
  go_enter Tryd.func4, Tryd.ntmps4
  go_wp2_with fail
  refine (HW.out _ (Below.refl _ _)).mono ?_
  rintro e w1 ⟨rfl, HB⟩
  go_wp2_with fail
  refine (HP.out _).mono ?_
  rintro e w2 ⟨rfl, hb⟩
  replace HB := below_then HB hb
  clear hb
  go_wp2_with fail
  go_ret
  exact ⟨rfl, (by repeat (first | with_reducible assumption | with_reducible exact Below.refl _ _ | with_reducible refine below_al ?_ _ | with_reducible refine below_drew ?_ | with_reducible refine below_drewN ?_ _ | with_reducible refine below_set ?_ (by dsimp only; omega) _))⟩

set_option maxRecDepth 100000 in
set_option maxHeartbeats 1000000 in
theorem parses_d (s : ByteArray) (k x y : Int) (w : World)
    (HW : Hid (∀ u, Below w.heap.size w u → Calls Tryd.prog 11 #[] u fun e w' => e = .returned (.bool true) ∧ Below u.heap.size u w')) (h : ¬ (100 : Int) < (s.size : Int))
    (HP : Hid (∀ w, Calls Tryd.prog 15 #[.string s, .int .i64 k] w fun e w' => e = .returned (pav (x, y)) ∧ Below w.heap.size w w'))
    (HQ : Hid (∀ w, Calls Tryd.prog 16 #[.string s, .int .i64 k] w fun e w' => e = .returned (pav (x, y)) ∧ Below w.heap.size w w')) (h1 : ¬ k < 0) (h2 : ¬ 9 < k) :
    Calls Tryd.prog 4 #[.string s, .int .i64 k] w fun e w' => e = .returned (.bool true) ∧ Below w.heap.size w w' := by
  go_enter Tryd.func4, Tryd.ntmps4
  go_wp2_with fail
  refine (HW.out _ (Below.refl _ _)).mono ?_
  rintro e w1 ⟨rfl, HB⟩
  go_wp2_with fail
  refine (HP.out _).mono ?_
  rintro e w2 ⟨rfl, hb⟩
  replace HB := below_then HB hb
  clear hb
  go_wp2_with fail
  refine (HQ.out _).mono ?_
  rintro e w3 ⟨rfl, hb⟩
  replace HB := below_then HB hb
  clear hb
  go_wp2_with fail
  go_ret
  exact ⟨rfl, (by repeat (first | with_reducible assumption | with_reducible exact Below.refl _ _ | with_reducible refine below_al ?_ _ | with_reducible refine below_drew ?_ | with_reducible refine below_drewN ?_ _ | with_reducible refine below_set ?_ (by dsimp only; omega) _))⟩

theorem decimalParses_walk (s : ByteArray) (k : Int) (w : World) (ht : Tab w) :
    Calls Tryd.prog 4 #[.string s, .int .i64 k] w fun e w' => e = .returned (.bool true) ∧ Below w.heap.size w w' := by
  have HW := Lib.hid (fun u (hb : Below w.heap.size w u) => awake_any u (ht.bel hb))
  by_cases h : (100 : Int) < (s.size : Int)
  · exact parses_a s k w HW h
  by_cases h1 : k < 0
  · exact parses_b s k w HW h (Lib.hid (fun w => parse_range s k (by simp; omega) w)) h1
  by_cases h2 : 9 < k
  · exact parses_c s k w HW h (Lib.hid (fun w => parse_range s k (by simp; omega) w)) h1 h2
  obtain ⟨m, rfl⟩ : ∃ m : Nat, k = (m : Int) := ⟨k.toNat, by omega⟩
  exact parses_d s m _ _ w HW h (Lib.hid (fun w => parse_any s (by omega) m (by omega) w)) (Lib.hid (fun w => refparse_any s (by omega) m (by omega) w)) h1 h2

end Go.Proofs.YtdbgfeeglnpobaaDoor
