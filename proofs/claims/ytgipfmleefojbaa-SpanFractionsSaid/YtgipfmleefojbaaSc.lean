/- span.size, span.scaled: the quotient a b / c, rounded down and up, if both fit. -/
import Derived.Test.YtgipfmleefojbaaSpB
import Derived.Test.YtgipfmleefojbaaDiv2
set_option linter.unusedVariables false
namespace Go.Proofs.Ytgipfmleefojbaa
open Go.ChangeShapes Go.WideShapes Go.ChangeAt Go.RowKit

theorem size_pos (m : Nat) (hm : m ≤ 1152921504606846976) (w : World) :
    Calls Try.prog 69 #[.int .i64 (m : Int)] w fun e w' => e = .returned (.int .u64 (m : Int)) ∧ w = w' := by
  have e1 : max (m : Int) (-(m : Int)) = m := by omega
  go_enter Try.func69, Try.ntmps69
  go_wp2
  go_ret
  exact ⟨rfl, rfl⟩

theorem size_neg (m : Nat) (hm : m ≤ 1152921504606846976) (w : World) :
    Calls Try.prog 69 #[.int .i64 (-(m : Int))] w fun e w' => e = .returned (.int .u64 (m : Int)) ∧ w = w' := by
  have e1 : max (-(m : Int)) (m : Int) = m := by omega
  go_enter Try.func69, Try.ntmps69
  go_wp2
  go_ret
  exact ⟨rfl, rfl⟩

theorem size_any (n : Int) (h : -1152921504606846976 ≤ n ∧ n ≤ 1152921504606846976) (w : World) :
    Calls Try.prog 69 #[.int .i64 n] w fun e w' => e = .returned (.int .u64 (n.natAbs : Int)) ∧ w = w' := by
  rcases Int.le_total 0 n with h0 | h0
  · have e : n = (n.natAbs : Int) := by omega
    have := size_pos n.natAbs (by omega) w
    rw [← e] at this
    rw [← e]
    exact this
  · have e : n = -(n.natAbs : Int) := by omega
    have := size_neg n.natAbs (by omega) w
    rw [← e] at this
    exact this

/-- Beyond 64 bits. -/
theorem scaled_far (a b c : Int) (x y z hi lo q r : Nat)
    (H1 : Hid (∀ w : World, Calls Try.prog 69 #[.int .i64 a] w fun e w' => e = .returned (.int .u64 (x : Int)) ∧ w = w'))
    (H2 : Hid (∀ w : World, Calls Try.prog 69 #[.int .i64 b] w fun e w' => e = .returned (.int .u64 (y : Int)) ∧ w = w'))
    (H3 : Hid (∀ w : World, Calls Try.prog 69 #[.int .i64 c] w fun e w' => e = .returned (.int .u64 (z : Int)) ∧ w = w'))
    (HM : Hid (∀ w : World, Calls Try.prog 68 #[.int .u64 x, .int .u64 y] w fun e w' => e = .returned (.tuple #[.int .u64 (hi : Int), .int .u64 (lo : Int)]) ∧ w = w'))
    (t1 : z ≤ hi) (w : World) :
    Calls Try.prog 64 #[.int .i64 a, .int .i64 b, .int .i64 c] w fun e w' => e = .returned (.tuple #[.int .i64 0, .int .i64 0, .bool false]) ∧ Below w.heap.size w w' := by
  go_enter Try.func64, Try.ntmps64
  go_wp2_with fail
  refine (H1.out _).mono ?_
  rintro e w' ⟨rfl, rfl⟩
  go_wp2_with fail
  refine (H2.out _).mono ?_
  rintro e w' ⟨rfl, rfl⟩
  go_wp2_with fail
  refine (HM.out _).mono ?_
  rintro e w' ⟨rfl, rfl⟩
  go_wp2_with fail
  refine (H3.out _).mono ?_
  rintro e w' ⟨rfl, rfl⟩
  go_wp2_with fail
  go_ret3
  exact ⟨rfl, Below.refl _ _⟩

theorem scaled_great (a b c : Int) (x y z hi lo q r : Nat)
    (H1 : Hid (∀ w : World, Calls Try.prog 69 #[.int .i64 a] w fun e w' => e = .returned (.int .u64 (x : Int)) ∧ w = w'))
    (H2 : Hid (∀ w : World, Calls Try.prog 69 #[.int .i64 b] w fun e w' => e = .returned (.int .u64 (y : Int)) ∧ w = w'))
    (H3 : Hid (∀ w : World, Calls Try.prog 69 #[.int .i64 c] w fun e w' => e = .returned (.int .u64 (z : Int)) ∧ w = w'))
    (HM : Hid (∀ w : World, Calls Try.prog 68 #[.int .u64 x, .int .u64 y] w fun e w' => e = .returned (.tuple #[.int .u64 (hi : Int), .int .u64 (lo : Int)]) ∧ w = w'))
    (HD : Hid (∀ w : World, Calls Try.prog 70 #[.int .u64 hi, .int .u64 lo, .int .u64 z] w fun e w' => e = .returned (.tuple #[.int .u64 (q : Int), .int .u64 (r : Int)]) ∧ Below w.heap.size w w'))
    (t1 : decide (z ≤ hi) = false) (t2 : 1152921504606846976 < q) (w : World) :
    Calls Try.prog 64 #[.int .i64 a, .int .i64 b, .int .i64 c] w fun e w' => e = .returned (.tuple #[.int .i64 0, .int .i64 0, .bool false]) ∧ Below w.heap.size w w' := by
  have t3 : (1152921504606846976 : Int) < (q : Int) := by omega
  go_enter Try.func64, Try.ntmps64
  go_wp2_with fail
  refine (H1.out _).mono ?_
  rintro e w' ⟨rfl, rfl⟩
  go_wp2_with fail
  refine (H2.out _).mono ?_
  rintro e w' ⟨rfl, rfl⟩
  go_wp2_with fail
  refine (HM.out _).mono ?_
  rintro e w' ⟨rfl, rfl⟩
  go_wp2_with fail
  refine (H3.out _).mono ?_
  rintro e w' ⟨rfl, rfl⟩
  go_wp2_with fail
  refine (H3.out _).mono ?_
  rintro e w' ⟨rfl, rfl⟩
  go_wp2_with fail
  refine (HD.out _).mono ?_
  rintro e w1 ⟨rfl, hb⟩
  go_wp2_with fail
  go_ret3
  exact ⟨rfl, hb⟩

theorem scaled_true_pos (a b c : Int) (x y z hi lo q r : Nat)
    (H1 : Hid (∀ w : World, Calls Try.prog 69 #[.int .i64 a] w fun e w' => e = .returned (.int .u64 (x : Int)) ∧ w = w'))
    (H2 : Hid (∀ w : World, Calls Try.prog 69 #[.int .i64 b] w fun e w' => e = .returned (.int .u64 (y : Int)) ∧ w = w'))
    (H3 : Hid (∀ w : World, Calls Try.prog 69 #[.int .i64 c] w fun e w' => e = .returned (.int .u64 (z : Int)) ∧ w = w'))
    (HM : Hid (∀ w : World, Calls Try.prog 68 #[.int .u64 x, .int .u64 y] w fun e w' => e = .returned (.tuple #[.int .u64 (hi : Int), .int .u64 (lo : Int)]) ∧ w = w'))
    (HD : Hid (∀ w : World, Calls Try.prog 70 #[.int .u64 hi, .int .u64 lo, .int .u64 z] w fun e w' => e = .returned (.tuple #[.int .u64 (q : Int), .int .u64 (r : Int)]) ∧ Below w.heap.size w w'))
    (t1 : decide (z ≤ hi) = false) (hq : q ≤ 1152921504606846976) (hr : 0 < r) (hs : (!(!decide (a < 0) == decide (b < 0)) == decide (c < 0)) = true) (w : World) :
    Calls Try.prog 64 #[.int .i64 a, .int .i64 b, .int .i64 c] w fun e w' => e = .returned (.tuple #[.int .i64 (-((q : Int) + 1)), .int .i64 (-(q : Int)), .bool (withinB (-((q : Int) + 1)) && withinB (-(q : Int)))]) ∧ Below w.heap.size w w' := by
  have t2 : decide ((1152921504606846976 : Int) < (q : Int)) = false := decide_eq_false (by omega)
  cases k1 : withinB (-((q : Int) + 1))
  · go_enter Try.func64, Try.ntmps64
    go_wp2_with fail
    refine (H1.out _).mono ?_
    rintro e w' ⟨rfl, rfl⟩
    go_wp2_with fail
    refine (H2.out _).mono ?_
    rintro e w' ⟨rfl, rfl⟩
    go_wp2_with fail
    refine (HM.out _).mono ?_
    rintro e w' ⟨rfl, rfl⟩
    go_wp2_with fail
    refine (H3.out _).mono ?_
    rintro e w' ⟨rfl, rfl⟩
    go_wp2_with fail
    refine (H3.out _).mono ?_
    rintro e w' ⟨rfl, rfl⟩
    go_wp2_with fail
    refine (HD.out _).mono ?_
    rintro e w1 ⟨rfl, hb⟩
    go_wp2_with fail
    refine (within_any _ _).mono ?_
    rintro e w' ⟨rfl, rfl⟩
    go_wp2_with fail
    go_ret3
    exact ⟨rfl, hb⟩
  · cases k2 : withinB (-(q : Int))
    all_goals
      go_enter Try.func64, Try.ntmps64
      go_wp2_with fail
      refine (H1.out _).mono ?_
      rintro e w' ⟨rfl, rfl⟩
      go_wp2_with fail
      refine (H2.out _).mono ?_
      rintro e w' ⟨rfl, rfl⟩
      go_wp2_with fail
      refine (HM.out _).mono ?_
      rintro e w' ⟨rfl, rfl⟩
      go_wp2_with fail
      refine (H3.out _).mono ?_
      rintro e w' ⟨rfl, rfl⟩
      go_wp2_with fail
      refine (H3.out _).mono ?_
      rintro e w' ⟨rfl, rfl⟩
      go_wp2_with fail
      refine (HD.out _).mono ?_
      rintro e w1 ⟨rfl, hb⟩
      go_wp2_with fail
      refine (within_any _ _).mono ?_
      rintro e w' ⟨rfl, rfl⟩
      go_wp2_with fail
      refine (within_any _ _).mono ?_
      rintro e w' ⟨rfl, rfl⟩
      go_wp2_with fail
      go_ret3
      exact ⟨rfl, hb⟩

theorem scaled_true_zero (a b c : Int) (x y z hi lo q r : Nat)
    (H1 : Hid (∀ w : World, Calls Try.prog 69 #[.int .i64 a] w fun e w' => e = .returned (.int .u64 (x : Int)) ∧ w = w'))
    (H2 : Hid (∀ w : World, Calls Try.prog 69 #[.int .i64 b] w fun e w' => e = .returned (.int .u64 (y : Int)) ∧ w = w'))
    (H3 : Hid (∀ w : World, Calls Try.prog 69 #[.int .i64 c] w fun e w' => e = .returned (.int .u64 (z : Int)) ∧ w = w'))
    (HM : Hid (∀ w : World, Calls Try.prog 68 #[.int .u64 x, .int .u64 y] w fun e w' => e = .returned (.tuple #[.int .u64 (hi : Int), .int .u64 (lo : Int)]) ∧ w = w'))
    (HD : Hid (∀ w : World, Calls Try.prog 70 #[.int .u64 hi, .int .u64 lo, .int .u64 z] w fun e w' => e = .returned (.tuple #[.int .u64 (q : Int), .int .u64 (r : Int)]) ∧ Below w.heap.size w w'))
    (t1 : decide (z ≤ hi) = false) (hq : q ≤ 1152921504606846976) (hr : ¬ 0 < r) (hs : (!(!decide (a < 0) == decide (b < 0)) == decide (c < 0)) = true) (w : World) :
    Calls Try.prog 64 #[.int .i64 a, .int .i64 b, .int .i64 c] w fun e w' => e = .returned (.tuple #[.int .i64 (-(q : Int)), .int .i64 (-(q : Int)), .bool (withinB (-(q : Int)) && withinB (-(q : Int)))]) ∧ Below w.heap.size w w' := by
  have t2 : decide ((1152921504606846976 : Int) < (q : Int)) = false := decide_eq_false (by omega)
  cases k1 : withinB (-(q : Int))
  · go_enter Try.func64, Try.ntmps64
    go_wp2_with fail
    refine (H1.out _).mono ?_
    rintro e w' ⟨rfl, rfl⟩
    go_wp2_with fail
    refine (H2.out _).mono ?_
    rintro e w' ⟨rfl, rfl⟩
    go_wp2_with fail
    refine (HM.out _).mono ?_
    rintro e w' ⟨rfl, rfl⟩
    go_wp2_with fail
    refine (H3.out _).mono ?_
    rintro e w' ⟨rfl, rfl⟩
    go_wp2_with fail
    refine (H3.out _).mono ?_
    rintro e w' ⟨rfl, rfl⟩
    go_wp2_with fail
    refine (HD.out _).mono ?_
    rintro e w1 ⟨rfl, hb⟩
    go_wp2_with fail
    refine (within_any _ _).mono ?_
    rintro e w' ⟨rfl, rfl⟩
    go_wp2_with fail
    go_ret3
    exact ⟨rfl, hb⟩
  · cases k2 : withinB (-(q : Int))
    all_goals
      go_enter Try.func64, Try.ntmps64
      go_wp2_with fail
      refine (H1.out _).mono ?_
      rintro e w' ⟨rfl, rfl⟩
      go_wp2_with fail
      refine (H2.out _).mono ?_
      rintro e w' ⟨rfl, rfl⟩
      go_wp2_with fail
      refine (HM.out _).mono ?_
      rintro e w' ⟨rfl, rfl⟩
      go_wp2_with fail
      refine (H3.out _).mono ?_
      rintro e w' ⟨rfl, rfl⟩
      go_wp2_with fail
      refine (H3.out _).mono ?_
      rintro e w' ⟨rfl, rfl⟩
      go_wp2_with fail
      refine (HD.out _).mono ?_
      rintro e w1 ⟨rfl, hb⟩
      go_wp2_with fail
      refine (within_any _ _).mono ?_
      rintro e w' ⟨rfl, rfl⟩
      go_wp2_with fail
      refine (within_any _ _).mono ?_
      rintro e w' ⟨rfl, rfl⟩
      go_wp2_with fail
      go_ret3
      exact ⟨rfl, hb⟩

theorem scaled_false_pos (a b c : Int) (x y z hi lo q r : Nat)
    (H1 : Hid (∀ w : World, Calls Try.prog 69 #[.int .i64 a] w fun e w' => e = .returned (.int .u64 (x : Int)) ∧ w = w'))
    (H2 : Hid (∀ w : World, Calls Try.prog 69 #[.int .i64 b] w fun e w' => e = .returned (.int .u64 (y : Int)) ∧ w = w'))
    (H3 : Hid (∀ w : World, Calls Try.prog 69 #[.int .i64 c] w fun e w' => e = .returned (.int .u64 (z : Int)) ∧ w = w'))
    (HM : Hid (∀ w : World, Calls Try.prog 68 #[.int .u64 x, .int .u64 y] w fun e w' => e = .returned (.tuple #[.int .u64 (hi : Int), .int .u64 (lo : Int)]) ∧ w = w'))
    (HD : Hid (∀ w : World, Calls Try.prog 70 #[.int .u64 hi, .int .u64 lo, .int .u64 z] w fun e w' => e = .returned (.tuple #[.int .u64 (q : Int), .int .u64 (r : Int)]) ∧ Below w.heap.size w w'))
    (t1 : decide (z ≤ hi) = false) (hq : q ≤ 1152921504606846976) (hr : 0 < r) (hs : (!(!decide (a < 0) == decide (b < 0)) == decide (c < 0)) = false) (w : World) :
    Calls Try.prog 64 #[.int .i64 a, .int .i64 b, .int .i64 c] w fun e w' => e = .returned (.tuple #[.int .i64 ((q : Int)), .int .i64 ((q : Int) + 1), .bool (withinB ((q : Int)) && withinB ((q : Int) + 1))]) ∧ Below w.heap.size w w' := by
  have t2 : decide ((1152921504606846976 : Int) < (q : Int)) = false := decide_eq_false (by omega)
  cases k1 : withinB ((q : Int))
  · go_enter Try.func64, Try.ntmps64
    go_wp2_with fail
    refine (H1.out _).mono ?_
    rintro e w' ⟨rfl, rfl⟩
    go_wp2_with fail
    refine (H2.out _).mono ?_
    rintro e w' ⟨rfl, rfl⟩
    go_wp2_with fail
    refine (HM.out _).mono ?_
    rintro e w' ⟨rfl, rfl⟩
    go_wp2_with fail
    refine (H3.out _).mono ?_
    rintro e w' ⟨rfl, rfl⟩
    go_wp2_with fail
    refine (H3.out _).mono ?_
    rintro e w' ⟨rfl, rfl⟩
    go_wp2_with fail
    refine (HD.out _).mono ?_
    rintro e w1 ⟨rfl, hb⟩
    go_wp2_with fail
    refine (within_any _ _).mono ?_
    rintro e w' ⟨rfl, rfl⟩
    go_wp2_with fail
    go_ret3
    exact ⟨rfl, hb⟩
  · cases k2 : withinB ((q : Int) + 1)
    all_goals
      go_enter Try.func64, Try.ntmps64
      go_wp2_with fail
      refine (H1.out _).mono ?_
      rintro e w' ⟨rfl, rfl⟩
      go_wp2_with fail
      refine (H2.out _).mono ?_
      rintro e w' ⟨rfl, rfl⟩
      go_wp2_with fail
      refine (HM.out _).mono ?_
      rintro e w' ⟨rfl, rfl⟩
      go_wp2_with fail
      refine (H3.out _).mono ?_
      rintro e w' ⟨rfl, rfl⟩
      go_wp2_with fail
      refine (H3.out _).mono ?_
      rintro e w' ⟨rfl, rfl⟩
      go_wp2_with fail
      refine (HD.out _).mono ?_
      rintro e w1 ⟨rfl, hb⟩
      go_wp2_with fail
      refine (within_any _ _).mono ?_
      rintro e w' ⟨rfl, rfl⟩
      go_wp2_with fail
      refine (within_any _ _).mono ?_
      rintro e w' ⟨rfl, rfl⟩
      go_wp2_with fail
      go_ret3
      exact ⟨rfl, hb⟩

theorem scaled_false_zero (a b c : Int) (x y z hi lo q r : Nat)
    (H1 : Hid (∀ w : World, Calls Try.prog 69 #[.int .i64 a] w fun e w' => e = .returned (.int .u64 (x : Int)) ∧ w = w'))
    (H2 : Hid (∀ w : World, Calls Try.prog 69 #[.int .i64 b] w fun e w' => e = .returned (.int .u64 (y : Int)) ∧ w = w'))
    (H3 : Hid (∀ w : World, Calls Try.prog 69 #[.int .i64 c] w fun e w' => e = .returned (.int .u64 (z : Int)) ∧ w = w'))
    (HM : Hid (∀ w : World, Calls Try.prog 68 #[.int .u64 x, .int .u64 y] w fun e w' => e = .returned (.tuple #[.int .u64 (hi : Int), .int .u64 (lo : Int)]) ∧ w = w'))
    (HD : Hid (∀ w : World, Calls Try.prog 70 #[.int .u64 hi, .int .u64 lo, .int .u64 z] w fun e w' => e = .returned (.tuple #[.int .u64 (q : Int), .int .u64 (r : Int)]) ∧ Below w.heap.size w w'))
    (t1 : decide (z ≤ hi) = false) (hq : q ≤ 1152921504606846976) (hr : ¬ 0 < r) (hs : (!(!decide (a < 0) == decide (b < 0)) == decide (c < 0)) = false) (w : World) :
    Calls Try.prog 64 #[.int .i64 a, .int .i64 b, .int .i64 c] w fun e w' => e = .returned (.tuple #[.int .i64 ((q : Int)), .int .i64 ((q : Int)), .bool (withinB ((q : Int)) && withinB ((q : Int)))]) ∧ Below w.heap.size w w' := by
  have t2 : decide ((1152921504606846976 : Int) < (q : Int)) = false := decide_eq_false (by omega)
  cases k1 : withinB ((q : Int))
  · go_enter Try.func64, Try.ntmps64
    go_wp2_with fail
    refine (H1.out _).mono ?_
    rintro e w' ⟨rfl, rfl⟩
    go_wp2_with fail
    refine (H2.out _).mono ?_
    rintro e w' ⟨rfl, rfl⟩
    go_wp2_with fail
    refine (HM.out _).mono ?_
    rintro e w' ⟨rfl, rfl⟩
    go_wp2_with fail
    refine (H3.out _).mono ?_
    rintro e w' ⟨rfl, rfl⟩
    go_wp2_with fail
    refine (H3.out _).mono ?_
    rintro e w' ⟨rfl, rfl⟩
    go_wp2_with fail
    refine (HD.out _).mono ?_
    rintro e w1 ⟨rfl, hb⟩
    go_wp2_with fail
    refine (within_any _ _).mono ?_
    rintro e w' ⟨rfl, rfl⟩
    go_wp2_with fail
    go_ret3
    exact ⟨rfl, hb⟩
  · cases k2 : withinB ((q : Int))
    all_goals
      go_enter Try.func64, Try.ntmps64
      go_wp2_with fail
      refine (H1.out _).mono ?_
      rintro e w' ⟨rfl, rfl⟩
      go_wp2_with fail
      refine (H2.out _).mono ?_
      rintro e w' ⟨rfl, rfl⟩
      go_wp2_with fail
      refine (HM.out _).mono ?_
      rintro e w' ⟨rfl, rfl⟩
      go_wp2_with fail
      refine (H3.out _).mono ?_
      rintro e w' ⟨rfl, rfl⟩
      go_wp2_with fail
      refine (H3.out _).mono ?_
      rintro e w' ⟨rfl, rfl⟩
      go_wp2_with fail
      refine (HD.out _).mono ?_
      rintro e w1 ⟨rfl, hb⟩
      go_wp2_with fail
      refine (within_any _ _).mono ?_
      rintro e w' ⟨rfl, rfl⟩
      go_wp2_with fail
      refine (within_any _ _).mono ?_
      rintro e w' ⟨rfl, rfl⟩
      go_wp2_with fail
      go_ret3
      exact ⟨rfl, hb⟩

end Go.Proofs.Ytgipfmleefojbaa
