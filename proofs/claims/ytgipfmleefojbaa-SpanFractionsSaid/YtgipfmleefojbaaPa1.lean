/- The reference's Part: n num / den, rounded down or up. -/
import Derived.Test.YtgipfmleefojbaaRefDiv
import Derived.Test.YtgipfmleefojbaaMSp
import Derived.Deep.DeepCutAuto
set_option linter.unusedVariables false
namespace Go.Proofs.Ytgipfmleefojbaa
open Go.ChangeShapes Go.WideShapes Go.ChangeAt Go.RowKit

set_option maxRecDepth 100000 in
set_option maxHeartbeats 1000000 in
theorem part_pd_z_q (n num den : Int) (x y z mh ml qh ql rl : Nat)
    (H1 : Hid (∀ w : World, Calls Try.prog 54 #[.int .i64 n] w fun e w' => e = .returned (.int .u64 (x : Int)) ∧ w = w'))
    (H2 : Hid (∀ w : World, Calls Try.prog 54 #[.int .i64 num] w fun e w' => e = .returned (.int .u64 (y : Int)) ∧ w = w'))
    (H3 : Hid (∀ w : World, Calls Try.prog 54 #[.int .i64 den] w fun e w' => e = .returned (.int .u64 (z : Int)) ∧ w = w'))
    (HM : Hid (∀ w : World, Calls Try.prog 57 #[.int .u64 x, .int .u64 y] w fun e w' => e = .returned (.agg #[.int .u64 (mh : Int), .int .u64 (ml : Int)]) ∧ Below w.heap.size w w'))
    (HD : Hid (∀ w : World, Calls Try.prog 56 #[.agg #[.int .u64 mh, .int .u64 ml], .agg #[.int .u64 0, .int .u64 z]] w fun e w' => e = .returned (.tuple #[.agg #[.int .u64 (qh : Int), .int .u64 (ql : Int)], .agg #[.int .u64 0, .int .u64 (rl : Int)]]) ∧ Below w.heap.size w w'))
    (hs : (!decide (n < 0) == decide (num < 0)) = false) (hd : ¬ den < 0) (hr : ((rl : Int) == 0) = true) (hr2 : decide (rl = 0) = true) (up : Bool) (hup : up = false) (w : World) :
    Calls Try.prog 29 #[.int .i64 n, .int .i64 num, .int .i64 den, .bool false] w fun e w' => e = .returned (if qh = 0 ∧ ql ≤ 1152921504606846976 then .tuple #[.int .i64 ((ql : Int)), .bool true] else .tuple #[.int .i64 0, .bool false]) ∧ Below w.heap.size w w' := by
  by_cases hh : qh = 0
  · by_cases hl : ql ≤ 1152921504606846976
    · rw [if_pos ⟨hh, hl⟩]
      have t1 : decide (0 < qh) = false := decide_eq_false (by omega)
      have t2 : decide ((1152921504606846976 : Int) < (ql : Int)) = false := decide_eq_false (by omega)
      clear hh
      go_enter Try.func29, Try.ntmps29
      go_wp2_with fail
      refine (H1.out _).mono ?_
      rintro e w' ⟨rfl, rfl⟩
      go_wp2_with fail
      refine (H2.out _).mono ?_
      rintro e w' ⟨rfl, rfl⟩
      go_wp2_with fail
      refine (HM.out _).mono ?_
      rintro e v1 ⟨rfl, hb1⟩
      have HB : Below w.heap.size w v1 := below_then (by repeat (first | with_reducible assumption | with_reducible exact Below.refl _ _ | with_reducible refine below_al ?_ _ | with_reducible refine below_drew ?_ | with_reducible refine below_drewN ?_ _ | with_reducible refine below_set ?_ (by dsimp only; omega) _)) hb1
      clear hb1
      go_wp2_with fail
      refine (H3.out _).mono ?_
      rintro e w' ⟨rfl, rfl⟩
      go_wp2_with fail
      refine (HD.out _).mono ?_
      rintro e v2 ⟨rfl, hb2⟩
      replace HB : Below w.heap.size w v2 := below_then (by repeat (first | with_reducible assumption | with_reducible exact Below.refl _ _ | with_reducible refine below_al ?_ _ | with_reducible refine below_drew ?_ | with_reducible refine below_drewN ?_ _ | with_reducible refine below_set ?_ (by dsimp only; omega) _)) hb2
      clear hb2
      have hsz := HB.size
      go_wp2_with fail
      go_ret2
      exact ⟨rfl, (by repeat (first | with_reducible assumption | with_reducible exact Below.refl _ _ | with_reducible refine below_al ?_ _ | with_reducible refine below_drew ?_ | with_reducible refine below_drewN ?_ _ | with_reducible refine below_set ?_ (by dsimp only; omega) _))⟩
    · rw [if_neg (fun h => hl h.2)]
      have t1 : decide (0 < qh) = false := decide_eq_false (by omega)
      have t2 : (1152921504606846976 : Int) < (ql : Int) := by omega
      clear hh hl
      go_enter Try.func29, Try.ntmps29
      go_wp2_with fail
      refine (H1.out _).mono ?_
      rintro e w' ⟨rfl, rfl⟩
      go_wp2_with fail
      refine (H2.out _).mono ?_
      rintro e w' ⟨rfl, rfl⟩
      go_wp2_with fail
      refine (HM.out _).mono ?_
      rintro e v1 ⟨rfl, hb1⟩
      have HB : Below w.heap.size w v1 := below_then (by repeat (first | with_reducible assumption | with_reducible exact Below.refl _ _ | with_reducible refine below_al ?_ _ | with_reducible refine below_drew ?_ | with_reducible refine below_drewN ?_ _ | with_reducible refine below_set ?_ (by dsimp only; omega) _)) hb1
      clear hb1
      go_wp2_with fail
      refine (H3.out _).mono ?_
      rintro e w' ⟨rfl, rfl⟩
      go_wp2_with fail
      refine (HD.out _).mono ?_
      rintro e v2 ⟨rfl, hb2⟩
      replace HB : Below w.heap.size w v2 := below_then (by repeat (first | with_reducible assumption | with_reducible exact Below.refl _ _ | with_reducible refine below_al ?_ _ | with_reducible refine below_drew ?_ | with_reducible refine below_drewN ?_ _ | with_reducible refine below_set ?_ (by dsimp only; omega) _)) hb2
      clear hb2
      have hsz := HB.size
      go_wp2_with fail
      go_ret2
      exact ⟨rfl, (by repeat (first | with_reducible assumption | with_reducible exact Below.refl _ _ | with_reducible refine below_al ?_ _ | with_reducible refine below_drew ?_ | with_reducible refine below_drewN ?_ _ | with_reducible refine below_set ?_ (by dsimp only; omega) _))⟩
  · rw [if_neg (fun h => hh h.1)]
    have t1 : 0 < qh := by omega
    clear hh
    go_enter Try.func29, Try.ntmps29
    go_wp2_with fail
    refine (H1.out _).mono ?_
    rintro e w' ⟨rfl, rfl⟩
    go_wp2_with fail
    refine (H2.out _).mono ?_
    rintro e w' ⟨rfl, rfl⟩
    go_wp2_with fail
    refine (HM.out _).mono ?_
    rintro e v1 ⟨rfl, hb1⟩
    have HB : Below w.heap.size w v1 := below_then (by repeat (first | with_reducible assumption | with_reducible exact Below.refl _ _ | with_reducible refine below_al ?_ _ | with_reducible refine below_drew ?_ | with_reducible refine below_drewN ?_ _ | with_reducible refine below_set ?_ (by dsimp only; omega) _)) hb1
    clear hb1
    go_wp2_with fail
    refine (H3.out _).mono ?_
    rintro e w' ⟨rfl, rfl⟩
    go_wp2_with fail
    refine (HD.out _).mono ?_
    rintro e v2 ⟨rfl, hb2⟩
    replace HB : Below w.heap.size w v2 := below_then (by repeat (first | with_reducible assumption | with_reducible exact Below.refl _ _ | with_reducible refine below_al ?_ _ | with_reducible refine below_drew ?_ | with_reducible refine below_drewN ?_ _ | with_reducible refine below_set ?_ (by dsimp only; omega) _)) hb2
    clear hb2
    have hsz := HB.size
    go_wp2_with fail
    go_ret2
    exact ⟨rfl, (by repeat (first | with_reducible assumption | with_reducible exact Below.refl _ _ | with_reducible refine below_al ?_ _ | with_reducible refine below_drew ?_ | with_reducible refine below_drewN ?_ _ | with_reducible refine below_set ?_ (by dsimp only; omega) _))⟩

set_option maxRecDepth 100000 in
set_option maxHeartbeats 1000000 in
theorem part_pd_z_m (n num den : Int) (x y z mh ml qh ql rl : Nat)
    (H1 : Hid (∀ w : World, Calls Try.prog 54 #[.int .i64 n] w fun e w' => e = .returned (.int .u64 (x : Int)) ∧ w = w'))
    (H2 : Hid (∀ w : World, Calls Try.prog 54 #[.int .i64 num] w fun e w' => e = .returned (.int .u64 (y : Int)) ∧ w = w'))
    (H3 : Hid (∀ w : World, Calls Try.prog 54 #[.int .i64 den] w fun e w' => e = .returned (.int .u64 (z : Int)) ∧ w = w'))
    (HM : Hid (∀ w : World, Calls Try.prog 57 #[.int .u64 x, .int .u64 y] w fun e w' => e = .returned (.agg #[.int .u64 (mh : Int), .int .u64 (ml : Int)]) ∧ Below w.heap.size w w'))
    (HD : Hid (∀ w : World, Calls Try.prog 56 #[.agg #[.int .u64 mh, .int .u64 ml], .agg #[.int .u64 0, .int .u64 z]] w fun e w' => e = .returned (.tuple #[.agg #[.int .u64 (qh : Int), .int .u64 (ql : Int)], .agg #[.int .u64 0, .int .u64 (rl : Int)]]) ∧ Below w.heap.size w w'))
    (hs : (!decide (n < 0) == decide (num < 0)) = true) (hd : den < 0) (hr : ((rl : Int) == 0) = true) (hr2 : decide (rl = 0) = true) (up : Bool) (hup : up = false) (w : World) :
    Calls Try.prog 29 #[.int .i64 n, .int .i64 num, .int .i64 den, .bool false] w fun e w' => e = .returned (if qh = 0 ∧ ql ≤ 1152921504606846976 then .tuple #[.int .i64 ((ql : Int)), .bool true] else .tuple #[.int .i64 0, .bool false]) ∧ Below w.heap.size w w' := by
  by_cases hh : qh = 0
  · by_cases hl : ql ≤ 1152921504606846976
    · rw [if_pos ⟨hh, hl⟩]
      have t1 : decide (0 < qh) = false := decide_eq_false (by omega)
      have t2 : decide ((1152921504606846976 : Int) < (ql : Int)) = false := decide_eq_false (by omega)
      clear hh
      go_enter Try.func29, Try.ntmps29
      go_wp2_with fail
      refine (H1.out _).mono ?_
      rintro e w' ⟨rfl, rfl⟩
      go_wp2_with fail
      refine (H2.out _).mono ?_
      rintro e w' ⟨rfl, rfl⟩
      go_wp2_with fail
      refine (HM.out _).mono ?_
      rintro e v1 ⟨rfl, hb1⟩
      have HB : Below w.heap.size w v1 := below_then (by repeat (first | with_reducible assumption | with_reducible exact Below.refl _ _ | with_reducible refine below_al ?_ _ | with_reducible refine below_drew ?_ | with_reducible refine below_drewN ?_ _ | with_reducible refine below_set ?_ (by dsimp only; omega) _)) hb1
      clear hb1
      go_wp2_with fail
      refine (H3.out _).mono ?_
      rintro e w' ⟨rfl, rfl⟩
      go_wp2_with fail
      refine (HD.out _).mono ?_
      rintro e v2 ⟨rfl, hb2⟩
      replace HB : Below w.heap.size w v2 := below_then (by repeat (first | with_reducible assumption | with_reducible exact Below.refl _ _ | with_reducible refine below_al ?_ _ | with_reducible refine below_drew ?_ | with_reducible refine below_drewN ?_ _ | with_reducible refine below_set ?_ (by dsimp only; omega) _)) hb2
      clear hb2
      have hsz := HB.size
      go_wp2_with fail
      go_ret2
      exact ⟨rfl, (by repeat (first | with_reducible assumption | with_reducible exact Below.refl _ _ | with_reducible refine below_al ?_ _ | with_reducible refine below_drew ?_ | with_reducible refine below_drewN ?_ _ | with_reducible refine below_set ?_ (by dsimp only; omega) _))⟩
    · rw [if_neg (fun h => hl h.2)]
      have t1 : decide (0 < qh) = false := decide_eq_false (by omega)
      have t2 : (1152921504606846976 : Int) < (ql : Int) := by omega
      clear hh hl
      go_enter Try.func29, Try.ntmps29
      go_wp2_with fail
      refine (H1.out _).mono ?_
      rintro e w' ⟨rfl, rfl⟩
      go_wp2_with fail
      refine (H2.out _).mono ?_
      rintro e w' ⟨rfl, rfl⟩
      go_wp2_with fail
      refine (HM.out _).mono ?_
      rintro e v1 ⟨rfl, hb1⟩
      have HB : Below w.heap.size w v1 := below_then (by repeat (first | with_reducible assumption | with_reducible exact Below.refl _ _ | with_reducible refine below_al ?_ _ | with_reducible refine below_drew ?_ | with_reducible refine below_drewN ?_ _ | with_reducible refine below_set ?_ (by dsimp only; omega) _)) hb1
      clear hb1
      go_wp2_with fail
      refine (H3.out _).mono ?_
      rintro e w' ⟨rfl, rfl⟩
      go_wp2_with fail
      refine (HD.out _).mono ?_
      rintro e v2 ⟨rfl, hb2⟩
      replace HB : Below w.heap.size w v2 := below_then (by repeat (first | with_reducible assumption | with_reducible exact Below.refl _ _ | with_reducible refine below_al ?_ _ | with_reducible refine below_drew ?_ | with_reducible refine below_drewN ?_ _ | with_reducible refine below_set ?_ (by dsimp only; omega) _)) hb2
      clear hb2
      have hsz := HB.size
      go_wp2_with fail
      go_ret2
      exact ⟨rfl, (by repeat (first | with_reducible assumption | with_reducible exact Below.refl _ _ | with_reducible refine below_al ?_ _ | with_reducible refine below_drew ?_ | with_reducible refine below_drewN ?_ _ | with_reducible refine below_set ?_ (by dsimp only; omega) _))⟩
  · rw [if_neg (fun h => hh h.1)]
    have t1 : 0 < qh := by omega
    clear hh
    go_enter Try.func29, Try.ntmps29
    go_wp2_with fail
    refine (H1.out _).mono ?_
    rintro e w' ⟨rfl, rfl⟩
    go_wp2_with fail
    refine (H2.out _).mono ?_
    rintro e w' ⟨rfl, rfl⟩
    go_wp2_with fail
    refine (HM.out _).mono ?_
    rintro e v1 ⟨rfl, hb1⟩
    have HB : Below w.heap.size w v1 := below_then (by repeat (first | with_reducible assumption | with_reducible exact Below.refl _ _ | with_reducible refine below_al ?_ _ | with_reducible refine below_drew ?_ | with_reducible refine below_drewN ?_ _ | with_reducible refine below_set ?_ (by dsimp only; omega) _)) hb1
    clear hb1
    go_wp2_with fail
    refine (H3.out _).mono ?_
    rintro e w' ⟨rfl, rfl⟩
    go_wp2_with fail
    refine (HD.out _).mono ?_
    rintro e v2 ⟨rfl, hb2⟩
    replace HB : Below w.heap.size w v2 := below_then (by repeat (first | with_reducible assumption | with_reducible exact Below.refl _ _ | with_reducible refine below_al ?_ _ | with_reducible refine below_drew ?_ | with_reducible refine below_drewN ?_ _ | with_reducible refine below_set ?_ (by dsimp only; omega) _)) hb2
    clear hb2
    have hsz := HB.size
    go_wp2_with fail
    go_ret2
    exact ⟨rfl, (by repeat (first | with_reducible assumption | with_reducible exact Below.refl _ _ | with_reducible refine below_al ?_ _ | with_reducible refine below_drew ?_ | with_reducible refine below_drewN ?_ _ | with_reducible refine below_set ?_ (by dsimp only; omega) _))⟩

set_option maxRecDepth 100000 in
set_option maxHeartbeats 1000000 in
theorem part_pd_nz_q (n num den : Int) (x y z mh ml qh ql rl : Nat)
    (H1 : Hid (∀ w : World, Calls Try.prog 54 #[.int .i64 n] w fun e w' => e = .returned (.int .u64 (x : Int)) ∧ w = w'))
    (H2 : Hid (∀ w : World, Calls Try.prog 54 #[.int .i64 num] w fun e w' => e = .returned (.int .u64 (y : Int)) ∧ w = w'))
    (H3 : Hid (∀ w : World, Calls Try.prog 54 #[.int .i64 den] w fun e w' => e = .returned (.int .u64 (z : Int)) ∧ w = w'))
    (HM : Hid (∀ w : World, Calls Try.prog 57 #[.int .u64 x, .int .u64 y] w fun e w' => e = .returned (.agg #[.int .u64 (mh : Int), .int .u64 (ml : Int)]) ∧ Below w.heap.size w w'))
    (HD : Hid (∀ w : World, Calls Try.prog 56 #[.agg #[.int .u64 mh, .int .u64 ml], .agg #[.int .u64 0, .int .u64 z]] w fun e w' => e = .returned (.tuple #[.agg #[.int .u64 (qh : Int), .int .u64 (ql : Int)], .agg #[.int .u64 0, .int .u64 (rl : Int)]]) ∧ Below w.heap.size w w'))
    (hs : (!decide (n < 0) == decide (num < 0)) = false) (hd : ¬ den < 0) (hr : ((rl : Int) == 0) = false) (hr2 : decide (rl = 0) = false) (up : Bool) (hup : up = false) (w : World) :
    Calls Try.prog 29 #[.int .i64 n, .int .i64 num, .int .i64 den, .bool false] w fun e w' => e = .returned (if qh = 0 ∧ ql ≤ 1152921504606846976 then .tuple #[.int .i64 ((ql : Int)), .bool true] else .tuple #[.int .i64 0, .bool false]) ∧ Below w.heap.size w w' := by
  by_cases hh : qh = 0
  · by_cases hl : ql ≤ 1152921504606846976
    · rw [if_pos ⟨hh, hl⟩]
      have t1 : decide (0 < qh) = false := decide_eq_false (by omega)
      have t2 : decide ((1152921504606846976 : Int) < (ql : Int)) = false := decide_eq_false (by omega)
      clear hh
      go_enter Try.func29, Try.ntmps29
      go_wp2_with fail
      refine (H1.out _).mono ?_
      rintro e w' ⟨rfl, rfl⟩
      go_wp2_with fail
      refine (H2.out _).mono ?_
      rintro e w' ⟨rfl, rfl⟩
      go_wp2_with fail
      refine (HM.out _).mono ?_
      rintro e v1 ⟨rfl, hb1⟩
      have HB : Below w.heap.size w v1 := below_then (by repeat (first | with_reducible assumption | with_reducible exact Below.refl _ _ | with_reducible refine below_al ?_ _ | with_reducible refine below_drew ?_ | with_reducible refine below_drewN ?_ _ | with_reducible refine below_set ?_ (by dsimp only; omega) _)) hb1
      clear hb1
      go_wp2_with fail
      refine (H3.out _).mono ?_
      rintro e w' ⟨rfl, rfl⟩
      go_wp2_with fail
      refine (HD.out _).mono ?_
      rintro e v2 ⟨rfl, hb2⟩
      replace HB : Below w.heap.size w v2 := below_then (by repeat (first | with_reducible assumption | with_reducible exact Below.refl _ _ | with_reducible refine below_al ?_ _ | with_reducible refine below_drew ?_ | with_reducible refine below_drewN ?_ _ | with_reducible refine below_set ?_ (by dsimp only; omega) _)) hb2
      clear hb2
      have hsz := HB.size
      go_wp2_with fail
      go_ret2
      exact ⟨rfl, (by repeat (first | with_reducible assumption | with_reducible exact Below.refl _ _ | with_reducible refine below_al ?_ _ | with_reducible refine below_drew ?_ | with_reducible refine below_drewN ?_ _ | with_reducible refine below_set ?_ (by dsimp only; omega) _))⟩
    · rw [if_neg (fun h => hl h.2)]
      have t1 : decide (0 < qh) = false := decide_eq_false (by omega)
      have t2 : (1152921504606846976 : Int) < (ql : Int) := by omega
      clear hh hl
      go_enter Try.func29, Try.ntmps29
      go_wp2_with fail
      refine (H1.out _).mono ?_
      rintro e w' ⟨rfl, rfl⟩
      go_wp2_with fail
      refine (H2.out _).mono ?_
      rintro e w' ⟨rfl, rfl⟩
      go_wp2_with fail
      refine (HM.out _).mono ?_
      rintro e v1 ⟨rfl, hb1⟩
      have HB : Below w.heap.size w v1 := below_then (by repeat (first | with_reducible assumption | with_reducible exact Below.refl _ _ | with_reducible refine below_al ?_ _ | with_reducible refine below_drew ?_ | with_reducible refine below_drewN ?_ _ | with_reducible refine below_set ?_ (by dsimp only; omega) _)) hb1
      clear hb1
      go_wp2_with fail
      refine (H3.out _).mono ?_
      rintro e w' ⟨rfl, rfl⟩
      go_wp2_with fail
      refine (HD.out _).mono ?_
      rintro e v2 ⟨rfl, hb2⟩
      replace HB : Below w.heap.size w v2 := below_then (by repeat (first | with_reducible assumption | with_reducible exact Below.refl _ _ | with_reducible refine below_al ?_ _ | with_reducible refine below_drew ?_ | with_reducible refine below_drewN ?_ _ | with_reducible refine below_set ?_ (by dsimp only; omega) _)) hb2
      clear hb2
      have hsz := HB.size
      go_wp2_with fail
      go_ret2
      exact ⟨rfl, (by repeat (first | with_reducible assumption | with_reducible exact Below.refl _ _ | with_reducible refine below_al ?_ _ | with_reducible refine below_drew ?_ | with_reducible refine below_drewN ?_ _ | with_reducible refine below_set ?_ (by dsimp only; omega) _))⟩
  · rw [if_neg (fun h => hh h.1)]
    have t1 : 0 < qh := by omega
    clear hh
    go_enter Try.func29, Try.ntmps29
    go_wp2_with fail
    refine (H1.out _).mono ?_
    rintro e w' ⟨rfl, rfl⟩
    go_wp2_with fail
    refine (H2.out _).mono ?_
    rintro e w' ⟨rfl, rfl⟩
    go_wp2_with fail
    refine (HM.out _).mono ?_
    rintro e v1 ⟨rfl, hb1⟩
    have HB : Below w.heap.size w v1 := below_then (by repeat (first | with_reducible assumption | with_reducible exact Below.refl _ _ | with_reducible refine below_al ?_ _ | with_reducible refine below_drew ?_ | with_reducible refine below_drewN ?_ _ | with_reducible refine below_set ?_ (by dsimp only; omega) _)) hb1
    clear hb1
    go_wp2_with fail
    refine (H3.out _).mono ?_
    rintro e w' ⟨rfl, rfl⟩
    go_wp2_with fail
    refine (HD.out _).mono ?_
    rintro e v2 ⟨rfl, hb2⟩
    replace HB : Below w.heap.size w v2 := below_then (by repeat (first | with_reducible assumption | with_reducible exact Below.refl _ _ | with_reducible refine below_al ?_ _ | with_reducible refine below_drew ?_ | with_reducible refine below_drewN ?_ _ | with_reducible refine below_set ?_ (by dsimp only; omega) _)) hb2
    clear hb2
    have hsz := HB.size
    go_wp2_with fail
    go_ret2
    exact ⟨rfl, (by repeat (first | with_reducible assumption | with_reducible exact Below.refl _ _ | with_reducible refine below_al ?_ _ | with_reducible refine below_drew ?_ | with_reducible refine below_drewN ?_ _ | with_reducible refine below_set ?_ (by dsimp only; omega) _))⟩

set_option maxRecDepth 100000 in
set_option maxHeartbeats 1000000 in
theorem part_pd_nz_m (n num den : Int) (x y z mh ml qh ql rl : Nat)
    (H1 : Hid (∀ w : World, Calls Try.prog 54 #[.int .i64 n] w fun e w' => e = .returned (.int .u64 (x : Int)) ∧ w = w'))
    (H2 : Hid (∀ w : World, Calls Try.prog 54 #[.int .i64 num] w fun e w' => e = .returned (.int .u64 (y : Int)) ∧ w = w'))
    (H3 : Hid (∀ w : World, Calls Try.prog 54 #[.int .i64 den] w fun e w' => e = .returned (.int .u64 (z : Int)) ∧ w = w'))
    (HM : Hid (∀ w : World, Calls Try.prog 57 #[.int .u64 x, .int .u64 y] w fun e w' => e = .returned (.agg #[.int .u64 (mh : Int), .int .u64 (ml : Int)]) ∧ Below w.heap.size w w'))
    (HD : Hid (∀ w : World, Calls Try.prog 56 #[.agg #[.int .u64 mh, .int .u64 ml], .agg #[.int .u64 0, .int .u64 z]] w fun e w' => e = .returned (.tuple #[.agg #[.int .u64 (qh : Int), .int .u64 (ql : Int)], .agg #[.int .u64 0, .int .u64 (rl : Int)]]) ∧ Below w.heap.size w w'))
    (hs : (!decide (n < 0) == decide (num < 0)) = true) (hd : den < 0) (hr : ((rl : Int) == 0) = false) (hr2 : decide (rl = 0) = false) (up : Bool) (hup : up = false) (w : World) :
    Calls Try.prog 29 #[.int .i64 n, .int .i64 num, .int .i64 den, .bool false] w fun e w' => e = .returned (if qh = 0 ∧ ql ≤ 1152921504606846976 then .tuple #[.int .i64 ((ql : Int)), .bool true] else .tuple #[.int .i64 0, .bool false]) ∧ Below w.heap.size w w' := by
  by_cases hh : qh = 0
  · by_cases hl : ql ≤ 1152921504606846976
    · rw [if_pos ⟨hh, hl⟩]
      have t1 : decide (0 < qh) = false := decide_eq_false (by omega)
      have t2 : decide ((1152921504606846976 : Int) < (ql : Int)) = false := decide_eq_false (by omega)
      clear hh
      go_enter Try.func29, Try.ntmps29
      go_wp2_with fail
      refine (H1.out _).mono ?_
      rintro e w' ⟨rfl, rfl⟩
      go_wp2_with fail
      refine (H2.out _).mono ?_
      rintro e w' ⟨rfl, rfl⟩
      go_wp2_with fail
      refine (HM.out _).mono ?_
      rintro e v1 ⟨rfl, hb1⟩
      have HB : Below w.heap.size w v1 := below_then (by repeat (first | with_reducible assumption | with_reducible exact Below.refl _ _ | with_reducible refine below_al ?_ _ | with_reducible refine below_drew ?_ | with_reducible refine below_drewN ?_ _ | with_reducible refine below_set ?_ (by dsimp only; omega) _)) hb1
      clear hb1
      go_wp2_with fail
      refine (H3.out _).mono ?_
      rintro e w' ⟨rfl, rfl⟩
      go_wp2_with fail
      refine (HD.out _).mono ?_
      rintro e v2 ⟨rfl, hb2⟩
      replace HB : Below w.heap.size w v2 := below_then (by repeat (first | with_reducible assumption | with_reducible exact Below.refl _ _ | with_reducible refine below_al ?_ _ | with_reducible refine below_drew ?_ | with_reducible refine below_drewN ?_ _ | with_reducible refine below_set ?_ (by dsimp only; omega) _)) hb2
      clear hb2
      have hsz := HB.size
      go_wp2_with fail
      go_ret2
      exact ⟨rfl, (by repeat (first | with_reducible assumption | with_reducible exact Below.refl _ _ | with_reducible refine below_al ?_ _ | with_reducible refine below_drew ?_ | with_reducible refine below_drewN ?_ _ | with_reducible refine below_set ?_ (by dsimp only; omega) _))⟩
    · rw [if_neg (fun h => hl h.2)]
      have t1 : decide (0 < qh) = false := decide_eq_false (by omega)
      have t2 : (1152921504606846976 : Int) < (ql : Int) := by omega
      clear hh hl
      go_enter Try.func29, Try.ntmps29
      go_wp2_with fail
      refine (H1.out _).mono ?_
      rintro e w' ⟨rfl, rfl⟩
      go_wp2_with fail
      refine (H2.out _).mono ?_
      rintro e w' ⟨rfl, rfl⟩
      go_wp2_with fail
      refine (HM.out _).mono ?_
      rintro e v1 ⟨rfl, hb1⟩
      have HB : Below w.heap.size w v1 := below_then (by repeat (first | with_reducible assumption | with_reducible exact Below.refl _ _ | with_reducible refine below_al ?_ _ | with_reducible refine below_drew ?_ | with_reducible refine below_drewN ?_ _ | with_reducible refine below_set ?_ (by dsimp only; omega) _)) hb1
      clear hb1
      go_wp2_with fail
      refine (H3.out _).mono ?_
      rintro e w' ⟨rfl, rfl⟩
      go_wp2_with fail
      refine (HD.out _).mono ?_
      rintro e v2 ⟨rfl, hb2⟩
      replace HB : Below w.heap.size w v2 := below_then (by repeat (first | with_reducible assumption | with_reducible exact Below.refl _ _ | with_reducible refine below_al ?_ _ | with_reducible refine below_drew ?_ | with_reducible refine below_drewN ?_ _ | with_reducible refine below_set ?_ (by dsimp only; omega) _)) hb2
      clear hb2
      have hsz := HB.size
      go_wp2_with fail
      go_ret2
      exact ⟨rfl, (by repeat (first | with_reducible assumption | with_reducible exact Below.refl _ _ | with_reducible refine below_al ?_ _ | with_reducible refine below_drew ?_ | with_reducible refine below_drewN ?_ _ | with_reducible refine below_set ?_ (by dsimp only; omega) _))⟩
  · rw [if_neg (fun h => hh h.1)]
    have t1 : 0 < qh := by omega
    clear hh
    go_enter Try.func29, Try.ntmps29
    go_wp2_with fail
    refine (H1.out _).mono ?_
    rintro e w' ⟨rfl, rfl⟩
    go_wp2_with fail
    refine (H2.out _).mono ?_
    rintro e w' ⟨rfl, rfl⟩
    go_wp2_with fail
    refine (HM.out _).mono ?_
    rintro e v1 ⟨rfl, hb1⟩
    have HB : Below w.heap.size w v1 := below_then (by repeat (first | with_reducible assumption | with_reducible exact Below.refl _ _ | with_reducible refine below_al ?_ _ | with_reducible refine below_drew ?_ | with_reducible refine below_drewN ?_ _ | with_reducible refine below_set ?_ (by dsimp only; omega) _)) hb1
    clear hb1
    go_wp2_with fail
    refine (H3.out _).mono ?_
    rintro e w' ⟨rfl, rfl⟩
    go_wp2_with fail
    refine (HD.out _).mono ?_
    rintro e v2 ⟨rfl, hb2⟩
    replace HB : Below w.heap.size w v2 := below_then (by repeat (first | with_reducible assumption | with_reducible exact Below.refl _ _ | with_reducible refine below_al ?_ _ | with_reducible refine below_drew ?_ | with_reducible refine below_drewN ?_ _ | with_reducible refine below_set ?_ (by dsimp only; omega) _)) hb2
    clear hb2
    have hsz := HB.size
    go_wp2_with fail
    go_ret2
    exact ⟨rfl, (by repeat (first | with_reducible assumption | with_reducible exact Below.refl _ _ | with_reducible refine below_al ?_ _ | with_reducible refine below_drew ?_ | with_reducible refine below_drewN ?_ _ | with_reducible refine below_set ?_ (by dsimp only; omega) _))⟩

set_option maxRecDepth 100000 in
set_option maxHeartbeats 1000000 in
theorem part_pu_z_q (n num den : Int) (x y z mh ml qh ql rl : Nat)
    (H1 : Hid (∀ w : World, Calls Try.prog 54 #[.int .i64 n] w fun e w' => e = .returned (.int .u64 (x : Int)) ∧ w = w'))
    (H2 : Hid (∀ w : World, Calls Try.prog 54 #[.int .i64 num] w fun e w' => e = .returned (.int .u64 (y : Int)) ∧ w = w'))
    (H3 : Hid (∀ w : World, Calls Try.prog 54 #[.int .i64 den] w fun e w' => e = .returned (.int .u64 (z : Int)) ∧ w = w'))
    (HM : Hid (∀ w : World, Calls Try.prog 57 #[.int .u64 x, .int .u64 y] w fun e w' => e = .returned (.agg #[.int .u64 (mh : Int), .int .u64 (ml : Int)]) ∧ Below w.heap.size w w'))
    (HD : Hid (∀ w : World, Calls Try.prog 56 #[.agg #[.int .u64 mh, .int .u64 ml], .agg #[.int .u64 0, .int .u64 z]] w fun e w' => e = .returned (.tuple #[.agg #[.int .u64 (qh : Int), .int .u64 (ql : Int)], .agg #[.int .u64 0, .int .u64 (rl : Int)]]) ∧ Below w.heap.size w w'))
    (hs : (!decide (n < 0) == decide (num < 0)) = false) (hd : ¬ den < 0) (hr : ((rl : Int) == 0) = true) (hr2 : decide (rl = 0) = true) (up : Bool) (hup : up = true) (w : World) :
    Calls Try.prog 29 #[.int .i64 n, .int .i64 num, .int .i64 den, .bool true] w fun e w' => e = .returned (if qh = 0 ∧ ql ≤ 1152921504606846976 then .tuple #[.int .i64 ((ql : Int)), .bool true] else .tuple #[.int .i64 0, .bool false]) ∧ Below w.heap.size w w' := by
  by_cases hh : qh = 0
  · by_cases hl : ql ≤ 1152921504606846976
    · rw [if_pos ⟨hh, hl⟩]
      have t1 : decide (0 < qh) = false := decide_eq_false (by omega)
      have t2 : decide ((1152921504606846976 : Int) < (ql : Int)) = false := decide_eq_false (by omega)
      clear hh
      go_enter Try.func29, Try.ntmps29
      go_wp2_with fail
      refine (H1.out _).mono ?_
      rintro e w' ⟨rfl, rfl⟩
      go_wp2_with fail
      refine (H2.out _).mono ?_
      rintro e w' ⟨rfl, rfl⟩
      go_wp2_with fail
      refine (HM.out _).mono ?_
      rintro e v1 ⟨rfl, hb1⟩
      have HB : Below w.heap.size w v1 := below_then (by repeat (first | with_reducible assumption | with_reducible exact Below.refl _ _ | with_reducible refine below_al ?_ _ | with_reducible refine below_drew ?_ | with_reducible refine below_drewN ?_ _ | with_reducible refine below_set ?_ (by dsimp only; omega) _)) hb1
      clear hb1
      go_wp2_with fail
      refine (H3.out _).mono ?_
      rintro e w' ⟨rfl, rfl⟩
      go_wp2_with fail
      refine (HD.out _).mono ?_
      rintro e v2 ⟨rfl, hb2⟩
      replace HB : Below w.heap.size w v2 := below_then (by repeat (first | with_reducible assumption | with_reducible exact Below.refl _ _ | with_reducible refine below_al ?_ _ | with_reducible refine below_drew ?_ | with_reducible refine below_drewN ?_ _ | with_reducible refine below_set ?_ (by dsimp only; omega) _)) hb2
      clear hb2
      have hsz := HB.size
      go_wp2_with fail
      go_ret2
      exact ⟨rfl, (by repeat (first | with_reducible assumption | with_reducible exact Below.refl _ _ | with_reducible refine below_al ?_ _ | with_reducible refine below_drew ?_ | with_reducible refine below_drewN ?_ _ | with_reducible refine below_set ?_ (by dsimp only; omega) _))⟩
    · rw [if_neg (fun h => hl h.2)]
      have t1 : decide (0 < qh) = false := decide_eq_false (by omega)
      have t2 : (1152921504606846976 : Int) < (ql : Int) := by omega
      clear hh hl
      go_enter Try.func29, Try.ntmps29
      go_wp2_with fail
      refine (H1.out _).mono ?_
      rintro e w' ⟨rfl, rfl⟩
      go_wp2_with fail
      refine (H2.out _).mono ?_
      rintro e w' ⟨rfl, rfl⟩
      go_wp2_with fail
      refine (HM.out _).mono ?_
      rintro e v1 ⟨rfl, hb1⟩
      have HB : Below w.heap.size w v1 := below_then (by repeat (first | with_reducible assumption | with_reducible exact Below.refl _ _ | with_reducible refine below_al ?_ _ | with_reducible refine below_drew ?_ | with_reducible refine below_drewN ?_ _ | with_reducible refine below_set ?_ (by dsimp only; omega) _)) hb1
      clear hb1
      go_wp2_with fail
      refine (H3.out _).mono ?_
      rintro e w' ⟨rfl, rfl⟩
      go_wp2_with fail
      refine (HD.out _).mono ?_
      rintro e v2 ⟨rfl, hb2⟩
      replace HB : Below w.heap.size w v2 := below_then (by repeat (first | with_reducible assumption | with_reducible exact Below.refl _ _ | with_reducible refine below_al ?_ _ | with_reducible refine below_drew ?_ | with_reducible refine below_drewN ?_ _ | with_reducible refine below_set ?_ (by dsimp only; omega) _)) hb2
      clear hb2
      have hsz := HB.size
      go_wp2_with fail
      go_ret2
      exact ⟨rfl, (by repeat (first | with_reducible assumption | with_reducible exact Below.refl _ _ | with_reducible refine below_al ?_ _ | with_reducible refine below_drew ?_ | with_reducible refine below_drewN ?_ _ | with_reducible refine below_set ?_ (by dsimp only; omega) _))⟩
  · rw [if_neg (fun h => hh h.1)]
    have t1 : 0 < qh := by omega
    clear hh
    go_enter Try.func29, Try.ntmps29
    go_wp2_with fail
    refine (H1.out _).mono ?_
    rintro e w' ⟨rfl, rfl⟩
    go_wp2_with fail
    refine (H2.out _).mono ?_
    rintro e w' ⟨rfl, rfl⟩
    go_wp2_with fail
    refine (HM.out _).mono ?_
    rintro e v1 ⟨rfl, hb1⟩
    have HB : Below w.heap.size w v1 := below_then (by repeat (first | with_reducible assumption | with_reducible exact Below.refl _ _ | with_reducible refine below_al ?_ _ | with_reducible refine below_drew ?_ | with_reducible refine below_drewN ?_ _ | with_reducible refine below_set ?_ (by dsimp only; omega) _)) hb1
    clear hb1
    go_wp2_with fail
    refine (H3.out _).mono ?_
    rintro e w' ⟨rfl, rfl⟩
    go_wp2_with fail
    refine (HD.out _).mono ?_
    rintro e v2 ⟨rfl, hb2⟩
    replace HB : Below w.heap.size w v2 := below_then (by repeat (first | with_reducible assumption | with_reducible exact Below.refl _ _ | with_reducible refine below_al ?_ _ | with_reducible refine below_drew ?_ | with_reducible refine below_drewN ?_ _ | with_reducible refine below_set ?_ (by dsimp only; omega) _)) hb2
    clear hb2
    have hsz := HB.size
    go_wp2_with fail
    go_ret2
    exact ⟨rfl, (by repeat (first | with_reducible assumption | with_reducible exact Below.refl _ _ | with_reducible refine below_al ?_ _ | with_reducible refine below_drew ?_ | with_reducible refine below_drewN ?_ _ | with_reducible refine below_set ?_ (by dsimp only; omega) _))⟩

set_option maxRecDepth 100000 in
set_option maxHeartbeats 1000000 in
theorem part_pu_z_m (n num den : Int) (x y z mh ml qh ql rl : Nat)
    (H1 : Hid (∀ w : World, Calls Try.prog 54 #[.int .i64 n] w fun e w' => e = .returned (.int .u64 (x : Int)) ∧ w = w'))
    (H2 : Hid (∀ w : World, Calls Try.prog 54 #[.int .i64 num] w fun e w' => e = .returned (.int .u64 (y : Int)) ∧ w = w'))
    (H3 : Hid (∀ w : World, Calls Try.prog 54 #[.int .i64 den] w fun e w' => e = .returned (.int .u64 (z : Int)) ∧ w = w'))
    (HM : Hid (∀ w : World, Calls Try.prog 57 #[.int .u64 x, .int .u64 y] w fun e w' => e = .returned (.agg #[.int .u64 (mh : Int), .int .u64 (ml : Int)]) ∧ Below w.heap.size w w'))
    (HD : Hid (∀ w : World, Calls Try.prog 56 #[.agg #[.int .u64 mh, .int .u64 ml], .agg #[.int .u64 0, .int .u64 z]] w fun e w' => e = .returned (.tuple #[.agg #[.int .u64 (qh : Int), .int .u64 (ql : Int)], .agg #[.int .u64 0, .int .u64 (rl : Int)]]) ∧ Below w.heap.size w w'))
    (hs : (!decide (n < 0) == decide (num < 0)) = true) (hd : den < 0) (hr : ((rl : Int) == 0) = true) (hr2 : decide (rl = 0) = true) (up : Bool) (hup : up = true) (w : World) :
    Calls Try.prog 29 #[.int .i64 n, .int .i64 num, .int .i64 den, .bool true] w fun e w' => e = .returned (if qh = 0 ∧ ql ≤ 1152921504606846976 then .tuple #[.int .i64 ((ql : Int)), .bool true] else .tuple #[.int .i64 0, .bool false]) ∧ Below w.heap.size w w' := by
  by_cases hh : qh = 0
  · by_cases hl : ql ≤ 1152921504606846976
    · rw [if_pos ⟨hh, hl⟩]
      have t1 : decide (0 < qh) = false := decide_eq_false (by omega)
      have t2 : decide ((1152921504606846976 : Int) < (ql : Int)) = false := decide_eq_false (by omega)
      clear hh
      go_enter Try.func29, Try.ntmps29
      go_wp2_with fail
      refine (H1.out _).mono ?_
      rintro e w' ⟨rfl, rfl⟩
      go_wp2_with fail
      refine (H2.out _).mono ?_
      rintro e w' ⟨rfl, rfl⟩
      go_wp2_with fail
      refine (HM.out _).mono ?_
      rintro e v1 ⟨rfl, hb1⟩
      have HB : Below w.heap.size w v1 := below_then (by repeat (first | with_reducible assumption | with_reducible exact Below.refl _ _ | with_reducible refine below_al ?_ _ | with_reducible refine below_drew ?_ | with_reducible refine below_drewN ?_ _ | with_reducible refine below_set ?_ (by dsimp only; omega) _)) hb1
      clear hb1
      go_wp2_with fail
      refine (H3.out _).mono ?_
      rintro e w' ⟨rfl, rfl⟩
      go_wp2_with fail
      refine (HD.out _).mono ?_
      rintro e v2 ⟨rfl, hb2⟩
      replace HB : Below w.heap.size w v2 := below_then (by repeat (first | with_reducible assumption | with_reducible exact Below.refl _ _ | with_reducible refine below_al ?_ _ | with_reducible refine below_drew ?_ | with_reducible refine below_drewN ?_ _ | with_reducible refine below_set ?_ (by dsimp only; omega) _)) hb2
      clear hb2
      have hsz := HB.size
      go_wp2_with fail
      go_ret2
      exact ⟨rfl, (by repeat (first | with_reducible assumption | with_reducible exact Below.refl _ _ | with_reducible refine below_al ?_ _ | with_reducible refine below_drew ?_ | with_reducible refine below_drewN ?_ _ | with_reducible refine below_set ?_ (by dsimp only; omega) _))⟩
    · rw [if_neg (fun h => hl h.2)]
      have t1 : decide (0 < qh) = false := decide_eq_false (by omega)
      have t2 : (1152921504606846976 : Int) < (ql : Int) := by omega
      clear hh hl
      go_enter Try.func29, Try.ntmps29
      go_wp2_with fail
      refine (H1.out _).mono ?_
      rintro e w' ⟨rfl, rfl⟩
      go_wp2_with fail
      refine (H2.out _).mono ?_
      rintro e w' ⟨rfl, rfl⟩
      go_wp2_with fail
      refine (HM.out _).mono ?_
      rintro e v1 ⟨rfl, hb1⟩
      have HB : Below w.heap.size w v1 := below_then (by repeat (first | with_reducible assumption | with_reducible exact Below.refl _ _ | with_reducible refine below_al ?_ _ | with_reducible refine below_drew ?_ | with_reducible refine below_drewN ?_ _ | with_reducible refine below_set ?_ (by dsimp only; omega) _)) hb1
      clear hb1
      go_wp2_with fail
      refine (H3.out _).mono ?_
      rintro e w' ⟨rfl, rfl⟩
      go_wp2_with fail
      refine (HD.out _).mono ?_
      rintro e v2 ⟨rfl, hb2⟩
      replace HB : Below w.heap.size w v2 := below_then (by repeat (first | with_reducible assumption | with_reducible exact Below.refl _ _ | with_reducible refine below_al ?_ _ | with_reducible refine below_drew ?_ | with_reducible refine below_drewN ?_ _ | with_reducible refine below_set ?_ (by dsimp only; omega) _)) hb2
      clear hb2
      have hsz := HB.size
      go_wp2_with fail
      go_ret2
      exact ⟨rfl, (by repeat (first | with_reducible assumption | with_reducible exact Below.refl _ _ | with_reducible refine below_al ?_ _ | with_reducible refine below_drew ?_ | with_reducible refine below_drewN ?_ _ | with_reducible refine below_set ?_ (by dsimp only; omega) _))⟩
  · rw [if_neg (fun h => hh h.1)]
    have t1 : 0 < qh := by omega
    clear hh
    go_enter Try.func29, Try.ntmps29
    go_wp2_with fail
    refine (H1.out _).mono ?_
    rintro e w' ⟨rfl, rfl⟩
    go_wp2_with fail
    refine (H2.out _).mono ?_
    rintro e w' ⟨rfl, rfl⟩
    go_wp2_with fail
    refine (HM.out _).mono ?_
    rintro e v1 ⟨rfl, hb1⟩
    have HB : Below w.heap.size w v1 := below_then (by repeat (first | with_reducible assumption | with_reducible exact Below.refl _ _ | with_reducible refine below_al ?_ _ | with_reducible refine below_drew ?_ | with_reducible refine below_drewN ?_ _ | with_reducible refine below_set ?_ (by dsimp only; omega) _)) hb1
    clear hb1
    go_wp2_with fail
    refine (H3.out _).mono ?_
    rintro e w' ⟨rfl, rfl⟩
    go_wp2_with fail
    refine (HD.out _).mono ?_
    rintro e v2 ⟨rfl, hb2⟩
    replace HB : Below w.heap.size w v2 := below_then (by repeat (first | with_reducible assumption | with_reducible exact Below.refl _ _ | with_reducible refine below_al ?_ _ | with_reducible refine below_drew ?_ | with_reducible refine below_drewN ?_ _ | with_reducible refine below_set ?_ (by dsimp only; omega) _)) hb2
    clear hb2
    have hsz := HB.size
    go_wp2_with fail
    go_ret2
    exact ⟨rfl, (by repeat (first | with_reducible assumption | with_reducible exact Below.refl _ _ | with_reducible refine below_al ?_ _ | with_reducible refine below_drew ?_ | with_reducible refine below_drewN ?_ _ | with_reducible refine below_set ?_ (by dsimp only; omega) _))⟩

set_option maxRecDepth 100000 in
set_option maxHeartbeats 1000000 in
theorem part_pu_nz_q (n num den : Int) (x y z mh ml qh ql rl : Nat)
    (H1 : Hid (∀ w : World, Calls Try.prog 54 #[.int .i64 n] w fun e w' => e = .returned (.int .u64 (x : Int)) ∧ w = w'))
    (H2 : Hid (∀ w : World, Calls Try.prog 54 #[.int .i64 num] w fun e w' => e = .returned (.int .u64 (y : Int)) ∧ w = w'))
    (H3 : Hid (∀ w : World, Calls Try.prog 54 #[.int .i64 den] w fun e w' => e = .returned (.int .u64 (z : Int)) ∧ w = w'))
    (HM : Hid (∀ w : World, Calls Try.prog 57 #[.int .u64 x, .int .u64 y] w fun e w' => e = .returned (.agg #[.int .u64 (mh : Int), .int .u64 (ml : Int)]) ∧ Below w.heap.size w w'))
    (HD : Hid (∀ w : World, Calls Try.prog 56 #[.agg #[.int .u64 mh, .int .u64 ml], .agg #[.int .u64 0, .int .u64 z]] w fun e w' => e = .returned (.tuple #[.agg #[.int .u64 (qh : Int), .int .u64 (ql : Int)], .agg #[.int .u64 0, .int .u64 (rl : Int)]]) ∧ Below w.heap.size w w'))
    (hs : (!decide (n < 0) == decide (num < 0)) = false) (hd : ¬ den < 0) (hr : ((rl : Int) == 0) = false) (hr2 : decide (rl = 0) = false) 
    (fh fl : Nat) (HP : Hid (∀ w : World, Calls Try.prog 58 #[.agg #[.int .u64 qh, .int .u64 ql], .agg #[.int .u64 0, .int .u64 1]] w fun e w' => e = .returned (.agg #[.int .u64 (fh : Int), .int .u64 (fl : Int)]) ∧ Below w.heap.size w w')) (up : Bool) (hup : up = true) (w : World) :
    Calls Try.prog 29 #[.int .i64 n, .int .i64 num, .int .i64 den, .bool true] w fun e w' => e = .returned (if fh = 0 ∧ fl ≤ 1152921504606846976 then .tuple #[.int .i64 ((fl : Int)), .bool true] else .tuple #[.int .i64 0, .bool false]) ∧ Below w.heap.size w w' := by
  by_cases hh : fh = 0
  · by_cases hl : fl ≤ 1152921504606846976
    · rw [if_pos ⟨hh, hl⟩]
      have t1 : decide (0 < fh) = false := decide_eq_false (by omega)
      have t2 : decide ((1152921504606846976 : Int) < (fl : Int)) = false := decide_eq_false (by omega)
      clear hh
      go_enter Try.func29, Try.ntmps29
      go_wp2_with fail
      refine (H1.out _).mono ?_
      rintro e w' ⟨rfl, rfl⟩
      go_wp2_with fail
      refine (H2.out _).mono ?_
      rintro e w' ⟨rfl, rfl⟩
      go_wp2_with fail
      refine (HM.out _).mono ?_
      rintro e v1 ⟨rfl, hb1⟩
      have HB : Below w.heap.size w v1 := below_then (by repeat (first | with_reducible assumption | with_reducible exact Below.refl _ _ | with_reducible refine below_al ?_ _ | with_reducible refine below_drew ?_ | with_reducible refine below_drewN ?_ _ | with_reducible refine below_set ?_ (by dsimp only; omega) _)) hb1
      clear hb1
      go_wp2_with fail
      refine (H3.out _).mono ?_
      rintro e w' ⟨rfl, rfl⟩
      go_wp2_with fail
      refine (HD.out _).mono ?_
      rintro e v2 ⟨rfl, hb2⟩
      replace HB : Below w.heap.size w v2 := below_then (by repeat (first | with_reducible assumption | with_reducible exact Below.refl _ _ | with_reducible refine below_al ?_ _ | with_reducible refine below_drew ?_ | with_reducible refine below_drewN ?_ _ | with_reducible refine below_set ?_ (by dsimp only; omega) _)) hb2
      clear hb2
      have hsz := HB.size
      go_wp2_with fail
      refine (HP.out _).mono ?_
      rintro e v3 ⟨rfl, hb3⟩
      have k_q : At v3 (v2.heap.size) 67 #[.int .u64 (qh : Int), .int .u64 (ql : Int)] := At.bel (by (repeat (first | (with_reducible apply At.new'; (focus (simp; done))) | with_reducible apply At.al | with_reducible apply At.drw | with_reducible apply At.dr))) hb3
      have k_r : At v3 (v2.heap.size + 1) 67 #[.int .u64 0, .int .u64 (rl : Int)] := At.bel (by (repeat (first | (with_reducible apply At.new'; (focus (simp; done))) | with_reducible apply At.al | with_reducible apply At.drw | with_reducible apply At.dr))) hb3
      replace HB : Below w.heap.size w v3 := below_then (by repeat (first | with_reducible assumption | with_reducible exact Below.refl _ _ | with_reducible refine below_al ?_ _ | with_reducible refine below_drew ?_ | with_reducible refine below_drewN ?_ _ | with_reducible refine below_set ?_ (by dsimp only; omega) _)) hb3
      clear hb3
      obtain ⟨k_q0, k_q1, k_q2, k_q3⟩ := k_q.two
      have Lq := k_q.lt
      go_wp2_with fail
      go_ret2
      exact ⟨rfl, (by repeat (first | with_reducible assumption | with_reducible exact Below.refl _ _ | with_reducible refine below_al ?_ _ | with_reducible refine below_drew ?_ | with_reducible refine below_drewN ?_ _ | with_reducible refine below_set ?_ (by dsimp only; omega) _))⟩
    · rw [if_neg (fun h => hl h.2)]
      have t1 : decide (0 < fh) = false := decide_eq_false (by omega)
      have t2 : (1152921504606846976 : Int) < (fl : Int) := by omega
      clear hh hl
      go_enter Try.func29, Try.ntmps29
      go_wp2_with fail
      refine (H1.out _).mono ?_
      rintro e w' ⟨rfl, rfl⟩
      go_wp2_with fail
      refine (H2.out _).mono ?_
      rintro e w' ⟨rfl, rfl⟩
      go_wp2_with fail
      refine (HM.out _).mono ?_
      rintro e v1 ⟨rfl, hb1⟩
      have HB : Below w.heap.size w v1 := below_then (by repeat (first | with_reducible assumption | with_reducible exact Below.refl _ _ | with_reducible refine below_al ?_ _ | with_reducible refine below_drew ?_ | with_reducible refine below_drewN ?_ _ | with_reducible refine below_set ?_ (by dsimp only; omega) _)) hb1
      clear hb1
      go_wp2_with fail
      refine (H3.out _).mono ?_
      rintro e w' ⟨rfl, rfl⟩
      go_wp2_with fail
      refine (HD.out _).mono ?_
      rintro e v2 ⟨rfl, hb2⟩
      replace HB : Below w.heap.size w v2 := below_then (by repeat (first | with_reducible assumption | with_reducible exact Below.refl _ _ | with_reducible refine below_al ?_ _ | with_reducible refine below_drew ?_ | with_reducible refine below_drewN ?_ _ | with_reducible refine below_set ?_ (by dsimp only; omega) _)) hb2
      clear hb2
      have hsz := HB.size
      go_wp2_with fail
      refine (HP.out _).mono ?_
      rintro e v3 ⟨rfl, hb3⟩
      have k_q : At v3 (v2.heap.size) 67 #[.int .u64 (qh : Int), .int .u64 (ql : Int)] := At.bel (by (repeat (first | (with_reducible apply At.new'; (focus (simp; done))) | with_reducible apply At.al | with_reducible apply At.drw | with_reducible apply At.dr))) hb3
      have k_r : At v3 (v2.heap.size + 1) 67 #[.int .u64 0, .int .u64 (rl : Int)] := At.bel (by (repeat (first | (with_reducible apply At.new'; (focus (simp; done))) | with_reducible apply At.al | with_reducible apply At.drw | with_reducible apply At.dr))) hb3
      replace HB : Below w.heap.size w v3 := below_then (by repeat (first | with_reducible assumption | with_reducible exact Below.refl _ _ | with_reducible refine below_al ?_ _ | with_reducible refine below_drew ?_ | with_reducible refine below_drewN ?_ _ | with_reducible refine below_set ?_ (by dsimp only; omega) _)) hb3
      clear hb3
      obtain ⟨k_q0, k_q1, k_q2, k_q3⟩ := k_q.two
      have Lq := k_q.lt
      go_wp2_with fail
      go_ret2
      exact ⟨rfl, (by repeat (first | with_reducible assumption | with_reducible exact Below.refl _ _ | with_reducible refine below_al ?_ _ | with_reducible refine below_drew ?_ | with_reducible refine below_drewN ?_ _ | with_reducible refine below_set ?_ (by dsimp only; omega) _))⟩
  · rw [if_neg (fun h => hh h.1)]
    have t1 : 0 < fh := by omega
    clear hh
    go_enter Try.func29, Try.ntmps29
    go_wp2_with fail
    refine (H1.out _).mono ?_
    rintro e w' ⟨rfl, rfl⟩
    go_wp2_with fail
    refine (H2.out _).mono ?_
    rintro e w' ⟨rfl, rfl⟩
    go_wp2_with fail
    refine (HM.out _).mono ?_
    rintro e v1 ⟨rfl, hb1⟩
    have HB : Below w.heap.size w v1 := below_then (by repeat (first | with_reducible assumption | with_reducible exact Below.refl _ _ | with_reducible refine below_al ?_ _ | with_reducible refine below_drew ?_ | with_reducible refine below_drewN ?_ _ | with_reducible refine below_set ?_ (by dsimp only; omega) _)) hb1
    clear hb1
    go_wp2_with fail
    refine (H3.out _).mono ?_
    rintro e w' ⟨rfl, rfl⟩
    go_wp2_with fail
    refine (HD.out _).mono ?_
    rintro e v2 ⟨rfl, hb2⟩
    replace HB : Below w.heap.size w v2 := below_then (by repeat (first | with_reducible assumption | with_reducible exact Below.refl _ _ | with_reducible refine below_al ?_ _ | with_reducible refine below_drew ?_ | with_reducible refine below_drewN ?_ _ | with_reducible refine below_set ?_ (by dsimp only; omega) _)) hb2
    clear hb2
    have hsz := HB.size
    go_wp2_with fail
    refine (HP.out _).mono ?_
    rintro e v3 ⟨rfl, hb3⟩
    have k_q : At v3 (v2.heap.size) 67 #[.int .u64 (qh : Int), .int .u64 (ql : Int)] := At.bel (by (repeat (first | (with_reducible apply At.new'; (focus (simp; done))) | with_reducible apply At.al | with_reducible apply At.drw | with_reducible apply At.dr))) hb3
    have k_r : At v3 (v2.heap.size + 1) 67 #[.int .u64 0, .int .u64 (rl : Int)] := At.bel (by (repeat (first | (with_reducible apply At.new'; (focus (simp; done))) | with_reducible apply At.al | with_reducible apply At.drw | with_reducible apply At.dr))) hb3
    replace HB : Below w.heap.size w v3 := below_then (by repeat (first | with_reducible assumption | with_reducible exact Below.refl _ _ | with_reducible refine below_al ?_ _ | with_reducible refine below_drew ?_ | with_reducible refine below_drewN ?_ _ | with_reducible refine below_set ?_ (by dsimp only; omega) _)) hb3
    clear hb3
    obtain ⟨k_q0, k_q1, k_q2, k_q3⟩ := k_q.two
    have Lq := k_q.lt
    go_wp2_with fail
    go_ret2
    exact ⟨rfl, (by repeat (first | with_reducible assumption | with_reducible exact Below.refl _ _ | with_reducible refine below_al ?_ _ | with_reducible refine below_drew ?_ | with_reducible refine below_drewN ?_ _ | with_reducible refine below_set ?_ (by dsimp only; omega) _))⟩

set_option maxRecDepth 100000 in
set_option maxHeartbeats 1000000 in
theorem part_pu_nz_m (n num den : Int) (x y z mh ml qh ql rl : Nat)
    (H1 : Hid (∀ w : World, Calls Try.prog 54 #[.int .i64 n] w fun e w' => e = .returned (.int .u64 (x : Int)) ∧ w = w'))
    (H2 : Hid (∀ w : World, Calls Try.prog 54 #[.int .i64 num] w fun e w' => e = .returned (.int .u64 (y : Int)) ∧ w = w'))
    (H3 : Hid (∀ w : World, Calls Try.prog 54 #[.int .i64 den] w fun e w' => e = .returned (.int .u64 (z : Int)) ∧ w = w'))
    (HM : Hid (∀ w : World, Calls Try.prog 57 #[.int .u64 x, .int .u64 y] w fun e w' => e = .returned (.agg #[.int .u64 (mh : Int), .int .u64 (ml : Int)]) ∧ Below w.heap.size w w'))
    (HD : Hid (∀ w : World, Calls Try.prog 56 #[.agg #[.int .u64 mh, .int .u64 ml], .agg #[.int .u64 0, .int .u64 z]] w fun e w' => e = .returned (.tuple #[.agg #[.int .u64 (qh : Int), .int .u64 (ql : Int)], .agg #[.int .u64 0, .int .u64 (rl : Int)]]) ∧ Below w.heap.size w w'))
    (hs : (!decide (n < 0) == decide (num < 0)) = true) (hd : den < 0) (hr : ((rl : Int) == 0) = false) (hr2 : decide (rl = 0) = false) 
    (fh fl : Nat) (HP : Hid (∀ w : World, Calls Try.prog 58 #[.agg #[.int .u64 qh, .int .u64 ql], .agg #[.int .u64 0, .int .u64 1]] w fun e w' => e = .returned (.agg #[.int .u64 (fh : Int), .int .u64 (fl : Int)]) ∧ Below w.heap.size w w')) (up : Bool) (hup : up = true) (w : World) :
    Calls Try.prog 29 #[.int .i64 n, .int .i64 num, .int .i64 den, .bool true] w fun e w' => e = .returned (if fh = 0 ∧ fl ≤ 1152921504606846976 then .tuple #[.int .i64 ((fl : Int)), .bool true] else .tuple #[.int .i64 0, .bool false]) ∧ Below w.heap.size w w' := by
  by_cases hh : fh = 0
  · by_cases hl : fl ≤ 1152921504606846976
    · rw [if_pos ⟨hh, hl⟩]
      have t1 : decide (0 < fh) = false := decide_eq_false (by omega)
      have t2 : decide ((1152921504606846976 : Int) < (fl : Int)) = false := decide_eq_false (by omega)
      clear hh
      go_enter Try.func29, Try.ntmps29
      go_wp2_with fail
      refine (H1.out _).mono ?_
      rintro e w' ⟨rfl, rfl⟩
      go_wp2_with fail
      refine (H2.out _).mono ?_
      rintro e w' ⟨rfl, rfl⟩
      go_wp2_with fail
      refine (HM.out _).mono ?_
      rintro e v1 ⟨rfl, hb1⟩
      have HB : Below w.heap.size w v1 := below_then (by repeat (first | with_reducible assumption | with_reducible exact Below.refl _ _ | with_reducible refine below_al ?_ _ | with_reducible refine below_drew ?_ | with_reducible refine below_drewN ?_ _ | with_reducible refine below_set ?_ (by dsimp only; omega) _)) hb1
      clear hb1
      go_wp2_with fail
      refine (H3.out _).mono ?_
      rintro e w' ⟨rfl, rfl⟩
      go_wp2_with fail
      refine (HD.out _).mono ?_
      rintro e v2 ⟨rfl, hb2⟩
      replace HB : Below w.heap.size w v2 := below_then (by repeat (first | with_reducible assumption | with_reducible exact Below.refl _ _ | with_reducible refine below_al ?_ _ | with_reducible refine below_drew ?_ | with_reducible refine below_drewN ?_ _ | with_reducible refine below_set ?_ (by dsimp only; omega) _)) hb2
      clear hb2
      have hsz := HB.size
      go_wp2_with fail
      refine (HP.out _).mono ?_
      rintro e v3 ⟨rfl, hb3⟩
      have k_q : At v3 (v2.heap.size) 67 #[.int .u64 (qh : Int), .int .u64 (ql : Int)] := At.bel (by (repeat (first | (with_reducible apply At.new'; (focus (simp; done))) | with_reducible apply At.al | with_reducible apply At.drw | with_reducible apply At.dr))) hb3
      have k_r : At v3 (v2.heap.size + 1) 67 #[.int .u64 0, .int .u64 (rl : Int)] := At.bel (by (repeat (first | (with_reducible apply At.new'; (focus (simp; done))) | with_reducible apply At.al | with_reducible apply At.drw | with_reducible apply At.dr))) hb3
      replace HB : Below w.heap.size w v3 := below_then (by repeat (first | with_reducible assumption | with_reducible exact Below.refl _ _ | with_reducible refine below_al ?_ _ | with_reducible refine below_drew ?_ | with_reducible refine below_drewN ?_ _ | with_reducible refine below_set ?_ (by dsimp only; omega) _)) hb3
      clear hb3
      obtain ⟨k_q0, k_q1, k_q2, k_q3⟩ := k_q.two
      have Lq := k_q.lt
      go_wp2_with fail
      go_ret2
      exact ⟨rfl, (by repeat (first | with_reducible assumption | with_reducible exact Below.refl _ _ | with_reducible refine below_al ?_ _ | with_reducible refine below_drew ?_ | with_reducible refine below_drewN ?_ _ | with_reducible refine below_set ?_ (by dsimp only; omega) _))⟩
    · rw [if_neg (fun h => hl h.2)]
      have t1 : decide (0 < fh) = false := decide_eq_false (by omega)
      have t2 : (1152921504606846976 : Int) < (fl : Int) := by omega
      clear hh hl
      go_enter Try.func29, Try.ntmps29
      go_wp2_with fail
      refine (H1.out _).mono ?_
      rintro e w' ⟨rfl, rfl⟩
      go_wp2_with fail
      refine (H2.out _).mono ?_
      rintro e w' ⟨rfl, rfl⟩
      go_wp2_with fail
      refine (HM.out _).mono ?_
      rintro e v1 ⟨rfl, hb1⟩
      have HB : Below w.heap.size w v1 := below_then (by repeat (first | with_reducible assumption | with_reducible exact Below.refl _ _ | with_reducible refine below_al ?_ _ | with_reducible refine below_drew ?_ | with_reducible refine below_drewN ?_ _ | with_reducible refine below_set ?_ (by dsimp only; omega) _)) hb1
      clear hb1
      go_wp2_with fail
      refine (H3.out _).mono ?_
      rintro e w' ⟨rfl, rfl⟩
      go_wp2_with fail
      refine (HD.out _).mono ?_
      rintro e v2 ⟨rfl, hb2⟩
      replace HB : Below w.heap.size w v2 := below_then (by repeat (first | with_reducible assumption | with_reducible exact Below.refl _ _ | with_reducible refine below_al ?_ _ | with_reducible refine below_drew ?_ | with_reducible refine below_drewN ?_ _ | with_reducible refine below_set ?_ (by dsimp only; omega) _)) hb2
      clear hb2
      have hsz := HB.size
      go_wp2_with fail
      refine (HP.out _).mono ?_
      rintro e v3 ⟨rfl, hb3⟩
      have k_q : At v3 (v2.heap.size) 67 #[.int .u64 (qh : Int), .int .u64 (ql : Int)] := At.bel (by (repeat (first | (with_reducible apply At.new'; (focus (simp; done))) | with_reducible apply At.al | with_reducible apply At.drw | with_reducible apply At.dr))) hb3
      have k_r : At v3 (v2.heap.size + 1) 67 #[.int .u64 0, .int .u64 (rl : Int)] := At.bel (by (repeat (first | (with_reducible apply At.new'; (focus (simp; done))) | with_reducible apply At.al | with_reducible apply At.drw | with_reducible apply At.dr))) hb3
      replace HB : Below w.heap.size w v3 := below_then (by repeat (first | with_reducible assumption | with_reducible exact Below.refl _ _ | with_reducible refine below_al ?_ _ | with_reducible refine below_drew ?_ | with_reducible refine below_drewN ?_ _ | with_reducible refine below_set ?_ (by dsimp only; omega) _)) hb3
      clear hb3
      obtain ⟨k_q0, k_q1, k_q2, k_q3⟩ := k_q.two
      have Lq := k_q.lt
      go_wp2_with fail
      go_ret2
      exact ⟨rfl, (by repeat (first | with_reducible assumption | with_reducible exact Below.refl _ _ | with_reducible refine below_al ?_ _ | with_reducible refine below_drew ?_ | with_reducible refine below_drewN ?_ _ | with_reducible refine below_set ?_ (by dsimp only; omega) _))⟩
  · rw [if_neg (fun h => hh h.1)]
    have t1 : 0 < fh := by omega
    clear hh
    go_enter Try.func29, Try.ntmps29
    go_wp2_with fail
    refine (H1.out _).mono ?_
    rintro e w' ⟨rfl, rfl⟩
    go_wp2_with fail
    refine (H2.out _).mono ?_
    rintro e w' ⟨rfl, rfl⟩
    go_wp2_with fail
    refine (HM.out _).mono ?_
    rintro e v1 ⟨rfl, hb1⟩
    have HB : Below w.heap.size w v1 := below_then (by repeat (first | with_reducible assumption | with_reducible exact Below.refl _ _ | with_reducible refine below_al ?_ _ | with_reducible refine below_drew ?_ | with_reducible refine below_drewN ?_ _ | with_reducible refine below_set ?_ (by dsimp only; omega) _)) hb1
    clear hb1
    go_wp2_with fail
    refine (H3.out _).mono ?_
    rintro e w' ⟨rfl, rfl⟩
    go_wp2_with fail
    refine (HD.out _).mono ?_
    rintro e v2 ⟨rfl, hb2⟩
    replace HB : Below w.heap.size w v2 := below_then (by repeat (first | with_reducible assumption | with_reducible exact Below.refl _ _ | with_reducible refine below_al ?_ _ | with_reducible refine below_drew ?_ | with_reducible refine below_drewN ?_ _ | with_reducible refine below_set ?_ (by dsimp only; omega) _)) hb2
    clear hb2
    have hsz := HB.size
    go_wp2_with fail
    refine (HP.out _).mono ?_
    rintro e v3 ⟨rfl, hb3⟩
    have k_q : At v3 (v2.heap.size) 67 #[.int .u64 (qh : Int), .int .u64 (ql : Int)] := At.bel (by (repeat (first | (with_reducible apply At.new'; (focus (simp; done))) | with_reducible apply At.al | with_reducible apply At.drw | with_reducible apply At.dr))) hb3
    have k_r : At v3 (v2.heap.size + 1) 67 #[.int .u64 0, .int .u64 (rl : Int)] := At.bel (by (repeat (first | (with_reducible apply At.new'; (focus (simp; done))) | with_reducible apply At.al | with_reducible apply At.drw | with_reducible apply At.dr))) hb3
    replace HB : Below w.heap.size w v3 := below_then (by repeat (first | with_reducible assumption | with_reducible exact Below.refl _ _ | with_reducible refine below_al ?_ _ | with_reducible refine below_drew ?_ | with_reducible refine below_drewN ?_ _ | with_reducible refine below_set ?_ (by dsimp only; omega) _)) hb3
    clear hb3
    obtain ⟨k_q0, k_q1, k_q2, k_q3⟩ := k_q.two
    have Lq := k_q.lt
    go_wp2_with fail
    go_ret2
    exact ⟨rfl, (by repeat (first | with_reducible assumption | with_reducible exact Below.refl _ _ | with_reducible refine below_al ?_ _ | with_reducible refine below_drew ?_ | with_reducible refine below_drewN ?_ _ | with_reducible refine below_set ?_ (by dsimp only; omega) _))⟩

end Go.Proofs.Ytgipfmleefojbaa
