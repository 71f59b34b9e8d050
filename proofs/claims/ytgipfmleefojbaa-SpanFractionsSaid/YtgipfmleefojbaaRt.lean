/- The reference's Floor, Ceil, Times and Of. -/
import Derived.Test.YtgipfmleefojbaaPa3
import Derived.Test.YtgipfmleefojbaaOf
import Derived.Test.YtgipfmleefojbaaSpD
set_option linter.unusedVariables false
namespace Go.Proofs.Ytgipfmleefojbaa
open Go.ChangeShapes Go.WideShapes Go.ChangeAt Go.RowKit

theorem partV_eq (v : Int) : partV v = .tuple #[.int .i64 (if withinB v then v else 0), .bool (withinB v)] := by
  unfold partV
  cases withinB v <;> rfl
/-- Part, its answer in two names. -/
theorem refpart_two (n num den : Int) (up : Bool) (hn : -1152921504606846976 ≤ n ∧ n ≤ 1152921504606846976) (hm : -1152921504606846976 ≤ num ∧ num ≤ 1152921504606846976) (hden : -1152921504606846976 ≤ den ∧ den ≤ 1152921504606846976) (h0 : den ≠ 0) :
    ∃ (p : Int) (k : Bool), withinB (partS n num den up) = k ∧ (k = true → p = partS n num den up) ∧
      ∀ w : World, Calls Try.prog 29 #[.int .i64 n, .int .i64 num, .int .i64 den, .bool up] w fun e w' => e = .returned (.tuple #[.int .i64 p, .bool k]) ∧ Below w.heap.size w w' := by
  refine ⟨_, _, rfl, ?_, fun w => by have := refpart_any n num den up hn hm hden h0 w; rw [partV_eq] at this; exact this⟩
  intro h
  rw [if_pos h]

theorem reffloor_any (n d : Int) (hn : -1152921504606846976 ≤ n ∧ n ≤ 1152921504606846976) (hd : -1152921504606846976 ≤ d ∧ d ≤ 1152921504606846976) (h0 : d ≠ 0) (w : World) :
    Calls Try.prog 30 #[.int .i64 n, .int .i64 d] w fun e w' => e = .returned (.int .i64 (dnS n 1 d)) ∧ Below w.heap.size w w' := by
  obtain ⟨p, k, hk, hp, hc⟩ := refpart_two n 1 d false hn (by omega) hd h0
  have ho := of_one hn h0
  unfold okS at ho
  rw [Bool.and_eq_true] at ho
  have e : p = dnS n 1 d := hp (by rw [← hk]; exact ho.1)
  rw [← e]
  have HC := Lib.hid hc
  clear hc ho hk hp e
  go_enter Try.func30, Try.ntmps30
  go_wp2_with fail
  refine (HC.out _).mono ?_
  rintro e v1 ⟨rfl, hb⟩
  go_wp2_with fail
  go_ret
  exact ⟨rfl, (by repeat (first | with_reducible exact Below.refl _ _ | with_reducible refine below_al ?_ _ | with_reducible refine below_drew ?_ | with_reducible refine below_drewN ?_ _ | with_reducible refine below_set ?_ (by dsimp only; omega) _ | with_reducible refine below_then ?_ hb))⟩

theorem refceil_any (n d : Int) (hn : -1152921504606846976 ≤ n ∧ n ≤ 1152921504606846976) (hd : -1152921504606846976 ≤ d ∧ d ≤ 1152921504606846976) (h0 : d ≠ 0) (w : World) :
    Calls Try.prog 31 #[.int .i64 n, .int .i64 d] w fun e w' => e = .returned (.int .i64 (upS n 1 d)) ∧ Below w.heap.size w w' := by
  obtain ⟨p, k, hk, hp, hc⟩ := refpart_two n 1 d true hn (by omega) hd h0
  have ho := of_one hn h0
  unfold okS at ho
  rw [Bool.and_eq_true] at ho
  have e : p = upS n 1 d := hp (by rw [← hk]; exact ho.2)
  rw [← e]
  have HC := Lib.hid hc
  clear hc ho hk hp e
  go_enter Try.func31, Try.ntmps31
  go_wp2_with fail
  refine (HC.out _).mono ?_
  rintro e v1 ⟨rfl, hb⟩
  go_wp2_with fail
  go_ret
  exact ⟨rfl, (by repeat (first | with_reducible exact Below.refl _ _ | with_reducible refine below_al ?_ _ | with_reducible refine below_drew ?_ | with_reducible refine below_drewN ?_ _ | with_reducible refine below_set ?_ (by dsimp only; omega) _ | with_reducible refine below_then ?_ hb))⟩

/-- Two quotients: the hull, by least and greatest. -/
theorem hull2_eq {a b c d e f : Int} (h : (withinB (dnS a b c) && withinB (upS a b c) && (withinB (dnS d e f) && withinB (upS d e f))) = true) :
    hullS [(a, b, c), (d, e, f)] = fitS (minI (dnS a b c) (dnS d e f)) (maxI (upS a b c) (upS d e f)) := by
  have h' := h
  simp only [Bool.and_eq_true, withinB_iff] at h'
  have e1 : hullLo [(a, b, c), (d, e, f)] = minI (dnS a b c) (dnS d e f) := by
    simp only [hullLo, List.foldl_cons, List.foldl_nil]; unfold minI; (repeat' split) <;> omega
  have e2 : hullHi [(a, b, c), (d, e, f)] = maxI (upS a b c) (upS d e f) := by
    simp only [hullHi, List.foldl_cons, List.foldl_nil]; unfold maxI; (repeat' split) <;> omega
  have e3 : hullOk [(a, b, c), (d, e, f)] = true := by simp [hullOk, okS]; simpa [and_assoc] using h
  unfold hullS
  rw [if_pos e3, e1, e2, fitS_yes]
  · rw [withinB_iff]; unfold minI; split <;> omega
  · rw [withinB_iff]; unfold maxI; split <;> omega
theorem hull2_no {a b c d e f : Int} (h : (withinB (dnS a b c) && withinB (upS a b c) && (withinB (dnS d e f) && withinB (upS d e f))) = false) :
    hullS [(a, b, c), (d, e, f)] = (0, 0, 5) := by
  unfold hullS
  rw [if_neg]
  rw [Bool.not_eq_true]
  simpa [hullOk, okS] using h
theorem hull1_eq {a b c : Int} (h : (withinB (dnS a b c) && withinB (upS a b c)) = true) : hullS [(a, b, c)] = (dnS a b c, upS a b c, 0) := by
  have h' := h
  simp only [Bool.and_eq_true, withinB_iff] at h'
  have e1 : hullLo [(a, b, c)] = dnS a b c := by simp only [hullLo, List.foldl_cons, List.foldl_nil]; unfold minI; split <;> omega
  have e2 : hullHi [(a, b, c)] = upS a b c := by simp only [hullHi, List.foldl_cons, List.foldl_nil]; unfold maxI; split <;> omega
  unfold hullS
  rw [if_pos (by simpa [hullOk, okS] using h), e1, e2]
theorem hull1_no {a b c : Int} (h : (withinB (dnS a b c) && withinB (upS a b c)) = false) : hullS [(a, b, c)] = (0, 0, 5) := by
  unfold hullS
  rw [if_neg]
  rw [Bool.not_eq_true]
  simpa [hullOk, okS] using h
theorem dn_le_up (a b c : Int) : dnS a b c ≤ upS a b c := by
  have := qU_le a b c
  unfold dnS upS
  split <;> omega

set_option maxHeartbeats 2000000 in
theorem reftim_any (al ah num den : Int) (h1 : validB al ah = true) (w : World) :
    Calls Try.prog 21 #[sp al ah, .int .i64 num, .int .i64 den] w fun e w' => e = .returned (spv (timS al ah num den)) ∧ Below w.heap.size w w' := by
  by_cases hd : den = 0
  · rw [show timS al ah num den = (0, 0, 16) from by simp [timS, h1, hd]]
    subst hd
    go_enter Try.func21, Try.ntmps21
    go_wp2_with fail
    exact bodyPost_ret (v := spv (0, 0, 16)) (by simp [results, Try.results21, go_sem]) rfl ⟨rfl, (by repeat (first | with_reducible exact Below.refl _ _ | with_reducible refine below_al ?_ _ | with_reducible refine below_drew ?_ | with_reducible refine below_drewN ?_ _))⟩
  · have hd' : (den == 0) = false := by simpa using hd
    by_cases c1 : num < -1152921504606846976
    · rw [show timS al ah num den = (0, 0, 2) from by simp [timS, h1, hd, withinB]; omega]
      clear hd
      go_enter Try.func21, Try.ntmps21
      go_wp2_with fail
      exact bodyPost_ret (v := spv (0, 0, 2)) (by simp [results, Try.results21, go_sem]) rfl ⟨rfl, (by repeat (first | with_reducible exact Below.refl _ _ | with_reducible refine below_al ?_ _ | with_reducible refine below_drew ?_ | with_reducible refine below_drewN ?_ _))⟩
    · by_cases c2 : 1152921504606846976 < num
      · rw [show timS al ah num den = (0, 0, 2) from by simp [timS, h1, hd, withinB]; omega]
        clear hd
        go_enter Try.func21, Try.ntmps21
        go_wp2_with fail
        exact bodyPost_ret (v := spv (0, 0, 2)) (by simp [results, Try.results21, go_sem]) rfl ⟨rfl, (by repeat (first | with_reducible exact Below.refl _ _ | with_reducible refine below_al ?_ _ | with_reducible refine below_drew ?_ | with_reducible refine below_drewN ?_ _))⟩
      · by_cases c3 : den < -1152921504606846976
        · rw [show timS al ah num den = (0, 0, 2) from by simp [timS, h1, hd, withinB]; omega]
          clear hd
          go_enter Try.func21, Try.ntmps21
          go_wp2_with fail
          exact bodyPost_ret (v := spv (0, 0, 2)) (by simp [results, Try.results21, go_sem]) rfl ⟨rfl, (by repeat (first | with_reducible exact Below.refl _ _ | with_reducible refine below_al ?_ _ | with_reducible refine below_drew ?_ | with_reducible refine below_drewN ?_ _))⟩
        · by_cases c4 : 1152921504606846976 < den
          · rw [show timS al ah num den = (0, 0, 2) from by simp [timS, h1, hd, withinB]; omega]
            clear hd
            go_enter Try.func21, Try.ntmps21
            go_wp2_with fail
            exact bodyPost_ret (v := spv (0, 0, 2)) (by simp [results, Try.results21, go_sem]) rfl ⟨rfl, (by repeat (first | with_reducible exact Below.refl _ _ | with_reducible refine below_al ?_ _ | with_reducible refine below_drew ?_ | with_reducible refine below_drewN ?_ _))⟩
          · have hw1 : withinB num = true := withinB_iff.2 (by omega)
            have hw2 : withinB den = true := withinB_iff.2 (by omega)
            rw [show timS al ah num den = hullS [(al, num, den), (ah, num, den)] from by simp [timS, h1, hd, hw1, hw2, timL]]
            rw [withinB_iff] at hw1 hw2
            rw [validB_iff] at h1
            obtain ⟨p1, k1, e1, g1, K1⟩ := refpart_two al num den false (by omega) hw1 hw2 hd
            obtain ⟨p2, k2, e2, g2, K2⟩ := refpart_two al num den true (by omega) hw1 hw2 hd
            obtain ⟨p3, k3, e3, g3, K3⟩ := refpart_two ah num den false (by omega) hw1 hw2 hd
            obtain ⟨p4, k4, e4, g4, K4⟩ := refpart_two ah num den true (by omega) hw1 hw2 hd
            rw [show partS al num den false = dnS al num den from rfl] at e1 g1
            rw [show partS al num den true = upS al num den from rfl] at e2 g2
            rw [show partS ah num den false = dnS ah num den from rfl] at e3 g3
            rw [show partS ah num den true = upS ah num den from rfl] at e4 g4
            have C1 := Lib.hid K1
            have C2 := Lib.hid K2
            have C3 := Lib.hid K3
            have C4 := Lib.hid K4
            have o1 := dn_le_up al num den
            clear hd K1 K2 K3 K4
            cases hk : (k1 && k2 && (k3 && k4))
            · rw [hull2_no (by rw [e1, e2, e3, e4]; exact hk)]
              clear e1 e2 e3 e4 g1 g2 g3 g4 o1
              cases k1
              · clear hk
                go_enter Try.func21, Try.ntmps21
                go_wp2_with fail
                refine (C1.out _).mono ?_
                rintro e v1 ⟨rfl, hb1⟩
                have k_a : At v1 (w.heap.size) 23 #[.int .i64 al, .int .i64 ah] := At.bel (by (repeat (first | (with_reducible apply At.new'; (focus (simp; done))) | with_reducible apply At.al | with_reducible apply At.drw | with_reducible apply At.dr))) hb1
                have k_r : At v1 (w.heap.size + 1) 23 #[.int .i64 0, .int .i64 0] := At.bel (by (repeat (first | (with_reducible apply At.new'; (focus (simp; done))) | with_reducible apply At.al | with_reducible apply At.drw | with_reducible apply At.dr))) hb1
                have HB : Below w.heap.size w v1 := below_then (by repeat (first | with_reducible assumption | with_reducible exact Below.refl _ _ | with_reducible refine below_al ?_ _ | with_reducible refine below_drew ?_ | with_reducible refine below_drewN ?_ _ | with_reducible refine below_set ?_ (by dsimp only; omega) _)) hb1
                clear hb1
                have Lk_a := k_a.lt
                obtain ⟨k_a0, k_a1, k_a2, k_a3⟩ := k_a.two
                have Lk_r := k_r.lt
                obtain ⟨k_r0, k_r1, k_r2, k_r3⟩ := k_r.two
                go_wp2_with fail
                refine (C2.out _).mono ?_
                rintro e v2 ⟨rfl, hb2⟩
                clear k_a0 k_a1 k_a2 k_a3 Lk_a k_r0 k_r1 k_r2 k_r3 Lk_r
                replace k_a : At v2 (w.heap.size) 23 #[.int .i64 al, .int .i64 ah] := At.bel (by repeat (first | with_reducible assumption | with_reducible apply At.put0 | with_reducible apply At.put1 | with_reducible refine At.far ?_ (by dsimp only; omega) _ | with_reducible apply At.al | with_reducible apply At.drw | with_reducible apply At.dr)) hb2
                replace k_r : At v2 (w.heap.size + 1) 23 #[.int .i64 0, .int .i64 0] := At.bel (by repeat (first | with_reducible assumption | with_reducible apply At.put0 | with_reducible apply At.put1 | with_reducible refine At.far ?_ (by dsimp only; omega) _ | with_reducible apply At.al | with_reducible apply At.drw | with_reducible apply At.dr)) hb2
                replace HB : Below w.heap.size w v2 := below_then (by repeat (first | with_reducible assumption | with_reducible exact Below.refl _ _ | with_reducible refine below_al ?_ _ | with_reducible refine below_drew ?_ | with_reducible refine below_drewN ?_ _ | with_reducible refine below_set ?_ (by dsimp only; omega) _)) hb2
                clear hb2
                have Lk_a := k_a.lt
                obtain ⟨k_a0, k_a1, k_a2, k_a3⟩ := k_a.two
                have Lk_r := k_r.lt
                obtain ⟨k_r0, k_r1, k_r2, k_r3⟩ := k_r.two
                go_wp2_with fail
                refine (C3.out _).mono ?_
                rintro e v3 ⟨rfl, hb3⟩
                clear k_a0 k_a1 k_a2 k_a3 Lk_a k_r0 k_r1 k_r2 k_r3 Lk_r
                replace k_a : At v3 (w.heap.size) 23 #[.int .i64 al, .int .i64 ah] := At.bel (by repeat (first | with_reducible assumption | with_reducible apply At.put0 | with_reducible apply At.put1 | with_reducible refine At.far ?_ (by dsimp only; omega) _ | with_reducible apply At.al | with_reducible apply At.drw | with_reducible apply At.dr)) hb3
                replace k_r : At v3 (w.heap.size + 1) 23 #[.int .i64 0, .int .i64 0] := At.bel (by repeat (first | with_reducible assumption | with_reducible apply At.put0 | with_reducible apply At.put1 | with_reducible refine At.far ?_ (by dsimp only; omega) _ | with_reducible apply At.al | with_reducible apply At.drw | with_reducible apply At.dr)) hb3
                replace HB : Below w.heap.size w v3 := below_then (by repeat (first | with_reducible assumption | with_reducible exact Below.refl _ _ | with_reducible refine below_al ?_ _ | with_reducible refine below_drew ?_ | with_reducible refine below_drewN ?_ _ | with_reducible refine below_set ?_ (by dsimp only; omega) _)) hb3
                clear hb3
                have Lk_a := k_a.lt
                obtain ⟨k_a0, k_a1, k_a2, k_a3⟩ := k_a.two
                have Lk_r := k_r.lt
                obtain ⟨k_r0, k_r1, k_r2, k_r3⟩ := k_r.two
                go_wp2_with fail
                refine (C4.out _).mono ?_
                rintro e v4 ⟨rfl, hb4⟩
                clear k_a0 k_a1 k_a2 k_a3 Lk_a k_r0 k_r1 k_r2 k_r3 Lk_r
                replace k_a : At v4 (w.heap.size) 23 #[.int .i64 al, .int .i64 ah] := At.bel (by repeat (first | with_reducible assumption | with_reducible apply At.put0 | with_reducible apply At.put1 | with_reducible refine At.far ?_ (by dsimp only; omega) _ | with_reducible apply At.al | with_reducible apply At.drw | with_reducible apply At.dr)) hb4
                replace k_r : At v4 (w.heap.size + 1) 23 #[.int .i64 0, .int .i64 0] := At.bel (by repeat (first | with_reducible assumption | with_reducible apply At.put0 | with_reducible apply At.put1 | with_reducible refine At.far ?_ (by dsimp only; omega) _ | with_reducible apply At.al | with_reducible apply At.drw | with_reducible apply At.dr)) hb4
                replace HB : Below w.heap.size w v4 := below_then (by repeat (first | with_reducible assumption | with_reducible exact Below.refl _ _ | with_reducible refine below_al ?_ _ | with_reducible refine below_drew ?_ | with_reducible refine below_drewN ?_ _ | with_reducible refine below_set ?_ (by dsimp only; omega) _)) hb4
                clear hb4
                have Lk_a := k_a.lt
                obtain ⟨k_a0, k_a1, k_a2, k_a3⟩ := k_a.two
                have Lk_r := k_r.lt
                obtain ⟨k_r0, k_r1, k_r2, k_r3⟩ := k_r.two
                go_wp2_with fail
                exact bodyPost_ret (v := spv (0, 0, 5)) (by simp [results, Try.results21, go_sem, k_r0, k_r1]) rfl ⟨rfl, (by repeat (first | with_reducible assumption | with_reducible exact Below.refl _ _ | with_reducible refine below_al ?_ _ | with_reducible refine below_drew ?_ | with_reducible refine below_drewN ?_ _ | with_reducible refine below_set ?_ (by dsimp only; omega) _))⟩
              · cases k2
                · clear hk
                  go_enter Try.func21, Try.ntmps21
                  go_wp2_with fail
                  refine (C1.out _).mono ?_
                  rintro e v1 ⟨rfl, hb1⟩
                  have k_a : At v1 (w.heap.size) 23 #[.int .i64 al, .int .i64 ah] := At.bel (by (repeat (first | (with_reducible apply At.new'; (focus (simp; done))) | with_reducible apply At.al | with_reducible apply At.drw | with_reducible apply At.dr))) hb1
                  have k_r : At v1 (w.heap.size + 1) 23 #[.int .i64 0, .int .i64 0] := At.bel (by (repeat (first | (with_reducible apply At.new'; (focus (simp; done))) | with_reducible apply At.al | with_reducible apply At.drw | with_reducible apply At.dr))) hb1
                  have HB : Below w.heap.size w v1 := below_then (by repeat (first | with_reducible assumption | with_reducible exact Below.refl _ _ | with_reducible refine below_al ?_ _ | with_reducible refine below_drew ?_ | with_reducible refine below_drewN ?_ _ | with_reducible refine below_set ?_ (by dsimp only; omega) _)) hb1
                  clear hb1
                  have Lk_a := k_a.lt
                  obtain ⟨k_a0, k_a1, k_a2, k_a3⟩ := k_a.two
                  have Lk_r := k_r.lt
                  obtain ⟨k_r0, k_r1, k_r2, k_r3⟩ := k_r.two
                  go_wp2_with fail
                  refine (C2.out _).mono ?_
                  rintro e v2 ⟨rfl, hb2⟩
                  clear k_a0 k_a1 k_a2 k_a3 Lk_a k_r0 k_r1 k_r2 k_r3 Lk_r
                  replace k_a : At v2 (w.heap.size) 23 #[.int .i64 al, .int .i64 ah] := At.bel (by repeat (first | with_reducible assumption | with_reducible apply At.put0 | with_reducible apply At.put1 | with_reducible refine At.far ?_ (by dsimp only; omega) _ | with_reducible apply At.al | with_reducible apply At.drw | with_reducible apply At.dr)) hb2
                  replace k_r : At v2 (w.heap.size + 1) 23 #[.int .i64 0, .int .i64 0] := At.bel (by repeat (first | with_reducible assumption | with_reducible apply At.put0 | with_reducible apply At.put1 | with_reducible refine At.far ?_ (by dsimp only; omega) _ | with_reducible apply At.al | with_reducible apply At.drw | with_reducible apply At.dr)) hb2
                  replace HB : Below w.heap.size w v2 := below_then (by repeat (first | with_reducible assumption | with_reducible exact Below.refl _ _ | with_reducible refine below_al ?_ _ | with_reducible refine below_drew ?_ | with_reducible refine below_drewN ?_ _ | with_reducible refine below_set ?_ (by dsimp only; omega) _)) hb2
                  clear hb2
                  have Lk_a := k_a.lt
                  obtain ⟨k_a0, k_a1, k_a2, k_a3⟩ := k_a.two
                  have Lk_r := k_r.lt
                  obtain ⟨k_r0, k_r1, k_r2, k_r3⟩ := k_r.two
                  go_wp2_with fail
                  refine (C3.out _).mono ?_
                  rintro e v3 ⟨rfl, hb3⟩
                  clear k_a0 k_a1 k_a2 k_a3 Lk_a k_r0 k_r1 k_r2 k_r3 Lk_r
                  replace k_a : At v3 (w.heap.size) 23 #[.int .i64 al, .int .i64 ah] := At.bel (by repeat (first | with_reducible assumption | with_reducible apply At.put0 | with_reducible apply At.put1 | with_reducible refine At.far ?_ (by dsimp only; omega) _ | with_reducible apply At.al | with_reducible apply At.drw | with_reducible apply At.dr)) hb3
                  replace k_r : At v3 (w.heap.size + 1) 23 #[.int .i64 0, .int .i64 0] := At.bel (by repeat (first | with_reducible assumption | with_reducible apply At.put0 | with_reducible apply At.put1 | with_reducible refine At.far ?_ (by dsimp only; omega) _ | with_reducible apply At.al | with_reducible apply At.drw | with_reducible apply At.dr)) hb3
                  replace HB : Below w.heap.size w v3 := below_then (by repeat (first | with_reducible assumption | with_reducible exact Below.refl _ _ | with_reducible refine below_al ?_ _ | with_reducible refine below_drew ?_ | with_reducible refine below_drewN ?_ _ | with_reducible refine below_set ?_ (by dsimp only; omega) _)) hb3
                  clear hb3
                  have Lk_a := k_a.lt
                  obtain ⟨k_a0, k_a1, k_a2, k_a3⟩ := k_a.two
                  have Lk_r := k_r.lt
                  obtain ⟨k_r0, k_r1, k_r2, k_r3⟩ := k_r.two
                  go_wp2_with fail
                  refine (C4.out _).mono ?_
                  rintro e v4 ⟨rfl, hb4⟩
                  clear k_a0 k_a1 k_a2 k_a3 Lk_a k_r0 k_r1 k_r2 k_r3 Lk_r
                  replace k_a : At v4 (w.heap.size) 23 #[.int .i64 al, .int .i64 ah] := At.bel (by repeat (first | with_reducible assumption | with_reducible apply At.put0 | with_reducible apply At.put1 | with_reducible refine At.far ?_ (by dsimp only; omega) _ | with_reducible apply At.al | with_reducible apply At.drw | with_reducible apply At.dr)) hb4
                  replace k_r : At v4 (w.heap.size + 1) 23 #[.int .i64 0, .int .i64 0] := At.bel (by repeat (first | with_reducible assumption | with_reducible apply At.put0 | with_reducible apply At.put1 | with_reducible refine At.far ?_ (by dsimp only; omega) _ | with_reducible apply At.al | with_reducible apply At.drw | with_reducible apply At.dr)) hb4
                  replace HB : Below w.heap.size w v4 := below_then (by repeat (first | with_reducible assumption | with_reducible exact Below.refl _ _ | with_reducible refine below_al ?_ _ | with_reducible refine below_drew ?_ | with_reducible refine below_drewN ?_ _ | with_reducible refine below_set ?_ (by dsimp only; omega) _)) hb4
                  clear hb4
                  have Lk_a := k_a.lt
                  obtain ⟨k_a0, k_a1, k_a2, k_a3⟩ := k_a.two
                  have Lk_r := k_r.lt
                  obtain ⟨k_r0, k_r1, k_r2, k_r3⟩ := k_r.two
                  go_wp2_with fail
                  exact bodyPost_ret (v := spv (0, 0, 5)) (by simp [results, Try.results21, go_sem, k_r0, k_r1]) rfl ⟨rfl, (by repeat (first | with_reducible assumption | with_reducible exact Below.refl _ _ | with_reducible refine below_al ?_ _ | with_reducible refine below_drew ?_ | with_reducible refine below_drewN ?_ _ | with_reducible refine below_set ?_ (by dsimp only; omega) _))⟩
                · cases k3
                  · clear hk
                    go_enter Try.func21, Try.ntmps21
                    go_wp2_with fail
                    refine (C1.out _).mono ?_
                    rintro e v1 ⟨rfl, hb1⟩
                    have k_a : At v1 (w.heap.size) 23 #[.int .i64 al, .int .i64 ah] := At.bel (by (repeat (first | (with_reducible apply At.new'; (focus (simp; done))) | with_reducible apply At.al | with_reducible apply At.drw | with_reducible apply At.dr))) hb1
                    have k_r : At v1 (w.heap.size + 1) 23 #[.int .i64 0, .int .i64 0] := At.bel (by (repeat (first | (with_reducible apply At.new'; (focus (simp; done))) | with_reducible apply At.al | with_reducible apply At.drw | with_reducible apply At.dr))) hb1
                    have HB : Below w.heap.size w v1 := below_then (by repeat (first | with_reducible assumption | with_reducible exact Below.refl _ _ | with_reducible refine below_al ?_ _ | with_reducible refine below_drew ?_ | with_reducible refine below_drewN ?_ _ | with_reducible refine below_set ?_ (by dsimp only; omega) _)) hb1
                    clear hb1
                    have Lk_a := k_a.lt
                    obtain ⟨k_a0, k_a1, k_a2, k_a3⟩ := k_a.two
                    have Lk_r := k_r.lt
                    obtain ⟨k_r0, k_r1, k_r2, k_r3⟩ := k_r.two
                    go_wp2_with fail
                    refine (C2.out _).mono ?_
                    rintro e v2 ⟨rfl, hb2⟩
                    clear k_a0 k_a1 k_a2 k_a3 Lk_a k_r0 k_r1 k_r2 k_r3 Lk_r
                    replace k_a : At v2 (w.heap.size) 23 #[.int .i64 al, .int .i64 ah] := At.bel (by repeat (first | with_reducible assumption | with_reducible apply At.put0 | with_reducible apply At.put1 | with_reducible refine At.far ?_ (by dsimp only; omega) _ | with_reducible apply At.al | with_reducible apply At.drw | with_reducible apply At.dr)) hb2
                    replace k_r : At v2 (w.heap.size + 1) 23 #[.int .i64 0, .int .i64 0] := At.bel (by repeat (first | with_reducible assumption | with_reducible apply At.put0 | with_reducible apply At.put1 | with_reducible refine At.far ?_ (by dsimp only; omega) _ | with_reducible apply At.al | with_reducible apply At.drw | with_reducible apply At.dr)) hb2
                    replace HB : Below w.heap.size w v2 := below_then (by repeat (first | with_reducible assumption | with_reducible exact Below.refl _ _ | with_reducible refine below_al ?_ _ | with_reducible refine below_drew ?_ | with_reducible refine below_drewN ?_ _ | with_reducible refine below_set ?_ (by dsimp only; omega) _)) hb2
                    clear hb2
                    have Lk_a := k_a.lt
                    obtain ⟨k_a0, k_a1, k_a2, k_a3⟩ := k_a.two
                    have Lk_r := k_r.lt
                    obtain ⟨k_r0, k_r1, k_r2, k_r3⟩ := k_r.two
                    go_wp2_with fail
                    refine (C3.out _).mono ?_
                    rintro e v3 ⟨rfl, hb3⟩
                    clear k_a0 k_a1 k_a2 k_a3 Lk_a k_r0 k_r1 k_r2 k_r3 Lk_r
                    replace k_a : At v3 (w.heap.size) 23 #[.int .i64 al, .int .i64 ah] := At.bel (by repeat (first | with_reducible assumption | with_reducible apply At.put0 | with_reducible apply At.put1 | with_reducible refine At.far ?_ (by dsimp only; omega) _ | with_reducible apply At.al | with_reducible apply At.drw | with_reducible apply At.dr)) hb3
                    replace k_r : At v3 (w.heap.size + 1) 23 #[.int .i64 0, .int .i64 0] := At.bel (by repeat (first | with_reducible assumption | with_reducible apply At.put0 | with_reducible apply At.put1 | with_reducible refine At.far ?_ (by dsimp only; omega) _ | with_reducible apply At.al | with_reducible apply At.drw | with_reducible apply At.dr)) hb3
                    replace HB : Below w.heap.size w v3 := below_then (by repeat (first | with_reducible assumption | with_reducible exact Below.refl _ _ | with_reducible refine below_al ?_ _ | with_reducible refine below_drew ?_ | with_reducible refine below_drewN ?_ _ | with_reducible refine below_set ?_ (by dsimp only; omega) _)) hb3
                    clear hb3
                    have Lk_a := k_a.lt
                    obtain ⟨k_a0, k_a1, k_a2, k_a3⟩ := k_a.two
                    have Lk_r := k_r.lt
                    obtain ⟨k_r0, k_r1, k_r2, k_r3⟩ := k_r.two
                    go_wp2_with fail
                    refine (C4.out _).mono ?_
                    rintro e v4 ⟨rfl, hb4⟩
                    clear k_a0 k_a1 k_a2 k_a3 Lk_a k_r0 k_r1 k_r2 k_r3 Lk_r
                    replace k_a : At v4 (w.heap.size) 23 #[.int .i64 al, .int .i64 ah] := At.bel (by repeat (first | with_reducible assumption | with_reducible apply At.put0 | with_reducible apply At.put1 | with_reducible refine At.far ?_ (by dsimp only; omega) _ | with_reducible apply At.al | with_reducible apply At.drw | with_reducible apply At.dr)) hb4
                    replace k_r : At v4 (w.heap.size + 1) 23 #[.int .i64 0, .int .i64 0] := At.bel (by repeat (first | with_reducible assumption | with_reducible apply At.put0 | with_reducible apply At.put1 | with_reducible refine At.far ?_ (by dsimp only; omega) _ | with_reducible apply At.al | with_reducible apply At.drw | with_reducible apply At.dr)) hb4
                    replace HB : Below w.heap.size w v4 := below_then (by repeat (first | with_reducible assumption | with_reducible exact Below.refl _ _ | with_reducible refine below_al ?_ _ | with_reducible refine below_drew ?_ | with_reducible refine below_drewN ?_ _ | with_reducible refine below_set ?_ (by dsimp only; omega) _)) hb4
                    clear hb4
                    have Lk_a := k_a.lt
                    obtain ⟨k_a0, k_a1, k_a2, k_a3⟩ := k_a.two
                    have Lk_r := k_r.lt
                    obtain ⟨k_r0, k_r1, k_r2, k_r3⟩ := k_r.two
                    go_wp2_with fail
                    exact bodyPost_ret (v := spv (0, 0, 5)) (by simp [results, Try.results21, go_sem, k_r0, k_r1]) rfl ⟨rfl, (by repeat (first | with_reducible assumption | with_reducible exact Below.refl _ _ | with_reducible refine below_al ?_ _ | with_reducible refine below_drew ?_ | with_reducible refine below_drewN ?_ _ | with_reducible refine below_set ?_ (by dsimp only; omega) _))⟩
                  · cases k4
                    · clear hk
                      go_enter Try.func21, Try.ntmps21
                      go_wp2_with fail
                      refine (C1.out _).mono ?_
                      rintro e v1 ⟨rfl, hb1⟩
                      have k_a : At v1 (w.heap.size) 23 #[.int .i64 al, .int .i64 ah] := At.bel (by (repeat (first | (with_reducible apply At.new'; (focus (simp; done))) | with_reducible apply At.al | with_reducible apply At.drw | with_reducible apply At.dr))) hb1
                      have k_r : At v1 (w.heap.size + 1) 23 #[.int .i64 0, .int .i64 0] := At.bel (by (repeat (first | (with_reducible apply At.new'; (focus (simp; done))) | with_reducible apply At.al | with_reducible apply At.drw | with_reducible apply At.dr))) hb1
                      have HB : Below w.heap.size w v1 := below_then (by repeat (first | with_reducible assumption | with_reducible exact Below.refl _ _ | with_reducible refine below_al ?_ _ | with_reducible refine below_drew ?_ | with_reducible refine below_drewN ?_ _ | with_reducible refine below_set ?_ (by dsimp only; omega) _)) hb1
                      clear hb1
                      have Lk_a := k_a.lt
                      obtain ⟨k_a0, k_a1, k_a2, k_a3⟩ := k_a.two
                      have Lk_r := k_r.lt
                      obtain ⟨k_r0, k_r1, k_r2, k_r3⟩ := k_r.two
                      go_wp2_with fail
                      refine (C2.out _).mono ?_
                      rintro e v2 ⟨rfl, hb2⟩
                      clear k_a0 k_a1 k_a2 k_a3 Lk_a k_r0 k_r1 k_r2 k_r3 Lk_r
                      replace k_a : At v2 (w.heap.size) 23 #[.int .i64 al, .int .i64 ah] := At.bel (by repeat (first | with_reducible assumption | with_reducible apply At.put0 | with_reducible apply At.put1 | with_reducible refine At.far ?_ (by dsimp only; omega) _ | with_reducible apply At.al | with_reducible apply At.drw | with_reducible apply At.dr)) hb2
                      replace k_r : At v2 (w.heap.size + 1) 23 #[.int .i64 0, .int .i64 0] := At.bel (by repeat (first | with_reducible assumption | with_reducible apply At.put0 | with_reducible apply At.put1 | with_reducible refine At.far ?_ (by dsimp only; omega) _ | with_reducible apply At.al | with_reducible apply At.drw | with_reducible apply At.dr)) hb2
                      replace HB : Below w.heap.size w v2 := below_then (by repeat (first | with_reducible assumption | with_reducible exact Below.refl _ _ | with_reducible refine below_al ?_ _ | with_reducible refine below_drew ?_ | with_reducible refine below_drewN ?_ _ | with_reducible refine below_set ?_ (by dsimp only; omega) _)) hb2
                      clear hb2
                      have Lk_a := k_a.lt
                      obtain ⟨k_a0, k_a1, k_a2, k_a3⟩ := k_a.two
                      have Lk_r := k_r.lt
                      obtain ⟨k_r0, k_r1, k_r2, k_r3⟩ := k_r.two
                      go_wp2_with fail
                      refine (C3.out _).mono ?_
                      rintro e v3 ⟨rfl, hb3⟩
                      clear k_a0 k_a1 k_a2 k_a3 Lk_a k_r0 k_r1 k_r2 k_r3 Lk_r
                      replace k_a : At v3 (w.heap.size) 23 #[.int .i64 al, .int .i64 ah] := At.bel (by repeat (first | with_reducible assumption | with_reducible apply At.put0 | with_reducible apply At.put1 | with_reducible refine At.far ?_ (by dsimp only; omega) _ | with_reducible apply At.al | with_reducible apply At.drw | with_reducible apply At.dr)) hb3
                      replace k_r : At v3 (w.heap.size + 1) 23 #[.int .i64 0, .int .i64 0] := At.bel (by repeat (first | with_reducible assumption | with_reducible apply At.put0 | with_reducible apply At.put1 | with_reducible refine At.far ?_ (by dsimp only; omega) _ | with_reducible apply At.al | with_reducible apply At.drw | with_reducible apply At.dr)) hb3
                      replace HB : Below w.heap.size w v3 := below_then (by repeat (first | with_reducible assumption | with_reducible exact Below.refl _ _ | with_reducible refine below_al ?_ _ | with_reducible refine below_drew ?_ | with_reducible refine below_drewN ?_ _ | with_reducible refine below_set ?_ (by dsimp only; omega) _)) hb3
                      clear hb3
                      have Lk_a := k_a.lt
                      obtain ⟨k_a0, k_a1, k_a2, k_a3⟩ := k_a.two
                      have Lk_r := k_r.lt
                      obtain ⟨k_r0, k_r1, k_r2, k_r3⟩ := k_r.two
                      go_wp2_with fail
                      refine (C4.out _).mono ?_
                      rintro e v4 ⟨rfl, hb4⟩
                      clear k_a0 k_a1 k_a2 k_a3 Lk_a k_r0 k_r1 k_r2 k_r3 Lk_r
                      replace k_a : At v4 (w.heap.size) 23 #[.int .i64 al, .int .i64 ah] := At.bel (by repeat (first | with_reducible assumption | with_reducible apply At.put0 | with_reducible apply At.put1 | with_reducible refine At.far ?_ (by dsimp only; omega) _ | with_reducible apply At.al | with_reducible apply At.drw | with_reducible apply At.dr)) hb4
                      replace k_r : At v4 (w.heap.size + 1) 23 #[.int .i64 0, .int .i64 0] := At.bel (by repeat (first | with_reducible assumption | with_reducible apply At.put0 | with_reducible apply At.put1 | with_reducible refine At.far ?_ (by dsimp only; omega) _ | with_reducible apply At.al | with_reducible apply At.drw | with_reducible apply At.dr)) hb4
                      replace HB : Below w.heap.size w v4 := below_then (by repeat (first | with_reducible assumption | with_reducible exact Below.refl _ _ | with_reducible refine below_al ?_ _ | with_reducible refine below_drew ?_ | with_reducible refine below_drewN ?_ _ | with_reducible refine below_set ?_ (by dsimp only; omega) _)) hb4
                      clear hb4
                      have Lk_a := k_a.lt
                      obtain ⟨k_a0, k_a1, k_a2, k_a3⟩ := k_a.two
                      have Lk_r := k_r.lt
                      obtain ⟨k_r0, k_r1, k_r2, k_r3⟩ := k_r.two
                      go_wp2_with fail
                      exact bodyPost_ret (v := spv (0, 0, 5)) (by simp [results, Try.results21, go_sem, k_r0, k_r1]) rfl ⟨rfl, (by repeat (first | with_reducible assumption | with_reducible exact Below.refl _ _ | with_reducible refine below_al ?_ _ | with_reducible refine below_drew ?_ | with_reducible refine below_drewN ?_ _ | with_reducible refine below_set ?_ (by dsimp only; omega) _))⟩
                    · cases hk
            · rw [hull2_eq (by rw [e1, e2, e3, e4]; exact hk)]
              simp only [Bool.and_eq_true] at hk
              obtain ⟨⟨q1, q2⟩, q3, q4⟩ := hk
              rw [← g1 q1, ← g2 q2, ← g3 q3, ← g4 q4]
              have hle : minI p1 p3 ≤ maxI p2 p4 := by
                rw [g1 q1, g2 q2]
                unfold minI maxI
                (repeat' split) <;> omega
              have HF := Lib.hid (fun w => reffits_any (minI p1 p3) (maxI p2 p4) hle w)
              subst q1 q2 q3 q4
              clear e1 e2 e3 e4 g1 g2 g3 g4 o1 hle
              generalize fitS (minI p1 p3) (maxI p2 p4) = x at *
              go_enter Try.func21, Try.ntmps21
              go_wp2_with fail
              refine (C1.out _).mono ?_
              rintro e v1 ⟨rfl, hb1⟩
              have k_a : At v1 (w.heap.size) 23 #[.int .i64 al, .int .i64 ah] := At.bel (by (repeat (first | (with_reducible apply At.new'; (focus (simp; done))) | with_reducible apply At.al | with_reducible apply At.drw | with_reducible apply At.dr))) hb1
              have k_r : At v1 (w.heap.size + 1) 23 #[.int .i64 0, .int .i64 0] := At.bel (by (repeat (first | (with_reducible apply At.new'; (focus (simp; done))) | with_reducible apply At.al | with_reducible apply At.drw | with_reducible apply At.dr))) hb1
              have HB : Below w.heap.size w v1 := below_then (by repeat (first | with_reducible assumption | with_reducible exact Below.refl _ _ | with_reducible refine below_al ?_ _ | with_reducible refine below_drew ?_ | with_reducible refine below_drewN ?_ _ | with_reducible refine below_set ?_ (by dsimp only; omega) _)) hb1
              clear hb1
              have Lk_a := k_a.lt
              obtain ⟨k_a0, k_a1, k_a2, k_a3⟩ := k_a.two
              have Lk_r := k_r.lt
              obtain ⟨k_r0, k_r1, k_r2, k_r3⟩ := k_r.two
              go_wp2_with fail
              refine (C2.out _).mono ?_
              rintro e v2 ⟨rfl, hb2⟩
              clear k_a0 k_a1 k_a2 k_a3 Lk_a k_r0 k_r1 k_r2 k_r3 Lk_r
              replace k_a : At v2 (w.heap.size) 23 #[.int .i64 al, .int .i64 ah] := At.bel (by repeat (first | with_reducible assumption | with_reducible apply At.put0 | with_reducible apply At.put1 | with_reducible refine At.far ?_ (by dsimp only; omega) _ | with_reducible apply At.al | with_reducible apply At.drw | with_reducible apply At.dr)) hb2
              replace k_r : At v2 (w.heap.size + 1) 23 #[.int .i64 0, .int .i64 0] := At.bel (by repeat (first | with_reducible assumption | with_reducible apply At.put0 | with_reducible apply At.put1 | with_reducible refine At.far ?_ (by dsimp only; omega) _ | with_reducible apply At.al | with_reducible apply At.drw | with_reducible apply At.dr)) hb2
              replace HB : Below w.heap.size w v2 := below_then (by repeat (first | with_reducible assumption | with_reducible exact Below.refl _ _ | with_reducible refine below_al ?_ _ | with_reducible refine below_drew ?_ | with_reducible refine below_drewN ?_ _ | with_reducible refine below_set ?_ (by dsimp only; omega) _)) hb2
              clear hb2
              have Lk_a := k_a.lt
              obtain ⟨k_a0, k_a1, k_a2, k_a3⟩ := k_a.two
              have Lk_r := k_r.lt
              obtain ⟨k_r0, k_r1, k_r2, k_r3⟩ := k_r.two
              go_wp2_with fail
              refine (C3.out _).mono ?_
              rintro e v3 ⟨rfl, hb3⟩
              clear k_a0 k_a1 k_a2 k_a3 Lk_a k_r0 k_r1 k_r2 k_r3 Lk_r
              replace k_a : At v3 (w.heap.size) 23 #[.int .i64 al, .int .i64 ah] := At.bel (by repeat (first | with_reducible assumption | with_reducible apply At.put0 | with_reducible apply At.put1 | with_reducible refine At.far ?_ (by dsimp only; omega) _ | with_reducible apply At.al | with_reducible apply At.drw | with_reducible apply At.dr)) hb3
              replace k_r : At v3 (w.heap.size + 1) 23 #[.int .i64 0, .int .i64 0] := At.bel (by repeat (first | with_reducible assumption | with_reducible apply At.put0 | with_reducible apply At.put1 | with_reducible refine At.far ?_ (by dsimp only; omega) _ | with_reducible apply At.al | with_reducible apply At.drw | with_reducible apply At.dr)) hb3
              replace HB : Below w.heap.size w v3 := below_then (by repeat (first | with_reducible assumption | with_reducible exact Below.refl _ _ | with_reducible refine below_al ?_ _ | with_reducible refine below_drew ?_ | with_reducible refine below_drewN ?_ _ | with_reducible refine below_set ?_ (by dsimp only; omega) _)) hb3
              clear hb3
              have Lk_a := k_a.lt
              obtain ⟨k_a0, k_a1, k_a2, k_a3⟩ := k_a.two
              have Lk_r := k_r.lt
              obtain ⟨k_r0, k_r1, k_r2, k_r3⟩ := k_r.two
              go_wp2_with fail
              refine (C4.out _).mono ?_
              rintro e v4 ⟨rfl, hb4⟩
              clear k_a0 k_a1 k_a2 k_a3 Lk_a k_r0 k_r1 k_r2 k_r3 Lk_r
              replace k_a : At v4 (w.heap.size) 23 #[.int .i64 al, .int .i64 ah] := At.bel (by repeat (first | with_reducible assumption | with_reducible apply At.put0 | with_reducible apply At.put1 | with_reducible refine At.far ?_ (by dsimp only; omega) _ | with_reducible apply At.al | with_reducible apply At.drw | with_reducible apply At.dr)) hb4
              replace k_r : At v4 (w.heap.size + 1) 23 #[.int .i64 0, .int .i64 0] := At.bel (by repeat (first | with_reducible assumption | with_reducible apply At.put0 | with_reducible apply At.put1 | with_reducible refine At.far ?_ (by dsimp only; omega) _ | with_reducible apply At.al | with_reducible apply At.drw | with_reducible apply At.dr)) hb4
              replace HB : Below w.heap.size w v4 := below_then (by repeat (first | with_reducible assumption | with_reducible exact Below.refl _ _ | with_reducible refine below_al ?_ _ | with_reducible refine below_drew ?_ | with_reducible refine below_drewN ?_ _ | with_reducible refine below_set ?_ (by dsimp only; omega) _)) hb4
              clear hb4
              have Lk_a := k_a.lt
              obtain ⟨k_a0, k_a1, k_a2, k_a3⟩ := k_a.two
              have Lk_r := k_r.lt
              obtain ⟨k_r0, k_r1, k_r2, k_r3⟩ := k_r.two
              go_wp2_with fail
              clear k_a0 k_a1 k_a2 k_a3 Lk_a
              refine (least2 p1 p3 _ _ ?_).mono ?_
              focus
                (repeat (first | (with_reducible apply At.new'; (focus (simp; done))) | with_reducible apply At.al | with_reducible apply At.drw | with_reducible apply At.dr))
              rintro e w' ⟨rfl, rfl⟩
              go_wp2_with fail
              refine (greatest2 p2 p4 _ _ ?_).mono ?_
              focus
                (repeat (first | (with_reducible apply At.new'; (focus (simp; done))) | with_reducible apply At.al | with_reducible apply At.drw | with_reducible apply At.dr))
              rintro e w' ⟨rfl, rfl⟩
              go_wp2_with fail
              refine (HF.out _).mono ?_
              rintro e v5 ⟨rfl, hb5⟩
              clear k_r0 k_r1 k_r2 k_r3 Lk_r
              replace k_a : At v5 (w.heap.size) 23 #[.int .i64 al, .int .i64 ah] := At.bel (by repeat (first | with_reducible assumption | with_reducible apply At.put0 | with_reducible apply At.put1 | with_reducible refine At.far ?_ (by dsimp only; omega) _ | with_reducible apply At.al | with_reducible apply At.drw | with_reducible apply At.dr)) hb5
              replace k_r : At v5 (w.heap.size + 1) 23 #[.int .i64 0, .int .i64 0] := At.bel (by repeat (first | with_reducible assumption | with_reducible apply At.put0 | with_reducible apply At.put1 | with_reducible refine At.far ?_ (by dsimp only; omega) _ | with_reducible apply At.al | with_reducible apply At.drw | with_reducible apply At.dr)) hb5
              replace HB : Below w.heap.size w v5 := below_then (by repeat (first | with_reducible assumption | with_reducible exact Below.refl _ _ | with_reducible refine below_al ?_ _ | with_reducible refine below_drew ?_ | with_reducible refine below_drewN ?_ _ | with_reducible refine below_set ?_ (by dsimp only; omega) _)) hb5
              clear hb5
              have Lk_r := k_r.lt
              obtain ⟨k_r0, k_r1, k_r2, k_r3⟩ := k_r.two
              go_wp2_with fail
              exact bodyPost_ret (v := spv x) (by simp [results, Try.results21, go_sem, k_r0, k_r1]) rfl ⟨rfl, (by repeat (first | with_reducible assumption | with_reducible exact Below.refl _ _ | with_reducible refine below_al ?_ _ | with_reducible refine below_drew ?_ | with_reducible refine below_drewN ?_ _ | with_reducible refine below_set ?_ (by dsimp only; omega) _))⟩

set_option maxHeartbeats 2000000 in
theorem refof_any (num den unit : Int) (h1 : fracB num den = true) (w : World) :
    Calls Try.prog 24 #[.agg #[.int .i64 num, .int .i64 den], .int .i64 unit] w fun e w' => e = .returned (spv (ofS num den unit)) ∧ Below w.heap.size w w' := by
  by_cases h2 : unit < 1
  · rw [show ofS num den unit = (0, 0, 2) from by simp [ofS, h1]; omega]
    go_enter Try.func24, Try.ntmps24
    go_wp2_with fail
    exact bodyPost_ret (v := spv (0, 0, 2)) (by simp [results, Try.results24, go_sem]) rfl ⟨rfl, (by repeat (first | with_reducible exact Below.refl _ _ | with_reducible refine below_al ?_ _ | with_reducible refine below_drew ?_ | with_reducible refine below_drewN ?_ _))⟩
  · by_cases h3 : 1099511627776 < unit
    · rw [show ofS num den unit = (0, 0, 2) from by simp [ofS, h1]; omega]
      go_enter Try.func24, Try.ntmps24
      go_wp2_with fail
      exact bodyPost_ret (v := spv (0, 0, 2)) (by simp [results, Try.results24, go_sem]) rfl ⟨rfl, (by repeat (first | with_reducible exact Below.refl _ _ | with_reducible refine below_al ?_ _ | with_reducible refine below_drew ?_ | with_reducible refine below_drewN ?_ _))⟩
    · rw [show ofS num den unit = hullS [(num, unit, den)] from by simp [ofS, h1, ofL]; omega]
      rw [fracB_iff] at h1
      obtain ⟨p1, k1, e1, g1, K1⟩ := refpart_two num unit den false (by omega) (by omega) (by omega) (by omega)
      obtain ⟨p2, k2, e2, g2, K2⟩ := refpart_two num unit den true (by omega) (by omega) (by omega) (by omega)
      rw [show partS num unit den false = dnS num unit den from rfl] at e1 g1
      rw [show partS num unit den true = upS num unit den from rfl] at e2 g2
      have C1 := Lib.hid K1
      have C2 := Lib.hid K2
      clear K1 K2 h1
      have t2 : decide (unit < 1) = false := decide_eq_false h2
      have t3 : decide (1099511627776 < unit) = false := decide_eq_false h3
      cases hk : (k1 && k2)
      · rw [hull1_no (by rw [e1, e2]; exact hk)]
        clear e1 e2 g1 g2
        cases k1
        · clear hk
          go_enter Try.func24, Try.ntmps24
          go_wp2_with fail
          refine (C1.out _).mono ?_
          rintro e v1 ⟨rfl, hb1⟩
          have k_a : At v1 (w.heap.size) 34 #[.int .i64 num, .int .i64 den] := At.bel (by (repeat (first | (with_reducible apply At.new'; (focus (simp; done))) | with_reducible apply At.al | with_reducible apply At.drw | with_reducible apply At.dr))) hb1
          have k_r : At v1 (w.heap.size + 1) 23 #[.int .i64 0, .int .i64 0] := At.bel (by (repeat (first | (with_reducible apply At.new'; (focus (simp; done))) | with_reducible apply At.al | with_reducible apply At.drw | with_reducible apply At.dr))) hb1
          have HB : Below w.heap.size w v1 := below_then (by repeat (first | with_reducible assumption | with_reducible exact Below.refl _ _ | with_reducible refine below_al ?_ _ | with_reducible refine below_drew ?_ | with_reducible refine below_drewN ?_ _ | with_reducible refine below_set ?_ (by dsimp only; omega) _)) hb1
          clear hb1
          have Lk_a := k_a.lt
          obtain ⟨k_a0, k_a1, k_a2, k_a3⟩ := k_a.two
          have Lk_r := k_r.lt
          obtain ⟨k_r0, k_r1, k_r2, k_r3⟩ := k_r.two
          go_wp2_with fail
          refine (C2.out _).mono ?_
          rintro e v2 ⟨rfl, hb2⟩
          clear k_a0 k_a1 k_a2 k_a3 Lk_a k_r0 k_r1 k_r2 k_r3 Lk_r
          replace k_a : At v2 (w.heap.size) 34 #[.int .i64 num, .int .i64 den] := At.bel (by repeat (first | with_reducible assumption | with_reducible apply At.put0 | with_reducible apply At.put1 | with_reducible refine At.far ?_ (by dsimp only; omega) _ | with_reducible apply At.al | with_reducible apply At.drw | with_reducible apply At.dr)) hb2
          replace k_r : At v2 (w.heap.size + 1) 23 #[.int .i64 0, .int .i64 0] := At.bel (by repeat (first | with_reducible assumption | with_reducible apply At.put0 | with_reducible apply At.put1 | with_reducible refine At.far ?_ (by dsimp only; omega) _ | with_reducible apply At.al | with_reducible apply At.drw | with_reducible apply At.dr)) hb2
          replace HB : Below w.heap.size w v2 := below_then (by repeat (first | with_reducible assumption | with_reducible exact Below.refl _ _ | with_reducible refine below_al ?_ _ | with_reducible refine below_drew ?_ | with_reducible refine below_drewN ?_ _ | with_reducible refine below_set ?_ (by dsimp only; omega) _)) hb2
          clear hb2
          have Lk_a := k_a.lt
          obtain ⟨k_a0, k_a1, k_a2, k_a3⟩ := k_a.two
          have Lk_r := k_r.lt
          obtain ⟨k_r0, k_r1, k_r2, k_r3⟩ := k_r.two
          go_wp2_with fail
          exact bodyPost_ret (v := spv (0, 0, 5)) (by simp [results, Try.results24, go_sem, k_r0, k_r1]) rfl ⟨rfl, (by repeat (first | with_reducible assumption | with_reducible exact Below.refl _ _ | with_reducible refine below_al ?_ _ | with_reducible refine below_drew ?_ | with_reducible refine below_drewN ?_ _ | with_reducible refine below_set ?_ (by dsimp only; omega) _))⟩
        · cases k2
          · clear hk
            go_enter Try.func24, Try.ntmps24
            go_wp2_with fail
            refine (C1.out _).mono ?_
            rintro e v1 ⟨rfl, hb1⟩
            have k_a : At v1 (w.heap.size) 34 #[.int .i64 num, .int .i64 den] := At.bel (by (repeat (first | (with_reducible apply At.new'; (focus (simp; done))) | with_reducible apply At.al | with_reducible apply At.drw | with_reducible apply At.dr))) hb1
            have k_r : At v1 (w.heap.size + 1) 23 #[.int .i64 0, .int .i64 0] := At.bel (by (repeat (first | (with_reducible apply At.new'; (focus (simp; done))) | with_reducible apply At.al | with_reducible apply At.drw | with_reducible apply At.dr))) hb1
            have HB : Below w.heap.size w v1 := below_then (by repeat (first | with_reducible assumption | with_reducible exact Below.refl _ _ | with_reducible refine below_al ?_ _ | with_reducible refine below_drew ?_ | with_reducible refine below_drewN ?_ _ | with_reducible refine below_set ?_ (by dsimp only; omega) _)) hb1
            clear hb1
            have Lk_a := k_a.lt
            obtain ⟨k_a0, k_a1, k_a2, k_a3⟩ := k_a.two
            have Lk_r := k_r.lt
            obtain ⟨k_r0, k_r1, k_r2, k_r3⟩ := k_r.two
            go_wp2_with fail
            refine (C2.out _).mono ?_
            rintro e v2 ⟨rfl, hb2⟩
            clear k_a0 k_a1 k_a2 k_a3 Lk_a k_r0 k_r1 k_r2 k_r3 Lk_r
            replace k_a : At v2 (w.heap.size) 34 #[.int .i64 num, .int .i64 den] := At.bel (by repeat (first | with_reducible assumption | with_reducible apply At.put0 | with_reducible apply At.put1 | with_reducible refine At.far ?_ (by dsimp only; omega) _ | with_reducible apply At.al | with_reducible apply At.drw | with_reducible apply At.dr)) hb2
            replace k_r : At v2 (w.heap.size + 1) 23 #[.int .i64 0, .int .i64 0] := At.bel (by repeat (first | with_reducible assumption | with_reducible apply At.put0 | with_reducible apply At.put1 | with_reducible refine At.far ?_ (by dsimp only; omega) _ | with_reducible apply At.al | with_reducible apply At.drw | with_reducible apply At.dr)) hb2
            replace HB : Below w.heap.size w v2 := below_then (by repeat (first | with_reducible assumption | with_reducible exact Below.refl _ _ | with_reducible refine below_al ?_ _ | with_reducible refine below_drew ?_ | with_reducible refine below_drewN ?_ _ | with_reducible refine below_set ?_ (by dsimp only; omega) _)) hb2
            clear hb2
            have Lk_a := k_a.lt
            obtain ⟨k_a0, k_a1, k_a2, k_a3⟩ := k_a.two
            have Lk_r := k_r.lt
            obtain ⟨k_r0, k_r1, k_r2, k_r3⟩ := k_r.two
            go_wp2_with fail
            exact bodyPost_ret (v := spv (0, 0, 5)) (by simp [results, Try.results24, go_sem, k_r0, k_r1]) rfl ⟨rfl, (by repeat (first | with_reducible assumption | with_reducible exact Below.refl _ _ | with_reducible refine below_al ?_ _ | with_reducible refine below_drew ?_ | with_reducible refine below_drewN ?_ _ | with_reducible refine below_set ?_ (by dsimp only; omega) _))⟩
          · cases hk
      · rw [hull1_eq (by rw [e1, e2]; exact hk)]
        simp only [Bool.and_eq_true] at hk
        obtain ⟨q1, q2⟩ := hk
        rw [← g1 q1, ← g2 q2]
        subst q1 q2
        clear e1 e2 g1 g2
        go_enter Try.func24, Try.ntmps24
        go_wp2_with fail
        refine (C1.out _).mono ?_
        rintro e v1 ⟨rfl, hb1⟩
        have k_a : At v1 (w.heap.size) 34 #[.int .i64 num, .int .i64 den] := At.bel (by (repeat (first | (with_reducible apply At.new'; (focus (simp; done))) | with_reducible apply At.al | with_reducible apply At.drw | with_reducible apply At.dr))) hb1
        have k_r : At v1 (w.heap.size + 1) 23 #[.int .i64 0, .int .i64 0] := At.bel (by (repeat (first | (with_reducible apply At.new'; (focus (simp; done))) | with_reducible apply At.al | with_reducible apply At.drw | with_reducible apply At.dr))) hb1
        have HB : Below w.heap.size w v1 := below_then (by repeat (first | with_reducible assumption | with_reducible exact Below.refl _ _ | with_reducible refine below_al ?_ _ | with_reducible refine below_drew ?_ | with_reducible refine below_drewN ?_ _ | with_reducible refine below_set ?_ (by dsimp only; omega) _)) hb1
        clear hb1
        have Lk_a := k_a.lt
        obtain ⟨k_a0, k_a1, k_a2, k_a3⟩ := k_a.two
        have Lk_r := k_r.lt
        obtain ⟨k_r0, k_r1, k_r2, k_r3⟩ := k_r.two
        go_wp2_with fail
        refine (C2.out _).mono ?_
        rintro e v2 ⟨rfl, hb2⟩
        clear k_a0 k_a1 k_a2 k_a3 Lk_a k_r0 k_r1 k_r2 k_r3 Lk_r
        replace k_a : At v2 (w.heap.size) 34 #[.int .i64 num, .int .i64 den] := At.bel (by repeat (first | with_reducible assumption | with_reducible apply At.put0 | with_reducible apply At.put1 | with_reducible refine At.far ?_ (by dsimp only; omega) _ | with_reducible apply At.al | with_reducible apply At.drw | with_reducible apply At.dr)) hb2
        replace k_r : At v2 (w.heap.size + 1) 23 #[.int .i64 0, .int .i64 0] := At.bel (by repeat (first | with_reducible assumption | with_reducible apply At.put0 | with_reducible apply At.put1 | with_reducible refine At.far ?_ (by dsimp only; omega) _ | with_reducible apply At.al | with_reducible apply At.drw | with_reducible apply At.dr)) hb2
        replace HB : Below w.heap.size w v2 := below_then (by repeat (first | with_reducible assumption | with_reducible exact Below.refl _ _ | with_reducible refine below_al ?_ _ | with_reducible refine below_drew ?_ | with_reducible refine below_drewN ?_ _ | with_reducible refine below_set ?_ (by dsimp only; omega) _)) hb2
        clear hb2
        have Lk_a := k_a.lt
        obtain ⟨k_a0, k_a1, k_a2, k_a3⟩ := k_a.two
        have Lk_r := k_r.lt
        obtain ⟨k_r0, k_r1, k_r2, k_r3⟩ := k_r.two
        go_wp2_with fail
        exact bodyPost_ret (v := spv (p1, p2, 0)) (by simp [results, Try.results24, go_sem, k_r0, k_r1]) rfl ⟨rfl, (by repeat (first | with_reducible assumption | with_reducible exact Below.refl _ _ | with_reducible refine below_al ?_ _ | with_reducible refine below_drew ?_ | with_reducible refine below_drewN ?_ _ | with_reducible refine below_set ?_ (by dsimp only; omega) _))⟩

#print axioms refof_any

end Go.Proofs.Ytgipfmleefojbaa
