/- SpanFractions' walk: it returns true. -/
import Derived.Test.YtgipfmleefojbaaAw
import Derived.Test.YtgipfmleefojbaaOrs
import Derived.Test.YtgipfmleefojbaaIns
import Derived.Test.YtgipfmleefojbaaReg
import Derived.Test.YtgipfmleefojbaaFv
import Derived.Test.YtgipfmleefojbaaRaMul
import Derived.Deep.DeepCutAuto
import Derived.Deep.CutBlock
set_option linter.unusedVariables false
namespace Go.Proofs.Ytgipfmleefojbaa
open Go.ChangeShapes Go.WideShapes Go.ChangeAt Go.RowKit

set_option maxRecDepth 100000 in
set_option maxHeartbeats 8000000 in
theorem fractions_core (fn fd u s1 s2 P D fs l1 h1 m1 m2 hh : Int) (bu1 : 1 ≤ u) (bu2 : u ≤ 1099511627776) (b1 : -1152921504606846976 ≤ s1) (b2 : s1 ≤ s2) (b3 : s2 ≤ s1 + 1) (b4 : s2 ≤ 1152921504606846976)
    (HV : Hid (∀ w, Calls Try.prog 23 #[.agg #[.int .i64 fn, .int .i64 fd]] w fun e w' => e = .returned (.bool true) ∧ Below w.heap.size w w'))
    (HS : Hid (∀ w, Calls Try.prog 20 #[.agg #[.int .i64 fn, .int .i64 fd], .int .i64 u] w fun e w' => e = .returned (spv (s1, s2, 0)) ∧ Below w.heap.size w w'))
    (HM : Hid (∀ w, Calls Try.prog 42 #[.agg #[.int .i64 fn, .int .i64 fd], .agg #[.int .i64 u, .int .i64 1]] w fun e w' => e = .returned (frv (P, D, fs)) ∧ Below w.heap.size w w'))
    (HF : Hid (fs = 0 ∧ (∀ w, Calls Try.prog 43 #[.agg #[.int .i64 P, .int .i64 D]] w fun e w' => e = .returned (.tuple #[.int .i64 s1, .int .i64 0]) ∧ Below w.heap.size w w') ∧ (∀ w, Calls Try.prog 44 #[.agg #[.int .i64 P, .int .i64 D]] w fun e w' => e = .returned (.tuple #[.int .i64 s2, .int .i64 0]) ∧ Below w.heap.size w w') ∧ (∀ w, Calls Try.prog 32 #[.int .i64 s1, .int .i64 s2] w fun e w' => e = .returned (sp s1 s2) ∧ Below w.heap.size w w') ∧ ((((D : Int) == 1) = true ∧ (s1 == s2) = true) ∨ (((D : Int) == 1) = false ∧ (s1 == s2) = false)) ∨ fs = 5))
    (H1 : Hid (∀ w, Calls Try.prog 20 #[.agg #[.int .i64 fn, .int .i64 fd], .int .i64 1] w fun e w' => e = .returned (spv (l1, h1, 0)) ∧ Below w.heap.size w w'))
    (HU : Hid (∀ w, Calls Try.prog 32 #[.int .i64 u, .int .i64 u] w fun e w' => e = .returned (sp u u) ∧ Below w.heap.size w w'))
    (HMul : Hid (∀ w, Calls Try.prog 12 #[sp l1 h1, sp u u] w fun e w' => e = .returned (spv (m1, m2, hh)) ∧ Below w.heap.size w w'))
    (HT : Hid (∀ w, Calls Try.prog 18 #[sp l1 h1, .int .i64 u, .int .i64 1] w fun e w' => e = .returned (spv (m1, m2, hh)) ∧ Below w.heap.size w w'))
    (HI : Hid (hh = 0 ∧ (∀ w, Calls Try.prog 34 #[sp s1 s2, sp m1 m2] w fun e w' => e = .returned (.bool true) ∧ Below w.heap.size w w') ∨ hh = 5)) (w : World) :
    Calls Try.prog 10 #[.agg #[.int .i64 fn, .int .i64 fd], .int .i64 u] w fun e w' => e = .returned (.bool true) ∧ Below w.heap.size w w' := by
  go_enter Try.func10, Try.ntmps10
  go_wp2_with fail
  refine (awake_any _).mono ?_
  rintro e v1 ⟨rfl, hb1⟩
  have k_n : At v1 (w.heap.size) 34 #[.int .i64 fn, .int .i64 fd] := At.bel (by (repeat (first | (with_reducible apply At.new'; (focus (simp; done))) | with_reducible apply At.al | with_reducible apply At.drw | with_reducible apply At.dr))) hb1
  have HB : Below w.heap.size w v1 := below_then (by repeat (first | with_reducible assumption | with_reducible exact Below.refl _ _ | with_reducible refine below_al ?_ _ | with_reducible refine below_drew ?_ | with_reducible refine below_drewN ?_ _ | with_reducible refine below_set ?_ (by dsimp only; omega) _)) hb1
  clear hb1
  have Lk_n := k_n.lt
  obtain ⟨k_n0, k_n1, k_n2, k_n3⟩ := k_n.two
  go_wp2_with fail
  refine (HV.out _).mono ?_
  rintro e v2 ⟨rfl, hb2⟩
  clear k_n0 k_n1 k_n2 k_n3 Lk_n
  replace k_n : At v2 (w.heap.size) 34 #[.int .i64 fn, .int .i64 fd] := At.bel (by repeat (first | with_reducible assumption | with_reducible apply At.put0 | with_reducible apply At.put1 | with_reducible refine At.far ?_ (by dsimp only; omega) _ | with_reducible apply At.al | with_reducible apply At.drw | with_reducible apply At.dr)) hb2
  replace HB : Below w.heap.size w v2 := below_then (by repeat (first | with_reducible assumption | with_reducible exact Below.refl _ _ | with_reducible refine below_al ?_ _ | with_reducible refine below_drew ?_ | with_reducible refine below_drewN ?_ _ | with_reducible refine below_set ?_ (by dsimp only; omega) _)) hb2
  clear hb2
  have Lk_n := k_n.lt
  obtain ⟨k_n0, k_n1, k_n2, k_n3⟩ := k_n.two
  go_wp2_with fail
  refine (HS.out _).mono ?_
  rintro e v3 ⟨rfl, hb3⟩
  clear k_n0 k_n1 k_n2 k_n3 Lk_n
  replace k_n : At v3 (w.heap.size) 34 #[.int .i64 fn, .int .i64 fd] := At.bel (by repeat (first | with_reducible assumption | with_reducible apply At.put0 | with_reducible apply At.put1 | with_reducible refine At.far ?_ (by dsimp only; omega) _ | with_reducible apply At.al | with_reducible apply At.drw | with_reducible apply At.dr)) hb3
  replace HB : Below w.heap.size w v3 := below_then (by repeat (first | with_reducible assumption | with_reducible exact Below.refl _ _ | with_reducible refine below_al ?_ _ | with_reducible refine below_drew ?_ | with_reducible refine below_drewN ?_ _ | with_reducible refine below_set ?_ (by dsimp only; omega) _)) hb3
  clear hb3
  have Lk_n := k_n.lt
  obtain ⟨k_n0, k_n1, k_n2, k_n3⟩ := k_n.two
  go_wp2_with fail
  refine (HM.out _).mono ?_
  rintro e v4 ⟨rfl, hb4⟩
  clear k_n0 k_n1 k_n2 k_n3 Lk_n
  replace k_n : At v4 (w.heap.size) 34 #[.int .i64 fn, .int .i64 fd] := At.bel (by repeat (first | with_reducible assumption | with_reducible apply At.put0 | with_reducible apply At.put1 | with_reducible refine At.far ?_ (by dsimp only; omega) _ | with_reducible apply At.al | with_reducible apply At.drw | with_reducible apply At.dr)) hb4
  have k_s : At v4 (v3.heap.size) 23 #[.int .i64 s1, .int .i64 s2] := At.bel (by (repeat (first | (with_reducible apply At.new'; (focus (simp; done))) | with_reducible apply At.al | with_reducible apply At.drw | with_reducible apply At.dr))) hb4
  replace HB : Below w.heap.size w v4 := below_then (by repeat (first | with_reducible assumption | with_reducible exact Below.refl _ _ | with_reducible refine below_al ?_ _ | with_reducible refine below_drew ?_ | with_reducible refine below_drewN ?_ _ | with_reducible refine below_set ?_ (by dsimp only; omega) _)) hb4
  clear hb4
  have Lk_n := k_n.lt
  obtain ⟨k_n0, k_n1, k_n2, k_n3⟩ := k_n.two
  clear k_n0 k_n1 k_n2 k_n3 Lk_n
  go_upto_if 46 with fail
  go_cut [] (fun  wc => Below w.heap.size w wc ∧ At wc (w.heap.size) 34 #[.int .i64 fn, .int .i64 fd] ∧ At wc (v3.heap.size) 23 #[.int .i64 s1, .int .i64 s2] ∧ At wc (v4.heap.size) 34 #[.int .i64 P, .int .i64 D])
  case first =>
    rcases HF.out with ⟨e0, hfl, hcl, hof, hd | hd⟩ | hf
    · subst e0
      have HFl := Lib.hid hfl
      have HCl := Lib.hid hcl
      have HOf := Lib.hid hof
      clear hfl hcl hof
      have esub : IntKind.i64.wrap (s2 - s1) = s2 - s1 := IntWalk.i64_in _ (by omega)
      have egt : decide ((1 : Int) < s2 - s1) = false := by simp; omega
      obtain ⟨eD, eS⟩ := hd
      go_wp2_with fail
      refine (HFl.out _).mono ?_
      rintro e v5 ⟨rfl, hb5⟩
      replace k_n : At v5 (w.heap.size) 34 #[.int .i64 fn, .int .i64 fd] := At.bel (by repeat (first | with_reducible assumption | with_reducible apply At.put0 | with_reducible apply At.put1 | with_reducible refine At.far ?_ (by dsimp only; omega) _ | with_reducible apply At.al | with_reducible apply At.drw | with_reducible apply At.dr)) hb5
      replace k_s : At v5 (v3.heap.size) 23 #[.int .i64 s1, .int .i64 s2] := At.bel (by repeat (first | with_reducible assumption | with_reducible apply At.put0 | with_reducible apply At.put1 | with_reducible refine At.far ?_ (by dsimp only; omega) _ | with_reducible apply At.al | with_reducible apply At.drw | with_reducible apply At.dr)) hb5
      have k_p : At v5 (v4.heap.size) 34 #[.int .i64 P, .int .i64 D] := At.bel (by (repeat (first | (with_reducible apply At.new'; (focus (simp; done))) | with_reducible apply At.al | with_reducible apply At.drw | with_reducible apply At.dr))) hb5
      replace HB : Below w.heap.size w v5 := below_then (by repeat (first | with_reducible assumption | with_reducible exact Below.refl _ _ | with_reducible refine below_al ?_ _ | with_reducible refine below_drew ?_ | with_reducible refine below_drewN ?_ _ | with_reducible refine below_set ?_ (by dsimp only; omega) _)) hb5
      clear hb5
      have Lk_p := k_p.lt
      obtain ⟨k_p0, k_p1, k_p2, k_p3⟩ := k_p.two
      have Lk_s := k_s.lt
      obtain ⟨k_s0, k_s1, k_s2, k_s3⟩ := k_s.two
      go_wp2_with fail
      refine (HCl.out _).mono ?_
      rintro e v6 ⟨rfl, hb6⟩
      clear k_p0 k_p1 k_p2 k_p3 Lk_p k_s0 k_s1 k_s2 k_s3 Lk_s
      replace k_n : At v6 (w.heap.size) 34 #[.int .i64 fn, .int .i64 fd] := At.bel (by repeat (first | with_reducible assumption | with_reducible apply At.put0 | with_reducible apply At.put1 | with_reducible refine At.far ?_ (by dsimp only; omega) _ | with_reducible apply At.al | with_reducible apply At.drw | with_reducible apply At.dr)) hb6
      replace k_s : At v6 (v3.heap.size) 23 #[.int .i64 s1, .int .i64 s2] := At.bel (by repeat (first | with_reducible assumption | with_reducible apply At.put0 | with_reducible apply At.put1 | with_reducible refine At.far ?_ (by dsimp only; omega) _ | with_reducible apply At.al | with_reducible apply At.drw | with_reducible apply At.dr)) hb6
      replace k_p : At v6 (v4.heap.size) 34 #[.int .i64 P, .int .i64 D] := At.bel (by repeat (first | with_reducible assumption | with_reducible apply At.put0 | with_reducible apply At.put1 | with_reducible refine At.far ?_ (by dsimp only; omega) _ | with_reducible apply At.al | with_reducible apply At.drw | with_reducible apply At.dr)) hb6
      replace HB : Below w.heap.size w v6 := below_then (by repeat (first | with_reducible assumption | with_reducible exact Below.refl _ _ | with_reducible refine below_al ?_ _ | with_reducible refine below_drew ?_ | with_reducible refine below_drewN ?_ _ | with_reducible refine below_set ?_ (by dsimp only; omega) _)) hb6
      clear hb6
      have Lk_p := k_p.lt
      obtain ⟨k_p0, k_p1, k_p2, k_p3⟩ := k_p.two
      have Lk_s := k_s.lt
      obtain ⟨k_s0, k_s1, k_s2, k_s3⟩ := k_s.two
      go_wp2_with fail
      clear k_p0 k_p1 k_p2 k_p3 Lk_p k_s0 k_s1 k_s2 k_s3 Lk_s
      have Kk_n0 := cell_regrown k_n.c0
      have Kk_n1 := cell_regrown k_n.c1
      have Kk_s0 := cell_regrown k_s.c0
      have Kk_s1 := cell_regrown k_s.c1
      have Kk_p0 := cell_regrown k_p.c0
      have Kk_p1 := cell_regrown k_p.c1
      refine wp_region_quiet_below (by kernel_rfl) (by kernel_rfl) ?_
      repeat (go_big_quiet_step ((first | with_reducible exact regrown_call HOf.out)))
      refine wpQuiet_nil ?_
      intro v7 hb7'
      have hb7 := below_of_regrown hb7'
      clear hb7' Kk_n0 Kk_n1 Kk_s0 Kk_s1 Kk_p0 Kk_p1
      replace k_n : At v7 (w.heap.size) 34 #[.int .i64 fn, .int .i64 fd] := At.bel (by repeat (first | with_reducible assumption | with_reducible apply At.put0 | with_reducible apply At.put1 | with_reducible refine At.far ?_ (by dsimp only; omega) _ | with_reducible apply At.al | with_reducible apply At.drw | with_reducible apply At.dr)) hb7
      replace k_s : At v7 (v3.heap.size) 23 #[.int .i64 s1, .int .i64 s2] := At.bel (by repeat (first | with_reducible assumption | with_reducible apply At.put0 | with_reducible apply At.put1 | with_reducible refine At.far ?_ (by dsimp only; omega) _ | with_reducible apply At.al | with_reducible apply At.drw | with_reducible apply At.dr)) hb7
      replace k_p : At v7 (v4.heap.size) 34 #[.int .i64 P, .int .i64 D] := At.bel (by repeat (first | with_reducible assumption | with_reducible apply At.put0 | with_reducible apply At.put1 | with_reducible refine At.far ?_ (by dsimp only; omega) _ | with_reducible apply At.al | with_reducible apply At.drw | with_reducible apply At.dr)) hb7
      replace HB : Below w.heap.size w v7 := below_then (by repeat (first | with_reducible assumption | with_reducible exact Below.refl _ _ | with_reducible refine below_al ?_ _ | with_reducible refine below_drew ?_ | with_reducible refine below_drewN ?_ _ | with_reducible refine below_set ?_ (by dsimp only; omega) _)) hb7
      clear hb7
      go_wp2_with fail
      go_meet
      exact ⟨(by repeat (first | with_reducible assumption | with_reducible exact Below.refl _ _ | with_reducible refine below_al ?_ _ | with_reducible refine below_drew ?_ | with_reducible refine below_drewN ?_ _ | with_reducible refine below_set ?_ (by dsimp only; omega) _)), (by repeat (first | with_reducible assumption | with_reducible apply At.put0 | with_reducible apply At.put1 | with_reducible refine At.far ?_ (by dsimp only; omega) _ | with_reducible apply At.al | with_reducible apply At.drw | with_reducible apply At.dr)), (by repeat (first | with_reducible assumption | with_reducible apply At.put0 | with_reducible apply At.put1 | with_reducible refine At.far ?_ (by dsimp only; omega) _ | with_reducible apply At.al | with_reducible apply At.drw | with_reducible apply At.dr)), (by repeat (first | with_reducible assumption | with_reducible apply At.put0 | with_reducible apply At.put1 | with_reducible refine At.far ?_ (by dsimp only; omega) _ | with_reducible apply At.al | with_reducible apply At.drw | with_reducible apply At.dr))⟩
    · subst e0
      have HFl := Lib.hid hfl
      have HCl := Lib.hid hcl
      have HOf := Lib.hid hof
      clear hfl hcl hof
      have esub : IntKind.i64.wrap (s2 - s1) = s2 - s1 := IntWalk.i64_in _ (by omega)
      have egt : decide ((1 : Int) < s2 - s1) = false := by simp; omega
      obtain ⟨eD, eS⟩ := hd
      go_wp2_with fail
      refine (HFl.out _).mono ?_
      rintro e v5 ⟨rfl, hb5⟩
      replace k_n : At v5 (w.heap.size) 34 #[.int .i64 fn, .int .i64 fd] := At.bel (by repeat (first | with_reducible assumption | with_reducible apply At.put0 | with_reducible apply At.put1 | with_reducible refine At.far ?_ (by dsimp only; omega) _ | with_reducible apply At.al | with_reducible apply At.drw | with_reducible apply At.dr)) hb5
      replace k_s : At v5 (v3.heap.size) 23 #[.int .i64 s1, .int .i64 s2] := At.bel (by repeat (first | with_reducible assumption | with_reducible apply At.put0 | with_reducible apply At.put1 | with_reducible refine At.far ?_ (by dsimp only; omega) _ | with_reducible apply At.al | with_reducible apply At.drw | with_reducible apply At.dr)) hb5
      have k_p : At v5 (v4.heap.size) 34 #[.int .i64 P, .int .i64 D] := At.bel (by (repeat (first | (with_reducible apply At.new'; (focus (simp; done))) | with_reducible apply At.al | with_reducible apply At.drw | with_reducible apply At.dr))) hb5
      replace HB : Below w.heap.size w v5 := below_then (by repeat (first | with_reducible assumption | with_reducible exact Below.refl _ _ | with_reducible refine below_al ?_ _ | with_reducible refine below_drew ?_ | with_reducible refine below_drewN ?_ _ | with_reducible refine below_set ?_ (by dsimp only; omega) _)) hb5
      clear hb5
      have Lk_p := k_p.lt
      obtain ⟨k_p0, k_p1, k_p2, k_p3⟩ := k_p.two
      have Lk_s := k_s.lt
      obtain ⟨k_s0, k_s1, k_s2, k_s3⟩ := k_s.two
      go_wp2_with fail
      refine (HCl.out _).mono ?_
      rintro e v6 ⟨rfl, hb6⟩
      clear k_p0 k_p1 k_p2 k_p3 Lk_p k_s0 k_s1 k_s2 k_s3 Lk_s
      replace k_n : At v6 (w.heap.size) 34 #[.int .i64 fn, .int .i64 fd] := At.bel (by repeat (first | with_reducible assumption | with_reducible apply At.put0 | with_reducible apply At.put1 | with_reducible refine At.far ?_ (by dsimp only; omega) _ | with_reducible apply At.al | with_reducible apply At.drw | with_reducible apply At.dr)) hb6
      replace k_s : At v6 (v3.heap.size) 23 #[.int .i64 s1, .int .i64 s2] := At.bel (by repeat (first | with_reducible assumption | with_reducible apply At.put0 | with_reducible apply At.put1 | with_reducible refine At.far ?_ (by dsimp only; omega) _ | with_reducible apply At.al | with_reducible apply At.drw | with_reducible apply At.dr)) hb6
      replace k_p : At v6 (v4.heap.size) 34 #[.int .i64 P, .int .i64 D] := At.bel (by repeat (first | with_reducible assumption | with_reducible apply At.put0 | with_reducible apply At.put1 | with_reducible refine At.far ?_ (by dsimp only; omega) _ | with_reducible apply At.al | with_reducible apply At.drw | with_reducible apply At.dr)) hb6
      replace HB : Below w.heap.size w v6 := below_then (by repeat (first | with_reducible assumption | with_reducible exact Below.refl _ _ | with_reducible refine below_al ?_ _ | with_reducible refine below_drew ?_ | with_reducible refine below_drewN ?_ _ | with_reducible refine below_set ?_ (by dsimp only; omega) _)) hb6
      clear hb6
      have Lk_p := k_p.lt
      obtain ⟨k_p0, k_p1, k_p2, k_p3⟩ := k_p.two
      have Lk_s := k_s.lt
      obtain ⟨k_s0, k_s1, k_s2, k_s3⟩ := k_s.two
      go_wp2_with fail
      clear k_p0 k_p1 k_p2 k_p3 Lk_p k_s0 k_s1 k_s2 k_s3 Lk_s
      have Kk_n0 := cell_regrown k_n.c0
      have Kk_n1 := cell_regrown k_n.c1
      have Kk_s0 := cell_regrown k_s.c0
      have Kk_s1 := cell_regrown k_s.c1
      have Kk_p0 := cell_regrown k_p.c0
      have Kk_p1 := cell_regrown k_p.c1
      refine wp_region_quiet_below (by kernel_rfl) (by kernel_rfl) ?_
      repeat (go_big_quiet_step ((first | with_reducible exact regrown_call HOf.out)))
      refine wpQuiet_nil ?_
      intro v7 hb7'
      have hb7 := below_of_regrown hb7'
      clear hb7' Kk_n0 Kk_n1 Kk_s0 Kk_s1 Kk_p0 Kk_p1
      replace k_n : At v7 (w.heap.size) 34 #[.int .i64 fn, .int .i64 fd] := At.bel (by repeat (first | with_reducible assumption | with_reducible apply At.put0 | with_reducible apply At.put1 | with_reducible refine At.far ?_ (by dsimp only; omega) _ | with_reducible apply At.al | with_reducible apply At.drw | with_reducible apply At.dr)) hb7
      replace k_s : At v7 (v3.heap.size) 23 #[.int .i64 s1, .int .i64 s2] := At.bel (by repeat (first | with_reducible assumption | with_reducible apply At.put0 | with_reducible apply At.put1 | with_reducible refine At.far ?_ (by dsimp only; omega) _ | with_reducible apply At.al | with_reducible apply At.drw | with_reducible apply At.dr)) hb7
      replace k_p : At v7 (v4.heap.size) 34 #[.int .i64 P, .int .i64 D] := At.bel (by repeat (first | with_reducible assumption | with_reducible apply At.put0 | with_reducible apply At.put1 | with_reducible refine At.far ?_ (by dsimp only; omega) _ | with_reducible apply At.al | with_reducible apply At.drw | with_reducible apply At.dr)) hb7
      replace HB : Below w.heap.size w v7 := below_then (by repeat (first | with_reducible assumption | with_reducible exact Below.refl _ _ | with_reducible refine below_al ?_ _ | with_reducible refine below_drew ?_ | with_reducible refine below_drewN ?_ _ | with_reducible refine below_set ?_ (by dsimp only; omega) _)) hb7
      clear hb7
      go_wp2_with fail
      go_meet
      exact ⟨(by repeat (first | with_reducible assumption | with_reducible exact Below.refl _ _ | with_reducible refine below_al ?_ _ | with_reducible refine below_drew ?_ | with_reducible refine below_drewN ?_ _ | with_reducible refine below_set ?_ (by dsimp only; omega) _)), (by repeat (first | with_reducible assumption | with_reducible apply At.put0 | with_reducible apply At.put1 | with_reducible refine At.far ?_ (by dsimp only; omega) _ | with_reducible apply At.al | with_reducible apply At.drw | with_reducible apply At.dr)), (by repeat (first | with_reducible assumption | with_reducible apply At.put0 | with_reducible apply At.put1 | with_reducible refine At.far ?_ (by dsimp only; omega) _ | with_reducible apply At.al | with_reducible apply At.drw | with_reducible apply At.dr)), (by repeat (first | with_reducible assumption | with_reducible apply At.put0 | with_reducible apply At.put1 | with_reducible refine At.far ?_ (by dsimp only; omega) _ | with_reducible apply At.al | with_reducible apply At.drw | with_reducible apply At.dr))⟩
    · subst hf
      go_wp2_with fail
      go_meet
      exact ⟨(by repeat (first | with_reducible assumption | with_reducible exact Below.refl _ _ | with_reducible refine below_al ?_ _ | with_reducible refine below_drew ?_ | with_reducible refine below_drewN ?_ _ | with_reducible refine below_set ?_ (by dsimp only; omega) _)), (by repeat (first | with_reducible assumption | with_reducible apply At.put0 | with_reducible apply At.put1 | with_reducible refine At.far ?_ (by dsimp only; omega) _ | with_reducible apply At.al | with_reducible apply At.drw | with_reducible apply At.dr)), (by repeat (first | with_reducible assumption | with_reducible apply At.put0 | with_reducible apply At.put1 | with_reducible refine At.far ?_ (by dsimp only; omega) _ | with_reducible apply At.al | with_reducible apply At.drw | with_reducible apply At.dr)), (by (repeat (first | (with_reducible apply At.new'; (focus (simp; done))) | with_reducible apply At.al | with_reducible apply At.drw | with_reducible apply At.dr)))⟩
  case rest =>
    clear k_n k_s
    clear HB
    obtain ⟨HB, k_n, k_s, k_p⟩ := hcut
    have Lk_n := k_n.lt
    obtain ⟨k_n0, k_n1, k_n2, k_n3⟩ := k_n.two
    go_wp2_with fail
    refine (H1.out _).mono ?_
    rintro e v5 ⟨rfl, hb5⟩
    clear k_n0 k_n1 k_n2 k_n3 Lk_n
    replace k_n : At v5 (w.heap.size) 34 #[.int .i64 fn, .int .i64 fd] := At.bel (by repeat (first | with_reducible assumption | with_reducible apply At.put0 | with_reducible apply At.put1 | with_reducible refine At.far ?_ (by dsimp only; omega) _ | with_reducible apply At.al | with_reducible apply At.drw | with_reducible apply At.dr)) hb5
    replace k_s : At v5 (v3.heap.size) 23 #[.int .i64 s1, .int .i64 s2] := At.bel (by repeat (first | with_reducible assumption | with_reducible apply At.put0 | with_reducible apply At.put1 | with_reducible refine At.far ?_ (by dsimp only; omega) _ | with_reducible apply At.al | with_reducible apply At.drw | with_reducible apply At.dr)) hb5
    replace k_p : At v5 (v4.heap.size) 34 #[.int .i64 P, .int .i64 D] := At.bel (by repeat (first | with_reducible assumption | with_reducible apply At.put0 | with_reducible apply At.put1 | with_reducible refine At.far ?_ (by dsimp only; omega) _ | with_reducible apply At.al | with_reducible apply At.drw | with_reducible apply At.dr)) hb5
    replace HB : Below w.heap.size w v5 := below_then (by repeat (first | with_reducible assumption | with_reducible exact Below.refl _ _ | with_reducible refine below_al ?_ _ | with_reducible refine below_drew ?_ | with_reducible refine below_drewN ?_ _ | with_reducible refine below_set ?_ (by dsimp only; omega) _)) hb5
    clear hb5
    have Lk_n := k_n.lt
    obtain ⟨k_n0, k_n1, k_n2, k_n3⟩ := k_n.two
    go_wp2_with fail
    clear k_n0 k_n1 k_n2 k_n3 Lk_n
    rcases HI.out with ⟨rfl, hin⟩ | rfl
    · have HIn := Lib.hid hin
      clear hin
      generalize hWW : World.alloc _ _ = WW
      replace k_n : At WW (w.heap.size) 34 #[.int .i64 fn, .int .i64 fd] := by rw [← hWW]; repeat (first | with_reducible assumption | with_reducible apply At.put0 | with_reducible apply At.put1 | with_reducible refine At.far ?_ (by dsimp only; omega) _ | with_reducible apply At.al | with_reducible apply At.drw | with_reducible apply At.dr)
      replace k_s : At WW (v3.heap.size) 23 #[.int .i64 s1, .int .i64 s2] := by rw [← hWW]; repeat (first | with_reducible assumption | with_reducible apply At.put0 | with_reducible apply At.put1 | with_reducible refine At.far ?_ (by dsimp only; omega) _ | with_reducible apply At.al | with_reducible apply At.drw | with_reducible apply At.dr)
      replace k_p : At WW (v4.heap.size) 34 #[.int .i64 P, .int .i64 D] := by rw [← hWW]; repeat (first | with_reducible assumption | with_reducible apply At.put0 | with_reducible apply At.put1 | with_reducible refine At.far ?_ (by dsimp only; omega) _ | with_reducible apply At.al | with_reducible apply At.drw | with_reducible apply At.dr)
      have k_o : At WW (v5.heap.size) 23 #[.int .i64 l1, .int .i64 h1] := by rw [← hWW]; (repeat (first | (with_reducible apply At.new'; (focus (simp; done))) | with_reducible apply At.al | with_reducible apply At.drw | with_reducible apply At.dr))
      replace HB : Below w.heap.size w WW := by rw [← hWW]; repeat (first | with_reducible assumption | with_reducible exact Below.refl _ _ | with_reducible refine below_al ?_ _ | with_reducible refine below_drew ?_ | with_reducible refine below_drewN ?_ _ | with_reducible refine below_set ?_ (by dsimp only; omega) _)
      clear hWW
      refine wp_only ?_
      refine wp_region_grow1 8 (by kernel_rfl) (o1 := _) (d1 := 15) (t1 := 23) (z1 := #[.int .i64 0, .int .i64 0]) rfl ⟨rfl, rfl, fun _ _ => by rfl⟩ (by kernel_rfl) only_panic ?_
      apply Exists.intro
      refine And.intro (fun W' hW' => ?_) ?_
      focus
        have Kk_n := At.bel (show At _ (w.heap.size) 34 #[.int .i64 fn, .int .i64 fd] from (by repeat (first | with_reducible assumption | with_reducible apply At.put0 | with_reducible apply At.put1 | with_reducible refine At.far ?_ (by dsimp only; omega) _ | with_reducible apply At.al | with_reducible apply At.drw | with_reducible apply At.dr))) hW'
        have Kk_n0 := cell_regrown Kk_n.c0
        have Kk_n1 := cell_regrown Kk_n.c1
        have Kk_s := At.bel (show At _ (v3.heap.size) 23 #[.int .i64 s1, .int .i64 s2] from (by repeat (first | with_reducible assumption | with_reducible apply At.put0 | with_reducible apply At.put1 | with_reducible refine At.far ?_ (by dsimp only; omega) _ | with_reducible apply At.al | with_reducible apply At.drw | with_reducible apply At.dr))) hW'
        have Kk_s0 := cell_regrown Kk_s.c0
        have Kk_s1 := cell_regrown Kk_s.c1
        have Kk_p := At.bel (show At _ (v4.heap.size) 34 #[.int .i64 P, .int .i64 D] from (by repeat (first | with_reducible assumption | with_reducible apply At.put0 | with_reducible apply At.put1 | with_reducible refine At.far ?_ (by dsimp only; omega) _ | with_reducible apply At.al | with_reducible apply At.drw | with_reducible apply At.dr))) hW'
        have Kk_p0 := cell_regrown Kk_p.c0
        have Kk_p1 := cell_regrown Kk_p.c1
        have Kk_o := At.bel (show At _ (v5.heap.size) 23 #[.int .i64 l1, .int .i64 h1] from (by repeat (first | with_reducible assumption | with_reducible apply At.put0 | with_reducible apply At.put1 | with_reducible refine At.far ?_ (by dsimp only; omega) _ | with_reducible apply At.al | with_reducible apply At.drw | with_reducible apply At.dr))) hW'
        have Kk_o0 := cell_regrown Kk_o.c0
        have Kk_o1 := cell_regrown Kk_o.c1
        simp only [List.take_succ_cons, List.take_zero]
        repeat (go_big_quiet_step ((first | with_reducible exact regrown_call HU.out | with_reducible exact regrown_call HMul.out)))
        exact wpQuiet_nil rfl
      intro g_wd v6 hb6 lb_wd k_wd
      have Mk_n := k_n.lt
      have Mk_s := k_s.lt
      have Mk_p := k_p.lt
      have Mk_o := k_o.lt
      replace k_n : At v6 (w.heap.size) 34 #[.int .i64 fn, .int .i64 fd] := At.bel (by repeat (first | with_reducible assumption | with_reducible apply At.put0 | with_reducible apply At.put1 | with_reducible refine At.far ?_ (by dsimp only; omega) _ | with_reducible apply At.al | with_reducible apply At.drw | with_reducible apply At.dr)) hb6
      replace k_s : At v6 (v3.heap.size) 23 #[.int .i64 s1, .int .i64 s2] := At.bel (by repeat (first | with_reducible assumption | with_reducible apply At.put0 | with_reducible apply At.put1 | with_reducible refine At.far ?_ (by dsimp only; omega) _ | with_reducible apply At.al | with_reducible apply At.drw | with_reducible apply At.dr)) hb6
      replace k_p : At v6 (v4.heap.size) 34 #[.int .i64 P, .int .i64 D] := At.bel (by repeat (first | with_reducible assumption | with_reducible apply At.put0 | with_reducible apply At.put1 | with_reducible refine At.far ?_ (by dsimp only; omega) _ | with_reducible apply At.al | with_reducible apply At.drw | with_reducible apply At.dr)) hb6
      replace k_o : At v6 (v5.heap.size) 23 #[.int .i64 l1, .int .i64 h1] := At.bel (by repeat (first | with_reducible assumption | with_reducible apply At.put0 | with_reducible apply At.put1 | with_reducible refine At.far ?_ (by dsimp only; omega) _ | with_reducible apply At.al | with_reducible apply At.drw | with_reducible apply At.dr)) hb6
      replace HB : Below w.heap.size w v6 := below_then (by repeat (first | with_reducible assumption | with_reducible exact Below.refl _ _ | with_reducible refine below_al ?_ _ | with_reducible refine below_drew ?_ | with_reducible refine below_drewN ?_ _ | with_reducible refine below_set ?_ (by dsimp only; omega) _)) hb6
      clear hb6
      simp only [List.drop_succ_cons, List.drop_zero]
      have Lk_wd := k_wd.lt
      obtain ⟨k_wd0, k_wd1, k_wd2, k_wd3⟩ := k_wd.two
      have Lk_o := k_o.lt
      obtain ⟨k_o0, k_o1, k_o2, k_o3⟩ := k_o.two
      go_wp2_with fail
      refine (HT.out _).mono ?_
      rintro e v7 ⟨rfl, hb7⟩
      clear k_wd0 k_wd1 k_wd2 k_wd3 Lk_wd k_o0 k_o1 k_o2 k_o3 Lk_o
      replace k_n : At v7 (w.heap.size) 34 #[.int .i64 fn, .int .i64 fd] := At.bel (by repeat (first | with_reducible assumption | with_reducible apply At.put0 | with_reducible apply At.put1 | with_reducible refine At.far ?_ (by dsimp only; omega) _ | with_reducible apply At.al | with_reducible apply At.drw | with_reducible apply At.dr)) hb7
      replace k_s : At v7 (v3.heap.size) 23 #[.int .i64 s1, .int .i64 s2] := At.bel (by repeat (first | with_reducible assumption | with_reducible apply At.put0 | with_reducible apply At.put1 | with_reducible refine At.far ?_ (by dsimp only; omega) _ | with_reducible apply At.al | with_reducible apply At.drw | with_reducible apply At.dr)) hb7
      replace k_p : At v7 (v4.heap.size) 34 #[.int .i64 P, .int .i64 D] := At.bel (by repeat (first | with_reducible assumption | with_reducible apply At.put0 | with_reducible apply At.put1 | with_reducible refine At.far ?_ (by dsimp only; omega) _ | with_reducible apply At.al | with_reducible apply At.drw | with_reducible apply At.dr)) hb7
      replace k_o : At v7 (v5.heap.size) 23 #[.int .i64 l1, .int .i64 h1] := At.bel (by repeat (first | with_reducible assumption | with_reducible apply At.put0 | with_reducible apply At.put1 | with_reducible refine At.far ?_ (by dsimp only; omega) _ | with_reducible apply At.al | with_reducible apply At.drw | with_reducible apply At.dr)) hb7
      replace k_wd : At v7 (g_wd) 23 #[.int .i64 m1, .int .i64 m2] := At.bel (by repeat (first | with_reducible assumption | with_reducible apply At.put0 | with_reducible apply At.put1 | with_reducible refine At.far ?_ (by dsimp only; omega) _ | with_reducible apply At.al | with_reducible apply At.drw | with_reducible apply At.dr)) hb7
      replace HB : Below w.heap.size w v7 := below_then (by repeat (first | with_reducible assumption | with_reducible exact Below.refl _ _ | with_reducible refine below_al ?_ _ | with_reducible refine below_drew ?_ | with_reducible refine below_drewN ?_ _ | with_reducible refine below_set ?_ (by dsimp only; omega) _)) hb7
      clear hb7
      have Lk_s := k_s.lt
      obtain ⟨k_s0, k_s1, k_s2, k_s3⟩ := k_s.two
      have Lk_wd := k_wd.lt
      obtain ⟨k_wd0, k_wd1, k_wd2, k_wd3⟩ := k_wd.two
      go_wp2_with fail
      refine (HIn.out _).mono ?_
      rintro e v8 ⟨rfl, hb8⟩
      clear k_s0 k_s1 k_s2 k_s3 Lk_s k_wd0 k_wd1 k_wd2 k_wd3 Lk_wd
      replace k_n : At v8 (w.heap.size) 34 #[.int .i64 fn, .int .i64 fd] := At.bel (by repeat (first | with_reducible assumption | with_reducible apply At.put0 | with_reducible apply At.put1 | with_reducible refine At.far ?_ (by dsimp only; omega) _ | with_reducible apply At.al | with_reducible apply At.drw | with_reducible apply At.dr)) hb8
      replace k_s : At v8 (v3.heap.size) 23 #[.int .i64 s1, .int .i64 s2] := At.bel (by repeat (first | with_reducible assumption | with_reducible apply At.put0 | with_reducible apply At.put1 | with_reducible refine At.far ?_ (by dsimp only; omega) _ | with_reducible apply At.al | with_reducible apply At.drw | with_reducible apply At.dr)) hb8
      replace k_p : At v8 (v4.heap.size) 34 #[.int .i64 P, .int .i64 D] := At.bel (by repeat (first | with_reducible assumption | with_reducible apply At.put0 | with_reducible apply At.put1 | with_reducible refine At.far ?_ (by dsimp only; omega) _ | with_reducible apply At.al | with_reducible apply At.drw | with_reducible apply At.dr)) hb8
      replace k_o : At v8 (v5.heap.size) 23 #[.int .i64 l1, .int .i64 h1] := At.bel (by repeat (first | with_reducible assumption | with_reducible apply At.put0 | with_reducible apply At.put1 | with_reducible refine At.far ?_ (by dsimp only; omega) _ | with_reducible apply At.al | with_reducible apply At.drw | with_reducible apply At.dr)) hb8
      replace k_wd : At v8 (g_wd) 23 #[.int .i64 m1, .int .i64 m2] := At.bel (by repeat (first | with_reducible assumption | with_reducible apply At.put0 | with_reducible apply At.put1 | with_reducible refine At.far ?_ (by dsimp only; omega) _ | with_reducible apply At.al | with_reducible apply At.drw | with_reducible apply At.dr)) hb8
      have k_sm : At v8 (v7.heap.size) 23 #[.int .i64 m1, .int .i64 m2] := At.bel (by (repeat (first | (with_reducible apply At.new'; (focus (simp; done))) | with_reducible apply At.al | with_reducible apply At.drw | with_reducible apply At.dr))) hb8
      replace HB : Below w.heap.size w v8 := below_then (by repeat (first | with_reducible assumption | with_reducible exact Below.refl _ _ | with_reducible refine below_al ?_ _ | with_reducible refine below_drew ?_ | with_reducible refine below_drewN ?_ _ | with_reducible refine below_set ?_ (by dsimp only; omega) _)) hb8
      clear hb8
      have Lk_s := k_s.lt
      obtain ⟨k_s0, k_s1, k_s2, k_s3⟩ := k_s.two
      have Lk_wd := k_wd.lt
      obtain ⟨k_wd0, k_wd1, k_wd2, k_wd3⟩ := k_wd.two
      go_wp2_with fail
      go_ret
      exact ⟨rfl, (by repeat (first | with_reducible assumption | with_reducible exact Below.refl _ _ | with_reducible refine below_al ?_ _ | with_reducible refine below_drew ?_ | with_reducible refine below_drewN ?_ _ | with_reducible refine below_set ?_ (by dsimp only; omega) _))⟩
    · generalize hWW : World.alloc _ _ = WW
      replace k_n : At WW (w.heap.size) 34 #[.int .i64 fn, .int .i64 fd] := by rw [← hWW]; repeat (first | with_reducible assumption | with_reducible apply At.put0 | with_reducible apply At.put1 | with_reducible refine At.far ?_ (by dsimp only; omega) _ | with_reducible apply At.al | with_reducible apply At.drw | with_reducible apply At.dr)
      replace k_s : At WW (v3.heap.size) 23 #[.int .i64 s1, .int .i64 s2] := by rw [← hWW]; repeat (first | with_reducible assumption | with_reducible apply At.put0 | with_reducible apply At.put1 | with_reducible refine At.far ?_ (by dsimp only; omega) _ | with_reducible apply At.al | with_reducible apply At.drw | with_reducible apply At.dr)
      replace k_p : At WW (v4.heap.size) 34 #[.int .i64 P, .int .i64 D] := by rw [← hWW]; repeat (first | with_reducible assumption | with_reducible apply At.put0 | with_reducible apply At.put1 | with_reducible refine At.far ?_ (by dsimp only; omega) _ | with_reducible apply At.al | with_reducible apply At.drw | with_reducible apply At.dr)
      have k_o : At WW (v5.heap.size) 23 #[.int .i64 l1, .int .i64 h1] := by rw [← hWW]; (repeat (first | (with_reducible apply At.new'; (focus (simp; done))) | with_reducible apply At.al | with_reducible apply At.drw | with_reducible apply At.dr))
      replace HB : Below w.heap.size w WW := by rw [← hWW]; repeat (first | with_reducible assumption | with_reducible exact Below.refl _ _ | with_reducible refine below_al ?_ _ | with_reducible refine below_drew ?_ | with_reducible refine below_drewN ?_ _ | with_reducible refine below_set ?_ (by dsimp only; omega) _)
      clear hWW
      refine wp_only ?_
      refine wp_region_grow1 8 (by kernel_rfl) (o1 := _) (d1 := 15) (t1 := 23) (z1 := #[.int .i64 0, .int .i64 0]) rfl ⟨rfl, rfl, fun _ _ => by rfl⟩ (by kernel_rfl) only_panic ?_
      apply Exists.intro
      refine And.intro (fun W' hW' => ?_) ?_
      focus
        have Kk_n := At.bel (show At _ (w.heap.size) 34 #[.int .i64 fn, .int .i64 fd] from (by repeat (first | with_reducible assumption | with_reducible apply At.put0 | with_reducible apply At.put1 | with_reducible refine At.far ?_ (by dsimp only; omega) _ | with_reducible apply At.al | with_reducible apply At.drw | with_reducible apply At.dr))) hW'
        have Kk_n0 := cell_regrown Kk_n.c0
        have Kk_n1 := cell_regrown Kk_n.c1
        have Kk_s := At.bel (show At _ (v3.heap.size) 23 #[.int .i64 s1, .int .i64 s2] from (by repeat (first | with_reducible assumption | with_reducible apply At.put0 | with_reducible apply At.put1 | with_reducible refine At.far ?_ (by dsimp only; omega) _ | with_reducible apply At.al | with_reducible apply At.drw | with_reducible apply At.dr))) hW'
        have Kk_s0 := cell_regrown Kk_s.c0
        have Kk_s1 := cell_regrown Kk_s.c1
        have Kk_p := At.bel (show At _ (v4.heap.size) 34 #[.int .i64 P, .int .i64 D] from (by repeat (first | with_reducible assumption | with_reducible apply At.put0 | with_reducible apply At.put1 | with_reducible refine At.far ?_ (by dsimp only; omega) _ | with_reducible apply At.al | with_reducible apply At.drw | with_reducible apply At.dr))) hW'
        have Kk_p0 := cell_regrown Kk_p.c0
        have Kk_p1 := cell_regrown Kk_p.c1
        have Kk_o := At.bel (show At _ (v5.heap.size) 23 #[.int .i64 l1, .int .i64 h1] from (by repeat (first | with_reducible assumption | with_reducible apply At.put0 | with_reducible apply At.put1 | with_reducible refine At.far ?_ (by dsimp only; omega) _ | with_reducible apply At.al | with_reducible apply At.drw | with_reducible apply At.dr))) hW'
        have Kk_o0 := cell_regrown Kk_o.c0
        have Kk_o1 := cell_regrown Kk_o.c1
        simp only [List.take_succ_cons, List.take_zero]
        repeat (go_big_quiet_step ((first | with_reducible exact regrown_call HU.out | with_reducible exact regrown_call HMul.out)))
        exact wpQuiet_nil rfl
      intro g_wd v6 hb6 lb_wd k_wd
      have Mk_n := k_n.lt
      have Mk_s := k_s.lt
      have Mk_p := k_p.lt
      have Mk_o := k_o.lt
      replace k_n : At v6 (w.heap.size) 34 #[.int .i64 fn, .int .i64 fd] := At.bel (by repeat (first | with_reducible assumption | with_reducible apply At.put0 | with_reducible apply At.put1 | with_reducible refine At.far ?_ (by dsimp only; omega) _ | with_reducible apply At.al | with_reducible apply At.drw | with_reducible apply At.dr)) hb6
      replace k_s : At v6 (v3.heap.size) 23 #[.int .i64 s1, .int .i64 s2] := At.bel (by repeat (first | with_reducible assumption | with_reducible apply At.put0 | with_reducible apply At.put1 | with_reducible refine At.far ?_ (by dsimp only; omega) _ | with_reducible apply At.al | with_reducible apply At.drw | with_reducible apply At.dr)) hb6
      replace k_p : At v6 (v4.heap.size) 34 #[.int .i64 P, .int .i64 D] := At.bel (by repeat (first | with_reducible assumption | with_reducible apply At.put0 | with_reducible apply At.put1 | with_reducible refine At.far ?_ (by dsimp only; omega) _ | with_reducible apply At.al | with_reducible apply At.drw | with_reducible apply At.dr)) hb6
      replace k_o : At v6 (v5.heap.size) 23 #[.int .i64 l1, .int .i64 h1] := At.bel (by repeat (first | with_reducible assumption | with_reducible apply At.put0 | with_reducible apply At.put1 | with_reducible refine At.far ?_ (by dsimp only; omega) _ | with_reducible apply At.al | with_reducible apply At.drw | with_reducible apply At.dr)) hb6
      replace HB : Below w.heap.size w v6 := below_then (by repeat (first | with_reducible assumption | with_reducible exact Below.refl _ _ | with_reducible refine below_al ?_ _ | with_reducible refine below_drew ?_ | with_reducible refine below_drewN ?_ _ | with_reducible refine below_set ?_ (by dsimp only; omega) _)) hb6
      clear hb6
      simp only [List.drop_succ_cons, List.drop_zero]
      have Lk_wd := k_wd.lt
      obtain ⟨k_wd0, k_wd1, k_wd2, k_wd3⟩ := k_wd.two
      have Lk_o := k_o.lt
      obtain ⟨k_o0, k_o1, k_o2, k_o3⟩ := k_o.two
      go_wp2_with fail
      refine (HT.out _).mono ?_
      rintro e v7 ⟨rfl, hb7⟩
      clear k_wd0 k_wd1 k_wd2 k_wd3 Lk_wd k_o0 k_o1 k_o2 k_o3 Lk_o
      replace k_n : At v7 (w.heap.size) 34 #[.int .i64 fn, .int .i64 fd] := At.bel (by repeat (first | with_reducible assumption | with_reducible apply At.put0 | with_reducible apply At.put1 | with_reducible refine At.far ?_ (by dsimp only; omega) _ | with_reducible apply At.al | with_reducible apply At.drw | with_reducible apply At.dr)) hb7
      replace k_s : At v7 (v3.heap.size) 23 #[.int .i64 s1, .int .i64 s2] := At.bel (by repeat (first | with_reducible assumption | with_reducible apply At.put0 | with_reducible apply At.put1 | with_reducible refine At.far ?_ (by dsimp only; omega) _ | with_reducible apply At.al | with_reducible apply At.drw | with_reducible apply At.dr)) hb7
      replace k_p : At v7 (v4.heap.size) 34 #[.int .i64 P, .int .i64 D] := At.bel (by repeat (first | with_reducible assumption | with_reducible apply At.put0 | with_reducible apply At.put1 | with_reducible refine At.far ?_ (by dsimp only; omega) _ | with_reducible apply At.al | with_reducible apply At.drw | with_reducible apply At.dr)) hb7
      replace k_o : At v7 (v5.heap.size) 23 #[.int .i64 l1, .int .i64 h1] := At.bel (by repeat (first | with_reducible assumption | with_reducible apply At.put0 | with_reducible apply At.put1 | with_reducible refine At.far ?_ (by dsimp only; omega) _ | with_reducible apply At.al | with_reducible apply At.drw | with_reducible apply At.dr)) hb7
      replace k_wd : At v7 (g_wd) 23 #[.int .i64 m1, .int .i64 m2] := At.bel (by repeat (first | with_reducible assumption | with_reducible apply At.put0 | with_reducible apply At.put1 | with_reducible refine At.far ?_ (by dsimp only; omega) _ | with_reducible apply At.al | with_reducible apply At.drw | with_reducible apply At.dr)) hb7
      replace HB : Below w.heap.size w v7 := below_then (by repeat (first | with_reducible assumption | with_reducible exact Below.refl _ _ | with_reducible refine below_al ?_ _ | with_reducible refine below_drew ?_ | with_reducible refine below_drewN ?_ _ | with_reducible refine below_set ?_ (by dsimp only; omega) _)) hb7
      clear hb7
      have Lk_s := k_s.lt
      obtain ⟨k_s0, k_s1, k_s2, k_s3⟩ := k_s.two
      have Lk_wd := k_wd.lt
      obtain ⟨k_wd0, k_wd1, k_wd2, k_wd3⟩ := k_wd.two
      go_wp2_with fail
      go_ret
      exact ⟨rfl, (by repeat (first | with_reducible assumption | with_reducible exact Below.refl _ _ | with_reducible refine below_al ?_ _ | with_reducible refine below_drew ?_ | with_reducible refine below_drewN ?_ _ | with_reducible refine below_set ?_ (by dsimp only; omega) _))⟩

set_option maxRecDepth 100000 in
set_option maxHeartbeats 8000000 in
theorem fractions_big (fn fd u s1 s2 P D : Int) (bu1 : 1 ≤ u) (bu2 : u ≤ 1099511627776)
    (HV : Hid (∀ w, Calls Try.prog 23 #[.agg #[.int .i64 fn, .int .i64 fd]] w fun e w' => e = .returned (.bool true) ∧ Below w.heap.size w w'))
    (HS : Hid (∀ w, Calls Try.prog 20 #[.agg #[.int .i64 fn, .int .i64 fd], .int .i64 u] w fun e w' => e = .returned (spv (s1, s2, 5)) ∧ Below w.heap.size w w'))
    (HM : Hid (∀ w, Calls Try.prog 42 #[.agg #[.int .i64 fn, .int .i64 fd], .agg #[.int .i64 u, .int .i64 1]] w fun e w' => e = .returned (frv (P, D, 5)) ∧ Below w.heap.size w w')) (w : World) :
    Calls Try.prog 10 #[.agg #[.int .i64 fn, .int .i64 fd], .int .i64 u] w fun e w' => e = .returned (.bool true) ∧ Below w.heap.size w w' := by
  go_enter Try.func10, Try.ntmps10
  go_wp2_with fail
  refine (awake_any _).mono ?_
  rintro e v1 ⟨rfl, hb1⟩
  have k_n : At v1 (w.heap.size) 34 #[.int .i64 fn, .int .i64 fd] := At.bel (by (repeat (first | (with_reducible apply At.new'; (focus (simp; done))) | with_reducible apply At.al | with_reducible apply At.drw | with_reducible apply At.dr))) hb1
  have HB : Below w.heap.size w v1 := below_then (by repeat (first | with_reducible assumption | with_reducible exact Below.refl _ _ | with_reducible refine below_al ?_ _ | with_reducible refine below_drew ?_ | with_reducible refine below_drewN ?_ _ | with_reducible refine below_set ?_ (by dsimp only; omega) _)) hb1
  clear hb1
  have Lk_n := k_n.lt
  obtain ⟨k_n0, k_n1, k_n2, k_n3⟩ := k_n.two
  go_wp2_with fail
  refine (HV.out _).mono ?_
  rintro e v2 ⟨rfl, hb2⟩
  clear k_n0 k_n1 k_n2 k_n3 Lk_n
  replace k_n : At v2 (w.heap.size) 34 #[.int .i64 fn, .int .i64 fd] := At.bel (by repeat (first | with_reducible assumption | with_reducible apply At.put0 | with_reducible apply At.put1 | with_reducible refine At.far ?_ (by dsimp only; omega) _ | with_reducible apply At.al | with_reducible apply At.drw | with_reducible apply At.dr)) hb2
  replace HB : Below w.heap.size w v2 := below_then (by repeat (first | with_reducible assumption | with_reducible exact Below.refl _ _ | with_reducible refine below_al ?_ _ | with_reducible refine below_drew ?_ | with_reducible refine below_drewN ?_ _ | with_reducible refine below_set ?_ (by dsimp only; omega) _)) hb2
  clear hb2
  have Lk_n := k_n.lt
  obtain ⟨k_n0, k_n1, k_n2, k_n3⟩ := k_n.two
  go_wp2_with fail
  refine (HS.out _).mono ?_
  rintro e v3 ⟨rfl, hb3⟩
  clear k_n0 k_n1 k_n2 k_n3 Lk_n
  replace k_n : At v3 (w.heap.size) 34 #[.int .i64 fn, .int .i64 fd] := At.bel (by repeat (first | with_reducible assumption | with_reducible apply At.put0 | with_reducible apply At.put1 | with_reducible refine At.far ?_ (by dsimp only; omega) _ | with_reducible apply At.al | with_reducible apply At.drw | with_reducible apply At.dr)) hb3
  replace HB : Below w.heap.size w v3 := below_then (by repeat (first | with_reducible assumption | with_reducible exact Below.refl _ _ | with_reducible refine below_al ?_ _ | with_reducible refine below_drew ?_ | with_reducible refine below_drewN ?_ _ | with_reducible refine below_set ?_ (by dsimp only; omega) _)) hb3
  clear hb3
  have Lk_n := k_n.lt
  obtain ⟨k_n0, k_n1, k_n2, k_n3⟩ := k_n.two
  go_wp2_with fail
  refine (HM.out _).mono ?_
  rintro e v4 ⟨rfl, hb4⟩
  clear k_n0 k_n1 k_n2 k_n3 Lk_n
  replace k_n : At v4 (w.heap.size) 34 #[.int .i64 fn, .int .i64 fd] := At.bel (by repeat (first | with_reducible assumption | with_reducible apply At.put0 | with_reducible apply At.put1 | with_reducible refine At.far ?_ (by dsimp only; omega) _ | with_reducible apply At.al | with_reducible apply At.drw | with_reducible apply At.dr)) hb4
  have k_s : At v4 (v3.heap.size) 23 #[.int .i64 s1, .int .i64 s2] := At.bel (by (repeat (first | (with_reducible apply At.new'; (focus (simp; done))) | with_reducible apply At.al | with_reducible apply At.drw | with_reducible apply At.dr))) hb4
  replace HB : Below w.heap.size w v4 := below_then (by repeat (first | with_reducible assumption | with_reducible exact Below.refl _ _ | with_reducible refine below_al ?_ _ | with_reducible refine below_drew ?_ | with_reducible refine below_drewN ?_ _ | with_reducible refine below_set ?_ (by dsimp only; omega) _)) hb4
  clear hb4
  have Lk_n := k_n.lt
  obtain ⟨k_n0, k_n1, k_n2, k_n3⟩ := k_n.two
  go_wp2_with fail
  go_ret
  exact ⟨rfl, (by repeat (first | with_reducible assumption | with_reducible exact Below.refl _ _ | with_reducible refine below_al ?_ _ | with_reducible refine below_drew ?_ | with_reducible refine below_drewN ?_ _ | with_reducible refine below_set ?_ (by dsimp only; omega) _))⟩

set_option maxRecDepth 100000 in
theorem fractions_bad1 (fn fd u : Int)
    (HV : Hid (∀ w, Calls Try.prog 23 #[.agg #[.int .i64 fn, .int .i64 fd]] w fun e w' => e = .returned (.bool false) ∧ Below w.heap.size w w')) (w : World) :
    Calls Try.prog 10 #[.agg #[.int .i64 fn, .int .i64 fd], .int .i64 u] w fun e w' => e = .returned (.bool true) ∧ Below w.heap.size w w' := by
  go_enter Try.func10, Try.ntmps10
  go_wp2_with fail
  refine (awake_any _).mono ?_
  rintro e v1 ⟨rfl, hb1⟩
  have k_n : At v1 (w.heap.size) 34 #[.int .i64 fn, .int .i64 fd] := At.bel (by (repeat (first | (with_reducible apply At.new'; (focus (simp; done))) | with_reducible apply At.al | with_reducible apply At.drw | with_reducible apply At.dr))) hb1
  have HB : Below w.heap.size w v1 := below_then (by repeat (first | with_reducible assumption | with_reducible exact Below.refl _ _ | with_reducible refine below_al ?_ _ | with_reducible refine below_drew ?_ | with_reducible refine below_drewN ?_ _ | with_reducible refine below_set ?_ (by dsimp only; omega) _)) hb1
  clear hb1
  have Lk_n := k_n.lt
  obtain ⟨k_n0, k_n1, k_n2, k_n3⟩ := k_n.two
  go_wp2_with fail
  refine (HV.out _).mono ?_
  rintro e v2 ⟨rfl, hb2⟩
  clear k_n0 k_n1 k_n2 k_n3 Lk_n
  replace k_n : At v2 (w.heap.size) 34 #[.int .i64 fn, .int .i64 fd] := At.bel (by repeat (first | with_reducible assumption | with_reducible apply At.put0 | with_reducible apply At.put1 | with_reducible refine At.far ?_ (by dsimp only; omega) _ | with_reducible apply At.al | with_reducible apply At.drw | with_reducible apply At.dr)) hb2
  replace HB : Below w.heap.size w v2 := below_then (by repeat (first | with_reducible assumption | with_reducible exact Below.refl _ _ | with_reducible refine below_al ?_ _ | with_reducible refine below_drew ?_ | with_reducible refine below_drewN ?_ _ | with_reducible refine below_set ?_ (by dsimp only; omega) _)) hb2
  clear hb2
  have Lk_n := k_n.lt
  obtain ⟨k_n0, k_n1, k_n2, k_n3⟩ := k_n.two
  go_wp2_with fail
  go_ret
  exact ⟨rfl, (by repeat (first | with_reducible assumption | with_reducible exact Below.refl _ _ | with_reducible refine below_al ?_ _ | with_reducible refine below_drew ?_ | with_reducible refine below_drewN ?_ _ | with_reducible refine below_set ?_ (by dsimp only; omega) _))⟩

set_option maxRecDepth 100000 in
theorem fractions_bad2 (fn fd u : Int)
    (HV : Hid (∀ w, Calls Try.prog 23 #[.agg #[.int .i64 fn, .int .i64 fd]] w fun e w' => e = .returned (.bool true) ∧ Below w.heap.size w w')) (hu : u < 1) (w : World) :
    Calls Try.prog 10 #[.agg #[.int .i64 fn, .int .i64 fd], .int .i64 u] w fun e w' => e = .returned (.bool true) ∧ Below w.heap.size w w' := by
  go_enter Try.func10, Try.ntmps10
  go_wp2_with fail
  refine (awake_any _).mono ?_
  rintro e v1 ⟨rfl, hb1⟩
  have k_n : At v1 (w.heap.size) 34 #[.int .i64 fn, .int .i64 fd] := At.bel (by (repeat (first | (with_reducible apply At.new'; (focus (simp; done))) | with_reducible apply At.al | with_reducible apply At.drw | with_reducible apply At.dr))) hb1
  have HB : Below w.heap.size w v1 := below_then (by repeat (first | with_reducible assumption | with_reducible exact Below.refl _ _ | with_reducible refine below_al ?_ _ | with_reducible refine below_drew ?_ | with_reducible refine below_drewN ?_ _ | with_reducible refine below_set ?_ (by dsimp only; omega) _)) hb1
  clear hb1
  have Lk_n := k_n.lt
  obtain ⟨k_n0, k_n1, k_n2, k_n3⟩ := k_n.two
  go_wp2_with fail
  refine (HV.out _).mono ?_
  rintro e v2 ⟨rfl, hb2⟩
  clear k_n0 k_n1 k_n2 k_n3 Lk_n
  replace k_n : At v2 (w.heap.size) 34 #[.int .i64 fn, .int .i64 fd] := At.bel (by repeat (first | with_reducible assumption | with_reducible apply At.put0 | with_reducible apply At.put1 | with_reducible refine At.far ?_ (by dsimp only; omega) _ | with_reducible apply At.al | with_reducible apply At.drw | with_reducible apply At.dr)) hb2
  replace HB : Below w.heap.size w v2 := below_then (by repeat (first | with_reducible assumption | with_reducible exact Below.refl _ _ | with_reducible refine below_al ?_ _ | with_reducible refine below_drew ?_ | with_reducible refine below_drewN ?_ _ | with_reducible refine below_set ?_ (by dsimp only; omega) _)) hb2
  clear hb2
  have Lk_n := k_n.lt
  obtain ⟨k_n0, k_n1, k_n2, k_n3⟩ := k_n.two
  go_wp2_with fail
  go_ret
  exact ⟨rfl, (by repeat (first | with_reducible assumption | with_reducible exact Below.refl _ _ | with_reducible refine below_al ?_ _ | with_reducible refine below_drew ?_ | with_reducible refine below_drewN ?_ _ | with_reducible refine below_set ?_ (by dsimp only; omega) _))⟩

set_option maxRecDepth 100000 in
theorem fractions_bad3 (fn fd u : Int)
    (HV : Hid (∀ w, Calls Try.prog 23 #[.agg #[.int .i64 fn, .int .i64 fd]] w fun e w' => e = .returned (.bool true) ∧ Below w.heap.size w w')) (hu : ¬ u < 1) (hu2 : 1099511627776 < u) (w : World) :
    Calls Try.prog 10 #[.agg #[.int .i64 fn, .int .i64 fd], .int .i64 u] w fun e w' => e = .returned (.bool true) ∧ Below w.heap.size w w' := by
  go_enter Try.func10, Try.ntmps10
  go_wp2_with fail
  refine (awake_any _).mono ?_
  rintro e v1 ⟨rfl, hb1⟩
  have k_n : At v1 (w.heap.size) 34 #[.int .i64 fn, .int .i64 fd] := At.bel (by (repeat (first | (with_reducible apply At.new'; (focus (simp; done))) | with_reducible apply At.al | with_reducible apply At.drw | with_reducible apply At.dr))) hb1
  have HB : Below w.heap.size w v1 := below_then (by repeat (first | with_reducible assumption | with_reducible exact Below.refl _ _ | with_reducible refine below_al ?_ _ | with_reducible refine below_drew ?_ | with_reducible refine below_drewN ?_ _ | with_reducible refine below_set ?_ (by dsimp only; omega) _)) hb1
  clear hb1
  have Lk_n := k_n.lt
  obtain ⟨k_n0, k_n1, k_n2, k_n3⟩ := k_n.two
  go_wp2_with fail
  refine (HV.out _).mono ?_
  rintro e v2 ⟨rfl, hb2⟩
  clear k_n0 k_n1 k_n2 k_n3 Lk_n
  replace k_n : At v2 (w.heap.size) 34 #[.int .i64 fn, .int .i64 fd] := At.bel (by repeat (first | with_reducible assumption | with_reducible apply At.put0 | with_reducible apply At.put1 | with_reducible refine At.far ?_ (by dsimp only; omega) _ | with_reducible apply At.al | with_reducible apply At.drw | with_reducible apply At.dr)) hb2
  replace HB : Below w.heap.size w v2 := below_then (by repeat (first | with_reducible assumption | with_reducible exact Below.refl _ _ | with_reducible refine below_al ?_ _ | with_reducible refine below_drew ?_ | with_reducible refine below_drewN ?_ _ | with_reducible refine below_set ?_ (by dsimp only; omega) _)) hb2
  clear hb2
  have Lk_n := k_n.lt
  obtain ⟨k_n0, k_n1, k_n2, k_n3⟩ := k_n.two
  go_wp2_with fail
  go_ret
  exact ⟨rfl, (by repeat (first | with_reducible assumption | with_reducible exact Below.refl _ _ | with_reducible refine below_al ?_ _ | with_reducible refine below_drew ?_ | with_reducible refine below_drewN ?_ _ | with_reducible refine below_set ?_ (by dsimp only; omega) _))⟩

end Go.Proofs.Ytgipfmleefojbaa
