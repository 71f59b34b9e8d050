/- RatioRead's walk: it returns true. -/
import Derived.Test.YtpijmjffobkalaaDoorRaT5
import Derived.Test.YtpijmjffobkalaaDoorRaRef3
import Derived.Deep.DeepCutAuto
import Derived.Deep.CutBlock
set_option linter.unusedVariables false
namespace Go.Proofs.YtpijmjffobkalaaDoor
open Go.ChangeShapes Go.WideShapes Go.ChangeAt Go.RowKit

set_option maxRecDepth 100000 in
set_option maxHeartbeats 4000000 in
theorem read_some (b off n cap k c : Nat) (hk : ((c : Int) % ((n : Int) + 1)) = (k : Int)) (hkn : k ≤ n) (hc : c ≤ 255) (hnc : n ≤ cap) (hcap : cap ≤ 9223372036854775806) (l : List (Int × Int)) (an ad : Int) (s : ByteArray) (pk fv : Bool) (p1 p2 p3 : Int) (st : ByteArray) (te : Int) (r1 r2 r3 s1 s2 s3 t1 t2 t3 q1 q2 q3 : Int) (w : World)
    (HW : Hid (∀ u, Below w.heap.size w u → Calls Tryd.prog 11 #[] u fun e w' => e = .returned (.bool true) ∧ Below u.heap.size u w'))
    (HP : Hid (s.size ≤ 100 → ∀ u, Below w.heap.size w u → Calls Tryd.prog 36 #[.string s] u fun e w' => e = .returned (frv (p1, p2, p3)) ∧ Below u.heap.size u w'))
    (hp3 : Hid ((pk = true → p3 = 0) ∧ (pk = false → p3 = 7)))
    (HT1 : Hid (pk = true → ∀ u, Below w.heap.size w u → Calls Tryd.prog 34 #[.agg #[.int .i64 p1, .int .i64 p2]] u fun e w' => e = .returned (.tuple #[.string s, .int .i64 0]) ∧ Below u.heap.size u w'))
    (HV1 : Hid (pk = true → ∀ u, Below w.heap.size w u → Calls Tryd.prog 15 #[.agg #[.int .i64 p1, .int .i64 p2]] u fun e w' => e = .returned (.bool true) ∧ Below u.heap.size u w'))
    (HT : Hid (∀ u, Below w.heap.size w u → Calls Tryd.prog 34 #[.agg #[.int .i64 an, .int .i64 ad]] u fun e w' => e = .returned (.tuple #[.string st, .int .i64 te]) ∧ Below u.heap.size u w'))
    (HV : Hid (fv = false → ∀ u, Below w.heap.size w u → Calls Tryd.prog 15 #[.agg #[.int .i64 an, .int .i64 ad]] u fun e w' => e = .returned (.bool false) ∧ Below u.heap.size u w'))
    (hte : Hid ((fv = false → st = ⟨#[]⟩ ∧ te = 1) ∧ (fv = true → te = 0)))
    (HP2 : Hid (fv = true → ∀ u, Below w.heap.size w u → Calls Tryd.prog 36 #[.string st] u fun e w' => e = .returned (frv (an, ad, 0)) ∧ Below u.heap.size u w'))
    (HS : Hid (n ≤ 40 → ∀ u, Below w.heap.size w u → Calls Tryd.prog 31 #[.slice (some ⟨b, off, none⟩) n cap] u fun e w' => e = .returned (frv (r1, r2, r3)) ∧ Below u.heap.size u w'))
    (HS1 : Hid (n ≤ 40 → ∀ u, Below w.heap.size w u → Calls Tryd.prog 31 #[.slice (some ⟨b, off, none⟩) k cap] u fun e w' => e = .returned (frv (s1, s2, s3)) ∧ Below u.heap.size u w'))
    (HS2 : Hid (n ≤ 40 → ∀ (u : World) (o2 m c2 : Nat), (o2 = off + k * 2 ∧ m = n - k ∧ c2 = cap - k ∨ o2 = off ∧ m = 0 ∧ c2 = 0 ∧ cap ≤ k) → Below w.heap.size w u → Calls Tryd.prog 31 #[.slice (some ⟨b, o2, none⟩) m c2] u fun e w' => e = .returned (frv (t1, t2, t3)) ∧ Below u.heap.size u w'))
    (hr : Hid (n ≤ 40 → (r3 ≠ 0 → r1 = 0 ∧ r2 = 0) ∧ (r3 = 0 → s3 = 0)))
    (HA : Hid (n ≤ 40 → r3 = 0 → t3 = 0 → ∀ u, Below w.heap.size w u → Calls Tryd.prog 12 #[.agg #[.int .i64 s1, .int .i64 s2], .agg #[.int .i64 t1, .int .i64 t2]] u fun e w' => e = .returned (frv (r1, r2, 0)) ∧ Below u.heap.size u w'))
    (HC : Hid (n ≤ 40 → ∀ u, Below w.heap.size w u → Calls Tryd.prog 38 #[.slice (some ⟨b, off, none⟩) n cap] u fun e w' => (∃ v, e = .returned v ∧ Hid (Own u.heap.size w' v l)) ∧ Below u.heap.size u w'))
    (HR : Hid (n ≤ 40 → ∀ (u : World) (v : Value) (B : Nat), B ≤ u.heap.size → Own B u v l → Calls Tryd.prog 39 #[v] u fun e w' => (e = .returned (.tuple #[]) ∧ ∃ ao cap, v = .slice ao l.length cap ∧ Hid (l.length ≤ cap ∧ cap ≤ 9223372036854775807 ∧ FrAt w'.heap.size w' ao l.reverse)) ∧ Below B u w'))
    (HB4 : Hid (n ≤ 40 → r3 = 0 → (q3 = 5 ∨ q3 = 0 ∧ q1 = r1 ∧ q2 = r2)))
    (HS4 : Hid (n ≤ 40 → ∀ (u : World) (ao : Option Addr) (cp : Nat), l.length ≤ cp ∧ cp ≤ 9223372036854775807 ∧ FrAt u.heap.size u ao l.reverse → Calls Tryd.prog 31 #[.slice ao l.length cp] u fun e w' => e = .returned (frv (q1, q2, q3)) ∧ Below u.heap.size u w')) :
    Calls Tryd.prog 10 #[.agg #[.int .i64 an, .int .i64 ad], .string s, .slice (some ⟨b, off, none⟩) n cap, .int .u8 (c : Int)] w fun e w' => e = .returned (.bool true) ∧ Below w.heap.size w w' := by
  go_enter Tryd.func10, Tryd.ntmps10
  go_wp2_with fail
  refine (HW.out _ (by repeat (first | with_reducible assumption | with_reducible exact Below.refl _ _ | with_reducible refine below_al ?_ _ | with_reducible refine below_drew ?_ | with_reducible refine below_drewN ?_ _ | with_reducible refine below_set ?_ (by dsimp only; omega) _))).mono ?_
  rintro e v1 ⟨rfl, hb1⟩
  have k_a : At v1 (w.heap.size) 23 #[.int .i64 an, .int .i64 ad] := At.bel (by (repeat (first | (with_reducible apply At.new'; (focus (simp; done))) | with_reducible apply At.al | with_reducible apply At.drw | with_reducible apply At.dr))) hb1
  have HB : Below w.heap.size w v1 := below_then (by repeat (first | with_reducible assumption | with_reducible exact Below.refl _ _ | with_reducible refine below_al ?_ _ | with_reducible refine below_drew ?_ | with_reducible refine below_drewN ?_ _ | with_reducible refine below_set ?_ (by dsimp only; omega) _)) hb1
  clear hb1
  by_cases c1 : 100 < s.size
  · clear HP hp3 HT1 HV1 HT HV hte HP2 HS HS1 HS2 hr HA HC HR HB4 HS4
    go_wp2_with fail
    go_ret
    exact ⟨rfl, HB⟩
  replace HP := Lib.hid (HP.out (by omega))
  by_cases c2 : 40 < n
  · clear HP hp3 HT1 HV1 HT HV hte HP2 HS HS1 HS2 hr HA HC HR HB4 HS4
    go_wp2_with fail
    go_ret
    exact ⟨rfl, HB⟩
  have n40 : n ≤ 40 := by omega
  replace HS := Lib.hid (HS.out n40)
  replace HS1 := Lib.hid (HS1.out n40)
  replace HS2 := Lib.hid (HS2.out n40)
  replace hr := Lib.hid (hr.out n40)
  replace HA := Lib.hid (HA.out n40)
  replace HC := Lib.hid (HC.out n40)
  replace HR := Lib.hid (HR.out n40)
  replace HB4 := Lib.hid (HB4.out n40)
  replace HS4 := Lib.hid (HS4.out n40)
  go_wp2_with fail
  refine (HP.out _ HB).mono ?_
  rintro e v2 ⟨rfl, hb2⟩
  replace k_a : At v2 (w.heap.size) 23 #[.int .i64 an, .int .i64 ad] := At.bel (by repeat (first | with_reducible assumption | with_reducible apply At.put0 | with_reducible apply At.put1 | with_reducible refine At.far ?_ (by dsimp only; omega) _ | with_reducible apply At.al | with_reducible apply At.drw | with_reducible apply At.dr)) hb2
  replace HB : Below w.heap.size w v2 := below_then (by repeat (first | with_reducible assumption | with_reducible exact Below.refl _ _ | with_reducible refine below_al ?_ _ | with_reducible refine below_drew ?_ | with_reducible refine below_drewN ?_ _ | with_reducible refine below_set ?_ (by dsimp only; omega) _)) hb2
  clear hb2
  go_upto_if 44 with fail
  go_cut [] (fun  wn => Below w.heap.size w wn ∧ At wn (w.heap.size) 23 #[.int .i64 an, .int .i64 ad] ∧ At wn (v2.heap.size) 23 #[.int .i64 p1, .int .i64 p2])
  case first =>
    cases pk
    · have e3 : (p3 == 0) = false := by rw [hp3.out.2 rfl]; rfl
      clear HT HV hte HP2 HS HS1 HS2 hr HA HC HR HB4 HS4 HP HT1 HV1 hp3
      skip
      go_wp2_with fail
      go_meet
      exact ⟨(by repeat (first | with_reducible assumption | with_reducible exact Below.refl _ _ | with_reducible refine below_al ?_ _ | with_reducible refine below_drew ?_ | with_reducible refine below_drewN ?_ _ | with_reducible refine below_set ?_ (by dsimp only; omega) _)), (by repeat (first | with_reducible assumption | with_reducible apply At.put0 | with_reducible apply At.put1 | with_reducible refine At.far ?_ (by dsimp only; omega) _ | with_reducible apply At.al | with_reducible apply At.drw | with_reducible apply At.dr)), (by (repeat (first | (with_reducible apply At.new'; (focus (simp; done))) | with_reducible apply At.al | with_reducible apply At.drw | with_reducible apply At.dr)))⟩
    · have e3 : (p3 == 0) = true := by rw [hp3.out.1 rfl]; rfl
      have HT1' := Lib.hid (HT1.out rfl)
      have HV1' := Lib.hid (HV1.out rfl)
      clear HT HV hte HP2 HS HS1 HS2 hr HA HC HR HB4 HS4 HP HT1 HV1 hp3
      generalize hWW : World.alloc _ _ = Wx
      replace k_a : At Wx (w.heap.size) 23 #[.int .i64 an, .int .i64 ad] := by rw [← hWW]; repeat (first | with_reducible assumption | with_reducible apply At.put0 | with_reducible apply At.put1 | with_reducible refine At.far ?_ (by dsimp only; omega) _ | with_reducible apply At.al | with_reducible apply At.drw | with_reducible apply At.dr)
      have k_x : At Wx (v2.heap.size) 23 #[.int .i64 p1, .int .i64 p2] := by rw [← hWW]; (repeat (first | (with_reducible apply At.new'; (focus (simp; done))) | with_reducible apply At.al | with_reducible apply At.drw | with_reducible apply At.dr))
      replace HB : Below w.heap.size w Wx := by rw [← hWW]; repeat (first | with_reducible assumption | with_reducible exact Below.refl _ _ | with_reducible refine below_al ?_ _ | with_reducible refine below_drew ?_ | with_reducible refine below_drewN ?_ _ | with_reducible refine below_set ?_ (by dsimp only; omega) _)
      clear hWW
      have Lk_x := k_x.lt
      obtain ⟨k_x0, k_x1, k_x2, k_x3⟩ := k_x.two
      go_wp2_with fail
      refine (HT1'.out _ HB).mono ?_
      rintro e v3 ⟨rfl, hb3⟩
      clear k_x0 k_x1 k_x2 k_x3 Lk_x
      replace k_a : At v3 (w.heap.size) 23 #[.int .i64 an, .int .i64 ad] := At.bel (by repeat (first | with_reducible assumption | with_reducible apply At.put0 | with_reducible apply At.put1 | with_reducible refine At.far ?_ (by dsimp only; omega) _ | with_reducible apply At.al | with_reducible apply At.drw | with_reducible apply At.dr)) hb3
      replace k_x : At v3 (v2.heap.size) 23 #[.int .i64 p1, .int .i64 p2] := At.bel (by repeat (first | with_reducible assumption | with_reducible apply At.put0 | with_reducible apply At.put1 | with_reducible refine At.far ?_ (by dsimp only; omega) _ | with_reducible apply At.al | with_reducible apply At.drw | with_reducible apply At.dr)) hb3
      replace HB : Below w.heap.size w v3 := below_then (by repeat (first | with_reducible assumption | with_reducible exact Below.refl _ _ | with_reducible refine below_al ?_ _ | with_reducible refine below_drew ?_ | with_reducible refine below_drewN ?_ _ | with_reducible refine below_set ?_ (by dsimp only; omega) _)) hb3
      clear hb3
      have Lk_x := k_x.lt
      obtain ⟨k_x0, k_x1, k_x2, k_x3⟩ := k_x.two
      go_wp2_with fail
      refine (HV1'.out _ HB).mono ?_
      rintro e v4 ⟨rfl, hb4⟩
      clear k_x0 k_x1 k_x2 k_x3 Lk_x
      replace k_a : At v4 (w.heap.size) 23 #[.int .i64 an, .int .i64 ad] := At.bel (by repeat (first | with_reducible assumption | with_reducible apply At.put0 | with_reducible apply At.put1 | with_reducible refine At.far ?_ (by dsimp only; omega) _ | with_reducible apply At.al | with_reducible apply At.drw | with_reducible apply At.dr)) hb4
      replace k_x : At v4 (v2.heap.size) 23 #[.int .i64 p1, .int .i64 p2] := At.bel (by repeat (first | with_reducible assumption | with_reducible apply At.put0 | with_reducible apply At.put1 | with_reducible refine At.far ?_ (by dsimp only; omega) _ | with_reducible apply At.al | with_reducible apply At.drw | with_reducible apply At.dr)) hb4
      replace HB : Below w.heap.size w v4 := below_then (by repeat (first | with_reducible assumption | with_reducible exact Below.refl _ _ | with_reducible refine below_al ?_ _ | with_reducible refine below_drew ?_ | with_reducible refine below_drewN ?_ _ | with_reducible refine below_set ?_ (by dsimp only; omega) _)) hb4
      clear hb4
      have Lk_x := k_x.lt
      obtain ⟨k_x0, k_x1, k_x2, k_x3⟩ := k_x.two
      go_wp2_with fail
      go_meet
      exact ⟨(by repeat (first | with_reducible assumption | with_reducible exact Below.refl _ _ | with_reducible refine below_al ?_ _ | with_reducible refine below_drew ?_ | with_reducible refine below_drewN ?_ _ | with_reducible refine below_set ?_ (by dsimp only; omega) _)), (by repeat (first | with_reducible assumption | with_reducible apply At.put0 | with_reducible apply At.put1 | with_reducible refine At.far ?_ (by dsimp only; omega) _ | with_reducible apply At.al | with_reducible apply At.drw | with_reducible apply At.dr)), (by repeat (first | with_reducible assumption | with_reducible apply At.put0 | with_reducible apply At.put1 | with_reducible refine At.far ?_ (by dsimp only; omega) _ | with_reducible apply At.al | with_reducible apply At.drw | with_reducible apply At.dr))⟩
  case rest =>
    clear k_a
    clear HB
    obtain ⟨HB, k_a, k_x⟩ := hcut
    clear k_x HP HT1 HV1 hp3
    have Lk_a := k_a.lt
    obtain ⟨k_a0, k_a1, k_a2, k_a3⟩ := k_a.two
    go_wp2_with fail
    refine (HT.out _ HB).mono ?_
    rintro e v3 ⟨rfl, hb3⟩
    clear k_a0 k_a1 k_a2 k_a3 Lk_a
    replace k_a : At v3 (w.heap.size) 23 #[.int .i64 an, .int .i64 ad] := At.bel (by repeat (first | with_reducible assumption | with_reducible apply At.put0 | with_reducible apply At.put1 | with_reducible refine At.far ?_ (by dsimp only; omega) _ | with_reducible apply At.al | with_reducible apply At.drw | with_reducible apply At.dr)) hb3
    replace HB : Below w.heap.size w v3 := below_then (by repeat (first | with_reducible assumption | with_reducible exact Below.refl _ _ | with_reducible refine below_al ?_ _ | with_reducible refine below_drew ?_ | with_reducible refine below_drewN ?_ _ | with_reducible refine below_set ?_ (by dsimp only; omega) _)) hb3
    clear hb3
    have Lk_a := k_a.lt
    obtain ⟨k_a0, k_a1, k_a2, k_a3⟩ := k_a.two
    cases fv
    · obtain ⟨rfl, rfl⟩ := hte.out.1 rfl
      have HV' := Lib.hid (HV.out rfl)
      clear HT HV hte HP2 HS HS1 HS2 hr HA HC HR HB4 HS4
      go_wp2_with fail
      refine (HV'.out _ HB).mono ?_
      rintro e v4 ⟨rfl, hb4⟩
      clear k_a0 k_a1 k_a2 k_a3 Lk_a
      replace k_a : At v4 (w.heap.size) 23 #[.int .i64 an, .int .i64 ad] := At.bel (by repeat (first | with_reducible assumption | with_reducible apply At.put0 | with_reducible apply At.put1 | with_reducible refine At.far ?_ (by dsimp only; omega) _ | with_reducible apply At.al | with_reducible apply At.drw | with_reducible apply At.dr)) hb4
      replace HB : Below w.heap.size w v4 := below_then (by repeat (first | with_reducible assumption | with_reducible exact Below.refl _ _ | with_reducible refine below_al ?_ _ | with_reducible refine below_drew ?_ | with_reducible refine below_drewN ?_ _ | with_reducible refine below_set ?_ (by dsimp only; omega) _)) hb4
      clear hb4
      have Lk_a := k_a.lt
      obtain ⟨k_a0, k_a1, k_a2, k_a3⟩ := k_a.two
      go_wp2_with fail
      go_ret
      exact ⟨rfl, HB⟩
    obtain rfl := hte.out.2 rfl
    replace HP2 := Lib.hid (HP2.out rfl)
    clear HT HV hte
    go_wp2_with fail
    refine (HP2.out _ HB).mono ?_
    rintro e v4 ⟨rfl, hb4⟩
    clear k_a0 k_a1 k_a2 k_a3 Lk_a
    replace k_a : At v4 (w.heap.size) 23 #[.int .i64 an, .int .i64 ad] := At.bel (by repeat (first | with_reducible assumption | with_reducible apply At.put0 | with_reducible apply At.put1 | with_reducible refine At.far ?_ (by dsimp only; omega) _ | with_reducible apply At.al | with_reducible apply At.drw | with_reducible apply At.dr)) hb4
    replace HB : Below w.heap.size w v4 := below_then (by repeat (first | with_reducible assumption | with_reducible exact Below.refl _ _ | with_reducible refine below_al ?_ _ | with_reducible refine below_drew ?_ | with_reducible refine below_drewN ?_ _ | with_reducible refine below_set ?_ (by dsimp only; omega) _)) hb4
    clear hb4
    have Lk_a := k_a.lt
    obtain ⟨k_a0, k_a1, k_a2, k_a3⟩ := k_a.two
    go_upto_region 14 with fail
    generalize hWW : World.alloc _ _ = W2
    replace k_a : At W2 (w.heap.size) 23 #[.int .i64 an, .int .i64 ad] := by rw [← hWW]; repeat (first | with_reducible assumption | with_reducible apply At.put0 | with_reducible apply At.put1 | with_reducible refine At.far ?_ (by dsimp only; omega) _ | with_reducible apply At.al | with_reducible apply At.drw | with_reducible apply At.dr)
    have k_y : At W2 (v4.heap.size) 23 #[.int .i64 an, .int .i64 ad] := by rw [← hWW]; (repeat (first | (with_reducible apply At.new'; (focus (simp; done))) | with_reducible apply At.al | with_reducible apply At.drw | with_reducible apply At.dr))
    replace HB : Below w.heap.size w W2 := by rw [← hWW]; repeat (first | with_reducible assumption | with_reducible exact Below.refl _ _ | with_reducible refine below_al ?_ _ | with_reducible refine below_drew ?_ | with_reducible refine below_drewN ?_ _ | with_reducible refine below_set ?_ (by dsimp only; omega) _)
    clear k_a0 k_a1 k_a2 k_a3 Lk_a
    clear hWW
    have Lk_a := k_a.lt
    obtain ⟨k_a0, k_a1, k_a2, k_a3⟩ := k_a.two
    clear HP2
    have Lk_y := k_y.lt
    obtain ⟨k_y0, k_y1, k_y2, k_y3⟩ := k_y.two
    go_wp2_with fail
    refine (HS.out _ HB).mono ?_
    rintro e v5 ⟨rfl, hb5⟩
    clear k_a0 k_a1 k_a2 k_a3 Lk_a k_y0 k_y1 k_y2 k_y3 Lk_y
    replace k_a : At v5 (w.heap.size) 23 #[.int .i64 an, .int .i64 ad] := At.bel (by repeat (first | with_reducible assumption | with_reducible apply At.put0 | with_reducible apply At.put1 | with_reducible refine At.far ?_ (by dsimp only; omega) _ | with_reducible apply At.al | with_reducible apply At.drw | with_reducible apply At.dr)) hb5
    replace k_y : At v5 (v4.heap.size) 23 #[.int .i64 an, .int .i64 ad] := At.bel (by repeat (first | with_reducible assumption | with_reducible apply At.put0 | with_reducible apply At.put1 | with_reducible refine At.far ?_ (by dsimp only; omega) _ | with_reducible apply At.al | with_reducible apply At.drw | with_reducible apply At.dr)) hb5
    replace HB : Below w.heap.size w v5 := below_then (by repeat (first | with_reducible assumption | with_reducible exact Below.refl _ _ | with_reducible refine below_al ?_ _ | with_reducible refine below_drew ?_ | with_reducible refine below_drewN ?_ _ | with_reducible refine below_set ?_ (by dsimp only; omega) _)) hb5
    clear hb5
    have Lk_a := k_a.lt
    obtain ⟨k_a0, k_a1, k_a2, k_a3⟩ := k_a.two
    have Lk_y := k_y.lt
    obtain ⟨k_y0, k_y1, k_y2, k_y3⟩ := k_y.two
    clear k_a0 k_a1 k_a2 k_a3 Lk_a k_y0 k_y1 k_y2 k_y3 Lk_y
    clear k_a k_y HS
    go_upto_region 18 with fail
    generalize hWW : World.alloc _ _ = W3
    have k_r : At W3 (v5.heap.size) 23 #[.int .i64 r1, .int .i64 r2] := by rw [← hWW]; (repeat (first | (with_reducible apply At.new'; (focus (simp; done))) | with_reducible apply At.al | with_reducible apply At.drw | with_reducible apply At.dr))
    replace HB : Below w.heap.size w W3 := by rw [← hWW]; repeat (first | with_reducible assumption | with_reducible exact Below.refl _ _ | with_reducible refine below_al ?_ _ | with_reducible refine below_drew ?_ | with_reducible refine below_drewN ?_ _ | with_reducible refine below_set ?_ (by dsimp only; omega) _)
    clear hWW
    go_wp2_with fail
    refine (HS1.out _ HB).mono ?_
    rintro e v6 ⟨rfl, hb6⟩
    replace k_r : At v6 (v5.heap.size) 23 #[.int .i64 r1, .int .i64 r2] := At.bel (by repeat (first | with_reducible assumption | with_reducible apply At.put0 | with_reducible apply At.put1 | with_reducible refine At.far ?_ (by dsimp only; omega) _ | with_reducible apply At.al | with_reducible apply At.drw | with_reducible apply At.dr)) hb6
    replace HB : Below w.heap.size w v6 := below_then (by repeat (first | with_reducible assumption | with_reducible exact Below.refl _ _ | with_reducible refine below_al ?_ _ | with_reducible refine below_drew ?_ | with_reducible refine below_drewN ?_ _ | with_reducible refine below_set ?_ (by dsimp only; omega) _)) hb6
    clear hb6
    go_upto_region 19 with fail
    generalize hWW : World.alloc _ _ = W4
    replace k_r : At W4 (v5.heap.size) 23 #[.int .i64 r1, .int .i64 r2] := by rw [← hWW]; repeat (first | with_reducible assumption | with_reducible apply At.put0 | with_reducible apply At.put1 | with_reducible refine At.far ?_ (by dsimp only; omega) _ | with_reducible apply At.al | with_reducible apply At.drw | with_reducible apply At.dr)
    have k_s : At W4 (v6.heap.size) 23 #[.int .i64 s1, .int .i64 s2] := by rw [← hWW]; (repeat (first | (with_reducible apply At.new'; (focus (simp; done))) | with_reducible apply At.al | with_reducible apply At.drw | with_reducible apply At.dr))
    replace HB : Below w.heap.size w W4 := by rw [← hWW]; repeat (first | with_reducible assumption | with_reducible exact Below.refl _ _ | with_reducible refine below_al ?_ _ | with_reducible refine below_drew ?_ | with_reducible refine below_drewN ?_ _ | with_reducible refine below_set ?_ (by dsimp only; omega) _)
    clear hWW
    clear HS1
    by_cases h0 : r3 = 0
    rotate_left
    · have e1 := (hr.out.1 h0).1
      have e2 := (hr.out.1 h0).2
      have h0a : (r3 == 0) = false := by simpa using h0
      have h0b : (r3 != 0) = true := by simp [h0]
      clear HS2 hr HA HC HR HB4 HS4 k_s
      have Lk_r := k_r.lt
      obtain ⟨k_r0, k_r1, k_r2, k_r3⟩ := k_r.two
      go_wp2_with fail
      go_ret
      exact ⟨rfl, HB⟩
    subst h0
    obtain rfl : s3 = 0 := hr.out.2 rfl
    replace HA := Lib.hid (HA.out rfl)
    replace HB4 := Lib.hid (HB4.out rfl)
    clear hr
    go_upto_region 21 with fail
    go_cut [21, 22] (fun p q wn => ∃ g, p = .pointer (some ⟨g, 0, none⟩) ∧ q = .int .i64 t3 ∧ At wn g 23 #[.int .i64 t1, .int .i64 t2] ∧ Below w.heap.size w wn ∧ At wn (v5.heap.size) 23 #[.int .i64 r1, .int .i64 r2] ∧ At wn (v6.heap.size) 23 #[.int .i64 s1, .int .i64 s2])
    case first =>
      clear HC HR HS4 HB4 HA
      by_cases hck : cap = k
      · subst hck
        go_wp2_with fail
        refine (HS2.out _ _ _ _ ?h HB).mono ?_
        case h => exact .inr ⟨rfl, rfl, rfl, Nat.le_refl _⟩
        rintro e vv ⟨rfl, hbv⟩
        replace HB := below_then HB hbv
        replace k_r := At.bel k_r hbv
        replace k_s := At.bel k_s hbv
        clear hbv
        go_wp2_with fail
        go_meet
        exact ⟨_, rfl, rfl, At.new' rfl, below_al HB _, At.al k_r _, At.al k_s _⟩
      · have hck2 : k < cap := by omega
        clear hck
        go_wp2_with fail
        refine (HS2.out _ _ _ _ ?h HB).mono ?_
        case h => exact .inl ⟨rfl, rfl, rfl⟩
        rintro e vv ⟨rfl, hbv⟩
        replace HB := below_then HB hbv
        replace k_r := At.bel k_r hbv
        replace k_s := At.bel k_s hbv
        clear hbv
        go_wp2_with fail
        go_meet
        exact ⟨_, rfl, rfl, At.new' rfl, below_al HB _, At.al k_r _, At.al k_s _⟩
    case rest =>
      clear HB k_r k_s
      obtain ⟨g_t, rfl, rfl, k_t, HB, k_r, k_s⟩ := hcut
      clear HS2
      by_cases h0 : t3 = 0
      rotate_left
      · have h0a : (t3 == 0) = false := by simpa using h0
        have h0b : (t3 != 0) = true := by simp [h0]
        clear HA HC HR HB4 HS4 k_s k_r k_t
        go_wp2_with fail
        go_ret
        exact ⟨rfl, HB⟩
      subst h0
      replace HA := Lib.hid (HA.out rfl)
      have Lk_s := k_s.lt
      obtain ⟨k_s0, k_s1, k_s2, k_s3⟩ := k_s.two
      have Lk_t := k_t.lt
      obtain ⟨k_t0, k_t1, k_t2, k_t3⟩ := k_t.two
      go_wp2_with fail
      refine (HA.out _ HB).mono ?_
      rintro e v7 ⟨rfl, hb7⟩
      clear k_s0 k_s1 k_s2 k_s3 Lk_s k_t0 k_t1 k_t2 k_t3 Lk_t
      replace k_r : At v7 (v5.heap.size) 23 #[.int .i64 r1, .int .i64 r2] := At.bel (by repeat (first | with_reducible assumption | with_reducible apply At.put0 | with_reducible apply At.put1 | with_reducible refine At.far ?_ (by dsimp only; omega) _ | with_reducible apply At.al | with_reducible apply At.drw | with_reducible apply At.dr)) hb7
      replace k_s : At v7 (v6.heap.size) 23 #[.int .i64 s1, .int .i64 s2] := At.bel (by repeat (first | with_reducible assumption | with_reducible apply At.put0 | with_reducible apply At.put1 | with_reducible refine At.far ?_ (by dsimp only; omega) _ | with_reducible apply At.al | with_reducible apply At.drw | with_reducible apply At.dr)) hb7
      replace k_t : At v7 (g_t) 23 #[.int .i64 t1, .int .i64 t2] := At.bel (by repeat (first | with_reducible assumption | with_reducible apply At.put0 | with_reducible apply At.put1 | with_reducible refine At.far ?_ (by dsimp only; omega) _ | with_reducible apply At.al | with_reducible apply At.drw | with_reducible apply At.dr)) hb7
      replace HB : Below w.heap.size w v7 := below_then (by repeat (first | with_reducible assumption | with_reducible exact Below.refl _ _ | with_reducible refine below_al ?_ _ | with_reducible refine below_drew ?_ | with_reducible refine below_drewN ?_ _ | with_reducible refine below_set ?_ (by dsimp only; omega) _)) hb7
      clear hb7
      have Lk_s := k_s.lt
      obtain ⟨k_s0, k_s1, k_s2, k_s3⟩ := k_s.two
      have Lk_t := k_t.lt
      obtain ⟨k_t0, k_t1, k_t2, k_t3⟩ := k_t.two
      clear k_s0 k_s1 k_s2 k_s3 Lk_s k_t0 k_t1 k_t2 k_t3 Lk_t
      clear k_s k_t HA
      go_upto_region 25 with fail
      generalize hWW : World.alloc _ _ = W6
      replace k_r : At W6 (v5.heap.size) 23 #[.int .i64 r1, .int .i64 r2] := by rw [← hWW]; repeat (first | with_reducible assumption | with_reducible apply At.put0 | with_reducible apply At.put1 | with_reducible refine At.far ?_ (by dsimp only; omega) _ | with_reducible apply At.al | with_reducible apply At.drw | with_reducible apply At.dr)
      have k_u : At W6 (v7.heap.size) 23 #[.int .i64 r1, .int .i64 r2] := by rw [← hWW]; (repeat (first | (with_reducible apply At.new'; (focus (simp; done))) | with_reducible apply At.al | with_reducible apply At.drw | with_reducible apply At.dr))
      replace HB : Below w.heap.size w W6 := by rw [← hWW]; repeat (first | with_reducible assumption | with_reducible exact Below.refl _ _ | with_reducible refine below_al ?_ _ | with_reducible refine below_drew ?_ | with_reducible refine below_drewN ?_ _ | with_reducible refine below_set ?_ (by dsimp only; omega) _)
      clear hWW
      go_wp2_with fail
      refine (HC.out _ HB).mono ?_
      rintro e vC ⟨⟨v, rfl, hown⟩, hbC⟩
      clear HC
      go_wp2_with fail
      refine (HR.out _ v _ hbC.size hown.out).mono ?_
      rintro e vR ⟨⟨rfl, ao, cp, rfl, hfr⟩, hbR⟩
      have hbX := Below.trans hbC hbR
      clear hbC hbR hown HR
      replace k_r : At vR (v5.heap.size) 23 #[.int .i64 r1, .int .i64 r2] := At.bel (by repeat (first | with_reducible assumption | with_reducible apply At.put0 | with_reducible apply At.put1 | with_reducible refine At.far ?_ (by dsimp only; omega) _ | with_reducible apply At.al | with_reducible apply At.drw | with_reducible apply At.dr)) hbX
      replace k_u : At vR (v7.heap.size) 23 #[.int .i64 r1, .int .i64 r2] := At.bel (by repeat (first | with_reducible assumption | with_reducible apply At.put0 | with_reducible apply At.put1 | with_reducible refine At.far ?_ (by dsimp only; omega) _ | with_reducible apply At.al | with_reducible apply At.drw | with_reducible apply At.dr)) hbX
      replace HB : Below w.heap.size w vR := below_then (by repeat (first | with_reducible assumption | with_reducible exact Below.refl _ _ | with_reducible refine below_al ?_ _ | with_reducible refine below_drew ?_ | with_reducible refine below_drewN ?_ _ | with_reducible refine below_set ?_ (by dsimp only; omega) _)) hbX
      clear hbX
      go_wp2_with fail
      refine (HS4.out _ ao cp hfr.out).mono ?_
      rintro e v8 ⟨rfl, hb8⟩
      replace k_r : At v8 (v5.heap.size) 23 #[.int .i64 r1, .int .i64 r2] := At.bel (by repeat (first | with_reducible assumption | with_reducible apply At.put0 | with_reducible apply At.put1 | with_reducible refine At.far ?_ (by dsimp only; omega) _ | with_reducible apply At.al | with_reducible apply At.drw | with_reducible apply At.dr)) hb8
      replace k_u : At v8 (v7.heap.size) 23 #[.int .i64 r1, .int .i64 r2] := At.bel (by repeat (first | with_reducible assumption | with_reducible apply At.put0 | with_reducible apply At.put1 | with_reducible refine At.far ?_ (by dsimp only; omega) _ | with_reducible apply At.al | with_reducible apply At.drw | with_reducible apply At.dr)) hb8
      replace HB : Below w.heap.size w v8 := below_then (by repeat (first | with_reducible assumption | with_reducible exact Below.refl _ _ | with_reducible refine below_al ?_ _ | with_reducible refine below_drew ?_ | with_reducible refine below_drewN ?_ _ | with_reducible refine below_set ?_ (by dsimp only; omega) _)) hb8
      clear hb8
      clear HS4 hfr
      go_upto_region 28 with fail
      generalize hWW : World.alloc _ _ = W7
      replace k_r : At W7 (v5.heap.size) 23 #[.int .i64 r1, .int .i64 r2] := by rw [← hWW]; repeat (first | with_reducible assumption | with_reducible apply At.put0 | with_reducible apply At.put1 | with_reducible refine At.far ?_ (by dsimp only; omega) _ | with_reducible apply At.al | with_reducible apply At.drw | with_reducible apply At.dr)
      replace k_u : At W7 (v7.heap.size) 23 #[.int .i64 r1, .int .i64 r2] := by rw [← hWW]; repeat (first | with_reducible assumption | with_reducible apply At.put0 | with_reducible apply At.put1 | with_reducible refine At.far ?_ (by dsimp only; omega) _ | with_reducible apply At.al | with_reducible apply At.drw | with_reducible apply At.dr)
      have k_z : At W7 (v8.heap.size) 23 #[.int .i64 q1, .int .i64 q2] := by rw [← hWW]; (repeat (first | (with_reducible apply At.new'; (focus (simp; done))) | with_reducible apply At.al | with_reducible apply At.drw | with_reducible apply At.dr))
      replace HB : Below w.heap.size w W7 := by rw [← hWW]; repeat (first | with_reducible assumption | with_reducible exact Below.refl _ _ | with_reducible refine below_al ?_ _ | with_reducible refine below_drew ?_ | with_reducible refine below_drewN ?_ _ | with_reducible refine below_set ?_ (by dsimp only; omega) _)
      clear hWW
      have Lk_r := k_r.lt
      obtain ⟨k_r0, k_r1, k_r2, k_r3⟩ := k_r.two
      have Lk_u := k_u.lt
      obtain ⟨k_u0, k_u1, k_u2, k_u3⟩ := k_u.two
      have Lk_z := k_z.lt
      obtain ⟨k_z0, k_z1, k_z2, k_z3⟩ := k_z.two
      rcases HB4.out with rfl | ⟨rfl, rfl, rfl⟩
      · go_wp2_with fail
        go_ret
        exact ⟨rfl, HB⟩
      · go_wp2_with fail
        go_ret
        exact ⟨rfl, HB⟩

end Go.Proofs.YtpijmjffobkalaaDoor
