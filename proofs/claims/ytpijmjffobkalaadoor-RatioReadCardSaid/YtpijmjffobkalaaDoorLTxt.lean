/- RatioTexts' walk: it returns true. -/
import Derived.Test.YtpijmjffobkalaaDoorRaP3
import Derived.Test.YtpijmjffobkalaaDoorRaRef3
import Derived.Deep.DeepCutAuto
import Derived.Deep.CutBlock
set_option linter.unusedVariables false
namespace Go.Proofs.YtpijmjffobkalaaDoor
open Go.ChangeShapes Go.WideShapes Go.ChangeAt Go.RowKit

theorem FrAt.mono {B C : Nat} {w : World} {ao : Option Addr} {l : List (Int × Int)} (h : FrAt B w ao l) (hBC : B ≤ C) : FrAt C w ao l := by
  intro k hk
  obtain ⟨b, off, e, c0, c1, hlt⟩ := h k hk
  exact ⟨b, off, e, c0, c1, Nat.lt_of_lt_of_le hlt hBC⟩

set_option maxRecDepth 100000 in
set_option maxHeartbeats 2000000 in
theorem texts_core (ao : Option Addr) (n cap : Nat) (an ad : Int) (s : ByteArray) (r : Int × Int × Int) (av fv : Bool) (st : ByteArray) (te : Int) (p1 p2 p3 : Int) (y3 : Bool) (w : World)
    (HW : Hid (∀ u, Below w.heap.size w u → Calls Tryd.prog 11 #[] u fun e w' => e = .returned (.bool true) ∧ Below u.heap.size u w'))
    (HS : Hid (∀ u, Below w.heap.size w u → Calls Tryd.prog 31 #[.slice ao n cap] u fun e w' => e = .returned (frv r) ∧ Below u.heap.size u w'))
    (HA : Hid (∀ u, Below w.heap.size w u → Calls Tryd.prog 32 #[.slice ao n cap] u fun e w' => e = .returned (.bool av) ∧ Below u.heap.size u w'))
    (hbad : Hid (av = false → r = (0, 0, 1)))
    (RS : Hid (av = true → ∀ u, Below w.heap.size w u → Calls Tryd.prog 33 #[.slice ao n cap] u fun e w' => e = .returned (frv r) ∧ Below u.heap.size u w'))
    (HT : Hid (∀ u, Below w.heap.size w u → Calls Tryd.prog 34 #[.agg #[.int .i64 an, .int .i64 ad]] u fun e w' => e = .returned (.tuple #[.string st, .int .i64 te]) ∧ Below u.heap.size u w'))
    (RV : Hid (∀ u, Below w.heap.size w u → Calls Tryd.prog 22 #[.agg #[.int .i64 an, .int .i64 ad]] u fun e w' => e = .returned (.bool fv) ∧ Below u.heap.size u w'))
    (hte : Hid ((fv = false → st = ⟨#[]⟩ ∧ te = 1) ∧ (fv = true → te = 0)))
    (RT : Hid (fv = true → ∀ u, Below w.heap.size w u → Calls Tryd.prog 35 #[.agg #[.int .i64 an, .int .i64 ad]] u fun e w' => e = .returned (.string st) ∧ Below u.heap.size u w'))
    (HP : Hid (s.size ≤ 100 → ∀ u, Below w.heap.size w u → Calls Tryd.prog 36 #[.string s] u fun e w' => e = .returned (frv (p1, p2, p3)) ∧ Below u.heap.size u w'))
    (RP : Hid (s.size ≤ 100 → ∀ u, Below w.heap.size w u → Calls Tryd.prog 37 #[.string s] u fun e w' => e = .returned (.tuple #[.agg #[.int .i64 p1, .int .i64 p2], .bool y3]) ∧ Below u.heap.size u w'))
    (hp : Hid ((y3 = false → p1 = 0 ∧ p2 = 0 ∧ p3 = 7) ∧ (y3 = true → p3 = 0)))
    (HY : Hid (∀ (r : Int × Int × Int) (w : World), Calls Tryd.prog 21 #[.agg #[.int .i64 r.1, .int .i64 r.2.1], .int .i64 r.2.2, .agg #[.int .i64 r.1, .int .i64 r.2.1], .int .i64 r.2.2] w fun e w' => e = .returned (.bool true) ∧ Below w.heap.size w w')) :
    Calls Tryd.prog 9 #[.slice ao n cap, .agg #[.int .i64 an, .int .i64 ad], .string s] w fun e w' => e = .returned (.bool true) ∧ Below w.heap.size w w' := by
  obtain ⟨b, hb⟩ : ∃ b : Bool, decide ((40 < n ∧ n ≤ 1000) ∨ 1005 < n ∨ 100 < s.size) = b := ⟨_, rfl⟩
  replace hb := Lib.hid hb
  go_enter Tryd.func9, Tryd.ntmps9
  go_wp2_with fail
  refine (HW.out _ (by repeat (first | with_reducible assumption | with_reducible exact Below.refl _ _ | with_reducible refine below_al ?_ _ | with_reducible refine below_drew ?_ | with_reducible refine below_drewN ?_ _ | with_reducible refine below_set ?_ (by dsimp only; omega) _))).mono ?_
  rintro e v1 ⟨rfl, hb1⟩
  have k_a : At v1 (w.heap.size) 23 #[.int .i64 an, .int .i64 ad] := At.bel (by (repeat (first | (with_reducible apply At.new'; (focus (simp; done))) | with_reducible apply At.al | with_reducible apply At.drw | with_reducible apply At.dr))) hb1
  have HB : Below w.heap.size w v1 := below_then (by repeat (first | with_reducible assumption | with_reducible exact Below.refl _ _ | with_reducible refine below_al ?_ _ | with_reducible refine below_drew ?_ | with_reducible refine below_drewN ?_ _ | with_reducible refine below_set ?_ (by dsimp only; omega) _)) hb1
  clear hb1
  go_upto_region 3 with fail
  go_cut [36] (fun v wn => v = .bool b ∧ Below w.heap.size w wn ∧ At wn (w.heap.size) 23 #[.int .i64 an, .int .i64 ad])
  case first =>
    clear HS HA hbad RS HT RV hte RT HP RP hp HY
    have tru : ((40 < n ∧ n ≤ 1000) ∨ 1005 < n ∨ 100 < s.size) → Hid (b = true) := fun h => Lib.hid (by rw [← hb.out]; exact decide_eq_true h)
    have fal : ¬((40 < n ∧ n ≤ 1000) ∨ 1005 < n ∨ 100 < s.size) → Hid (b = false) := fun h => Lib.hid (by rw [← hb.out]; exact decide_eq_false h)
    by_cases a1 : 40 < n
    · by_cases a2 : n ≤ 1000
      · have e := tru (by omega)
        clear tru fal
        go_wp2_with fail
        all_goals (first | (exfalso; omega) | (go_meet; exact ⟨by cases e.out; first | rfl | (congr 1; simp <;> omega), HB, k_a⟩))
      · by_cases a3 : 1005 < n
        · have e := tru (by omega)
          clear tru fal
          go_wp2_with fail
          all_goals (first | (exfalso; omega) | (go_meet; exact ⟨by cases e.out; first | rfl | (congr 1; simp <;> omega), HB, k_a⟩))
        · by_cases a4 : 100 < s.size
          · have e := tru (by omega)
            clear tru fal
            go_wp2_with fail
            all_goals (first | (exfalso; omega) | (go_meet; exact ⟨by cases e.out; first | rfl | (congr 1; simp <;> omega), HB, k_a⟩))
          · have e := fal (by omega)
            clear tru fal
            go_wp2_with fail
            all_goals (first | (exfalso; omega) | (go_meet; exact ⟨by cases e.out; first | rfl | (congr 1; simp <;> omega), HB, k_a⟩))
    · by_cases a4 : 100 < s.size
      · have e := tru (by omega)
        clear tru fal
        go_wp2_with fail
        all_goals (first | (exfalso; omega) | (go_meet; exact ⟨by cases e.out; first | rfl | (congr 1; simp <;> omega), HB, k_a⟩))
      · have e := fal (by omega)
        clear tru fal
        go_wp2_with fail
        all_goals (first | (exfalso; omega) | (go_meet; exact ⟨by cases e.out; first | rfl | (congr 1; simp <;> omega), HB, k_a⟩))
  case rest =>
    clear HB k_a
    obtain ⟨rfl, HB, k_a⟩ := hcut
    cases b
    rotate_left
    · go_wp2_with fail
      go_ret
      exact ⟨rfl, HB⟩
    have hs100 : s.size ≤ 100 := by have := of_decide_eq_false hb.out; omega
    replace HP := Lib.hid (HP.out hs100)
    replace RP := Lib.hid (RP.out hs100)
    go_wp2_with fail
    refine (HS.out _ HB).mono ?_
    rintro e v2 ⟨rfl, hb2⟩
    replace k_a : At v2 (w.heap.size) 23 #[.int .i64 an, .int .i64 ad] := At.bel (by repeat (first | with_reducible assumption | with_reducible apply At.put0 | with_reducible apply At.put1 | with_reducible refine At.far ?_ (by dsimp only; omega) _ | with_reducible apply At.al | with_reducible apply At.drw | with_reducible apply At.dr)) hb2
    replace HB : Below w.heap.size w v2 := below_then (by repeat (first | with_reducible assumption | with_reducible exact Below.refl _ _ | with_reducible refine below_al ?_ _ | with_reducible refine below_drew ?_ | with_reducible refine below_drewN ?_ _ | with_reducible refine below_set ?_ (by dsimp only; omega) _)) hb2
    clear hb2
    go_wp2_with fail
    refine (HA.out _ (by exact below_al HB _)).mono ?_
    rintro e v3 ⟨rfl, hb3⟩
    replace k_a : At v3 (w.heap.size) 23 #[.int .i64 an, .int .i64 ad] := At.bel (by repeat (first | with_reducible assumption | with_reducible apply At.put0 | with_reducible apply At.put1 | with_reducible refine At.far ?_ (by dsimp only; omega) _ | with_reducible apply At.al | with_reducible apply At.drw | with_reducible apply At.dr)) hb3
    have k_x : At v3 (v2.heap.size) 23 #[.int .i64 r.1, .int .i64 r.2.1] := At.bel (by (repeat (first | (with_reducible apply At.new'; (focus (simp; done))) | with_reducible apply At.al | with_reducible apply At.drw | with_reducible apply At.dr))) hb3
    replace HB : Below w.heap.size w v3 := below_then (by repeat (first | with_reducible assumption | with_reducible exact Below.refl _ _ | with_reducible refine below_al ?_ _ | with_reducible refine below_drew ?_ | with_reducible refine below_drewN ?_ _ | with_reducible refine below_set ?_ (by dsimp only; omega) _)) hb3
    clear hb3
    go_upto_if 44 with fail
    go_cut [] (fun  wn => Below w.heap.size w wn ∧ At wn (w.heap.size) 23 #[.int .i64 an, .int .i64 ad] ∧ At wn (v2.heap.size) 23 #[.int .i64 r.1, .int .i64 r.2.1])
    case first =>
      cases av
      · have HYb : Hid (∀ w, Calls Tryd.prog 21 #[.agg #[.int .i64 r.1, .int .i64 r.2.1], .int .i64 r.2.2, .agg #[.int .i64 0, .int .i64 0], .int .i64 1] w fun e w' => e = .returned (.bool true) ∧ Below w.heap.size w w') := Lib.hid (fun w => by have := HY.out r w; rw [hbad.out rfl] at this ⊢; exact this)
        clear hp hte HT RV RT HP RP RS HA HS
        have Lk_x := k_x.lt
        obtain ⟨k_x0, k_x1, k_x2, k_x3⟩ := k_x.two
        go_wp2_with fail
        refine (HYb.out _).mono ?_
        rintro e v4 ⟨rfl, hb4⟩
        clear k_x0 k_x1 k_x2 k_x3 Lk_x
        replace k_a : At v4 (w.heap.size) 23 #[.int .i64 an, .int .i64 ad] := At.bel (by repeat (first | with_reducible assumption | with_reducible apply At.put0 | with_reducible apply At.put1 | with_reducible refine At.far ?_ (by dsimp only; omega) _ | with_reducible apply At.al | with_reducible apply At.drw | with_reducible apply At.dr)) hb4
        replace k_x : At v4 (v2.heap.size) 23 #[.int .i64 r.1, .int .i64 r.2.1] := At.bel (by repeat (first | with_reducible assumption | with_reducible apply At.put0 | with_reducible apply At.put1 | with_reducible refine At.far ?_ (by dsimp only; omega) _ | with_reducible apply At.al | with_reducible apply At.drw | with_reducible apply At.dr)) hb4
        replace HB : Below w.heap.size w v4 := below_then (by repeat (first | with_reducible assumption | with_reducible exact Below.refl _ _ | with_reducible refine below_al ?_ _ | with_reducible refine below_drew ?_ | with_reducible refine below_drewN ?_ _ | with_reducible refine below_set ?_ (by dsimp only; omega) _)) hb4
        clear hb4
        have Lk_x := k_x.lt
        obtain ⟨k_x0, k_x1, k_x2, k_x3⟩ := k_x.two
        go_wp2_with fail
        go_meet
        exact ⟨(by repeat (first | with_reducible assumption | with_reducible exact Below.refl _ _ | with_reducible refine below_al ?_ _ | with_reducible refine below_drew ?_ | with_reducible refine below_drewN ?_ _ | with_reducible refine below_set ?_ (by dsimp only; omega) _)), (by repeat (first | with_reducible assumption | with_reducible apply At.put0 | with_reducible apply At.put1 | with_reducible refine At.far ?_ (by dsimp only; omega) _ | with_reducible apply At.al | with_reducible apply At.drw | with_reducible apply At.dr)), (by repeat (first | with_reducible assumption | with_reducible apply At.put0 | with_reducible apply At.put1 | with_reducible refine At.far ?_ (by dsimp only; omega) _ | with_reducible apply At.al | with_reducible apply At.drw | with_reducible apply At.dr))⟩
      · have HRS := Lib.hid (RS.out rfl)
        clear hp hte HT RV RT HP RP RS HA HS hbad
        go_wp2_with fail
        refine (HRS.out _ HB).mono ?_
        rintro e v4 ⟨rfl, hb4⟩
        replace k_a : At v4 (w.heap.size) 23 #[.int .i64 an, .int .i64 ad] := At.bel (by repeat (first | with_reducible assumption | with_reducible apply At.put0 | with_reducible apply At.put1 | with_reducible refine At.far ?_ (by dsimp only; omega) _ | with_reducible apply At.al | with_reducible apply At.drw | with_reducible apply At.dr)) hb4
        replace k_x : At v4 (v2.heap.size) 23 #[.int .i64 r.1, .int .i64 r.2.1] := At.bel (by repeat (first | with_reducible assumption | with_reducible apply At.put0 | with_reducible apply At.put1 | with_reducible refine At.far ?_ (by dsimp only; omega) _ | with_reducible apply At.al | with_reducible apply At.drw | with_reducible apply At.dr)) hb4
        replace HB : Below w.heap.size w v4 := below_then (by repeat (first | with_reducible assumption | with_reducible exact Below.refl _ _ | with_reducible refine below_al ?_ _ | with_reducible refine below_drew ?_ | with_reducible refine below_drewN ?_ _ | with_reducible refine below_set ?_ (by dsimp only; omega) _)) hb4
        clear hb4
        have Lk_x := k_x.lt
        obtain ⟨k_x0, k_x1, k_x2, k_x3⟩ := k_x.two
        go_wp2_with fail
        refine (HY.out r _).mono ?_
        rintro e v5 ⟨rfl, hb5⟩
        clear k_x0 k_x1 k_x2 k_x3 Lk_x
        replace k_a : At v5 (w.heap.size) 23 #[.int .i64 an, .int .i64 ad] := At.bel (by repeat (first | with_reducible assumption | with_reducible apply At.put0 | with_reducible apply At.put1 | with_reducible refine At.far ?_ (by dsimp only; omega) _ | with_reducible apply At.al | with_reducible apply At.drw | with_reducible apply At.dr)) hb5
        replace k_x : At v5 (v2.heap.size) 23 #[.int .i64 r.1, .int .i64 r.2.1] := At.bel (by repeat (first | with_reducible assumption | with_reducible apply At.put0 | with_reducible apply At.put1 | with_reducible refine At.far ?_ (by dsimp only; omega) _ | with_reducible apply At.al | with_reducible apply At.drw | with_reducible apply At.dr)) hb5
        have k_y : At v5 (v4.heap.size) 23 #[.int .i64 r.1, .int .i64 r.2.1] := At.bel (by (repeat (first | (with_reducible apply At.new'; (focus (simp; done))) | with_reducible apply At.al | with_reducible apply At.drw | with_reducible apply At.dr))) hb5
        replace HB : Below w.heap.size w v5 := below_then (by repeat (first | with_reducible assumption | with_reducible exact Below.refl _ _ | with_reducible refine below_al ?_ _ | with_reducible refine below_drew ?_ | with_reducible refine below_drewN ?_ _ | with_reducible refine below_set ?_ (by dsimp only; omega) _)) hb5
        clear hb5
        have Lk_x := k_x.lt
        obtain ⟨k_x0, k_x1, k_x2, k_x3⟩ := k_x.two
        go_wp2_with fail
        go_meet
        exact ⟨(by repeat (first | with_reducible assumption | with_reducible exact Below.refl _ _ | with_reducible refine below_al ?_ _ | with_reducible refine below_drew ?_ | with_reducible refine below_drewN ?_ _ | with_reducible refine below_set ?_ (by dsimp only; omega) _)), (by repeat (first | with_reducible assumption | with_reducible apply At.put0 | with_reducible apply At.put1 | with_reducible refine At.far ?_ (by dsimp only; omega) _ | with_reducible apply At.al | with_reducible apply At.drw | with_reducible apply At.dr)), (by repeat (first | with_reducible assumption | with_reducible apply At.put0 | with_reducible apply At.put1 | with_reducible refine At.far ?_ (by dsimp only; omega) _ | with_reducible apply At.al | with_reducible apply At.drw | with_reducible apply At.dr))⟩
    case rest =>
      clear k_a k_x
      clear HB
      obtain ⟨HB, k_a, k_x⟩ := hcut
      clear k_x HS HA hbad RS HY
      have Lk_a := k_a.lt
      obtain ⟨k_a0, k_a1, k_a2, k_a3⟩ := k_a.two
      go_wp2_with fail
      refine (HT.out _ HB).mono ?_
      rintro e v4 ⟨rfl, hb4⟩
      clear k_a0 k_a1 k_a2 k_a3 Lk_a
      replace k_a : At v4 (w.heap.size) 23 #[.int .i64 an, .int .i64 ad] := At.bel (by repeat (first | with_reducible assumption | with_reducible apply At.put0 | with_reducible apply At.put1 | with_reducible refine At.far ?_ (by dsimp only; omega) _ | with_reducible apply At.al | with_reducible apply At.drw | with_reducible apply At.dr)) hb4
      replace HB : Below w.heap.size w v4 := below_then (by repeat (first | with_reducible assumption | with_reducible exact Below.refl _ _ | with_reducible refine below_al ?_ _ | with_reducible refine below_drew ?_ | with_reducible refine below_drewN ?_ _ | with_reducible refine below_set ?_ (by dsimp only; omega) _)) hb4
      clear hb4
      have Lk_a := k_a.lt
      obtain ⟨k_a0, k_a1, k_a2, k_a3⟩ := k_a.two
      go_wp2_with fail
      refine (RV.out _ HB).mono ?_
      rintro e v5 ⟨rfl, hb5⟩
      clear k_a0 k_a1 k_a2 k_a3 Lk_a
      replace k_a : At v5 (w.heap.size) 23 #[.int .i64 an, .int .i64 ad] := At.bel (by repeat (first | with_reducible assumption | with_reducible apply At.put0 | with_reducible apply At.put1 | with_reducible refine At.far ?_ (by dsimp only; omega) _ | with_reducible apply At.al | with_reducible apply At.drw | with_reducible apply At.dr)) hb5
      replace HB : Below w.heap.size w v5 := below_then (by repeat (first | with_reducible assumption | with_reducible exact Below.refl _ _ | with_reducible refine below_al ?_ _ | with_reducible refine below_drew ?_ | with_reducible refine below_drewN ?_ _ | with_reducible refine below_set ?_ (by dsimp only; omega) _)) hb5
      clear hb5
      have Lk_a := k_a.lt
      obtain ⟨k_a0, k_a1, k_a2, k_a3⟩ := k_a.two
      go_upto_if 68 with fail
      go_cut [] (fun  wn => Below w.heap.size w wn ∧ At wn (w.heap.size) 23 #[.int .i64 an, .int .i64 ad])
      case first =>
        cases fv
        · obtain ⟨rfl, rfl⟩ := hte.out.1 rfl
          clear hp HP RP RT HT RV
          skip
          go_wp2_with fail
          go_meet
          exact ⟨(by repeat (first | with_reducible assumption | with_reducible exact Below.refl _ _ | with_reducible refine below_al ?_ _ | with_reducible refine below_drew ?_ | with_reducible refine below_drewN ?_ _ | with_reducible refine below_set ?_ (by dsimp only; omega) _)), (by repeat (first | with_reducible assumption | with_reducible apply At.put0 | with_reducible apply At.put1 | with_reducible refine At.far ?_ (by dsimp only; omega) _ | with_reducible apply At.al | with_reducible apply At.drw | with_reducible apply At.dr))⟩
        · obtain rfl := hte.out.2 rfl
          have HRT := Lib.hid (RT.out rfl)
          clear hp HP RP RT HT RV
          go_wp2_with fail
          refine (HRT.out _ HB).mono ?_
          rintro e v6 ⟨rfl, hb6⟩
          clear k_a0 k_a1 k_a2 k_a3 Lk_a
          replace k_a : At v6 (w.heap.size) 23 #[.int .i64 an, .int .i64 ad] := At.bel (by repeat (first | with_reducible assumption | with_reducible apply At.put0 | with_reducible apply At.put1 | with_reducible refine At.far ?_ (by dsimp only; omega) _ | with_reducible apply At.al | with_reducible apply At.drw | with_reducible apply At.dr)) hb6
          replace HB : Below w.heap.size w v6 := below_then (by repeat (first | with_reducible assumption | with_reducible exact Below.refl _ _ | with_reducible refine below_al ?_ _ | with_reducible refine below_drew ?_ | with_reducible refine below_drewN ?_ _ | with_reducible refine below_set ?_ (by dsimp only; omega) _)) hb6
          clear hb6
          have Lk_a := k_a.lt
          obtain ⟨k_a0, k_a1, k_a2, k_a3⟩ := k_a.two
          go_wp2_with fail
          go_meet
          exact ⟨(by repeat (first | with_reducible assumption | with_reducible exact Below.refl _ _ | with_reducible refine below_al ?_ _ | with_reducible refine below_drew ?_ | with_reducible refine below_drewN ?_ _ | with_reducible refine below_set ?_ (by dsimp only; omega) _)), (by repeat (first | with_reducible assumption | with_reducible apply At.put0 | with_reducible apply At.put1 | with_reducible refine At.far ?_ (by dsimp only; omega) _ | with_reducible apply At.al | with_reducible apply At.drw | with_reducible apply At.dr))⟩
      case rest =>
        clear k_a0 k_a1 k_a2 k_a3 Lk_a
        clear k_a
        clear HB
        obtain ⟨HB, k_a⟩ := hcut
        have Lk_a := k_a.lt
        obtain ⟨k_a0, k_a1, k_a2, k_a3⟩ := k_a.two
        clear k_a0 k_a1 k_a2 k_a3 Lk_a
        clear k_a HT RV RT hte
        cases y3
        · obtain ⟨rfl, rfl, rfl⟩ := hp.out.1 rfl
          clear hp
          go_wp2_with fail
          refine (HP.out _ HB).mono ?_
          rintro e v6 ⟨rfl, hb6⟩
          replace HB : Below w.heap.size w v6 := below_then (by repeat (first | with_reducible assumption | with_reducible exact Below.refl _ _ | with_reducible refine below_al ?_ _ | with_reducible refine below_drew ?_ | with_reducible refine below_drewN ?_ _ | with_reducible refine below_set ?_ (by dsimp only; omega) _)) hb6
          clear hb6
          go_wp2_with fail
          refine (RP.out _ (by exact below_al HB _)).mono ?_
          rintro e v7 ⟨rfl, hb7⟩
          have k_p : At v7 (v6.heap.size) 23 #[.int .i64 0, .int .i64 0] := At.bel (by (repeat (first | (with_reducible apply At.new'; (focus (simp; done))) | with_reducible apply At.al | with_reducible apply At.drw | with_reducible apply At.dr))) hb7
          replace HB : Below w.heap.size w v7 := below_then (by repeat (first | with_reducible assumption | with_reducible exact Below.refl _ _ | with_reducible refine below_al ?_ _ | with_reducible refine below_drew ?_ | with_reducible refine below_drewN ?_ _ | with_reducible refine below_set ?_ (by dsimp only; omega) _)) hb7
          clear hb7
          have Lk_p := k_p.lt
          obtain ⟨k_p0, k_p1, k_p2, k_p3⟩ := k_p.two
          go_wp2_with fail
          go_ret
          exact ⟨rfl, (by repeat (first | with_reducible assumption | with_reducible exact Below.refl _ _ | with_reducible refine below_al ?_ _ | with_reducible refine below_drew ?_ | with_reducible refine below_drewN ?_ _ | with_reducible refine below_set ?_ (by dsimp only; omega) _))⟩
        · obtain rfl := hp.out.2 rfl
          clear hp
          go_wp2_with fail
          refine (HP.out _ HB).mono ?_
          rintro e v6 ⟨rfl, hb6⟩
          replace HB : Below w.heap.size w v6 := below_then (by repeat (first | with_reducible assumption | with_reducible exact Below.refl _ _ | with_reducible refine below_al ?_ _ | with_reducible refine below_drew ?_ | with_reducible refine below_drewN ?_ _ | with_reducible refine below_set ?_ (by dsimp only; omega) _)) hb6
          clear hb6
          go_wp2_with fail
          refine (RP.out _ (by exact below_al HB _)).mono ?_
          rintro e v7 ⟨rfl, hb7⟩
          have k_p : At v7 (v6.heap.size) 23 #[.int .i64 p1, .int .i64 p2] := At.bel (by (repeat (first | (with_reducible apply At.new'; (focus (simp; done))) | with_reducible apply At.al | with_reducible apply At.drw | with_reducible apply At.dr))) hb7
          replace HB : Below w.heap.size w v7 := below_then (by repeat (first | with_reducible assumption | with_reducible exact Below.refl _ _ | with_reducible refine below_al ?_ _ | with_reducible refine below_drew ?_ | with_reducible refine below_drewN ?_ _ | with_reducible refine below_set ?_ (by dsimp only; omega) _)) hb7
          clear hb7
          have Lk_p := k_p.lt
          obtain ⟨k_p0, k_p1, k_p2, k_p3⟩ := k_p.two
          go_wp2_with fail
          go_ret
          exact ⟨rfl, (by repeat (first | with_reducible assumption | with_reducible exact Below.refl _ _ | with_reducible refine below_al ?_ _ | with_reducible refine below_drew ?_ | with_reducible refine below_drewN ?_ _ | with_reducible refine below_set ?_ (by dsimp only; omega) _))⟩

theorem frv_ext (r : Int × Int × Int) : frv r = .tuple #[.agg #[.int .i64 r.1, .int .i64 r.2.1], .int .i64 r.2.2] := rfl
theorem ratioTexts_walk (l : List (Int × Int)) (ao : Option Addr) (cap : Nat) (hl : l.length ≤ cap) (hc : cap ≤ 9223372036854775806) (an ad : Int) (s : ByteArray) (w : World) (ha : FrAt w.heap.size w ao l) (he : Env w) :
    Calls Tryd.prog 9 #[.slice ao l.length cap, .agg #[.int .i64 an, .int .i64 ad], .string s] w fun e w' => e = .returned (.bool true) ∧ Below w.heap.size w w' := by
  have fr : ∀ u, Below w.heap.size w u → FrAt u.heap.size u ao l := fun u hb => (ha.bel (Nat.le_refl _) hb).mono hb.size
  obtain ⟨st, te, HT, hte, hst⟩ : ∃ (st : ByteArray) (te : Int), (∀ u, Below w.heap.size w u → Calls Tryd.prog 34 #[.agg #[.int .i64 an, .int .i64 ad]] u fun e w' => e = .returned (.tuple #[.string st, .int .i64 te]) ∧ Below u.heap.size u w') ∧ ((fracB an ad = false → st = ⟨#[]⟩ ∧ te = 1) ∧ (fracB an ad = true → te = 0)) ∧ (fracB an ad = true → st = ⟨(txtL an ad).toArray⟩) := by
    cases hf : fracB an ad
    · exact ⟨⟨#[]⟩, 1, fun u _ => Text_bad an ad hf u, ⟨fun _ => ⟨rfl, rfl⟩, fun h => by cases h⟩, fun h => by cases h⟩
    · exact ⟨⟨(txtL an ad).toArray⟩, 0, fun u hb => Text_any an ad hf u (he.tab.bel hb), ⟨fun h => (by cases h), fun _ => rfl⟩, fun _ => rfl⟩
  obtain ⟨p1, p2, p3, y3, HP, RP, hp⟩ : ∃ (p1 p2 p3 : Int) (y3 : Bool), frv (pvR (parO (by_ s))) = frv (p1, p2, p3) ∧ rvR (refO (by_ s)) = .tuple #[.agg #[.int .i64 p1, .int .i64 p2], .bool y3] ∧ ((y3 = false → p1 = 0 ∧ p2 = 0 ∧ p3 = 7) ∧ (y3 = true → p3 = 0)) := by
    rw [← parO_eq]
    rcases parO (by_ s) with _ | ⟨n, d⟩
    · exact ⟨0, 0, 7, false, rfl, rfl, ⟨fun _ => ⟨rfl, rfl, rfl⟩, fun h => by cases h⟩⟩
    · exact ⟨n, d, 0, true, rfl, rfl, ⟨fun h => (by cases h), fun _ => rfl⟩⟩
  refine texts_core ao l.length cap an ad s (sumS l) (allV l) (fracB an ad) st te p1 p2 p3 y3 w (Lib.hid fun u hb => awake_any u (he.tab.bel hb)) (Lib.hid fun u hb => sum_any l ao cap hl hc u (fr u hb)) (Lib.hid fun u hb => refall_any l ao cap hl hc u (fr u hb)) (Lib.hid fun h => by unfold sumS; rw [h]; rfl)
    (Lib.hid fun h u hb => refsum_any l ao cap hl hc h u (fr u hb)) (Lib.hid HT) (Lib.hid fun u _ => reffvalid_any an ad u) (Lib.hid hte) (Lib.hid fun h u _ => by rw [hst h]; exact reftext_any an ad h u) (Lib.hid fun hs u hb => ?_) (Lib.hid fun hs u hb => ?_) (Lib.hid hp) (Lib.hid fun r u => same_yes r u)
  · rw [← HP]; exact parse_any s (by omega) u (he.bel hb)
  · rw [← RP]; exact refpparse_any s (by omega) u

end Go.Proofs.YtpijmjffobkalaaDoor
