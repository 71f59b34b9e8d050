/- SpanRules' walk: it returns true. -/
import Derived.Test.YtgipfmleefojbaaLRuok
import Derived.Test.YtgipfmleefojbaaLRuover
import Derived.Test.YtgipfmleefojbaaLRubig
set_option linter.unusedVariables false
namespace Go.Proofs.Ytgipfmleefojbaa
open Go.ChangeShapes Go.WideShapes Go.ChangeAt Go.RowKit

set_option maxRecDepth 100000 in
set_option maxHeartbeats 4000000 in
theorem spanRules_walk (al ah bl bh : Int) (_ : (Lit.int .i64 al).wf = true) (_ : (Lit.int .i64 ah).wf = true) (_ : (Lit.int .i64 bl).wf = true) (_ : (Lit.int .i64 bh).wf = true) (w : World) :
    Calls Try.prog 9 #[sp al ah, sp bl bh] w fun e w' => e = .returned (.bool true) ∧ Below w.heap.size w w' := by
  have HW1 := Lib.hid (fun w => refvalid_any al ah w)
  have HW2 := Lib.hid (fun w => refvalid_any bl bh w)
  cases hv1 : validB al ah
  · rw [hv1] at HW1
    clear HW2 hv1
    go_enter Try.func9, Try.ntmps9
    go_wp2_with fail
    refine (awake_any _).mono ?_
    rintro e v1 ⟨rfl, hb1⟩
    have k_a : At v1 (w.heap.size) 23 #[.int .i64 al, .int .i64 ah] := At.bel (by (repeat (first | (with_reducible apply At.new'; (focus (simp; done))) | with_reducible apply At.al | with_reducible apply At.drw | with_reducible apply At.dr))) hb1
    have k_b : At v1 (w.heap.size + 1) 23 #[.int .i64 bl, .int .i64 bh] := At.bel (by (repeat (first | (with_reducible apply At.new'; (focus (simp; done))) | with_reducible apply At.al | with_reducible apply At.drw | with_reducible apply At.dr))) hb1
    have HB : Below w.heap.size w v1 := below_then (by repeat (first | with_reducible assumption | with_reducible exact Below.refl _ _ | with_reducible refine below_al ?_ _ | with_reducible refine below_drew ?_ | with_reducible refine below_drewN ?_ _ | with_reducible refine below_set ?_ (by dsimp only; omega) _)) hb1
    clear hb1
    have Lk_a := k_a.lt
    obtain ⟨k_a0, k_a1, k_a2, k_a3⟩ := k_a.two
    have Lk_b := k_b.lt
    obtain ⟨k_b0, k_b1, k_b2, k_b3⟩ := k_b.two
    go_wp2_with fail
    refine (HW1.out _).mono ?_
    rintro e v2 ⟨rfl, hb2⟩
    clear k_a0 k_a1 k_a2 k_a3 Lk_a k_b0 k_b1 k_b2 k_b3 Lk_b
    replace k_a : At v2 (w.heap.size) 23 #[.int .i64 al, .int .i64 ah] := At.bel (by repeat (first | with_reducible assumption | with_reducible apply At.put0 | with_reducible apply At.put1 | with_reducible refine At.far ?_ (by dsimp only; omega) _ | with_reducible apply At.al | with_reducible apply At.drw | with_reducible apply At.dr)) hb2
    replace k_b : At v2 (w.heap.size + 1) 23 #[.int .i64 bl, .int .i64 bh] := At.bel (by repeat (first | with_reducible assumption | with_reducible apply At.put0 | with_reducible apply At.put1 | with_reducible refine At.far ?_ (by dsimp only; omega) _ | with_reducible apply At.al | with_reducible apply At.drw | with_reducible apply At.dr)) hb2
    replace HB : Below w.heap.size w v2 := below_then (by repeat (first | with_reducible assumption | with_reducible exact Below.refl _ _ | with_reducible refine below_al ?_ _ | with_reducible refine below_drew ?_ | with_reducible refine below_drewN ?_ _ | with_reducible refine below_set ?_ (by dsimp only; omega) _)) hb2
    clear hb2
    have Lk_a := k_a.lt
    obtain ⟨k_a0, k_a1, k_a2, k_a3⟩ := k_a.two
    have Lk_b := k_b.lt
    obtain ⟨k_b0, k_b1, k_b2, k_b3⟩ := k_b.two
    go_wp2_with fail
    go_ret
    exact ⟨rfl, HB⟩
  cases hv2 : validB bl bh
  · rw [hv1] at HW1
    rw [hv2] at HW2
    clear hv1 hv2
    go_enter Try.func9, Try.ntmps9
    go_wp2_with fail
    refine (awake_any _).mono ?_
    rintro e v1 ⟨rfl, hb1⟩
    have k_a : At v1 (w.heap.size) 23 #[.int .i64 al, .int .i64 ah] := At.bel (by (repeat (first | (with_reducible apply At.new'; (focus (simp; done))) | with_reducible apply At.al | with_reducible apply At.drw | with_reducible apply At.dr))) hb1
    have k_b : At v1 (w.heap.size + 1) 23 #[.int .i64 bl, .int .i64 bh] := At.bel (by (repeat (first | (with_reducible apply At.new'; (focus (simp; done))) | with_reducible apply At.al | with_reducible apply At.drw | with_reducible apply At.dr))) hb1
    have HB : Below w.heap.size w v1 := below_then (by repeat (first | with_reducible assumption | with_reducible exact Below.refl _ _ | with_reducible refine below_al ?_ _ | with_reducible refine below_drew ?_ | with_reducible refine below_drewN ?_ _ | with_reducible refine below_set ?_ (by dsimp only; omega) _)) hb1
    clear hb1
    have Lk_a := k_a.lt
    obtain ⟨k_a0, k_a1, k_a2, k_a3⟩ := k_a.two
    have Lk_b := k_b.lt
    obtain ⟨k_b0, k_b1, k_b2, k_b3⟩ := k_b.two
    go_wp2_with fail
    refine (HW1.out _).mono ?_
    rintro e v2 ⟨rfl, hb2⟩
    clear k_a0 k_a1 k_a2 k_a3 Lk_a k_b0 k_b1 k_b2 k_b3 Lk_b
    replace k_a : At v2 (w.heap.size) 23 #[.int .i64 al, .int .i64 ah] := At.bel (by repeat (first | with_reducible assumption | with_reducible apply At.put0 | with_reducible apply At.put1 | with_reducible refine At.far ?_ (by dsimp only; omega) _ | with_reducible apply At.al | with_reducible apply At.drw | with_reducible apply At.dr)) hb2
    replace k_b : At v2 (w.heap.size + 1) 23 #[.int .i64 bl, .int .i64 bh] := At.bel (by repeat (first | with_reducible assumption | with_reducible apply At.put0 | with_reducible apply At.put1 | with_reducible refine At.far ?_ (by dsimp only; omega) _ | with_reducible apply At.al | with_reducible apply At.drw | with_reducible apply At.dr)) hb2
    replace HB : Below w.heap.size w v2 := below_then (by repeat (first | with_reducible assumption | with_reducible exact Below.refl _ _ | with_reducible refine below_al ?_ _ | with_reducible refine below_drew ?_ | with_reducible refine below_drewN ?_ _ | with_reducible refine below_set ?_ (by dsimp only; omega) _)) hb2
    clear hb2
    have Lk_a := k_a.lt
    obtain ⟨k_a0, k_a1, k_a2, k_a3⟩ := k_a.two
    have Lk_b := k_b.lt
    obtain ⟨k_b0, k_b1, k_b2, k_b3⟩ := k_b.two
    go_wp2_with fail
    refine (HW2.out _).mono ?_
    rintro e v3 ⟨rfl, hb3⟩
    clear k_a0 k_a1 k_a2 k_a3 Lk_a k_b0 k_b1 k_b2 k_b3 Lk_b
    replace k_a : At v3 (w.heap.size) 23 #[.int .i64 al, .int .i64 ah] := At.bel (by repeat (first | with_reducible assumption | with_reducible apply At.put0 | with_reducible apply At.put1 | with_reducible refine At.far ?_ (by dsimp only; omega) _ | with_reducible apply At.al | with_reducible apply At.drw | with_reducible apply At.dr)) hb3
    replace k_b : At v3 (w.heap.size + 1) 23 #[.int .i64 bl, .int .i64 bh] := At.bel (by repeat (first | with_reducible assumption | with_reducible apply At.put0 | with_reducible apply At.put1 | with_reducible refine At.far ?_ (by dsimp only; omega) _ | with_reducible apply At.al | with_reducible apply At.drw | with_reducible apply At.dr)) hb3
    replace HB : Below w.heap.size w v3 := below_then (by repeat (first | with_reducible assumption | with_reducible exact Below.refl _ _ | with_reducible refine below_al ?_ _ | with_reducible refine below_drew ?_ | with_reducible refine below_drewN ?_ _ | with_reducible refine below_set ?_ (by dsimp only; omega) _)) hb3
    clear hb3
    have Lk_a := k_a.lt
    obtain ⟨k_a0, k_a1, k_a2, k_a3⟩ := k_a.two
    have Lk_b := k_b.lt
    obtain ⟨k_b0, k_b1, k_b2, k_b3⟩ := k_b.two
    go_wp2_with fail
    go_ret
    exact ⟨rfl, HB⟩
  clear HW1 HW2
  have q1 := validB_iff.1 hv1
  have q2 := validB_iff.1 hv2
  cases ha : (withinB (al + bl) && withinB (ah + bh))
  · have ea : addS al ah bl bh = (0, 0, 5) := by simp only [addS, hv1, hv2, Bool.and_self, if_true, fitS, ha]; rfl
    by_cases hm1 : ah < bl
    · have hl : al ≤ bl := by omega
      have hh : ah < bh := by omega
      have eh : hulS al ah bl bh = (al, bh, 0) := by simp only [hulS, hv1, hv2, Bool.and_self, if_true, Prod.mk.injEq, and_true]; unfold minI maxI; constructor <;> split <;> omega
      have em : meeS al ah bl bh = (0, 0, 12) := by
        have e1 : maxI al bl = bl := by unfold maxI; split <;> omega
        have e2 : minI ah bh = ah := by unfold minI; split <;> omega
        simp only [meeS, hv1, hv2, Bool.and_self, if_true, e1, e2]
        rw [if_pos (by omega)]
      exact rules_big_ab_no al ah bl bh (mulS al ah bl bh) hl hh hm1 (Lib.hid (fun w => by have := refvalid_any al ah w; rw [hv1] at this; exact this)) (Lib.hid (fun w => by have := refvalid_any bl bh w; rw [hv2] at this; exact this)) (Lib.hid (fun w => by have := add_any al ah bl bh w; rw [ea] at this; exact this)) (Lib.hid (fun w => by have := add_any bl bh al ah w; rw [addS_comm, ea] at this; exact this)) (Lib.hid (fun w => by have := mul_any al ah bl bh w; exact this)) (Lib.hid (fun w => by have := mul_any bl bh al ah w; rw [mulS_comm] at this; exact this)) (Lib.hid (fun w => by have := hul_any al ah bl bh w; rw [eh] at this; exact this)) (Lib.hid (fun w => inside_yes _ _ _ _ (by omega) (by omega) w)) (Lib.hid (fun w => inside_yes _ _ _ _ (by omega) (by omega) w)) (Lib.hid (fun w => by have := mee_any al ah bl bh w; rw [em] at this; exact this)) w
    by_cases hm1 : bh < al
    · have hl : bl < al := by omega
      have hh : bh ≤ ah := by omega
      have eh : hulS al ah bl bh = (bl, ah, 0) := by simp only [hulS, hv1, hv2, Bool.and_self, if_true, Prod.mk.injEq, and_true]; unfold minI maxI; constructor <;> split <;> omega
      have em : meeS al ah bl bh = (0, 0, 12) := by
        have e1 : maxI al bl = al := by unfold maxI; split <;> omega
        have e2 : minI ah bh = bh := by unfold minI; split <;> omega
        simp only [meeS, hv1, hv2, Bool.and_self, if_true, e1, e2]
        rw [if_pos (by omega)]
      exact rules_big_ba_no al ah bl bh (mulS al ah bl bh) hl hh (by omega) hm1 (Lib.hid (fun w => by have := refvalid_any al ah w; rw [hv1] at this; exact this)) (Lib.hid (fun w => by have := refvalid_any bl bh w; rw [hv2] at this; exact this)) (Lib.hid (fun w => by have := add_any al ah bl bh w; rw [ea] at this; exact this)) (Lib.hid (fun w => by have := add_any bl bh al ah w; rw [addS_comm, ea] at this; exact this)) (Lib.hid (fun w => by have := mul_any al ah bl bh w; exact this)) (Lib.hid (fun w => by have := mul_any bl bh al ah w; rw [mulS_comm] at this; exact this)) (Lib.hid (fun w => by have := hul_any al ah bl bh w; rw [eh] at this; exact this)) (Lib.hid (fun w => inside_yes _ _ _ _ (by omega) (by omega) w)) (Lib.hid (fun w => inside_yes _ _ _ _ (by omega) (by omega) w)) (Lib.hid (fun w => by have := mee_any al ah bl bh w; rw [em] at this; exact this)) w
    rcases Int.lt_or_le bl al with hl | hl
    · rcases Int.lt_or_le ah bh with hh | hh
      · have eh : hulS al ah bl bh = (bl, bh, 0) := by simp only [hulS, hv1, hv2, Bool.and_self, if_true, Prod.mk.injEq, and_true]; unfold minI maxI; constructor <;> split <;> omega
        have em : meeS al ah bl bh = (al, ah, 0) := by
          have e1 : maxI al bl = al := by unfold maxI; split <;> omega
          have e2 : minI ah bh = ah := by unfold minI; split <;> omega
          simp only [meeS, hv1, hv2, Bool.and_self, if_true, e1, e2]
          rw [if_neg (by omega)]
        have eg : hulS al ah al ah = (al, ah, 0) := by
          have e1 : minI al al = al := by unfold minI; split <;> omega
          have e2 : maxI ah ah = ah := by unfold maxI; split <;> omega
          have e3 : validB al ah = true := validB_iff.2 ⟨by omega, by omega, by omega⟩
          unfold hulS
          rw [e1, e2, if_pos (by rw [Bool.and_eq_true]; exact ⟨e3, hv1⟩)]
        exact rules_big_bb_ok al ah bl bh (mulS al ah bl bh) hl hh (by omega) (by omega) (Lib.hid (fun w => by have := refvalid_any al ah w; rw [hv1] at this; exact this)) (Lib.hid (fun w => by have := refvalid_any bl bh w; rw [hv2] at this; exact this)) (Lib.hid (fun w => by have := add_any al ah bl bh w; rw [ea] at this; exact this)) (Lib.hid (fun w => by have := add_any bl bh al ah w; rw [addS_comm, ea] at this; exact this)) (Lib.hid (fun w => by have := mul_any al ah bl bh w; exact this)) (Lib.hid (fun w => by have := mul_any bl bh al ah w; rw [mulS_comm] at this; exact this)) (Lib.hid (fun w => by have := hul_any al ah bl bh w; rw [eh] at this; exact this)) (Lib.hid (fun w => inside_yes _ _ _ _ (by omega) (by omega) w)) (Lib.hid (fun w => inside_yes _ _ _ _ (by omega) (by omega) w)) (Lib.hid (fun w => by have := mee_any al ah bl bh w; rw [em] at this; exact this)) (Lib.hid (fun w => by have := hul_any al ah al ah w; rw [eg] at this; exact this)) (Lib.hid (fun w => inside_yes _ _ _ _ (by omega) (by omega) w)) (Lib.hid (fun w => inside_yes _ _ _ _ (by omega) (by omega) w)) w
      · have eh : hulS al ah bl bh = (bl, ah, 0) := by simp only [hulS, hv1, hv2, Bool.and_self, if_true, Prod.mk.injEq, and_true]; unfold minI maxI; constructor <;> split <;> omega
        have em : meeS al ah bl bh = (al, bh, 0) := by
          have e1 : maxI al bl = al := by unfold maxI; split <;> omega
          have e2 : minI ah bh = bh := by unfold minI; split <;> omega
          simp only [meeS, hv1, hv2, Bool.and_self, if_true, e1, e2]
          rw [if_neg (by omega)]
        have eg : hulS al bh al ah = (al, ah, 0) := by
          have e1 : minI al al = al := by unfold minI; split <;> omega
          have e2 : maxI bh ah = ah := by unfold maxI; split <;> omega
          have e3 : validB al bh = true := validB_iff.2 ⟨by omega, by omega, by omega⟩
          unfold hulS
          rw [e1, e2, if_pos (by rw [Bool.and_eq_true]; exact ⟨e3, hv1⟩)]
        exact rules_big_ba_ok al ah bl bh (mulS al ah bl bh) hl hh (by omega) (by omega) (Lib.hid (fun w => by have := refvalid_any al ah w; rw [hv1] at this; exact this)) (Lib.hid (fun w => by have := refvalid_any bl bh w; rw [hv2] at this; exact this)) (Lib.hid (fun w => by have := add_any al ah bl bh w; rw [ea] at this; exact this)) (Lib.hid (fun w => by have := add_any bl bh al ah w; rw [addS_comm, ea] at this; exact this)) (Lib.hid (fun w => by have := mul_any al ah bl bh w; exact this)) (Lib.hid (fun w => by have := mul_any bl bh al ah w; rw [mulS_comm] at this; exact this)) (Lib.hid (fun w => by have := hul_any al ah bl bh w; rw [eh] at this; exact this)) (Lib.hid (fun w => inside_yes _ _ _ _ (by omega) (by omega) w)) (Lib.hid (fun w => inside_yes _ _ _ _ (by omega) (by omega) w)) (Lib.hid (fun w => by have := mee_any al ah bl bh w; rw [em] at this; exact this)) (Lib.hid (fun w => by have := hul_any al bh al ah w; rw [eg] at this; exact this)) (Lib.hid (fun w => inside_yes _ _ _ _ (by omega) (by omega) w)) (Lib.hid (fun w => inside_yes _ _ _ _ (by omega) (by omega) w)) w
    · rcases Int.lt_or_le ah bh with hh | hh
      · have eh : hulS al ah bl bh = (al, bh, 0) := by simp only [hulS, hv1, hv2, Bool.and_self, if_true, Prod.mk.injEq, and_true]; unfold minI maxI; constructor <;> split <;> omega
        have em : meeS al ah bl bh = (bl, ah, 0) := by
          have e1 : maxI al bl = bl := by unfold maxI; split <;> omega
          have e2 : minI ah bh = ah := by unfold minI; split <;> omega
          simp only [meeS, hv1, hv2, Bool.and_self, if_true, e1, e2]
          rw [if_neg (by omega)]
        have eg : hulS bl ah al ah = (al, ah, 0) := by
          have e1 : minI bl al = al := by unfold minI; split <;> omega
          have e2 : maxI ah ah = ah := by unfold maxI; split <;> omega
          have e3 : validB bl ah = true := validB_iff.2 ⟨by omega, by omega, by omega⟩
          unfold hulS
          rw [e1, e2, if_pos (by rw [Bool.and_eq_true]; exact ⟨e3, hv1⟩)]
        exact rules_big_ab_ok al ah bl bh (mulS al ah bl bh) hl hh (by omega) (by omega) (Lib.hid (fun w => by have := refvalid_any al ah w; rw [hv1] at this; exact this)) (Lib.hid (fun w => by have := refvalid_any bl bh w; rw [hv2] at this; exact this)) (Lib.hid (fun w => by have := add_any al ah bl bh w; rw [ea] at this; exact this)) (Lib.hid (fun w => by have := add_any bl bh al ah w; rw [addS_comm, ea] at this; exact this)) (Lib.hid (fun w => by have := mul_any al ah bl bh w; exact this)) (Lib.hid (fun w => by have := mul_any bl bh al ah w; rw [mulS_comm] at this; exact this)) (Lib.hid (fun w => by have := hul_any al ah bl bh w; rw [eh] at this; exact this)) (Lib.hid (fun w => inside_yes _ _ _ _ (by omega) (by omega) w)) (Lib.hid (fun w => inside_yes _ _ _ _ (by omega) (by omega) w)) (Lib.hid (fun w => by have := mee_any al ah bl bh w; rw [em] at this; exact this)) (Lib.hid (fun w => by have := hul_any bl ah al ah w; rw [eg] at this; exact this)) (Lib.hid (fun w => inside_yes _ _ _ _ (by omega) (by omega) w)) (Lib.hid (fun w => inside_yes _ _ _ _ (by omega) (by omega) w)) w
      · have eh : hulS al ah bl bh = (al, ah, 0) := by simp only [hulS, hv1, hv2, Bool.and_self, if_true, Prod.mk.injEq, and_true]; unfold minI maxI; constructor <;> split <;> omega
        have em : meeS al ah bl bh = (bl, bh, 0) := by
          have e1 : maxI al bl = bl := by unfold maxI; split <;> omega
          have e2 : minI ah bh = bh := by unfold minI; split <;> omega
          simp only [meeS, hv1, hv2, Bool.and_self, if_true, e1, e2]
          rw [if_neg (by omega)]
        have eg : hulS bl bh al ah = (al, ah, 0) := by
          have e1 : minI bl al = al := by unfold minI; split <;> omega
          have e2 : maxI bh ah = ah := by unfold maxI; split <;> omega
          have e3 : validB bl bh = true := validB_iff.2 ⟨by omega, by omega, by omega⟩
          unfold hulS
          rw [e1, e2, if_pos (by rw [Bool.and_eq_true]; exact ⟨e3, hv1⟩)]
        exact rules_big_aa_ok al ah bl bh (mulS al ah bl bh) hl hh (by omega) (by omega) (Lib.hid (fun w => by have := refvalid_any al ah w; rw [hv1] at this; exact this)) (Lib.hid (fun w => by have := refvalid_any bl bh w; rw [hv2] at this; exact this)) (Lib.hid (fun w => by have := add_any al ah bl bh w; rw [ea] at this; exact this)) (Lib.hid (fun w => by have := add_any bl bh al ah w; rw [addS_comm, ea] at this; exact this)) (Lib.hid (fun w => by have := mul_any al ah bl bh w; exact this)) (Lib.hid (fun w => by have := mul_any bl bh al ah w; rw [mulS_comm] at this; exact this)) (Lib.hid (fun w => by have := hul_any al ah bl bh w; rw [eh] at this; exact this)) (Lib.hid (fun w => inside_yes _ _ _ _ (by omega) (by omega) w)) (Lib.hid (fun w => inside_yes _ _ _ _ (by omega) (by omega) w)) (Lib.hid (fun w => by have := mee_any al ah bl bh w; rw [em] at this; exact this)) (Lib.hid (fun w => by have := hul_any bl bh al ah w; rw [eg] at this; exact this)) (Lib.hid (fun w => inside_yes _ _ _ _ (by omega) (by omega) w)) (Lib.hid (fun w => inside_yes _ _ _ _ (by omega) (by omega) w)) w
  · have ea : addS al ah bl bh = (al + bl, ah + bh, 0) := by simp only [addS, hv1, hv2, Bool.and_self, if_true, fitS, ha]
    simp only [Bool.and_eq_true, withinB_iff] at ha
    have hv3 : validB (al + bl) (ah + bh) = true := validB_iff.2 ⟨by omega, by omega, by omega⟩
    cases hs : (withinB (al + bl - bh) && withinB (ah + bh - bl))
    · have es : subS (al + bl) (ah + bh) bl bh = (0, 0, 5) := by simp only [subS, hv3, hv2, Bool.and_self, if_true, fitS, hs]; rfl
      by_cases hm1 : ah < bl
      · have hl : al ≤ bl := by omega
        have hh : ah < bh := by omega
        have eh : hulS al ah bl bh = (al, bh, 0) := by simp only [hulS, hv1, hv2, Bool.and_self, if_true, Prod.mk.injEq, and_true]; unfold minI maxI; constructor <;> split <;> omega
        have em : meeS al ah bl bh = (0, 0, 12) := by
          have e1 : maxI al bl = bl := by unfold maxI; split <;> omega
          have e2 : minI ah bh = ah := by unfold minI; split <;> omega
          simp only [meeS, hv1, hv2, Bool.and_self, if_true, e1, e2]
          rw [if_pos (by omega)]
        exact rules_over_ab_no al ah bl bh (al + bl) (ah + bh) (mulS al ah bl bh) hl hh hm1 (Lib.hid (fun w => by have := refvalid_any al ah w; rw [hv1] at this; exact this)) (Lib.hid (fun w => by have := refvalid_any bl bh w; rw [hv2] at this; exact this)) (Lib.hid (fun w => by have := add_any al ah bl bh w; rw [ea] at this; exact this)) (Lib.hid (fun w => by have := add_any bl bh al ah w; rw [addS_comm, ea] at this; exact this)) (Lib.hid (fun w => by have := mul_any al ah bl bh w; exact this)) (Lib.hid (fun w => by have := mul_any bl bh al ah w; rw [mulS_comm] at this; exact this)) (Lib.hid (fun w => by have := sub_any (al + bl) (ah + bh) bl bh w; rw [es] at this; exact this)) (Lib.hid (fun w => by have := hul_any al ah bl bh w; rw [eh] at this; exact this)) (Lib.hid (fun w => inside_yes _ _ _ _ (by omega) (by omega) w)) (Lib.hid (fun w => inside_yes _ _ _ _ (by omega) (by omega) w)) (Lib.hid (fun w => by have := mee_any al ah bl bh w; rw [em] at this; exact this)) w
      by_cases hm1 : bh < al
      · have hl : bl < al := by omega
        have hh : bh ≤ ah := by omega
        have eh : hulS al ah bl bh = (bl, ah, 0) := by simp only [hulS, hv1, hv2, Bool.and_self, if_true, Prod.mk.injEq, and_true]; unfold minI maxI; constructor <;> split <;> omega
        have em : meeS al ah bl bh = (0, 0, 12) := by
          have e1 : maxI al bl = al := by unfold maxI; split <;> omega
          have e2 : minI ah bh = bh := by unfold minI; split <;> omega
          simp only [meeS, hv1, hv2, Bool.and_self, if_true, e1, e2]
          rw [if_pos (by omega)]
        exact rules_over_ba_no al ah bl bh (al + bl) (ah + bh) (mulS al ah bl bh) hl hh (by omega) hm1 (Lib.hid (fun w => by have := refvalid_any al ah w; rw [hv1] at this; exact this)) (Lib.hid (fun w => by have := refvalid_any bl bh w; rw [hv2] at this; exact this)) (Lib.hid (fun w => by have := add_any al ah bl bh w; rw [ea] at this; exact this)) (Lib.hid (fun w => by have := add_any bl bh al ah w; rw [addS_comm, ea] at this; exact this)) (Lib.hid (fun w => by have := mul_any al ah bl bh w; exact this)) (Lib.hid (fun w => by have := mul_any bl bh al ah w; rw [mulS_comm] at this; exact this)) (Lib.hid (fun w => by have := sub_any (al + bl) (ah + bh) bl bh w; rw [es] at this; exact this)) (Lib.hid (fun w => by have := hul_any al ah bl bh w; rw [eh] at this; exact this)) (Lib.hid (fun w => inside_yes _ _ _ _ (by omega) (by omega) w)) (Lib.hid (fun w => inside_yes _ _ _ _ (by omega) (by omega) w)) (Lib.hid (fun w => by have := mee_any al ah bl bh w; rw [em] at this; exact this)) w
      rcases Int.lt_or_le bl al with hl | hl
      · rcases Int.lt_or_le ah bh with hh | hh
        · have eh : hulS al ah bl bh = (bl, bh, 0) := by simp only [hulS, hv1, hv2, Bool.and_self, if_true, Prod.mk.injEq, and_true]; unfold minI maxI; constructor <;> split <;> omega
          have em : meeS al ah bl bh = (al, ah, 0) := by
            have e1 : maxI al bl = al := by unfold maxI; split <;> omega
            have e2 : minI ah bh = ah := by unfold minI; split <;> omega
            simp only [meeS, hv1, hv2, Bool.and_self, if_true, e1, e2]
            rw [if_neg (by omega)]
          have eg : hulS al ah al ah = (al, ah, 0) := by
            have e1 : minI al al = al := by unfold minI; split <;> omega
            have e2 : maxI ah ah = ah := by unfold maxI; split <;> omega
            have e3 : validB al ah = true := validB_iff.2 ⟨by omega, by omega, by omega⟩
            unfold hulS
            rw [e1, e2, if_pos (by rw [Bool.and_eq_true]; exact ⟨e3, hv1⟩)]
          exact rules_over_bb_ok al ah bl bh (al + bl) (ah + bh) (mulS al ah bl bh) hl hh (by omega) (by omega) (Lib.hid (fun w => by have := refvalid_any al ah w; rw [hv1] at this; exact this)) (Lib.hid (fun w => by have := refvalid_any bl bh w; rw [hv2] at this; exact this)) (Lib.hid (fun w => by have := add_any al ah bl bh w; rw [ea] at this; exact this)) (Lib.hid (fun w => by have := add_any bl bh al ah w; rw [addS_comm, ea] at this; exact this)) (Lib.hid (fun w => by have := mul_any al ah bl bh w; exact this)) (Lib.hid (fun w => by have := mul_any bl bh al ah w; rw [mulS_comm] at this; exact this)) (Lib.hid (fun w => by have := sub_any (al + bl) (ah + bh) bl bh w; rw [es] at this; exact this)) (Lib.hid (fun w => by have := hul_any al ah bl bh w; rw [eh] at this; exact this)) (Lib.hid (fun w => inside_yes _ _ _ _ (by omega) (by omega) w)) (Lib.hid (fun w => inside_yes _ _ _ _ (by omega) (by omega) w)) (Lib.hid (fun w => by have := mee_any al ah bl bh w; rw [em] at this; exact this)) (Lib.hid (fun w => by have := hul_any al ah al ah w; rw [eg] at this; exact this)) (Lib.hid (fun w => inside_yes _ _ _ _ (by omega) (by omega) w)) (Lib.hid (fun w => inside_yes _ _ _ _ (by omega) (by omega) w)) w
        · have eh : hulS al ah bl bh = (bl, ah, 0) := by simp only [hulS, hv1, hv2, Bool.and_self, if_true, Prod.mk.injEq, and_true]; unfold minI maxI; constructor <;> split <;> omega
          have em : meeS al ah bl bh = (al, bh, 0) := by
            have e1 : maxI al bl = al := by unfold maxI; split <;> omega
            have e2 : minI ah bh = bh := by unfold minI; split <;> omega
            simp only [meeS, hv1, hv2, Bool.and_self, if_true, e1, e2]
            rw [if_neg (by omega)]
          have eg : hulS al bh al ah = (al, ah, 0) := by
            have e1 : minI al al = al := by unfold minI; split <;> omega
            have e2 : maxI bh ah = ah := by unfold maxI; split <;> omega
            have e3 : validB al bh = true := validB_iff.2 ⟨by omega, by omega, by omega⟩
            unfold hulS
            rw [e1, e2, if_pos (by rw [Bool.and_eq_true]; exact ⟨e3, hv1⟩)]
          exact rules_over_ba_ok al ah bl bh (al + bl) (ah + bh) (mulS al ah bl bh) hl hh (by omega) (by omega) (Lib.hid (fun w => by have := refvalid_any al ah w; rw [hv1] at this; exact this)) (Lib.hid (fun w => by have := refvalid_any bl bh w; rw [hv2] at this; exact this)) (Lib.hid (fun w => by have := add_any al ah bl bh w; rw [ea] at this; exact this)) (Lib.hid (fun w => by have := add_any bl bh al ah w; rw [addS_comm, ea] at this; exact this)) (Lib.hid (fun w => by have := mul_any al ah bl bh w; exact this)) (Lib.hid (fun w => by have := mul_any bl bh al ah w; rw [mulS_comm] at this; exact this)) (Lib.hid (fun w => by have := sub_any (al + bl) (ah + bh) bl bh w; rw [es] at this; exact this)) (Lib.hid (fun w => by have := hul_any al ah bl bh w; rw [eh] at this; exact this)) (Lib.hid (fun w => inside_yes _ _ _ _ (by omega) (by omega) w)) (Lib.hid (fun w => inside_yes _ _ _ _ (by omega) (by omega) w)) (Lib.hid (fun w => by have := mee_any al ah bl bh w; rw [em] at this; exact this)) (Lib.hid (fun w => by have := hul_any al bh al ah w; rw [eg] at this; exact this)) (Lib.hid (fun w => inside_yes _ _ _ _ (by omega) (by omega) w)) (Lib.hid (fun w => inside_yes _ _ _ _ (by omega) (by omega) w)) w
      · rcases Int.lt_or_le ah bh with hh | hh
        · have eh : hulS al ah bl bh = (al, bh, 0) := by simp only [hulS, hv1, hv2, Bool.and_self, if_true, Prod.mk.injEq, and_true]; unfold minI maxI; constructor <;> split <;> omega
          have em : meeS al ah bl bh = (bl, ah, 0) := by
            have e1 : maxI al bl = bl := by unfold maxI; split <;> omega
            have e2 : minI ah bh = ah := by unfold minI; split <;> omega
            simp only [meeS, hv1, hv2, Bool.and_self, if_true, e1, e2]
            rw [if_neg (by omega)]
          have eg : hulS bl ah al ah = (al, ah, 0) := by
            have e1 : minI bl al = al := by unfold minI; split <;> omega
            have e2 : maxI ah ah = ah := by unfold maxI; split <;> omega
            have e3 : validB bl ah = true := validB_iff.2 ⟨by omega, by omega, by omega⟩
            unfold hulS
            rw [e1, e2, if_pos (by rw [Bool.and_eq_true]; exact ⟨e3, hv1⟩)]
          exact rules_over_ab_ok al ah bl bh (al + bl) (ah + bh) (mulS al ah bl bh) hl hh (by omega) (by omega) (Lib.hid (fun w => by have := refvalid_any al ah w; rw [hv1] at this; exact this)) (Lib.hid (fun w => by have := refvalid_any bl bh w; rw [hv2] at this; exact this)) (Lib.hid (fun w => by have := add_any al ah bl bh w; rw [ea] at this; exact this)) (Lib.hid (fun w => by have := add_any bl bh al ah w; rw [addS_comm, ea] at this; exact this)) (Lib.hid (fun w => by have := mul_any al ah bl bh w; exact this)) (Lib.hid (fun w => by have := mul_any bl bh al ah w; rw [mulS_comm] at this; exact this)) (Lib.hid (fun w => by have := sub_any (al + bl) (ah + bh) bl bh w; rw [es] at this; exact this)) (Lib.hid (fun w => by have := hul_any al ah bl bh w; rw [eh] at this; exact this)) (Lib.hid (fun w => inside_yes _ _ _ _ (by omega) (by omega) w)) (Lib.hid (fun w => inside_yes _ _ _ _ (by omega) (by omega) w)) (Lib.hid (fun w => by have := mee_any al ah bl bh w; rw [em] at this; exact this)) (Lib.hid (fun w => by have := hul_any bl ah al ah w; rw [eg] at this; exact this)) (Lib.hid (fun w => inside_yes _ _ _ _ (by omega) (by omega) w)) (Lib.hid (fun w => inside_yes _ _ _ _ (by omega) (by omega) w)) w
        · have eh : hulS al ah bl bh = (al, ah, 0) := by simp only [hulS, hv1, hv2, Bool.and_self, if_true, Prod.mk.injEq, and_true]; unfold minI maxI; constructor <;> split <;> omega
          have em : meeS al ah bl bh = (bl, bh, 0) := by
            have e1 : maxI al bl = bl := by unfold maxI; split <;> omega
            have e2 : minI ah bh = bh := by unfold minI; split <;> omega
            simp only [meeS, hv1, hv2, Bool.and_self, if_true, e1, e2]
            rw [if_neg (by omega)]
          have eg : hulS bl bh al ah = (al, ah, 0) := by
            have e1 : minI bl al = al := by unfold minI; split <;> omega
            have e2 : maxI bh ah = ah := by unfold maxI; split <;> omega
            have e3 : validB bl bh = true := validB_iff.2 ⟨by omega, by omega, by omega⟩
            unfold hulS
            rw [e1, e2, if_pos (by rw [Bool.and_eq_true]; exact ⟨e3, hv1⟩)]
          exact rules_over_aa_ok al ah bl bh (al + bl) (ah + bh) (mulS al ah bl bh) hl hh (by omega) (by omega) (Lib.hid (fun w => by have := refvalid_any al ah w; rw [hv1] at this; exact this)) (Lib.hid (fun w => by have := refvalid_any bl bh w; rw [hv2] at this; exact this)) (Lib.hid (fun w => by have := add_any al ah bl bh w; rw [ea] at this; exact this)) (Lib.hid (fun w => by have := add_any bl bh al ah w; rw [addS_comm, ea] at this; exact this)) (Lib.hid (fun w => by have := mul_any al ah bl bh w; exact this)) (Lib.hid (fun w => by have := mul_any bl bh al ah w; rw [mulS_comm] at this; exact this)) (Lib.hid (fun w => by have := sub_any (al + bl) (ah + bh) bl bh w; rw [es] at this; exact this)) (Lib.hid (fun w => by have := hul_any al ah bl bh w; rw [eh] at this; exact this)) (Lib.hid (fun w => inside_yes _ _ _ _ (by omega) (by omega) w)) (Lib.hid (fun w => inside_yes _ _ _ _ (by omega) (by omega) w)) (Lib.hid (fun w => by have := mee_any al ah bl bh w; rw [em] at this; exact this)) (Lib.hid (fun w => by have := hul_any bl bh al ah w; rw [eg] at this; exact this)) (Lib.hid (fun w => inside_yes _ _ _ _ (by omega) (by omega) w)) (Lib.hid (fun w => inside_yes _ _ _ _ (by omega) (by omega) w)) w
    · have es : subS (al + bl) (ah + bh) bl bh = (al + bl - bh, ah + bh - bl, 0) := by simp only [subS, hv3, hv2, Bool.and_self, if_true, fitS, hs]
      by_cases hm1 : ah < bl
      · have hl : al ≤ bl := by omega
        have hh : ah < bh := by omega
        have eh : hulS al ah bl bh = (al, bh, 0) := by simp only [hulS, hv1, hv2, Bool.and_self, if_true, Prod.mk.injEq, and_true]; unfold minI maxI; constructor <;> split <;> omega
        have em : meeS al ah bl bh = (0, 0, 12) := by
          have e1 : maxI al bl = bl := by unfold maxI; split <;> omega
          have e2 : minI ah bh = ah := by unfold minI; split <;> omega
          simp only [meeS, hv1, hv2, Bool.and_self, if_true, e1, e2]
          rw [if_pos (by omega)]
        exact rules_ok_ab_no al ah bl bh (al + bl) (ah + bh) (al + bl - bh) (ah + bh - bl) (mulS al ah bl bh) hl hh hm1 (Lib.hid (fun w => by have := refvalid_any al ah w; rw [hv1] at this; exact this)) (Lib.hid (fun w => by have := refvalid_any bl bh w; rw [hv2] at this; exact this)) (Lib.hid (fun w => by have := add_any al ah bl bh w; rw [ea] at this; exact this)) (Lib.hid (fun w => by have := add_any bl bh al ah w; rw [addS_comm, ea] at this; exact this)) (Lib.hid (fun w => by have := mul_any al ah bl bh w; exact this)) (Lib.hid (fun w => by have := mul_any bl bh al ah w; rw [mulS_comm] at this; exact this)) (Lib.hid (fun w => by have := sub_any (al + bl) (ah + bh) bl bh w; rw [es] at this; exact this)) (Lib.hid (fun w => inside_yes _ _ _ _ (by omega) (by omega) w)) (Lib.hid (fun w => by have := hul_any al ah bl bh w; rw [eh] at this; exact this)) (Lib.hid (fun w => inside_yes _ _ _ _ (by omega) (by omega) w)) (Lib.hid (fun w => inside_yes _ _ _ _ (by omega) (by omega) w)) (Lib.hid (fun w => by have := mee_any al ah bl bh w; rw [em] at this; exact this)) w
      by_cases hm1 : bh < al
      · have hl : bl < al := by omega
        have hh : bh ≤ ah := by omega
        have eh : hulS al ah bl bh = (bl, ah, 0) := by simp only [hulS, hv1, hv2, Bool.and_self, if_true, Prod.mk.injEq, and_true]; unfold minI maxI; constructor <;> split <;> omega
        have em : meeS al ah bl bh = (0, 0, 12) := by
          have e1 : maxI al bl = al := by unfold maxI; split <;> omega
          have e2 : minI ah bh = bh := by unfold minI; split <;> omega
          simp only [meeS, hv1, hv2, Bool.and_self, if_true, e1, e2]
          rw [if_pos (by omega)]
        exact rules_ok_ba_no al ah bl bh (al + bl) (ah + bh) (al + bl - bh) (ah + bh - bl) (mulS al ah bl bh) hl hh (by omega) hm1 (Lib.hid (fun w => by have := refvalid_any al ah w; rw [hv1] at this; exact this)) (Lib.hid (fun w => by have := refvalid_any bl bh w; rw [hv2] at this; exact this)) (Lib.hid (fun w => by have := add_any al ah bl bh w; rw [ea] at this; exact this)) (Lib.hid (fun w => by have := add_any bl bh al ah w; rw [addS_comm, ea] at this; exact this)) (Lib.hid (fun w => by have := mul_any al ah bl bh w; exact this)) (Lib.hid (fun w => by have := mul_any bl bh al ah w; rw [mulS_comm] at this; exact this)) (Lib.hid (fun w => by have := sub_any (al + bl) (ah + bh) bl bh w; rw [es] at this; exact this)) (Lib.hid (fun w => inside_yes _ _ _ _ (by omega) (by omega) w)) (Lib.hid (fun w => by have := hul_any al ah bl bh w; rw [eh] at this; exact this)) (Lib.hid (fun w => inside_yes _ _ _ _ (by omega) (by omega) w)) (Lib.hid (fun w => inside_yes _ _ _ _ (by omega) (by omega) w)) (Lib.hid (fun w => by have := mee_any al ah bl bh w; rw [em] at this; exact this)) w
      rcases Int.lt_or_le bl al with hl | hl
      · rcases Int.lt_or_le ah bh with hh | hh
        · have eh : hulS al ah bl bh = (bl, bh, 0) := by simp only [hulS, hv1, hv2, Bool.and_self, if_true, Prod.mk.injEq, and_true]; unfold minI maxI; constructor <;> split <;> omega
          have em : meeS al ah bl bh = (al, ah, 0) := by
            have e1 : maxI al bl = al := by unfold maxI; split <;> omega
            have e2 : minI ah bh = ah := by unfold minI; split <;> omega
            simp only [meeS, hv1, hv2, Bool.and_self, if_true, e1, e2]
            rw [if_neg (by omega)]
          have eg : hulS al ah al ah = (al, ah, 0) := by
            have e1 : minI al al = al := by unfold minI; split <;> omega
            have e2 : maxI ah ah = ah := by unfold maxI; split <;> omega
            have e3 : validB al ah = true := validB_iff.2 ⟨by omega, by omega, by omega⟩
            unfold hulS
            rw [e1, e2, if_pos (by rw [Bool.and_eq_true]; exact ⟨e3, hv1⟩)]
          exact rules_ok_bb_ok al ah bl bh (al + bl) (ah + bh) (al + bl - bh) (ah + bh - bl) (mulS al ah bl bh) hl hh (by omega) (by omega) (Lib.hid (fun w => by have := refvalid_any al ah w; rw [hv1] at this; exact this)) (Lib.hid (fun w => by have := refvalid_any bl bh w; rw [hv2] at this; exact this)) (Lib.hid (fun w => by have := add_any al ah bl bh w; rw [ea] at this; exact this)) (Lib.hid (fun w => by have := add_any bl bh al ah w; rw [addS_comm, ea] at this; exact this)) (Lib.hid (fun w => by have := mul_any al ah bl bh w; exact this)) (Lib.hid (fun w => by have := mul_any bl bh al ah w; rw [mulS_comm] at this; exact this)) (Lib.hid (fun w => by have := sub_any (al + bl) (ah + bh) bl bh w; rw [es] at this; exact this)) (Lib.hid (fun w => inside_yes _ _ _ _ (by omega) (by omega) w)) (Lib.hid (fun w => by have := hul_any al ah bl bh w; rw [eh] at this; exact this)) (Lib.hid (fun w => inside_yes _ _ _ _ (by omega) (by omega) w)) (Lib.hid (fun w => inside_yes _ _ _ _ (by omega) (by omega) w)) (Lib.hid (fun w => by have := mee_any al ah bl bh w; rw [em] at this; exact this)) (Lib.hid (fun w => by have := hul_any al ah al ah w; rw [eg] at this; exact this)) (Lib.hid (fun w => inside_yes _ _ _ _ (by omega) (by omega) w)) (Lib.hid (fun w => inside_yes _ _ _ _ (by omega) (by omega) w)) w
        · have eh : hulS al ah bl bh = (bl, ah, 0) := by simp only [hulS, hv1, hv2, Bool.and_self, if_true, Prod.mk.injEq, and_true]; unfold minI maxI; constructor <;> split <;> omega
          have em : meeS al ah bl bh = (al, bh, 0) := by
            have e1 : maxI al bl = al := by unfold maxI; split <;> omega
            have e2 : minI ah bh = bh := by unfold minI; split <;> omega
            simp only [meeS, hv1, hv2, Bool.and_self, if_true, e1, e2]
            rw [if_neg (by omega)]
          have eg : hulS al bh al ah = (al, ah, 0) := by
            have e1 : minI al al = al := by unfold minI; split <;> omega
            have e2 : maxI bh ah = ah := by unfold maxI; split <;> omega
            have e3 : validB al bh = true := validB_iff.2 ⟨by omega, by omega, by omega⟩
            unfold hulS
            rw [e1, e2, if_pos (by rw [Bool.and_eq_true]; exact ⟨e3, hv1⟩)]
          exact rules_ok_ba_ok al ah bl bh (al + bl) (ah + bh) (al + bl - bh) (ah + bh - bl) (mulS al ah bl bh) hl hh (by omega) (by omega) (Lib.hid (fun w => by have := refvalid_any al ah w; rw [hv1] at this; exact this)) (Lib.hid (fun w => by have := refvalid_any bl bh w; rw [hv2] at this; exact this)) (Lib.hid (fun w => by have := add_any al ah bl bh w; rw [ea] at this; exact this)) (Lib.hid (fun w => by have := add_any bl bh al ah w; rw [addS_comm, ea] at this; exact this)) (Lib.hid (fun w => by have := mul_any al ah bl bh w; exact this)) (Lib.hid (fun w => by have := mul_any bl bh al ah w; rw [mulS_comm] at this; exact this)) (Lib.hid (fun w => by have := sub_any (al + bl) (ah + bh) bl bh w; rw [es] at this; exact this)) (Lib.hid (fun w => inside_yes _ _ _ _ (by omega) (by omega) w)) (Lib.hid (fun w => by have := hul_any al ah bl bh w; rw [eh] at this; exact this)) (Lib.hid (fun w => inside_yes _ _ _ _ (by omega) (by omega) w)) (Lib.hid (fun w => inside_yes _ _ _ _ (by omega) (by omega) w)) (Lib.hid (fun w => by have := mee_any al ah bl bh w; rw [em] at this; exact this)) (Lib.hid (fun w => by have := hul_any al bh al ah w; rw [eg] at this; exact this)) (Lib.hid (fun w => inside_yes _ _ _ _ (by omega) (by omega) w)) (Lib.hid (fun w => inside_yes _ _ _ _ (by omega) (by omega) w)) w
      · rcases Int.lt_or_le ah bh with hh | hh
        · have eh : hulS al ah bl bh = (al, bh, 0) := by simp only [hulS, hv1, hv2, Bool.and_self, if_true, Prod.mk.injEq, and_true]; unfold minI maxI; constructor <;> split <;> omega
          have em : meeS al ah bl bh = (bl, ah, 0) := by
            have e1 : maxI al bl = bl := by unfold maxI; split <;> omega
            have e2 : minI ah bh = ah := by unfold minI; split <;> omega
            simp only [meeS, hv1, hv2, Bool.and_self, if_true, e1, e2]
            rw [if_neg (by omega)]
          have eg : hulS bl ah al ah = (al, ah, 0) := by
            have e1 : minI bl al = al := by unfold minI; split <;> omega
            have e2 : maxI ah ah = ah := by unfold maxI; split <;> omega
            have e3 : validB bl ah = true := validB_iff.2 ⟨by omega, by omega, by omega⟩
            unfold hulS
            rw [e1, e2, if_pos (by rw [Bool.and_eq_true]; exact ⟨e3, hv1⟩)]
          exact rules_ok_ab_ok al ah bl bh (al + bl) (ah + bh) (al + bl - bh) (ah + bh - bl) (mulS al ah bl bh) hl hh (by omega) (by omega) (Lib.hid (fun w => by have := refvalid_any al ah w; rw [hv1] at this; exact this)) (Lib.hid (fun w => by have := refvalid_any bl bh w; rw [hv2] at this; exact this)) (Lib.hid (fun w => by have := add_any al ah bl bh w; rw [ea] at this; exact this)) (Lib.hid (fun w => by have := add_any bl bh al ah w; rw [addS_comm, ea] at this; exact this)) (Lib.hid (fun w => by have := mul_any al ah bl bh w; exact this)) (Lib.hid (fun w => by have := mul_any bl bh al ah w; rw [mulS_comm] at this; exact this)) (Lib.hid (fun w => by have := sub_any (al + bl) (ah + bh) bl bh w; rw [es] at this; exact this)) (Lib.hid (fun w => inside_yes _ _ _ _ (by omega) (by omega) w)) (Lib.hid (fun w => by have := hul_any al ah bl bh w; rw [eh] at this; exact this)) (Lib.hid (fun w => inside_yes _ _ _ _ (by omega) (by omega) w)) (Lib.hid (fun w => inside_yes _ _ _ _ (by omega) (by omega) w)) (Lib.hid (fun w => by have := mee_any al ah bl bh w; rw [em] at this; exact this)) (Lib.hid (fun w => by have := hul_any bl ah al ah w; rw [eg] at this; exact this)) (Lib.hid (fun w => inside_yes _ _ _ _ (by omega) (by omega) w)) (Lib.hid (fun w => inside_yes _ _ _ _ (by omega) (by omega) w)) w
        · have eh : hulS al ah bl bh = (al, ah, 0) := by simp only [hulS, hv1, hv2, Bool.and_self, if_true, Prod.mk.injEq, and_true]; unfold minI maxI; constructor <;> split <;> omega
          have em : meeS al ah bl bh = (bl, bh, 0) := by
            have e1 : maxI al bl = bl := by unfold maxI; split <;> omega
            have e2 : minI ah bh = bh := by unfold minI; split <;> omega
            simp only [meeS, hv1, hv2, Bool.and_self, if_true, e1, e2]
            rw [if_neg (by omega)]
          have eg : hulS bl bh al ah = (al, ah, 0) := by
            have e1 : minI bl al = al := by unfold minI; split <;> omega
            have e2 : maxI bh ah = ah := by unfold maxI; split <;> omega
            have e3 : validB bl bh = true := validB_iff.2 ⟨by omega, by omega, by omega⟩
            unfold hulS
            rw [e1, e2, if_pos (by rw [Bool.and_eq_true]; exact ⟨e3, hv1⟩)]
          exact rules_ok_aa_ok al ah bl bh (al + bl) (ah + bh) (al + bl - bh) (ah + bh - bl) (mulS al ah bl bh) hl hh (by omega) (by omega) (Lib.hid (fun w => by have := refvalid_any al ah w; rw [hv1] at this; exact this)) (Lib.hid (fun w => by have := refvalid_any bl bh w; rw [hv2] at this; exact this)) (Lib.hid (fun w => by have := add_any al ah bl bh w; rw [ea] at this; exact this)) (Lib.hid (fun w => by have := add_any bl bh al ah w; rw [addS_comm, ea] at this; exact this)) (Lib.hid (fun w => by have := mul_any al ah bl bh w; exact this)) (Lib.hid (fun w => by have := mul_any bl bh al ah w; rw [mulS_comm] at this; exact this)) (Lib.hid (fun w => by have := sub_any (al + bl) (ah + bh) bl bh w; rw [es] at this; exact this)) (Lib.hid (fun w => inside_yes _ _ _ _ (by omega) (by omega) w)) (Lib.hid (fun w => by have := hul_any al ah bl bh w; rw [eh] at this; exact this)) (Lib.hid (fun w => inside_yes _ _ _ _ (by omega) (by omega) w)) (Lib.hid (fun w => inside_yes _ _ _ _ (by omega) (by omega) w)) (Lib.hid (fun w => by have := mee_any al ah bl bh w; rw [em] at this; exact this)) (Lib.hid (fun w => by have := hul_any bl bh al ah w; rw [eg] at this; exact this)) (Lib.hid (fun w => inside_yes _ _ _ _ (by omega) (by omega) w)) (Lib.hid (fun w => inside_yes _ _ _ _ (by omega) (by omega) w)) w

#print axioms spanRules_walk

end Go.Proofs.Ytgipfmleefojbaa
