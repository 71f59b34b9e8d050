/- SpanInside returns true. -/
import Derived.Test.YtgipfmleefojbaaLIns
import Derived.Test.YtgipfmleefojbaaOrs
set_option linter.unusedVariables false
namespace Go.Proofs.Ytgipfmleefojbaa
open Go.ChangeShapes Go.WideShapes Go.ChangeAt Go.RowKit

set_option maxRecDepth 100000 in
set_option maxHeartbeats 4000000 in
theorem spanInside_walk (al ah bl bh i k : Int) (_ : (Lit.int .i64 al).wf = true) (_ : (Lit.int .i64 ah).wf = true) (_ : (Lit.int .i64 bl).wf = true) (_ : (Lit.int .i64 bh).wf = true) (hi : (Lit.int .u64 i).wf = true) (hk : (Lit.int .u64 k).wf = true) (w : World) :
    Calls Try.prog 6 #[sp al ah, sp bl bh, .int .u64 i, .int .u64 k] w fun e w' => e = .returned (.bool true) ∧ Below w.heap.size w w' := by
  have HW1 := Lib.hid (fun w => refvalid_any al ah w)
  have HW2 := Lib.hid (fun w => refvalid_any bl bh w)
  cases hv1 : validB al ah
  · rw [hv1] at HW1
    clear HW2 hv1 hi hk
    go_enter Try.func6, Try.ntmps6
    go_wp2_with fail
    refine (awake_any _).mono ?_
    rintro e v1 ⟨rfl, hb1⟩
    have k_a : At v1 (w.heap.size) 23 #[.int .i64 al, .int .i64 ah] := At.bel (by (repeat (first | (with_reducible apply At.new'; (focus (simp; done))) | with_reducible apply At.al | with_reducible apply At.drw | with_reducible apply At.dr))) hb1
    have k_b : At v1 (w.heap.size + 1) 23 #[.int .i64 bl, .int .i64 bh] := At.bel (by (repeat (first | (with_reducible apply At.new'; (focus (simp; done))) | with_reducible apply At.al | with_reducible apply At.drw | with_reducible apply At.dr))) hb1
    have HB : Below w.heap.size w v1 := below_then (by repeat (first | with_reducible assumption | with_reducible exact Below.refl _ _ | with_reducible refine below_al ?_ _ | with_reducible refine below_drew ?_ | with_reducible refine below_drewN ?_ _ | with_reducible refine below_set ?_ (by dsimp only; omega) _)) hb1
    clear hb1
    have Lk_a := k_a.lt
    obtain ⟨k_a0, k_a1, k_a2, k_a3⟩ := k_a.two
    have Lk_b := k_b.lt
    obtain ⟨k_b0, k_b1, k_b2, k_b3⟩ := k_b.two
    go_wp2_with fail
    refine (HW1.out _).mono ?_
    rintro e v2 ⟨rfl, hb2⟩
    clear k_a0 k_a1 k_a2 k_a3 Lk_a k_b0 k_b1 k_b2 k_b3 Lk_b
    replace k_a : At v2 (w.heap.size) 23 #[.int .i64 al, .int .i64 ah] := At.bel (by repeat (first | with_reducible assumption | with_reducible apply At.put0 | with_reducible apply At.put1 | with_reducible refine At.far ?_ (by dsimp only; omega) _ | with_reducible apply At.al | with_reducible apply At.drw | with_reducible apply At.dr)) hb2
    replace k_b : At v2 (w.heap.size + 1) 23 #[.int .i64 bl, .int .i64 bh] := At.bel (by repeat (first | with_reducible assumption | with_reducible apply At.put0 | with_reducible apply At.put1 | with_reducible refine At.far ?_ (by dsimp only; omega) _ | with_reducible apply At.al | with_reducible apply At.drw | with_reducible apply At.dr)) hb2
    replace HB : Below w.heap.size w v2 := below_then (by repeat (first | with_reducible assumption | with_reducible exact Below.refl _ _ | with_reducible refine below_al ?_ _ | with_reducible refine below_drew ?_ | with_reducible refine below_drewN ?_ _ | with_reducible refine below_set ?_ (by dsimp only; omega) _)) hb2
    clear hb2
    have Lk_a := k_a.lt
    obtain ⟨k_a0, k_a1, k_a2, k_a3⟩ := k_a.two
    have Lk_b := k_b.lt
    obtain ⟨k_b0, k_b1, k_b2, k_b3⟩ := k_b.two
    go_wp2_with fail
    go_ret
    exact ⟨rfl, (by repeat (first | with_reducible assumption | with_reducible exact Below.refl _ _ | with_reducible refine below_al ?_ _ | with_reducible refine below_drew ?_ | with_reducible refine below_drewN ?_ _ | with_reducible refine below_set ?_ (by dsimp only; omega) _))⟩
  cases hv2 : validB bl bh
  · rw [hv1] at HW1
    rw [hv2] at HW2
    clear hv1 hv2 hi hk
    go_enter Try.func6, Try.ntmps6
    go_wp2_with fail
    refine (awake_any _).mono ?_
    rintro e v1 ⟨rfl, hb1⟩
    have k_a : At v1 (w.heap.size) 23 #[.int .i64 al, .int .i64 ah] := At.bel (by (repeat (first | (with_reducible apply At.new'; (focus (simp; done))) | with_reducible apply At.al | with_reducible apply At.drw | with_reducible apply At.dr))) hb1
    have k_b : At v1 (w.heap.size + 1) 23 #[.int .i64 bl, .int .i64 bh] := At.bel (by (repeat (first | (with_reducible apply At.new'; (focus (simp; done))) | with_reducible apply At.al | with_reducible apply At.drw | with_reducible apply At.dr))) hb1
    have HB : Below w.heap.size w v1 := below_then (by repeat (first | with_reducible assumption | with_reducible exact Below.refl _ _ | with_reducible refine below_al ?_ _ | with_reducible refine below_drew ?_ | with_reducible refine below_drewN ?_ _ | with_reducible refine below_set ?_ (by dsimp only; omega) _)) hb1
    clear hb1
    have Lk_a := k_a.lt
    obtain ⟨k_a0, k_a1, k_a2, k_a3⟩ := k_a.two
    have Lk_b := k_b.lt
    obtain ⟨k_b0, k_b1, k_b2, k_b3⟩ := k_b.two
    go_wp2_with fail
    refine (HW1.out _).mono ?_
    rintro e v2 ⟨rfl, hb2⟩
    clear k_a0 k_a1 k_a2 k_a3 Lk_a k_b0 k_b1 k_b2 k_b3 Lk_b
    replace k_a : At v2 (w.heap.size) 23 #[.int .i64 al, .int .i64 ah] := At.bel (by repeat (first | with_reducible assumption | with_reducible apply At.put0 | with_reducible apply At.put1 | with_reducible refine At.far ?_ (by dsimp only; omega) _ | with_reducible apply At.al | with_reducible apply At.drw | with_reducible apply At.dr)) hb2
    replace k_b : At v2 (w.heap.size + 1) 23 #[.int .i64 bl, .int .i64 bh] := At.bel (by repeat (first | with_reducible assumption | with_reducible apply At.put0 | with_reducible apply At.put1 | with_reducible refine At.far ?_ (by dsimp only; omega) _ | with_reducible apply At.al | with_reducible apply At.drw | with_reducible apply At.dr)) hb2
    replace HB : Below w.heap.size w v2 := below_then (by repeat (first | with_reducible assumption | with_reducible exact Below.refl _ _ | with_reducible refine below_al ?_ _ | with_reducible refine below_drew ?_ | with_reducible refine below_drewN ?_ _ | with_reducible refine below_set ?_ (by dsimp only; omega) _)) hb2
    clear hb2
    have Lk_a := k_a.lt
    obtain ⟨k_a0, k_a1, k_a2, k_a3⟩ := k_a.two
    have Lk_b := k_b.lt
    obtain ⟨k_b0, k_b1, k_b2, k_b3⟩ := k_b.two
    go_wp2_with fail
    refine (HW2.out _).mono ?_
    rintro e v3 ⟨rfl, hb3⟩
    clear k_a0 k_a1 k_a2 k_a3 Lk_a k_b0 k_b1 k_b2 k_b3 Lk_b
    replace k_a : At v3 (w.heap.size) 23 #[.int .i64 al, .int .i64 ah] := At.bel (by repeat (first | with_reducible assumption | with_reducible apply At.put0 | with_reducible apply At.put1 | with_reducible refine At.far ?_ (by dsimp only; omega) _ | with_reducible apply At.al | with_reducible apply At.drw | with_reducible apply At.dr)) hb3
    replace k_b : At v3 (w.heap.size + 1) 23 #[.int .i64 bl, .int .i64 bh] := At.bel (by repeat (first | with_reducible assumption | with_reducible apply At.put0 | with_reducible apply At.put1 | with_reducible refine At.far ?_ (by dsimp only; omega) _ | with_reducible apply At.al | with_reducible apply At.drw | with_reducible apply At.dr)) hb3
    replace HB : Below w.heap.size w v3 := below_then (by repeat (first | with_reducible assumption | with_reducible exact Below.refl _ _ | with_reducible refine below_al ?_ _ | with_reducible refine below_drew ?_ | with_reducible refine below_drewN ?_ _ | with_reducible refine below_set ?_ (by dsimp only; omega) _)) hb3
    clear hb3
    have Lk_a := k_a.lt
    obtain ⟨k_a0, k_a1, k_a2, k_a3⟩ := k_a.two
    have Lk_b := k_b.lt
    obtain ⟨k_b0, k_b1, k_b2, k_b3⟩ := k_b.two
    go_wp2_with fail
    go_ret
    exact ⟨rfl, (by repeat (first | with_reducible assumption | with_reducible exact Below.refl _ _ | with_reducible refine below_al ?_ _ | with_reducible refine below_drew ?_ | with_reducible refine below_drewN ?_ _ | with_reducible refine below_set ?_ (by dsimp only; omega) _))⟩
  clear HW1 HW2
  have q1 := validB_iff.1 hv1
  have q2 := validB_iff.1 hv2
  have hi := u64_wf hi
  have hk := u64_wf hk
  have mx := atF_mid (n := i) q1.1
  have my := atF_mid (n := k) q2.1
  have HX := Lib.hid (fun w => at_any al ah i hv1 hi.1 hi.2 w)
  have HY := Lib.hid (fun w => at_any bl bh k hv2 hk.1 hk.2 w)
  generalize atF al ah i = x at *
  generalize atF bl bh k = y at *
  have HD := Lib.hid (fun w => div_any al ah bl bh w)
  have HM := Lib.hid (fun w => mul_any al ah bl bh w)
  have HA := Lib.hid (fun w => add_any al ah bl bh w)
  have HS := Lib.hid (fun w => sub_any al ah bl bh w)
  have HE : ∃ s1 s2 es : Int, addS al ah bl bh = (s1, s2, es) ∧ (es = 0 ∧ hasB s1 s2 (x + y) = true ∨ es = 5) := by
    rw [addS_fit hv1 hv2]
    rcases fitS_or (al + bl) (ah + bh) with h | h
    · exact ⟨_, _, _, h.1, .inl ⟨rfl, by simp [hasB]; omega⟩⟩
    · exact ⟨_, _, _, h.1, .inr rfl⟩
  have HF : ∃ s1 s2 es : Int, subS al ah bl bh = (s1, s2, es) ∧ (es = 0 ∧ hasB s1 s2 (x - y) = true ∨ es = 5) := by
    rw [subS_fit hv1 hv2]
    rcases fitS_or (al - bh) (ah - bl) with h | h
    · exact ⟨_, _, _, h.1, .inl ⟨rfl, by simp [hasB]; omega⟩⟩
    · exact ⟨_, _, _, h.1, .inr rfl⟩
  have HG : ∃ p1 p2 gs : Int, mulS al ah bl bh = (p1, p2, gs) ∧ (gs = 0 ∧ withinB (x * y) = true ∧ hasB p1 p2 (x * y) = true ∨ gs = 5) := by
    rcases mulS_or hv1 hv2 with ⟨lo, hi', e, h4, hl, hh, _⟩ | h
    · have hm := mul_four mx.1 mx.2 my.1 my.2 h4.1.1 h4.1.2.1 h4.1.2.2.1 h4.1.2.2.2 h4.2.1 h4.2.2.1 h4.2.2.2.1 h4.2.2.2.2
      exact ⟨_, _, _, e, .inl ⟨rfl, withinB_iff.2 (by omega), by simp only [hasB, Bool.and_eq_true, decide_eq_true_eq]; exact hm⟩⟩
    · exact ⟨_, _, _, h.1, .inr rfl⟩
  obtain ⟨s1, s2, es, ea, HE⟩ := HE
  obtain ⟨d1, d2, fs, eb, HF⟩ := HF
  obtain ⟨p1, p2, gs, ec, HG⟩ := HG
  rw [ea] at HA
  rw [eb] at HS
  rw [ec] at HM
  clear ea eb ec
  refine inside_core al ah bl bh i k x y s1 s2 es d1 d2 fs p1 p2 gs (divS al ah bl bh).1 (divS al ah bl bh).2.1 (divS al ah bl bh).2.2 (x * y) (dnS x 1 y) (upS x 1 y) (by omega) (by omega) (by omega) (by omega)
    (Lib.hid (fun w => by have := refvalid_any al ah w; rw [hv1] at this; exact this)) (Lib.hid (fun w => by have := refvalid_any bl bh w; rw [hv2] at this; exact this)) HX HY HA HS HM HD ?_ ?_ ?_ ?_ w
  · refine Lib.hid (HE.imp (fun h => ⟨h.1, fun w => ?_⟩) id)
    have := has_any s1 s2 (x + y) w
    rw [h.2] at this
    exact this
  · refine Lib.hid (HF.imp (fun h => ⟨h.1, fun w => ?_⟩) id)
    have := has_any d1 d2 (x - y) w
    rw [h.2] at this
    exact this
  · refine Lib.hid (HG.imp (fun h => ⟨h.1, fun w => ?_, fun w => ?_⟩) id)
    · have := part_of x y (by omega) (by omega) w
      rw [show partV (x * y) = .tuple #[.int .i64 (x * y), .bool true] from by simp [partV, h.2.1]] at this
      exact this
    · have := has_any p1 p2 (x * y) w
      rw [h.2.2] at this
      exact this
  · apply Lib.hid
    cases hz : hasB bl bh 0
    · right
      obtain ⟨lo, hi', e, l, u, _⟩ := divS_or hv1 hv2 hz
      have hz' : ¬ (bl ≤ 0 ∧ 0 ≤ bh) := by simpa [hasB] using hz
      have hm := quo_four mx.1 mx.2 my.1 my.2 hz' l.1 l.2.1 l.2.2.1 l.2.2.2 u.1 u.2.1 u.2.2.1 u.2.2.2
      rw [e]
      exact ⟨fun w => by have := has_any bl bh 0 w; rw [hz] at this; exact this, rfl, fun w => reffloor_any x y (by omega) (by omega) (by omega) w, fun w => refceil_any x y (by omega) (by omega) (by omega) w, hm.1, hm.2⟩
    · left
      exact ⟨fun w => by have := has_any bl bh 0 w; rw [hz] at this; exact this, by rw [divS_zero hv1 hv2 hz]⟩
#print axioms spanInside_walk

end Go.Proofs.Ytgipfmleefojbaa
