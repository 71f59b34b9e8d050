/- SpanNarrow returns true. -/
import Derived.Test.YtgipfmleefojbaaLNar
set_option linter.unusedVariables false
namespace Go.Proofs.Ytgipfmleefojbaa
open Go.ChangeShapes Go.WideShapes Go.ChangeAt Go.RowKit

section
variable {al ah bl bh cl ch dl dh : Int}
theorem nar_add (h1 : validB al ah = true) (h2 : validB bl bh = true) (h3 : validB cl ch = true) (h4 : validB dl dh = true) (c1 : al ≤ cl) (c2 : ch ≤ ah) (d1 : bl ≤ dl) (d2 : dh ≤ bh) :
    NarOk (addS cl ch dl dh) (addS al ah bl bh) := by
  have q3 := validB_iff.1 h3
  have q4 := validB_iff.1 h4
  rw [addS_fit h1 h2, addS_fit h3 h4]
  rcases fitS_or (al + bl) (ah + bh) with ⟨e, k1, k2⟩ | ⟨e, _⟩
  · rw [withinB_iff] at k1 k2
    rw [e, fitS_yes (withinB_iff.2 (by omega)) (withinB_iff.2 (by omega))]
    exact .inr ⟨rfl, rfl, by dsimp only; omega, by dsimp only; omega⟩
  · rw [e]; exact .inl (by decide)
theorem nar_sub (h1 : validB al ah = true) (h2 : validB bl bh = true) (h3 : validB cl ch = true) (h4 : validB dl dh = true) (c1 : al ≤ cl) (c2 : ch ≤ ah) (d1 : bl ≤ dl) (d2 : dh ≤ bh) :
    NarOk (subS cl ch dl dh) (subS al ah bl bh) := by
  have q3 := validB_iff.1 h3
  have q4 := validB_iff.1 h4
  rw [subS_fit h1 h2, subS_fit h3 h4]
  rcases fitS_or (al - bh) (ah - bl) with ⟨e, k1, k2⟩ | ⟨e, _⟩
  · rw [withinB_iff] at k1 k2
    rw [e, fitS_yes (withinB_iff.2 (by omega)) (withinB_iff.2 (by omega))]
    exact .inr ⟨rfl, rfl, by dsimp only; omega, by dsimp only; omega⟩
  · rw [e]; exact .inl (by decide)
theorem nar_mul (h1 : validB al ah = true) (h2 : validB bl bh = true) (h3 : validB cl ch = true) (h4 : validB dl dh = true) (c1 : al ≤ cl) (c2 : ch ≤ ah) (d1 : bl ≤ dl) (d2 : dh ≤ bh) :
    NarOk (mulS cl ch dl dh) (mulS al ah bl bh) := by
  have q3 := validB_iff.1 h3
  have q4 := validB_iff.1 h4
  rcases mulS_or h1 h2 with ⟨lo, hi, e, ⟨⟨l1, l2, l3, l4⟩, u1, u2, u3, u4⟩, b1, b2, _⟩ | ⟨e, _⟩
  · have m1 := mul_four (x := cl) (y := dl) c1 (by omega) d1 (by omega) l1 l2 l3 l4 u1 u2 u3 u4
    have m2 := mul_four (x := cl) (y := dh) c1 (by omega) (by omega) d2 l1 l2 l3 l4 u1 u2 u3 u4
    have m3 := mul_four (x := ch) (y := dl) (by omega) c2 d1 (by omega) l1 l2 l3 l4 u1 u2 u3 u4
    have m4 := mul_four (x := ch) (y := dh) (by omega) c2 (by omega) d2 l1 l2 l3 l4 u1 u2 u3 u4
    have hw : (prods cl ch dl dh).all withinB = true := by
      simp only [prods, List.all_cons, List.all_nil, Bool.and_true, Bool.and_eq_true, withinB_iff]
      omega
    rcases mulS_or h3 h4 with ⟨lo', hi', e', _, _, _, k1, k2⟩ | ⟨_, k⟩
    · rw [e, e']
      refine .inr ⟨rfl, rfl, ?_, ?_⟩
      · show lo ≤ lo'
        rcases k1 with h | h | h | h <;> rw [h] <;> omega
      · show hi' ≤ hi
        rcases k2 with h | h | h | h <;> rw [h] <;> omega
    · rw [hw] at k; cases k
  · rw [e]; exact .inl (by decide)
theorem nar_div (h1 : validB al ah = true) (h2 : validB bl bh = true) (h3 : validB cl ch = true) (h4 : validB dl dh = true) (c1 : al ≤ cl) (c2 : ch ≤ ah) (d1 : bl ≤ dl) (d2 : dh ≤ bh) :
    NarOk (divS cl ch dl dh) (divS al ah bl bh) := by
  have q3 := validB_iff.1 h3
  have q4 := validB_iff.1 h4
  cases hz : hasB bl bh 0
  · have hz0 : ¬ (bl ≤ 0 ∧ 0 ≤ bh) := by simpa [hasB] using hz
    have hz' : hasB dl dh 0 = false := by
      have : ¬ (dl ≤ 0 ∧ 0 ≤ dh) := by omega
      simpa [hasB] using this
    obtain ⟨lo, hi, e, ⟨l1, l2, l3, l4⟩, ⟨u1, u2, u3, u4⟩, _⟩ := divS_or h1 h2 hz
    obtain ⟨lo', hi', e', _, _, k1, k2⟩ := divS_or h3 h4 hz'
    have m1 := quo_four (x := cl) (y := dl) c1 (by omega) d1 (by omega) hz0 l1 l2 l3 l4 u1 u2 u3 u4
    have m2 := quo_four (x := cl) (y := dh) c1 (by omega) (by omega) d2 hz0 l1 l2 l3 l4 u1 u2 u3 u4
    have m3 := quo_four (x := ch) (y := dl) (by omega) c2 d1 (by omega) hz0 l1 l2 l3 l4 u1 u2 u3 u4
    have m4 := quo_four (x := ch) (y := dh) (by omega) c2 (by omega) d2 hz0 l1 l2 l3 l4 u1 u2 u3 u4
    rw [e, e']
    refine .inr ⟨rfl, rfl, ?_, ?_⟩
    · show lo ≤ lo'
      rcases k1 with h | h | h | h <;> rw [h] <;> omega
    · show hi' ≤ hi
      rcases k2 with h | h | h | h <;> rw [h] <;> omega
  · rw [divS_zero h1 h2 hz]
    exact .inl (by decide)
theorem sqrtN_mono {a b : Nat} (h : a ≤ b) : sqrtN a ≤ sqrtN b := sqrtN_le (Nat.lt_of_le_of_lt h (sqrtN_spec b).2)
theorem sqrtU_mono {a b : Nat} (h : a ≤ b) : sqrtU a ≤ sqrtU b := by
  have h1 := sqrtN_mono h
  unfold sqrtU
  split <;> split
  · omega
  · rename_i k1 k2
    have h2 := (sqrtN_spec b).1
    rcases Nat.lt_or_ge (sqrtN a) (sqrtN b) with k | k
    · omega
    · have e : sqrtN a = sqrtN b := by omega
      rw [e] at k1
      omega
  · omega
  · exact h1
theorem nar_root (h1 : validB al ah = true) (h3 : validB cl ch = true) (c1 : al ≤ cl) (c2 : ch ≤ ah) : NarOk (rootV cl ch) (rootV al ah) := by
  have q3 := validB_iff.1 h3
  simp only [rootV, h1, h3, if_true]
  by_cases h0 : al < 0
  · simp only [rootS, h0, if_true]
    exact .inl (by decide)
  · have h0' : ¬ cl < 0 := by omega
    simp only [rootS, h0, h0', if_false]
    have k1 := sqrtN_mono (a := al.toNat) (b := cl.toNat) (by omega)
    have k2 := sqrtU_mono (a := ch.toNat) (b := ah.toNat) (by omega)
    exact .inr ⟨rfl, rfl, by dsimp only; omega, by dsimp only; omega⟩
end

set_option maxRecDepth 100000 in
set_option maxHeartbeats 4000000 in
theorem spanNarrow_walk (al ah bl bh i j k l : Int) (_ : (Lit.int .i64 al).wf = true) (_ : (Lit.int .i64 ah).wf = true) (_ : (Lit.int .i64 bl).wf = true) (_ : (Lit.int .i64 bh).wf = true) (hi : (Lit.int .u64 i).wf = true) (hj : (Lit.int .u64 j).wf = true) (hk : (Lit.int .u64 k).wf = true) (hl : (Lit.int .u64 l).wf = true) (w : World) :
    Calls Try.prog 7 #[sp al ah, sp bl bh, .int .u64 i, .int .u64 j, .int .u64 k, .int .u64 l] w fun e w' => e = .returned (.bool true) ∧ Below w.heap.size w w' := by
  have HW1 := Lib.hid (fun w => refvalid_any al ah w)
  have HW2 := Lib.hid (fun w => refvalid_any bl bh w)
  cases hv1 : validB al ah
  · rw [hv1] at HW1
    clear HW2 hv1 hi hj hk hl
    go_enter Try.func7, Try.ntmps7
    go_wp2_with fail
    refine (awake_any _).mono ?_
    rintro e v1 ⟨rfl, hb1⟩
    have k_a : At v1 (w.heap.size) 23 #[.int .i64 al, .int .i64 ah] := At.bel (by (repeat (first | (with_reducible apply At.new'; (focus (simp; done))) | with_reducible apply At.al | with_reducible apply At.drw | with_reducible apply At.dr))) hb1
    have k_b : At v1 (w.heap.size + 1) 23 #[.int .i64 bl, .int .i64 bh] := At.bel (by (repeat (first | (with_reducible apply At.new'; (focus (simp; done))) | with_reducible apply At.al | with_reducible apply At.drw | with_reducible apply At.dr))) hb1
    have HB : Below w.heap.size w v1 := below_then (by repeat (first | with_reducible assumption | with_reducible exact Below.refl _ _ | with_reducible refine below_al ?_ _ | with_reducible refine below_drew ?_ | with_reducible refine below_drewN ?_ _ | with_reducible refine below_set ?_ (by dsimp only; omega) _)) hb1
    clear hb1
    have Lk_a := k_a.lt
    obtain ⟨k_a0, k_a1, k_a2, k_a3⟩ := k_a.two
    have Lk_b := k_b.lt
    obtain ⟨k_b0, k_b1, k_b2, k_b3⟩ := k_b.two
    go_wp2_with fail
    refine (HW1.out _).mono ?_
    rintro e v2 ⟨rfl, hb2⟩
    clear k_a0 k_a1 k_a2 k_a3 Lk_a k_b0 k_b1 k_b2 k_b3 Lk_b
    replace k_a : At v2 (w.heap.size) 23 #[.int .i64 al, .int .i64 ah] := At.bel (by repeat (first | with_reducible assumption | with_reducible apply At.put0 | with_reducible apply At.put1 | with_reducible refine At.far ?_ (by dsimp only; omega) _ | with_reducible apply At.al | with_reducible apply At.drw | with_reducible apply At.dr)) hb2
    replace k_b : At v2 (w.heap.size + 1) 23 #[.int .i64 bl, .int .i64 bh] := At.bel (by repeat (first | with_reducible assumption | with_reducible apply At.put0 | with_reducible apply At.put1 | with_reducible refine At.far ?_ (by dsimp only; omega) _ | with_reducible apply At.al | with_reducible apply At.drw | with_reducible apply At.dr)) hb2
    replace HB : Below w.heap.size w v2 := below_then (by repeat (first | with_reducible assumption | with_reducible exact Below.refl _ _ | with_reducible refine below_al ?_ _ | with_reducible refine below_drew ?_ | with_reducible refine below_drewN ?_ _ | with_reducible refine below_set ?_ (by dsimp only; omega) _)) hb2
    clear hb2
    have Lk_a := k_a.lt
    obtain ⟨k_a0, k_a1, k_a2, k_a3⟩ := k_a.two
    have Lk_b := k_b.lt
    obtain ⟨k_b0, k_b1, k_b2, k_b3⟩ := k_b.two
    go_wp2_with fail
    go_ret
    exact ⟨rfl, (by repeat (first | with_reducible assumption | with_reducible exact Below.refl _ _ | with_reducible refine below_al ?_ _ | with_reducible refine below_drew ?_ | with_reducible refine below_drewN ?_ _ | with_reducible refine below_set ?_ (by dsimp only; omega) _))⟩
  cases hv2 : validB bl bh
  · rw [hv1] at HW1
    rw [hv2] at HW2
    clear hv1 hv2 hi hj hk hl
    go_enter Try.func7, Try.ntmps7
    go_wp2_with fail
    refine (awake_any _).mono ?_
    rintro e v1 ⟨rfl, hb1⟩
    have k_a : At v1 (w.heap.size) 23 #[.int .i64 al, .int .i64 ah] := At.bel (by (repeat (first | (with_reducible apply At.new'; (focus (simp; done))) | with_reducible apply At.al | with_reducible apply At.drw | with_reducible apply At.dr))) hb1
    have k_b : At v1 (w.heap.size + 1) 23 #[.int .i64 bl, .int .i64 bh] := At.bel (by (repeat (first | (with_reducible apply At.new'; (focus (simp; done))) | with_reducible apply At.al | with_reducible apply At.drw | with_reducible apply At.dr))) hb1
    have HB : Below w.heap.size w v1 := below_then (by repeat (first | with_reducible assumption | with_reducible exact Below.refl _ _ | with_reducible refine below_al ?_ _ | with_reducible refine below_drew ?_ | with_reducible refine below_drewN ?_ _ | with_reducible refine below_set ?_ (by dsimp only; omega) _)) hb1
    clear hb1
    have Lk_a := k_a.lt
    obtain ⟨k_a0, k_a1, k_a2, k_a3⟩ := k_a.two
    have Lk_b := k_b.lt
    obtain ⟨k_b0, k_b1, k_b2, k_b3⟩ := k_b.two
    go_wp2_with fail
    refine (HW1.out _).mono ?_
    rintro e v2 ⟨rfl, hb2⟩
    clear k_a0 k_a1 k_a2 k_a3 Lk_a k_b0 k_b1 k_b2 k_b3 Lk_b
    replace k_a : At v2 (w.heap.size) 23 #[.int .i64 al, .int .i64 ah] := At.bel (by repeat (first | with_reducible assumption | with_reducible apply At.put0 | with_reducible apply At.put1 | with_reducible refine At.far ?_ (by dsimp only; omega) _ | with_reducible apply At.al | with_reducible apply At.drw | with_reducible apply At.dr)) hb2
    replace k_b : At v2 (w.heap.size + 1) 23 #[.int .i64 bl, .int .i64 bh] := At.bel (by repeat (first | with_reducible assumption | with_reducible apply At.put0 | with_reducible apply At.put1 | with_reducible refine At.far ?_ (by dsimp only; omega) _ | with_reducible apply At.al | with_reducible apply At.drw | with_reducible apply At.dr)) hb2
    replace HB : Below w.heap.size w v2 := below_then (by repeat (first | with_reducible assumption | with_reducible exact Below.refl _ _ | with_reducible refine below_al ?_ _ | with_reducible refine below_drew ?_ | with_reducible refine below_drewN ?_ _ | with_reducible refine below_set ?_ (by dsimp only; omega) _)) hb2
    clear hb2
    have Lk_a := k_a.lt
    obtain ⟨k_a0, k_a1, k_a2, k_a3⟩ := k_a.two
    have Lk_b := k_b.lt
    obtain ⟨k_b0, k_b1, k_b2, k_b3⟩ := k_b.two
    go_wp2_with fail
    refine (HW2.out _).mono ?_
    rintro e v3 ⟨rfl, hb3⟩
    clear k_a0 k_a1 k_a2 k_a3 Lk_a k_b0 k_b1 k_b2 k_b3 Lk_b
    replace k_a : At v3 (w.heap.size) 23 #[.int .i64 al, .int .i64 ah] := At.bel (by repeat (first | with_reducible assumption | with_reducible apply At.put0 | with_reducible apply At.put1 | with_reducible refine At.far ?_ (by dsimp only; omega) _ | with_reducible apply At.al | with_reducible apply At.drw | with_reducible apply At.dr)) hb3
    replace k_b : At v3 (w.heap.size + 1) 23 #[.int .i64 bl, .int .i64 bh] := At.bel (by repeat (first | with_reducible assumption | with_reducible apply At.put0 | with_reducible apply At.put1 | with_reducible refine At.far ?_ (by dsimp only; omega) _ | with_reducible apply At.al | with_reducible apply At.drw | with_reducible apply At.dr)) hb3
    replace HB : Below w.heap.size w v3 := below_then (by repeat (first | with_reducible assumption | with_reducible exact Below.refl _ _ | with_reducible refine below_al ?_ _ | with_reducible refine below_drew ?_ | with_reducible refine below_drewN ?_ _ | with_reducible refine below_set ?_ (by dsimp only; omega) _)) hb3
    clear hb3
    have Lk_a := k_a.lt
    obtain ⟨k_a0, k_a1, k_a2, k_a3⟩ := k_a.two
    have Lk_b := k_b.lt
    obtain ⟨k_b0, k_b1, k_b2, k_b3⟩ := k_b.two
    go_wp2_with fail
    go_ret
    exact ⟨rfl, (by repeat (first | with_reducible assumption | with_reducible exact Below.refl _ _ | with_reducible refine below_al ?_ _ | with_reducible refine below_drew ?_ | with_reducible refine below_drewN ?_ _ | with_reducible refine below_set ?_ (by dsimp only; omega) _))⟩
  clear HW1 HW2
  have q1 := validB_iff.1 hv1
  have q2 := validB_iff.1 hv2
  have hi := u64_wf hi
  have hj := u64_wf hj
  have hk := u64_wf hk
  have hl := u64_wf hl
  have m1 := atF_mid (n := i) q1.1
  have m2 := atF_mid (n := j) q1.1
  have m3 := atF_mid (n := k) q2.1
  have m4 := atF_mid (n := l) q2.1
  have HX1 := Lib.hid (fun w => at_any al ah i hv1 hi.1 hi.2 w)
  have HX2 := Lib.hid (fun w => at_any al ah j hv1 hj.1 hj.2 w)
  have HX3 := Lib.hid (fun w => at_any bl bh k hv2 hk.1 hk.2 w)
  have HX4 := Lib.hid (fun w => at_any bl bh l hv2 hl.1 hl.2 w)
  generalize atF al ah i = x1 at *
  generalize atF al ah j = x2 at *
  generalize atF bl bh k = x3 at *
  generalize atF bl bh l = x4 at *
  have HO1 := Lib.hid (fun w => of_any x1 x2 w)
  have HO2 := Lib.hid (fun w => of_any x3 x4 w)
  have c1 : al ≤ minI x1 x2 := by unfold minI; split <;> omega
  have c2 : maxI x1 x2 ≤ ah := by unfold maxI; split <;> omega
  have c3 : minI x1 x2 ≤ maxI x1 x2 := by unfold minI maxI; split <;> split <;> omega
  have d1 : bl ≤ minI x3 x4 := by unfold minI; split <;> omega
  have d2 : maxI x3 x4 ≤ bh := by unfold maxI; split <;> omega
  have d3 : minI x3 x4 ≤ maxI x3 x4 := by unfold minI maxI; split <;> split <;> omega
  generalize minI x1 x2 = cl at *
  generalize maxI x1 x2 = ch at *
  generalize minI x3 x4 = dl at *
  generalize maxI x3 x4 = dh at *
  have hv3 : validB cl ch = true := validB_iff.2 (by omega)
  have hv4 : validB dl dh = true := validB_iff.2 (by omega)
  exact narrow_core al ah bl bh i j k l x1 x2 x3 x4 cl ch dl dh (addS cl ch dl dh) (addS al ah bl bh) (subS cl ch dl dh) (subS al ah bl bh) (mulS cl ch dl dh) (mulS al ah bl bh) (divS cl ch dl dh) (divS al ah bl bh) (rootV cl ch) (rootV al ah)
    (Lib.hid (fun w => by have := refvalid_any al ah w; rw [hv1] at this; exact this)) (Lib.hid (fun w => by have := refvalid_any bl bh w; rw [hv2] at this; exact this)) HX1 HX2 HX3 HX4 HO1 HO2
    (Lib.hid (fun w => add_any cl ch dl dh w)) (Lib.hid (fun w => add_any al ah bl bh w)) (Lib.hid (fun w => narrow_any (nar_add hv1 hv2 hv3 hv4 c1 c2 d1 d2) w))
    (Lib.hid (fun w => sub_any cl ch dl dh w)) (Lib.hid (fun w => sub_any al ah bl bh w)) (Lib.hid (fun w => narrow_any (nar_sub hv1 hv2 hv3 hv4 c1 c2 d1 d2) w))
    (Lib.hid (fun w => mul_any cl ch dl dh w)) (Lib.hid (fun w => mul_any al ah bl bh w)) (Lib.hid (fun w => narrow_any (nar_mul hv1 hv2 hv3 hv4 c1 c2 d1 d2) w))
    (Lib.hid (fun w => div_any cl ch dl dh w)) (Lib.hid (fun w => div_any al ah bl bh w)) (Lib.hid (fun w => narrow_any (nar_div hv1 hv2 hv3 hv4 c1 c2 d1 d2) w))
    (Lib.hid (fun w => rootI_any cl ch w)) (Lib.hid (fun w => rootI_any al ah w)) (Lib.hid (fun w => narrow_any (nar_root hv1 hv3 c1 c2) w)) w
#print axioms spanNarrow_walk

end Go.Proofs.Ytgipfmleefojbaa
