/- The reference's Part, Floor and Ceil: the quotient rounded down or up, if it fits. -/
import Derived.Test.YtgipfmleefojbaaPa1
import Derived.Test.YtgipfmleefojbaaPa2
set_option linter.unusedVariables false
namespace Go.Proofs.Ytgipfmleefojbaa
open Go.ChangeShapes Go.WideShapes Go.ChangeAt Go.RowKit

theorem refsize_any (n : Int) (h : -9223372036854775808 ≤ n ∧ n ≤ 9223372036854775807) (w : World) :
    Calls Try.prog 54 #[.int .i64 n] w fun e w' => e = .returned (.int .u64 (n.natAbs : Int)) ∧ w = w' := by
  rcases Int.lt_or_le n 0 with h0 | h0
  · have e : n = -(n.natAbs : Int) := by omega
    have := refsize_neg n.natAbs (by omega) (by omega) w
    rw [← e] at this
    exact this
  · have e : n = (n.natAbs : Int) := by omega
    have := refsize_pos n.natAbs (by omega) w
    rw [← e] at this
    rw [← e]
    exact this

/-- Division of a number of 128 bits by one of 64. -/
theorem refdiv_one (A z : Nat) (hA : A < 340282366920938463463374607431768211456) (h0 : 0 < z) (hz : z < 18446744073709551616) (w : World) :
    Calls Try.prog 56 #[.agg #[.int .u64 ((A / 18446744073709551616 : Nat) : Int), .int .u64 ((A % 18446744073709551616 : Nat) : Int)], .agg #[.int .u64 0, .int .u64 (z : Int)]] w fun e w' =>
      e = .returned (.tuple #[.agg #[.int .u64 ((A / z / 18446744073709551616 : Nat) : Int), .int .u64 ((A / z % 18446744073709551616 : Nat) : Int)], .agg #[.int .u64 0, .int .u64 ((A % z : Nat) : Int)]]) ∧ Below w.heap.size w w' := by
  have hr : A % z < z := Nat.mod_lt _ h0
  have hm := Nat.div_add_mod' A 18446744073709551616
  by_cases hh : A / 18446744073709551616 = 0
  · have e1 : A % 18446744073709551616 = A := by omega
    have hq : A / z ≤ A := Nat.div_le_self _ _
    have e2 : A / z / 18446744073709551616 = 0 := Nat.div_eq_of_lt (by omega)
    have e3 : A / z % 18446744073709551616 = A / z := Nat.mod_eq_of_lt (by omega)
    rw [hh, e1, e2, e3]
    have := refdiv_fast A z (A / z) (A % z) (by omega) h0 hz (by rw [← Int.natCast_ediv]; exact IntWalk.u64_in _ ⟨Int.natCast_nonneg _, by omega⟩) (Int.natCast_emod A z).symm w
    exact this
  · have := refdiv_slow A z (A / 18446744073709551616) (A % 18446744073709551616) 0 z (A / z / 18446744073709551616) (A / z % 18446744073709551616) 0 (A % z) (Nat.mod_lt _ (by omega)) (by omega) hz (by omega) hm.symm (by simp [Hid]) h0
      (Nat.div_add_mod' _ _) (Nat.mod_lt _ (by omega)) (by simp [Hid]) (by omega) (.inl (by simp only [beq_eq_false_iff_ne]; omega)) w
    exact this

theorem refplus_one (Q : Nat) (hQ : Q < 170141183460469231731687303715884105728) (w : World) :
    Calls Try.prog 58 #[.agg #[.int .u64 ((Q / 18446744073709551616 : Nat) : Int), .int .u64 ((Q % 18446744073709551616 : Nat) : Int)], .agg #[.int .u64 0, .int .u64 1]] w fun e w' =>
      e = .returned (.agg #[.int .u64 (((Q + 1) / 18446744073709551616 : Nat) : Int), .int .u64 (((Q + 1) % 18446744073709551616 : Nat) : Int)]) ∧ Below w.heap.size w w' := by
  have := refplus_any ((Q / 18446744073709551616 : Nat) : Int) ((Q % 18446744073709551616 : Nat) : Int) 0 1 w
  have e1 : IntKind.u64.wrap (((Q % 18446744073709551616 : Nat) : Int) + 1) = (((Q + 1) % 18446744073709551616 : Nat) : Int) := by rw [IntKind.wrap_u64]; omega
  have e2 : IntKind.u64.wrap (((Q / 18446744073709551616 : Nat) : Int) + 0 + (if IntKind.u64.wrap (((Q % 18446744073709551616 : Nat) : Int) + 1) < ((Q % 18446744073709551616 : Nat) : Int) then 1 else 0)) = (((Q + 1) / 18446744073709551616 : Nat) : Int) := by
    rw [e1, IntKind.wrap_u64]
    split <;> omega
  rw [e2, e1] at this
  exact this

/-- The quotient that is asked for. -/
def partS (n num den : Int) (up : Bool) : Int := if up then upS n num den else dnS n num den
def partV (v : Int) : Value := if withinB v then .tuple #[.int .i64 v, .bool true] else .tuple #[.int .i64 0, .bool false]

theorem part_end {F : Nat} {neg : Bool} {v : Int} (hv : v = if neg then -(F : Int) else (F : Int)) :
    (if F / 18446744073709551616 = 0 ∧ F % 18446744073709551616 ≤ 1152921504606846976 then Value.tuple #[.int .i64 (if neg then -((F % 18446744073709551616 : Nat) : Int) else ((F % 18446744073709551616 : Nat) : Int)), .bool true] else .tuple #[.int .i64 0, .bool false]) = partV v := by
  unfold partV
  by_cases h : F ≤ 1152921504606846976
  · have e : F % 18446744073709551616 = F := by omega
    rw [if_pos (by omega), e, ← hv, if_pos]
    rw [withinB_iff]
    cases neg <;> simp at hv <;> omega
  · rw [if_neg (by omega), if_neg]
    rw [Bool.not_eq_true, withinB_not]
    cases neg <;> simp at hv <;> omega

theorem sg_two (n num den : Int) : (!decide (n < 0) == decide (num < 0)) = (sgB n num den != decide (den < 0)) := by
  unfold sgB
  cases decide (n < 0) <;> cases decide (num < 0) <;> cases decide (den < 0) <;> rfl
theorem qU_pos {a b c : Int} (h : 0 < rN a b c) : qU a b c = qN a b c + 1 := if_neg (by omega)
theorem qU_zero {a b c : Int} (h : ¬ 0 < rN a b c) : qU a b c = qN a b c := if_pos (by omega)

theorem refpart_any (n num den : Int) (up : Bool) (hn : -1152921504606846976 ≤ n ∧ n ≤ 1152921504606846976) (hm : -1152921504606846976 ≤ num ∧ num ≤ 1152921504606846976) (hden : -1152921504606846976 ≤ den ∧ den ≤ 1152921504606846976) (h0 : den ≠ 0) (w : World) :
    Calls Try.prog 29 #[.int .i64 n, .int .i64 num, .int .i64 den, .bool up] w fun e w' => e = .returned (partV (partS n num den up)) ∧ Below w.heap.size w w' := by
  have hz : 0 < den.natAbs := by omega
  have hA : n.natAbs * num.natAbs ≤ 1152921504606846976 * 1152921504606846976 := Nat.mul_le_mul (by omega) (by omega)
  have hQ : qN n num den < 170141183460469231731687303715884105728 := by
    have : n.natAbs * num.natAbs / den.natAbs ≤ n.natAbs * num.natAbs := Nat.div_le_self _ _
    unfold qN; omega
  have H1 := Lib.hid (fun w => refsize_any n (by omega) w)
  have H2 := Lib.hid (fun w => refsize_any num (by omega) w)
  have H3 := Lib.hid (fun w => refsize_any den (by omega) w)
  have HM := Lib.hid (fun w => refmul_any n.natAbs num.natAbs (by omega) (by omega) w)
  have HD := Lib.hid (fun w => refdiv_one (n.natAbs * num.natAbs) den.natAbs (by omega) hz (by omega) w)
  by_cases hr : 0 < rN n num den
  · have hn1 : (((n.natAbs * num.natAbs % den.natAbs : Nat) : Int) == 0) = false := by
      have : n.natAbs * num.natAbs % den.natAbs ≠ 0 := by unfold rN at hr; omega
      simp only [beq_eq_false_iff_ne]; omega
    have hn2 : decide (n.natAbs * num.natAbs % den.natAbs = 0) = false := decide_eq_false (by unfold rN at hr; omega)
    by_cases hd : den < 0
    · have hd2 : decide (den < 0) = true := decide_eq_true hd
      cases hs : sgB n num den
      · cases up
        · have key := part_pd_nz_m n num den _ _ _ _ _ _ _ _ H1 H2 H3 HM HD (by rw [sg_two, hs, hd2]; rfl) hd hn1 hn2 false rfl w
          have fin := part_end (F := qN n num den) (neg := false) (v := partS n num den false) (by simp [partS, dnS, hs])
          simp only [Bool.false_eq_true, if_false] at fin
          exact key.mono fun _ _ ⟨p, q⟩ => ⟨by rw [p]; exact congrArg Ending.returned fin, q⟩
        · have key := part_pu_nz_m n num den _ _ _ _ _ _ _ _ H1 H2 H3 HM HD (by rw [sg_two, hs, hd2]; rfl) hd hn1 hn2 _ _ (Lib.hid (fun w => refplus_one _ hQ w)) true rfl w
          have fin := part_end (F := (qN n num den + 1)) (neg := false) (v := partS n num den true) (by simp [partS, upS, hs, qU_pos hr])
          simp only [Bool.false_eq_true, if_false] at fin
          exact key.mono fun _ _ ⟨p, q⟩ => ⟨by rw [p]; exact congrArg Ending.returned fin, q⟩
      · cases up
        · have key := part_nd_nz_m n num den _ _ _ _ _ _ _ _ H1 H2 H3 HM HD (by rw [sg_two, hs, hd2]; rfl) hd hn1 hn2 _ _ (Lib.hid (fun w => refplus_one _ hQ w)) false rfl w
          have fin := part_end (F := (qN n num den + 1)) (neg := true) (v := partS n num den false) (by simp [partS, dnS, hs, qU_pos hr])
          simp only [if_true] at fin
          exact key.mono fun _ _ ⟨p, q⟩ => ⟨by rw [p]; exact congrArg Ending.returned fin, q⟩
        · have key := part_nu_nz_m n num den _ _ _ _ _ _ _ _ H1 H2 H3 HM HD (by rw [sg_two, hs, hd2]; rfl) hd hn1 hn2 true rfl w
          have fin := part_end (F := qN n num den) (neg := true) (v := partS n num den true) (by simp [partS, upS, hs])
          simp only [if_true] at fin
          exact key.mono fun _ _ ⟨p, q⟩ => ⟨by rw [p]; exact congrArg Ending.returned fin, q⟩
    · have hd2 : decide (den < 0) = false := decide_eq_false hd
      cases hs : sgB n num den
      · cases up
        · have key := part_pd_nz_q n num den _ _ _ _ _ _ _ _ H1 H2 H3 HM HD (by rw [sg_two, hs, hd2]; rfl) hd hn1 hn2 false rfl w
          have fin := part_end (F := qN n num den) (neg := false) (v := partS n num den false) (by simp [partS, dnS, hs])
          simp only [Bool.false_eq_true, if_false] at fin
          exact key.mono fun _ _ ⟨p, q⟩ => ⟨by rw [p]; exact congrArg Ending.returned fin, q⟩
        · have key := part_pu_nz_q n num den _ _ _ _ _ _ _ _ H1 H2 H3 HM HD (by rw [sg_two, hs, hd2]; rfl) hd hn1 hn2 _ _ (Lib.hid (fun w => refplus_one _ hQ w)) true rfl w
          have fin := part_end (F := (qN n num den + 1)) (neg := false) (v := partS n num den true) (by simp [partS, upS, hs, qU_pos hr])
          simp only [Bool.false_eq_true, if_false] at fin
          exact key.mono fun _ _ ⟨p, q⟩ => ⟨by rw [p]; exact congrArg Ending.returned fin, q⟩
      · cases up
        · have key := part_nd_nz_q n num den _ _ _ _ _ _ _ _ H1 H2 H3 HM HD (by rw [sg_two, hs, hd2]; rfl) hd hn1 hn2 _ _ (Lib.hid (fun w => refplus_one _ hQ w)) false rfl w
          have fin := part_end (F := (qN n num den + 1)) (neg := true) (v := partS n num den false) (by simp [partS, dnS, hs, qU_pos hr])
          simp only [if_true] at fin
          exact key.mono fun _ _ ⟨p, q⟩ => ⟨by rw [p]; exact congrArg Ending.returned fin, q⟩
        · have key := part_nu_nz_q n num den _ _ _ _ _ _ _ _ H1 H2 H3 HM HD (by rw [sg_two, hs, hd2]; rfl) hd hn1 hn2 true rfl w
          have fin := part_end (F := qN n num den) (neg := true) (v := partS n num den true) (by simp [partS, upS, hs])
          simp only [if_true] at fin
          exact key.mono fun _ _ ⟨p, q⟩ => ⟨by rw [p]; exact congrArg Ending.returned fin, q⟩
  · have hr1 : (((n.natAbs * num.natAbs % den.natAbs : Nat) : Int) == 0) = true := by
      have : n.natAbs * num.natAbs % den.natAbs = 0 := by unfold rN at hr; omega
      simp only [beq_iff_eq]; omega
    have hr2 : decide (n.natAbs * num.natAbs % den.natAbs = 0) = true := decide_eq_true (by unfold rN at hr; omega)
    by_cases hd : den < 0
    · have hd2 : decide (den < 0) = true := decide_eq_true hd
      cases hs : sgB n num den
      · cases up
        · have key := part_pd_z_m n num den _ _ _ _ _ _ _ _ H1 H2 H3 HM HD (by rw [sg_two, hs, hd2]; rfl) hd hr1 hr2 false rfl w
          have fin := part_end (F := qN n num den) (neg := false) (v := partS n num den false) (by simp [partS, dnS, hs])
          simp only [Bool.false_eq_true, if_false] at fin
          exact key.mono fun _ _ ⟨p, q⟩ => ⟨by rw [p]; exact congrArg Ending.returned fin, q⟩
        · have key := part_pu_z_m n num den _ _ _ _ _ _ _ _ H1 H2 H3 HM HD (by rw [sg_two, hs, hd2]; rfl) hd hr1 hr2 true rfl w
          have fin := part_end (F := qN n num den) (neg := false) (v := partS n num den true) (by simp [partS, upS, hs, qU_zero hr])
          simp only [Bool.false_eq_true, if_false] at fin
          exact key.mono fun _ _ ⟨p, q⟩ => ⟨by rw [p]; exact congrArg Ending.returned fin, q⟩
      · cases up
        · have key := part_nd_z_m n num den _ _ _ _ _ _ _ _ H1 H2 H3 HM HD (by rw [sg_two, hs, hd2]; rfl) hd hr1 hr2 false rfl w
          have fin := part_end (F := qN n num den) (neg := true) (v := partS n num den false) (by simp [partS, dnS, hs, qU_zero hr])
          simp only [if_true] at fin
          exact key.mono fun _ _ ⟨p, q⟩ => ⟨by rw [p]; exact congrArg Ending.returned fin, q⟩
        · have key := part_nu_z_m n num den _ _ _ _ _ _ _ _ H1 H2 H3 HM HD (by rw [sg_two, hs, hd2]; rfl) hd hr1 hr2 true rfl w
          have fin := part_end (F := qN n num den) (neg := true) (v := partS n num den true) (by simp [partS, upS, hs])
          simp only [if_true] at fin
          exact key.mono fun _ _ ⟨p, q⟩ => ⟨by rw [p]; exact congrArg Ending.returned fin, q⟩
    · have hd2 : decide (den < 0) = false := decide_eq_false hd
      cases hs : sgB n num den
      · cases up
        · have key := part_pd_z_q n num den _ _ _ _ _ _ _ _ H1 H2 H3 HM HD (by rw [sg_two, hs, hd2]; rfl) hd hr1 hr2 false rfl w
          have fin := part_end (F := qN n num den) (neg := false) (v := partS n num den false) (by simp [partS, dnS, hs])
          simp only [Bool.false_eq_true, if_false] at fin
          exact key.mono fun _ _ ⟨p, q⟩ => ⟨by rw [p]; exact congrArg Ending.returned fin, q⟩
        · have key := part_pu_z_q n num den _ _ _ _ _ _ _ _ H1 H2 H3 HM HD (by rw [sg_two, hs, hd2]; rfl) hd hr1 hr2 true rfl w
          have fin := part_end (F := qN n num den) (neg := false) (v := partS n num den true) (by simp [partS, upS, hs, qU_zero hr])
          simp only [Bool.false_eq_true, if_false] at fin
          exact key.mono fun _ _ ⟨p, q⟩ => ⟨by rw [p]; exact congrArg Ending.returned fin, q⟩
      · cases up
        · have key := part_nd_z_q n num den _ _ _ _ _ _ _ _ H1 H2 H3 HM HD (by rw [sg_two, hs, hd2]; rfl) hd hr1 hr2 false rfl w
          have fin := part_end (F := qN n num den) (neg := true) (v := partS n num den false) (by simp [partS, dnS, hs, qU_zero hr])
          simp only [if_true] at fin
          exact key.mono fun _ _ ⟨p, q⟩ => ⟨by rw [p]; exact congrArg Ending.returned fin, q⟩
        · have key := part_nu_z_q n num den _ _ _ _ _ _ _ _ H1 H2 H3 HM HD (by rw [sg_two, hs, hd2]; rfl) hd hr1 hr2 true rfl w
          have fin := part_end (F := qN n num den) (neg := true) (v := partS n num den true) (by simp [partS, upS, hs])
          simp only [if_true] at fin
          exact key.mono fun _ _ ⟨p, q⟩ => ⟨by rw [p]; exact congrArg Ending.returned fin, q⟩

#print axioms refpart_any

end Go.Proofs.Ytgipfmleefojbaa
