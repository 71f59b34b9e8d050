/- span.scaled's contract: the quotient a b / c, rounded down and up, and whether both fit. -/
import Derived.Test.YtgipfmleefojbaaSc
set_option linter.unusedVariables false
namespace Go.Proofs.Ytgipfmleefojbaa
open Go.ChangeShapes Go.WideShapes Go.ChangeAt Go.RowKit

theorem sg_walk (a b c : Int) : (!(!decide (a < 0) == decide (b < 0)) == decide (c < 0)) = sgB a b c := by
  unfold sgB
  cases decide (a < 0) <;> cases decide (b < 0) <;> cases decide (c < 0) <;> rfl

theorem qU_pos {a b c : Int} (h : 0 < rN a b c) : qU a b c = qN a b c + 1 := if_neg (by omega)
theorem qU_zero {a b c : Int} (h : ¬ 0 < rN a b c) : qU a b c = qN a b c := if_pos (by omega)
theorem dn_f {a b c : Int} (hs : sgB a b c = false) : dnS a b c = (qN a b c : Int) := if_neg (by rw [hs]; decide)
theorem up_f {a b c : Int} (hs : sgB a b c = false) (h : 0 < rN a b c) : upS a b c = (qN a b c : Int) + 1 := by
  unfold upS; rw [if_neg (by rw [hs]; decide), qU_pos h]; omega
theorem up_f0 {a b c : Int} (hs : sgB a b c = false) (h : ¬ 0 < rN a b c) : upS a b c = (qN a b c : Int) := by
  unfold upS; rw [if_neg (by rw [hs]; decide), qU_zero h]
theorem dn_t {a b c : Int} (hs : sgB a b c = true) (h : 0 < rN a b c) : dnS a b c = -((qN a b c : Int) + 1) := by
  unfold dnS; rw [if_pos hs, qU_pos h]; omega
theorem dn_t0 {a b c : Int} (hs : sgB a b c = true) (h : ¬ 0 < rN a b c) : dnS a b c = -(qN a b c : Int) := by
  unfold dnS; rw [if_pos hs, qU_zero h]
theorem up_t {a b c : Int} (hs : sgB a b c = true) : upS a b c = -(qN a b c : Int) := if_pos hs

/-- What is handed back where a quotient does not fit. -/
def ScNo (w : World) (e : Ending) (w' : World) : Prop := ∃ d u : Int, e = .returned (.tuple #[.int .i64 d, .int .i64 u, .bool false]) ∧ Below w.heap.size w w'

section
variable (a b c : Int) (ha : -1152921504606846976 ≤ a ∧ a ≤ 1152921504606846976) (hb : -1152921504606846976 ≤ b ∧ b ≤ 1152921504606846976) (hc : -1152921504606846976 ≤ c ∧ c ≤ 1152921504606846976) (h0 : c ≠ 0)
include ha hb hc h0

theorem scaled_ok (ho : okS a b c = true) (w : World) :
    Calls Try.prog 64 #[.int .i64 a, .int .i64 b, .int .i64 c] w fun e w' => e = .returned (.tuple #[.int .i64 (dnS a b c), .int .i64 (upS a b c), .bool true]) ∧ Below w.heap.size w w' := by
  have hq := okS_q ho
  have hz : 0 < c.natAbs := by omega
  have hx : a.natAbs < 18446744073709551616 := by omega
  have hy : b.natAbs < 18446744073709551616 := by omega
  have hN : a.natAbs * b.natAbs / 18446744073709551616 * 18446744073709551616 + a.natAbs * b.natAbs % 18446744073709551616 = a.natAbs * b.natAbs := Nat.div_add_mod' _ _
  have hlt : a.natAbs * b.natAbs / 18446744073709551616 < c.natAbs := by
    unfold qN at hq
    have h1 : a.natAbs * b.natAbs < (1152921504606846976 + 1) * c.natAbs := by
      rw [← Nat.div_lt_iff_lt_mul hz]; omega
    rw [Nat.div_lt_iff_lt_mul (by omega), Nat.mul_comm c.natAbs]
    have h2 : (1152921504606846976 + 1) * c.natAbs ≤ 18446744073709551616 * c.natAbs := Nat.mul_le_mul_right _ (by omega)
    exact Nat.lt_of_lt_of_le h1 h2
  have H1 := Lib.hid (fun w => size_any a ha w)
  have H2 := Lib.hid (fun w => size_any b hb w)
  have H3 := Lib.hid (fun w => size_any c hc w)
  have HM := Lib.hid (fun w => (Try.bits_Mul64 a.natAbs b.natAbs hx hy w).mono fun _ _ ⟨p, q⟩ => And.intro p q.symm)
  have HD := Lib.hid (fun w => by
    have := div64_any (a.natAbs * b.natAbs / 18446744073709551616) (a.natAbs * b.natAbs % 18446744073709551616) c.natAbs (Nat.mod_lt _ (by omega)) (by omega) hlt w
    rw [hN] at this
    exact this)
  have ho' := ho
  unfold okS at ho'
  have hu := qU_le a b c
  cases hs : sgB a b c
  · by_cases hr : 0 < rN a b c
    · have e1 : dnS a b c = (qN a b c : Int) := dn_f hs
      have e2 : upS a b c = (qN a b c : Int) + 1 := up_f hs hr
      rw [e1, e2] at ho' ⊢
      have key := scaled_false_pos a b c _ _ _ _ _ _ _ H1 H2 H3 HM HD (decide_eq_false (by omega)) hq hr (by rw [sg_walk, hs]) w
      unfold qN at ho' ⊢
      rw [ho'] at key
      exact key
    · have e1 : dnS a b c = (qN a b c : Int) := dn_f hs
      have e2 : upS a b c = (qN a b c : Int) := up_f0 hs hr
      rw [e1, e2] at ho' ⊢
      have key := scaled_false_zero a b c _ _ _ _ _ _ _ H1 H2 H3 HM HD (decide_eq_false (by omega)) hq hr (by rw [sg_walk, hs]) w
      unfold qN at ho' ⊢
      rw [ho'] at key
      exact key
  · by_cases hr : 0 < rN a b c
    · have e1 : dnS a b c = -((qN a b c : Int) + 1) := dn_t hs hr
      have e2 : upS a b c = -(qN a b c : Int) := up_t hs
      rw [e1, e2] at ho' ⊢
      have key := scaled_true_pos a b c _ _ _ _ _ _ _ H1 H2 H3 HM HD (decide_eq_false (by omega)) hq hr (by rw [sg_walk, hs]) w
      unfold qN at ho' ⊢
      rw [ho'] at key
      exact key
    · have e1 : dnS a b c = -(qN a b c : Int) := dn_t0 hs hr
      have e2 : upS a b c = -(qN a b c : Int) := up_t hs
      rw [e1, e2] at ho' ⊢
      have key := scaled_true_zero a b c _ _ _ _ _ _ _ H1 H2 H3 HM HD (decide_eq_false (by omega)) hq hr (by rw [sg_walk, hs]) w
      unfold qN at ho' ⊢
      rw [ho'] at key
      exact key

theorem scaled_no (ho : okS a b c = false) (w : World) :
    Calls Try.prog 64 #[.int .i64 a, .int .i64 b, .int .i64 c] w (ScNo w) := by
  have hz : 0 < c.natAbs := by omega
  have hx : a.natAbs < 18446744073709551616 := by omega
  have hy : b.natAbs < 18446744073709551616 := by omega
  have hN : a.natAbs * b.natAbs / 18446744073709551616 * 18446744073709551616 + a.natAbs * b.natAbs % 18446744073709551616 = a.natAbs * b.natAbs := Nat.div_add_mod' _ _
  have H1 := Lib.hid (fun w => size_any a ha w)
  have H2 := Lib.hid (fun w => size_any b hb w)
  have H3 := Lib.hid (fun w => size_any c hc w)
  have HM := Lib.hid (fun w => (Try.bits_Mul64 a.natAbs b.natAbs hx hy w).mono fun _ _ ⟨p, q⟩ => And.intro p q.symm)
  by_cases hlt : a.natAbs * b.natAbs / 18446744073709551616 < c.natAbs
  · have HD := Lib.hid (fun w => by
      have := div64_any (a.natAbs * b.natAbs / 18446744073709551616) (a.natAbs * b.natAbs % 18446744073709551616) c.natAbs (Nat.mod_lt _ (by omega)) (by omega) hlt w
      rw [hN] at this
      exact this)
    by_cases hq : 1152921504606846976 < qN a b c
    · exact (scaled_great a b c _ _ _ _ _ _ _ H1 H2 H3 HM HD (decide_eq_false (by omega)) hq w).mono fun _ _ ⟨p, q⟩ => ⟨_, _, p, q⟩
    · have ho' := ho
      unfold okS at ho'
      have hu := qU_le a b c
      cases hs : sgB a b c
      · by_cases hr : 0 < rN a b c
        · have e1 : dnS a b c = (qN a b c : Int) := dn_f hs
          have e2 : upS a b c = (qN a b c : Int) + 1 := up_f hs hr
          rw [e1, e2] at ho'
          have key := scaled_false_pos a b c _ _ _ _ _ _ _ H1 H2 H3 HM HD (decide_eq_false (by omega)) (by unfold qN at hq; omega) hr (by rw [sg_walk, hs]) w
          unfold qN at ho'
          rw [ho'] at key
          exact key.mono fun _ _ ⟨p, q⟩ => ⟨_, _, p, q⟩
        · have e1 : dnS a b c = (qN a b c : Int) := dn_f hs
          have e2 : upS a b c = (qN a b c : Int) := up_f0 hs hr
          rw [e1, e2] at ho'
          have key := scaled_false_zero a b c _ _ _ _ _ _ _ H1 H2 H3 HM HD (decide_eq_false (by omega)) (by unfold qN at hq; omega) hr (by rw [sg_walk, hs]) w
          unfold qN at ho'
          rw [ho'] at key
          exact key.mono fun _ _ ⟨p, q⟩ => ⟨_, _, p, q⟩
      · by_cases hr : 0 < rN a b c
        · have e1 : dnS a b c = -((qN a b c : Int) + 1) := dn_t hs hr
          have e2 : upS a b c = -(qN a b c : Int) := up_t hs
          rw [e1, e2] at ho'
          have key := scaled_true_pos a b c _ _ _ _ _ _ _ H1 H2 H3 HM HD (decide_eq_false (by omega)) (by unfold qN at hq; omega) hr (by rw [sg_walk, hs]) w
          unfold qN at ho'
          rw [ho'] at key
          exact key.mono fun _ _ ⟨p, q⟩ => ⟨_, _, p, q⟩
        · have e1 : dnS a b c = -(qN a b c : Int) := dn_t0 hs hr
          have e2 : upS a b c = -(qN a b c : Int) := up_t hs
          rw [e1, e2] at ho'
          have key := scaled_true_zero a b c _ _ _ _ _ _ _ H1 H2 H3 HM HD (decide_eq_false (by omega)) (by unfold qN at hq; omega) hr (by rw [sg_walk, hs]) w
          unfold qN at ho'
          rw [ho'] at key
          exact key.mono fun _ _ ⟨p, q⟩ => ⟨_, _, p, q⟩
  · exact (scaled_far a b c _ _ _ _ _ 0 0 H1 H2 H3 HM (by omega) w).mono fun _ _ ⟨p, q⟩ => ⟨_, _, p, q⟩
end

#print axioms scaled_no

end Go.Proofs.Ytgipfmleefojbaa
