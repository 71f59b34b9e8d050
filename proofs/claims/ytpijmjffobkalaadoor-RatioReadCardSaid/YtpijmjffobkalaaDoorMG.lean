/- Plain: the steps of the binary greatest common divisor. No program in sight. -/
import Derived.Lib.Mul64
set_option linter.unusedVariables false
namespace Go.Proofs.YtpijmjffobkalaaDoor

def hiN (A : Nat) : Nat := A / 18446744073709551616
def loN (A : Nat) : Nat := A % 18446744073709551616
theorem hiN_lt {A : Nat} (h : A < 340282366920938463463374607431768211456) : hiN A < 18446744073709551616 := by unfold hiN; omega
theorem loN_lt (A : Nat) : loN A < 18446744073709551616 := by unfold loN; omega
theorem hilo (A : Nat) : hiN A * 18446744073709551616 + loN A = A := by unfold hiN loN; omega
theorem hilo_of {h l : Nat} (hl : l < 18446744073709551616) : hiN (h * 18446744073709551616 + l) = h ∧ loN (h * 18446744073709551616 + l) = l := by unfold hiN loN; omega
theorem hiN_small {A : Nat} (h : A < 18446744073709551616) : hiN A = 0 ∧ loN A = A := by unfold hiN loN; omega
theorem lo_even (A : Nat) : loN A % 2 = A % 2 := by unfold loN; omega
theorem half_parts (A : Nat) (h : A < 340282366920938463463374607431768211456) : hiN A / 2 = hiN (A / 2) ∧ (loN A / 2 + hiN A * 9223372036854775808 % 18446744073709551616) % 18446744073709551616 = loN (A / 2) := by
  unfold hiN loN; omega

theorem gcd_half_left {A B : Nat} (ha : A % 2 = 0) (hb : B % 2 = 1) : Nat.gcd (A / 2) B = Nat.gcd A B := by
  have h2 : Nat.gcd 2 B = 1 := by rw [Nat.gcd_rec, hb]; rfl
  have hc : Nat.Coprime 2 B := h2
  have e : A = 2 * (A / 2) := by omega
  have k : Nat.gcd (2 * (A / 2)) B = Nat.gcd (A / 2) B := Nat.Coprime.gcd_mul_left_cancel (A / 2) hc
  rw [← e] at k
  exact k.symm
theorem gcd_half_right {A B : Nat} (ha : A % 2 = 1) (hb : B % 2 = 0) : Nat.gcd A (B / 2) = Nat.gcd A B := by
  rw [Nat.gcd_comm, gcd_half_left hb ha, Nat.gcd_comm]
theorem gcd_half_both {A B : Nat} (ha : A % 2 = 0) (hb : B % 2 = 0) : 2 * Nat.gcd (A / 2) (B / 2) = Nat.gcd A B := by
  have e : A = 2 * (A / 2) := by omega
  have f : B = 2 * (B / 2) := by omega
  have k := Nat.gcd_mul_left 2 (A / 2) (B / 2)
  rw [← e, ← f] at k
  exact k.symm
theorem gcd_minus {A B : Nat} (h : B ≤ A) : Nat.gcd (A - B) B = Nat.gcd A B := by
  have := Nat.gcd_sub_self_left h
  exact this

/-- What holds at the head of the loops: G is 2^k times what is left. -/
structure GcH (G A B k : Nat) : Prop where
  g : 2 ^ k * Nat.gcd A B = G
  a : A < 340282366920938463463374607431768211456
  b : B < 340282366920938463463374607431768211456
  b0 : 0 < B
theorem GcH.both {G A B k : Nat} (h : GcH G A B k) (ha : A % 2 = 0) (hb : B % 2 = 0) : GcH G (A / 2) (B / 2) (k + 1) :=
  ⟨by rw [← h.g, ← gcd_half_both ha hb, Nat.pow_succ, Nat.mul_assoc], by have := h.a; omega, by have := h.b; omega, by have := h.b0; omega⟩
theorem GcH.left {G A B k : Nat} (h : GcH G A B k) (ha : A % 2 = 0) (hb : B % 2 = 1) : GcH G (A / 2) B k :=
  ⟨by rw [← h.g, gcd_half_left ha hb], by have := h.a; omega, h.b, h.b0⟩
theorem GcH.right {G A B k : Nat} (h : GcH G A B k) (ha : A % 2 = 1) (hb : B % 2 = 0) : GcH G A (B / 2) k :=
  ⟨by rw [← h.g, gcd_half_right ha hb], h.a, by have := h.b; omega, by have := h.b0; omega⟩
theorem GcH.swap {G A B k : Nat} (h : GcH G A B k) (ha : 0 < A) : GcH G B A k :=
  ⟨by rw [← h.g, Nat.gcd_comm], h.b, h.a, ha⟩
theorem GcH.minus {G A B k : Nat} (h : GcH G A B k) (hle : B ≤ A) : GcH G (A - B) B k :=
  ⟨by rw [← h.g, gcd_minus hle], by have := h.a; omega, h.b, h.b0⟩
theorem GcH.fin {G B k : Nat} (h : GcH G 0 B k) : 2 ^ k * B = G := by
  have := h.g
  rwa [Nat.gcd_zero_left] at this
/-- The shift counts are small: 2^k is at most G. -/
theorem two_le {G A B k : Nat} (h : GcH G A B k) (hG : G < 340282366920938463463374607431768211456) : k < 128 := by
  rcases Nat.lt_or_ge k 128 with hk | hk
  · exact hk
  · have h1 : 2 ^ 128 ≤ 2 ^ k := Nat.pow_le_pow_right (by omega) hk
    have h2 : 0 < Nat.gcd A B := Nat.gcd_pos_of_pos_right _ h.b0
    have h3 : 2 ^ k * 1 ≤ 2 ^ k * Nat.gcd A B := Nat.mul_le_mul_left _ h2
    have h4 := h.g
    have h5 : (2 : Nat) ^ 128 = 340282366920938463463374607431768211456 := by decide
    omega
theorem dbl_back {G B k : Nat} (h : 2 ^ (k + 1) * B = G) : 2 ^ k * (B + B) = G := by
  rw [← h, Nat.pow_succ, Nat.mul_assoc, Nat.two_mul]
theorem dbl_fits {G B k : Nat} (h : 2 ^ (k + 1) * B = G) (hG : G < 340282366920938463463374607431768211456) : B + B < 340282366920938463463374607431768211456 := by
  have h1 := dbl_back h
  have h2 : 1 * (B + B) ≤ 2 ^ k * (B + B) := Nat.mul_le_mul_right _ (Nat.one_le_two_pow)
  omega
end Go.Proofs.YtpijmjffobkalaaDoor
