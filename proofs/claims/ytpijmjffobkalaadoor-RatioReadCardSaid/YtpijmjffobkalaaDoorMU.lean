/- Plain arithmetic under the reference's magnitudes of two halves. No program in sight. -/
import Derived.Lib.Mul64
set_option linter.unusedVariables false
namespace Go.Proofs.YtpijmjffobkalaaDoor

/-- The school method: the low half. -/
theorem mul_lo (x y : Nat) :
    x * y % 18446744073709551616 = ((x % 4294967296) * (y / 4294967296) + ((x / 4294967296) * (y % 4294967296) + (x % 4294967296) * (y % 4294967296) / 4294967296) % 4294967296) % 4294967296 * 4294967296 + (x % 4294967296) * (y % 4294967296) % 4294967296 := by
  have e : x * y = (x / 4294967296) * (y / 4294967296) * (4294967296 * 4294967296) + ((x / 4294967296) * (y % 4294967296) + (x % 4294967296) * (y / 4294967296)) * 4294967296 + (x % 4294967296) * (y % 4294967296) := by
    rw [← Lib.split_mul, Nat.div_add_mod' x 4294967296, Nat.div_add_mod' y 4294967296]
  rw [e]
  generalize (x / 4294967296) * (y / 4294967296) = a
  generalize (x / 4294967296) * (y % 4294967296) = b
  generalize (x % 4294967296) * (y / 4294967296) = c
  generalize (x % 4294967296) * (y % 4294967296) = d
  omega

/-! ### long division, bit by bit: 'r', 'q' and what is left of 'a' after k steps -/
structure LdInv (A b k a q r : Nat) : Prop where
  eq : A * 2 ^ k = (q * b + r) * 340282366920938463463374607431768211456 + a
  hr : r < b
  ha : a < 340282366920938463463374607431768211456
  hq : q < 2 ^ k

theorem ld_zero (A b : Nat) (hb : 0 < b) (hA : A < 340282366920938463463374607431768211456) : LdInv A b 0 A 0 0 :=
  ⟨by simp, hb, hA, by simp⟩

theorem ld_step {A b k a q r : Nat} (h : LdInv A b k a q r) :
    (b ≤ 2 * r + a / 170141183460469231731687303715884105728 → LdInv A b (k + 1) (2 * a % 340282366920938463463374607431768211456) (2 * q + 1) (2 * r + a / 170141183460469231731687303715884105728 - b)) ∧
    (2 * r + a / 170141183460469231731687303715884105728 < b → LdInv A b (k + 1) (2 * a % 340282366920938463463374607431768211456) (2 * q) (2 * r + a / 170141183460469231731687303715884105728)) := by
  obtain ⟨e, hr, ha, hq⟩ := h
  have e2 : A * 2 ^ (k + 1) = 2 * (A * 2 ^ k) := by rw [Nat.pow_succ, ← Nat.mul_assoc, Nat.mul_comm]
  have e3 : 2 ^ (k + 1) = 2 * 2 ^ k := by rw [Nat.pow_succ, Nat.mul_comm]
  refine ⟨fun hc => ⟨?_, by omega, by omega, by omega⟩, fun hc => ⟨?_, by omega, by omega, by omega⟩⟩
  · rw [e2, e, Nat.add_mul (2 * q) 1 b, Nat.mul_assoc 2 q b]
    generalize q * b = m
    omega
  · rw [e2, e, Nat.mul_assoc 2 q b]
    generalize q * b = m
    omega

theorem ld_done {A b a q r : Nat} (h : LdInv A b 128 a q r) : q = A / b ∧ r = A % b := by
  obtain ⟨e, hr, ha, hq⟩ := h
  have hb : 0 < b := by omega
  have e2 : A = q * b + r := by
    generalize q * b + r = m at *
    omega
  subst e2
  constructor
  · rw [Nat.add_comm, Nat.add_mul_div_right _ _ hb, Nat.div_eq_of_lt hr, Nat.zero_add]
  · rw [Nat.add_comm, Nat.add_mul_mod_self_right, Nat.mod_eq_of_lt hr]
end Go.Proofs.YtpijmjffobkalaaDoor
