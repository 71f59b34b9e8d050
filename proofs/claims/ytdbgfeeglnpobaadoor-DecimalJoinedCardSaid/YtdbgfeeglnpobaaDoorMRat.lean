/- Plain: fractions in lowest terms. No program in sight. -/
import Derived.Lib.Mul64
set_option linter.unusedVariables false
namespace Go.Proofs.YtdbgfeeglnpobaaDoor

/-- A fraction with a sign, if it fits; else the error 5. -/
def sgnS (neg : Bool) (n d : Nat) : Int × Int × Int := if n ≤ 1152921504606846976 ∧ d ≤ 1152921504606846976 then ((if neg then -(n : Int) else (n : Int)), (d : Int), 0) else (0, 0, 5)
/-- The fraction with the value n / d, in lowest terms, if it fits. -/
def redS (neg : Bool) (n d : Nat) : Int × Int × Int := sgnS neg (n / Nat.gcd n d) (d / Nat.gcd n d)
theorem sgnS_zero (b : Bool) (d : Nat) : sgnS b 0 d = sgnS false 0 d := by cases b <;> simp [sgnS]

theorem red_of {N D G n d : Nat} (hn : N * G = n) (hd : D * G = d) (hc : Nat.gcd N D = 1) (hG : 0 < G) : n / Nat.gcd n d = N ∧ d / Nat.gcd n d = D := by
  subst hn hd
  rw [Nat.gcd_mul_right, hc, Nat.one_mul]
  exact ⟨Nat.mul_div_cancel _ hG, Nat.mul_div_cancel _ hG⟩
theorem mul_red {x p y q : Nat} (hp : 0 < p) (hq : 0 < q) (c1 : Nat.gcd x p = 1) (c2 : Nat.gcd y q = 1) :
    (x * y) / Nat.gcd (x * y) (p * q) = (x / Nat.gcd x q) * (y / Nat.gcd y p) ∧ (p * q) / Nat.gcd (x * y) (p * q) = (p / Nat.gcd y p) * (q / Nat.gcd x q) := by
  have hg : 0 < Nat.gcd x q := Nat.gcd_pos_of_pos_right _ hq
  have hh : 0 < Nat.gcd y p := Nat.gcd_pos_of_pos_right _ hp
  have e1 : x / Nat.gcd x q * Nat.gcd x q = x := Nat.div_mul_cancel (Nat.gcd_dvd_left _ _)
  have e2 : q / Nat.gcd x q * Nat.gcd x q = q := Nat.div_mul_cancel (Nat.gcd_dvd_right _ _)
  have e3 : y / Nat.gcd y p * Nat.gcd y p = y := Nat.div_mul_cancel (Nat.gcd_dvd_left _ _)
  have e4 : p / Nat.gcd y p * Nat.gcd y p = p := Nat.div_mul_cancel (Nat.gcd_dvd_right _ _)
  have k1 : Nat.Coprime (x / Nat.gcd x q) (q / Nat.gcd x q) := Nat.coprime_div_gcd_div_gcd hg
  have k2 : Nat.Coprime (y / Nat.gcd y p) (p / Nat.gcd y p) := Nat.coprime_div_gcd_div_gcd hh
  have k3 : Nat.Coprime (x / Nat.gcd x q) (p / Nat.gcd y p) := Nat.Coprime.coprime_div_left (Nat.Coprime.coprime_div_right c1 (Nat.gcd_dvd_right _ _)) (Nat.gcd_dvd_left _ _)
  have k4 : Nat.Coprime (y / Nat.gcd y p) (q / Nat.gcd x q) := Nat.Coprime.coprime_div_left (Nat.Coprime.coprime_div_right c2 (Nat.gcd_dvd_right _ _)) (Nat.gcd_dvd_left _ _)
  refine red_of (G := Nat.gcd x q * Nat.gcd y p) ?_ ?_ ?_ (Nat.mul_pos hg hh)
  · calc x / Nat.gcd x q * (y / Nat.gcd y p) * (Nat.gcd x q * Nat.gcd y p) = (x / Nat.gcd x q * Nat.gcd x q) * (y / Nat.gcd y p * Nat.gcd y p) := by ac_rfl
      _ = x * y := by rw [e1, e3]
  · calc p / Nat.gcd y p * (q / Nat.gcd x q) * (Nat.gcd x q * Nat.gcd y p) = (p / Nat.gcd y p * Nat.gcd y p) * (q / Nat.gcd x q * Nat.gcd x q) := by ac_rfl
      _ = p * q := by rw [e4, e2]
  · exact Nat.Coprime.mul_left (Nat.Coprime.mul_right k3 k1) (Nat.Coprime.mul_right k2 k4)
/-- What is in lowest terms: cross products tell the value. -/
theorem red_cross (n d : Nat) (hd : 0 < d) : n / Nat.gcd n d * d = n * (d / Nat.gcd n d) ∧ 0 < d / Nat.gcd n d ∧ Nat.gcd (n / Nat.gcd n d) (d / Nat.gcd n d) = 1 := by
  have hg : 0 < Nat.gcd n d := Nat.gcd_pos_of_pos_right _ hd
  have e1 : n / Nat.gcd n d * Nat.gcd n d = n := Nat.div_mul_cancel (Nat.gcd_dvd_left _ _)
  have e2 : d / Nat.gcd n d * Nat.gcd n d = d := Nat.div_mul_cancel (Nat.gcd_dvd_right _ _)
  have k1 : Nat.gcd (n / Nat.gcd n d) (d / Nat.gcd n d) = 1 := Nat.coprime_div_gcd_div_gcd hg
  generalize Nat.gcd n d = g at *
  generalize n / g = N at *
  generalize d / g = D at *
  refine ⟨?_, ?_, k1⟩
  · rw [← e1, ← e2]; ac_rfl
  · rcases Nat.eq_zero_or_pos D with h | h
    · rw [h, Nat.zero_mul] at e2; omega
    · exact h
/-- A fraction in lowest terms is one alone. -/
theorem red_uniq {a b c d : Nat} (hb : 0 < b) (hd : 0 < d) (h1 : Nat.gcd a b = 1) (h2 : Nat.gcd c d = 1) (h : a * d = c * b) : a = c ∧ b = d := by
  have k1 : b ∣ d := Nat.Coprime.dvd_of_dvd_mul_left (Nat.Coprime.symm h1) (by rw [h]; exact Nat.dvd_mul_left _ _)
  have k2 : d ∣ b := Nat.Coprime.dvd_of_dvd_mul_left (Nat.Coprime.symm h2) (by rw [← h]; exact Nat.dvd_mul_left _ _)
  have e : b = d := Nat.dvd_antisymm k1 k2
  subst e
  exact ⟨Nat.eq_of_mul_eq_mul_right hb h, rfl⟩

/-- Division that rounds down, out of Go's. -/
theorem floor_of {n d : Int} (hd : 0 < d) : n / d = if n.tmod d < 0 then n.tdiv d - 1 else n.tdiv d := by
  have h1 := Int.tmod_add_mul_tdiv n d
  rw [Int.mul_comm d] at h1
  have h2 := Int.emod_add_ediv_mul n d
  have h3 := Int.emod_nonneg n (show d ≠ 0 by omega)
  have h4 := Int.emod_lt_of_pos n hd
  have h5 : -d < n.tmod d ∧ n.tmod d < d := by
    have a := Int.tmod_lt_of_pos n hd
    have b := Int.lt_tmod_of_pos n hd
    omega
  have uniq : ∀ q r q' r' : Int, q * d + r = q' * d + r' → 0 ≤ r → r < d → 0 ≤ r' → r' < d → q = q' := by
    intro q r q' r' h a b a' b'
    rcases Int.lt_trichotomy q q' with k | k | k
    · have := Int.mul_le_mul_of_nonneg_right (show q + 1 ≤ q' by omega) (Int.le_of_lt hd)
      rw [Int.add_mul, Int.one_mul] at this
      omega
    · exact k
    · have := Int.mul_le_mul_of_nonneg_right (show q' + 1 ≤ q by omega) (Int.le_of_lt hd)
      rw [Int.add_mul, Int.one_mul] at this
      omega
  split
  · rename_i hn
    refine uniq (n / d) (n % d) (n.tdiv d - 1) (n.tmod d + d) ?_ h3 h4 (by omega) (by omega)
    rw [Int.sub_mul, Int.one_mul]
    omega
  · rename_i hn
    exact uniq (n / d) (n % d) (n.tdiv d) (n.tmod d) (by omega) h3 h4 (by omega) h5.2
end Go.Proofs.YtdbgfeeglnpobaaDoor
