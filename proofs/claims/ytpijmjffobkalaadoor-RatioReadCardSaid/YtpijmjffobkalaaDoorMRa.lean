/- Plain: sums of fractions in lowest terms. No program in sight. -/
import Derived.Test.YtpijmjffobkalaaDoorMRat
set_option linter.unusedVariables false
namespace Go.Proofs.YtpijmjffobkalaaDoor

/-- The fraction with the value s / d, in lowest terms, if it fits. -/
def redI (s : Int) (d : Nat) : Int × Int × Int := redS (decide (s < 0)) s.natAbs d

theorem redS_zero (b : Bool) (d : Nat) : redS b 0 d = redS false 0 d := by
  unfold redS
  rw [Nat.zero_div]
  exact sgnS_zero b _
/-- Signs and sizes of a product. -/
theorem redS_mul (a b : Int) (d : Nat) : redS (decide (a < 0) != decide (b < 0)) (a.natAbs * b.natAbs) d = redI (a * b) d := by
  unfold redI
  rw [Int.natAbs_mul]
  by_cases h0 : a * b = 0
  · have e : a.natAbs * b.natAbs = 0 := by rw [← Int.natAbs_mul, h0]; rfl
    rw [e, redS_zero, redS_zero (decide (a * b < 0))]
  · congr 1
    have ha : a ≠ 0 := by rintro rfl; simp at h0
    have hb : b ≠ 0 := by rintro rfl; simp at h0
    rcases Int.lt_or_gt_of_ne ha with h1 | h1 <;> rcases Int.lt_or_gt_of_ne hb with h2 | h2
    · have := Int.mul_pos_of_neg_of_neg h1 h2
      simp [h1, h2]; omega
    · have := Int.mul_neg_of_neg_of_pos h1 h2
      have h2' : ¬ b < 0 := by omega
      simp [h1, h2', this]
    · have := Int.mul_neg_of_pos_of_neg h1 h2
      have h1' : ¬ a < 0 := by omega
      simp [h1', h2, this]
    · have := Int.mul_pos h1 h2
      have h1' : ¬ a < 0 := by omega
      have h2' : ¬ b < 0 := by omega
      simp [h1', h2']; omega

theorem dvd_of_mix {d X Y N : Nat} (h : N = X + Y ∨ X < Y ∧ N = Y - X ∨ ¬ X < Y ∧ N = X - Y) (h1 : d ∣ N) (h2 : d ∣ Y) : d ∣ X := by
  rcases h with h | ⟨k, h⟩ | ⟨k, h⟩
  · rw [h] at h1; exact (Nat.dvd_add_iff_left h2).2 h1
  · have e : X = Y - N := by omega
    rw [e]; exact Nat.dvd_sub h2 h1
  · have e : X = N + Y := by omega
    rw [e]; exact Nat.dvd_add h1 h2
theorem cop_mix {X Y N P : Nat} (h : N = X + Y ∨ X < Y ∧ N = Y - X ∨ ¬ X < Y ∧ N = X - Y) (hP : P ∣ Y) (hc : Nat.Coprime X P) : Nat.Coprime N P := by
  have h1 := dvd_of_mix h (Nat.gcd_dvd_left N P) (Nat.dvd_trans (Nat.gcd_dvd_right N P) hP)
  have h2 : Nat.gcd N P ∣ Nat.gcd X P := Nat.dvd_gcd h1 (Nat.gcd_dvd_right N P)
  rw [show Nat.gcd X P = 1 from hc] at h2
  exact Nat.dvd_one.1 h2
theorem mix_symm {X Y N : Nat} (h : N = X + Y ∨ X < Y ∧ N = Y - X ∨ ¬ X < Y ∧ N = X - Y) : N = Y + X ∨ Y < X ∧ N = X - Y ∨ ¬ Y < X ∧ N = Y - X := by omega

/-- The sum of two fractions in lowest terms, as the program reduces it. -/
theorem add_red {x p y q N : Nat} (hp : 0 < p) (hq : 0 < q) (c1 : Nat.gcd x p = 1) (c2 : Nat.gcd y q = 1) (hN0 : 0 < N)
    (h : N = x * (q / Nat.gcd p q) + y * (p / Nat.gcd p q) ∨ x * (q / Nat.gcd p q) < y * (p / Nat.gcd p q) ∧ N = y * (p / Nat.gcd p q) - x * (q / Nat.gcd p q) ∨
      ¬ x * (q / Nat.gcd p q) < y * (p / Nat.gcd p q) ∧ N = x * (q / Nat.gcd p q) - y * (p / Nat.gcd p q)) :
    (Nat.gcd p q * N) / Nat.gcd (Nat.gcd p q * N) (p * q) = N / Nat.gcd (Nat.gcd p q) (N % Nat.gcd p q) ∧
    (p * q) / Nat.gcd (Nat.gcd p q * N) (p * q) = (p / Nat.gcd p q) * (q / Nat.gcd (Nat.gcd p q) (N % Nat.gcd p q)) := by
  have hg : 0 < Nat.gcd p q := Nat.gcd_pos_of_pos_right _ hq
  have eC : Nat.gcd (Nat.gcd p q) (N % Nat.gcd p q) = Nat.gcd N (Nat.gcd p q) := by
    rw [Nat.gcd_comm, ← Nat.gcd_rec, Nat.gcd_comm]
  rw [eC]
  have d1 : Nat.gcd p q ∣ p := Nat.gcd_dvd_left _ _
  have d2 : Nat.gcd p q ∣ q := Nat.gcd_dvd_right _ _
  have k1 : Nat.Coprime (p / Nat.gcd p q) (q / Nat.gcd p q) := Nat.coprime_div_gcd_div_gcd hg
  have e1 : p / Nat.gcd p q * Nat.gcd p q = p := Nat.div_mul_cancel d1
  have e2 : q / Nat.gcd p q * Nat.gcd p q = q := Nat.div_mul_cancel d2
  have cx : Nat.Coprime x (p / Nat.gcd p q) := Nat.Coprime.coprime_div_right c1 d1
  have cy : Nat.Coprime y (q / Nat.gcd p q) := Nat.Coprime.coprime_div_right c2 d2
  generalize hgg : Nat.gcd p q = g at *
  generalize p / g = P at *
  generalize q / g = Q at *
  have m1 : Nat.Coprime N P := cop_mix h (Nat.dvd_mul_left _ _) (Nat.Coprime.mul_left cx k1.symm)
  have m2 : Nat.Coprime N Q := cop_mix (mix_symm h) (Nat.dvd_mul_left _ _) (Nat.Coprime.mul_left cy k1)
  have hC : 0 < Nat.gcd N g := Nat.gcd_pos_of_pos_right _ hg
  have dC1 : Nat.gcd N g ∣ N := Nat.gcd_dvd_left _ _
  have dC2 : Nat.gcd N g ∣ g := Nat.gcd_dvd_right _ _
  have k2 : Nat.Coprime (N / Nat.gcd N g) (g / Nat.gcd N g) := Nat.coprime_div_gcd_div_gcd hC
  have eN : N / Nat.gcd N g * Nat.gcd N g = N := Nat.div_mul_cancel dC1
  have eG : g / Nat.gcd N g * Nat.gcd N g = g := Nat.div_mul_cancel dC2
  have eQ : q / Nat.gcd N g = Q * (g / Nat.gcd N g) := by
    rw [← e2]
    exact Nat.mul_div_assoc _ dC2
  have m3 : Nat.Coprime (N / Nat.gcd N g) P := Nat.Coprime.coprime_div_left m1 dC1
  have m4 : Nat.Coprime (N / Nat.gcd N g) Q := Nat.Coprime.coprime_div_left m2 dC1
  refine red_of (G := Nat.gcd N g * g) ?_ ?_ ?_ (Nat.mul_pos hC hg)
  · rw [← Nat.mul_assoc, eN, Nat.mul_comm]
  · rw [eQ]
    calc P * (Q * (g / Nat.gcd N g)) * (Nat.gcd N g * g) = (P * g) * (Q * (g / Nat.gcd N g * Nat.gcd N g)) := by ac_rfl
      _ = p * q := by rw [eG, e1, e2]
  · rw [eQ]
    exact Nat.Coprime.mul_right m3 (Nat.Coprime.mul_right m4 k2)

/-! ### what a fraction in lowest terms says of its value -/
/-- A fraction that fits, in lowest terms. -/
def Frc (p q : Int) : Prop := 1 ≤ q ∧ q ≤ 1152921504606846976 ∧ -1152921504606846976 ≤ p ∧ p ≤ 1152921504606846976 ∧ Nat.gcd p.natAbs q.natAbs = 1
theorem redI_or (s : Int) (d : Nat) (hd : 0 < d) : (∃ p q : Int, redI s d = (p, q, 0) ∧ Frc p q ∧ p * d = s * q) ∨ redI s d = (0, 0, 5) ∧ ∀ p q : Int, Frc p q → p * d ≠ s * q := by
  obtain ⟨k1, k2, k3⟩ := red_cross s.natAbs d hd
  unfold redI redS sgnS
  generalize hN : s.natAbs / Nat.gcd s.natAbs d = N at *
  generalize hD : d / Nat.gcd s.natAbs d = D at *
  have hz : (N : Int) * (d : Int) = (s.natAbs : Int) * (D : Int) := by
    rw [← Int.natCast_mul, ← Int.natCast_mul, k1]
  split
  · rename_i hc
    left
    refine ⟨_, _, rfl, ⟨by omega, by omega, by split <;> omega, by split <;> omega, ?_⟩, ?_⟩
    · have : (if decide (s < 0) = true then -(N : Int) else (N : Int)).natAbs = N := by split <;> omega
      rw [this, Int.natAbs_natCast]
      exact k3
    · by_cases hn : s < 0
      · rw [if_pos (by simpa using hn), Int.neg_mul, hz, show (s.natAbs : Int) = -s from by omega, Int.neg_mul, Int.neg_neg]
      · rw [if_neg (by simpa using hn), hz, show (s.natAbs : Int) = s from by omega]
  · rename_i hc
    right
    refine ⟨rfl, fun p q hf he => hc ?_⟩
    obtain ⟨f1, f2, f3, f4, f5⟩ := hf
    have e1 : p.natAbs * d = s.natAbs * q.natAbs := by
      have := congrArg Int.natAbs he
      rw [Int.natAbs_mul, Int.natAbs_mul, Int.natAbs_natCast] at this
      exact this
    have e2 : N * q.natAbs = p.natAbs * D := by
      have h1 : N * q.natAbs * d = p.natAbs * D * d := by
        calc N * q.natAbs * d = (N * d) * q.natAbs := by ac_rfl
          _ = s.natAbs * D * q.natAbs := by rw [k1]
          _ = (s.natAbs * q.natAbs) * D := by ac_rfl
          _ = p.natAbs * d * D := by rw [e1]
          _ = p.natAbs * D * d := by ac_rfl
      exact Nat.eq_of_mul_eq_mul_right hd h1
    obtain ⟨r1, r2⟩ := red_uniq k2 (by omega) k3 f5 e2
    omega
/-- Fractions in lowest terms with one value are one. -/
theorem frc_uniq {p q p' q' : Int} (h : Frc p q) (h' : Frc p' q') (e : p * q' = p' * q) : p = p' ∧ q = q' := by
  obtain ⟨f1, f2, f3, f4, f5⟩ := h
  obtain ⟨g1, g2, g3, g4, g5⟩ := h'
  have e1 : p.natAbs * q'.natAbs = p'.natAbs * q.natAbs := by
    have := congrArg Int.natAbs e
    rwa [Int.natAbs_mul, Int.natAbs_mul] at this
  obtain ⟨r1, r2⟩ := red_uniq (by omega) (by omega) f5 g5 e1
  have hq : q = q' := by omega
  refine ⟨?_, hq⟩
  rw [hq] at e
  exact Int.eq_of_mul_eq_mul_right (by omega) e
/-- The result hangs on the value alone. -/
theorem redI_val {s s' : Int} {d d' : Nat} (hd : 0 < d) (hd' : 0 < d') (e : s * d' = s' * d) : redI s d = redI s' d' := by
  rcases redI_or s d hd with ⟨p, q, h1, h2, h3⟩ | ⟨h1, h2⟩
  · rcases redI_or s' d' hd' with ⟨p', q', k1, k2, k3⟩ | ⟨k1, k2⟩
    · have : p * q' = p' * q := by
        have dd : (0 : Int) < (d : Int) * (d' : Int) := Int.mul_pos (by omega) (by omega)
        apply Int.eq_of_mul_eq_mul_right (show (d : Int) * (d' : Int) ≠ 0 by omega)
        calc p * q' * ((d : Int) * d') = (p * d) * (q' * d') := by ac_rfl
          _ = s * q * (q' * d') := by rw [h3]
          _ = (s * d') * (q * q') := by ac_rfl
          _ = s' * d * (q * q') := by rw [e]
          _ = (s' * q') * (q * d) := by ac_rfl
          _ = p' * d' * (q * d) := by rw [k3]
          _ = p' * q * (d * d') := by ac_rfl
      obtain ⟨r1, r2⟩ := frc_uniq h2 k2 this
      rw [h1, k1, r1, r2]
    · exfalso
      refine k2 p q h2 ?_
      apply Int.eq_of_mul_eq_mul_right (show (d : Int) ≠ 0 by omega)
      calc p * d' * d = (p * d) * d' := by ac_rfl
        _ = s * q * d' := by rw [h3]
        _ = (s * d') * q := by ac_rfl
        _ = s' * d * q := by rw [e]
        _ = s' * q * d := by ac_rfl
  · rcases redI_or s' d' hd' with ⟨p', q', k1, k2, k3⟩ | ⟨k1, k2⟩
    · exfalso
      refine h2 p' q' k2 ?_
      apply Int.eq_of_mul_eq_mul_right (show (d' : Int) ≠ 0 by omega)
      calc p' * d * d' = (p' * d') * d := by ac_rfl
        _ = s' * q' * d := by rw [k3]
        _ = (s' * d) * q' := by ac_rfl
        _ = s * d' * q' := by rw [e]
        _ = s * q' * d' := by ac_rfl
    · rw [h1, k1]
theorem redI_frc {p q : Int} (h : Frc p q) : redI p q.natAbs = (p, q, 0) := by
  rcases redI_or p q.natAbs (by have := h.1; omega) with ⟨p', q', h1, h2, h3⟩ | ⟨_, h2⟩
  · rw [show (q.natAbs : Int) = q from by have := h.1; omega] at h3
    obtain ⟨r1, r2⟩ := frc_uniq h2 h h3
    rw [h1, r1, r2]
  · exact absurd (by rw [show (q.natAbs : Int) = q from by have := h.1; omega]) (h2 p q h)
end Go.Proofs.YtpijmjffobkalaaDoor
