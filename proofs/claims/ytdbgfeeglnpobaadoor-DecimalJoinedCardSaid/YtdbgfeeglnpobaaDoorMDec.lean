/- Plain: rounding to a multiple. No program in sight. -/
import Derived.Test.YtdbgfeeglnpobaaDoorMRat
set_option linter.unusedVariables false
namespace Go.Proofs.YtdbgfeeglnpobaaDoor

/-- The nearest multiple's number; a half goes up. -/
def rndS (n u : Int) : Int := (2 * n + u) / (2 * u)
theorem ediv_is {n d q r : Int} (hd : 0 < d) (e : n = q * d + r) (h0 : 0 ≤ r) (h1 : r < d) : n / d = q := by
  have h2 := Int.emod_add_ediv_mul n d
  have h3 := Int.emod_nonneg n (show d ≠ 0 by omega)
  have h4 := Int.emod_lt_of_pos n hd
  generalize n / d = a at *
  generalize n % d = b at *
  rcases Int.lt_trichotomy a q with k | k | k
  · have := Int.mul_le_mul_of_nonneg_right (show a + 1 ≤ q by omega) (Int.le_of_lt hd)
    rw [Int.add_mul, Int.one_mul] at this
    omega
  · exact k
  · have := Int.mul_le_mul_of_nonneg_right (show q + 1 ≤ a by omega) (Int.le_of_lt hd)
    rw [Int.add_mul, Int.one_mul] at this
    omega
theorem rnd_spec (n : Int) {u : Int} (hu : 1 ≤ u) : rndS n u * (2 * u) ≤ 2 * n + u ∧ 2 * n + u < rndS n u * (2 * u) + 2 * u := by
  unfold rndS
  have h2 := Int.emod_add_ediv_mul (2 * n + u) (2 * u)
  have h3 := Int.emod_nonneg (2 * n + u) (show 2 * u ≠ 0 by omega)
  have h4 := Int.emod_lt_of_pos (2 * n + u) (show 0 < 2 * u by omega)
  omega
theorem rnd_is {n u x : Int} (hu : 1 ≤ u) (h1 : x * (2 * u) ≤ 2 * n + u) (h2 : 2 * n + u < x * (2 * u) + 2 * u) : rndS n u = x :=
  ediv_is (r := 2 * n + u - x * (2 * u)) (by omega) (by omega) (by omega) (by omega)
/-- Rounding out of Go's quotient and remainder. -/
theorem rnd_of {n u : Int} (hu : 1 ≤ u) :
    rndS n u = if n.tmod u < 0 then (if u ≤ 2 * (n.tmod u + u) then n.tdiv u - 1 + 1 else n.tdiv u - 1) else (if u ≤ 2 * n.tmod u then n.tdiv u + 1 else n.tdiv u) := by
  have h1 := Int.tmod_add_mul_tdiv n u
  rw [Int.mul_comm u] at h1
  have h5 : -u < n.tmod u ∧ n.tmod u < u := by
    have a := Int.tmod_lt_of_pos n (show 0 < u by omega)
    have b := Int.lt_tmod_of_pos n (show 0 < u by omega)
    omega
  generalize n.tdiv u = q at *
  generalize n.tmod u = r at *
  have m1 : ∀ k : Int, (q + k) * (2 * u) = 2 * (q * u) + 2 * (k * u) := fun k => by
    rw [Int.add_mul, Int.mul_left_comm q 2 u, Int.mul_left_comm k 2 u]
  have e0 := m1 0
  have e1 := m1 1
  have e2 := m1 (-1)
  rw [Int.add_zero, Int.zero_mul] at e0
  rw [Int.one_mul] at e1
  rw [Int.neg_mul, Int.one_mul] at e2
  split
  · split
    · rw [show q - 1 + 1 = q from by omega]
      exact rnd_is hu (by omega) (by omega)
    · rw [show q - 1 = q + -1 from by omega]
      exact rnd_is hu (by omega) (by omega)
  · split
    · exact rnd_is hu (by omega) (by omega)
    · exact rnd_is hu (by omega) (by omega)
theorem rnd_mono {n m u : Int} (hu : 1 ≤ u) (h : n ≤ m) : rndS n u ≤ rndS m u := by
  unfold rndS
  exact Int.ediv_le_ediv (by omega) (by omega)
theorem rnd_mult {x u : Int} (hu : 1 ≤ u) : rndS (x * u) u = x := by
  have e : x * (2 * u) = 2 * (x * u) := by rw [Int.mul_left_comm]
  exact rnd_is hu (by omega) (by omega)
theorem rnd_further {n u : Int} (hu : 1 ≤ u) : rndS (n + u) u = rndS n u + 1 := by
  have := rnd_spec n hu
  exact rnd_is hu (by rw [Int.add_mul, Int.one_mul]; omega) (by rw [Int.add_mul, Int.one_mul]; omega)
theorem rnd_near {n u : Int} (hu : 1 ≤ u) : -u ≤ 2 * (n - rndS n u * u) ∧ 2 * (n - rndS n u * u) < u := by
  have h := rnd_spec n hu
  have e : rndS n u * (2 * u) = 2 * (rndS n u * u) := by rw [Int.mul_left_comm]
  omega
/-- A rounded number is no larger than the number by more than half a unit. -/
theorem rnd_bound {n u : Int} (hu : 1 ≤ u) : rndS n u ≤ n.natAbs + 1 ∧ -(n.natAbs : Int) - 1 ≤ rndS n u := by
  have h := rnd_spec n hu
  generalize rndS n u = x at *
  have p1 : ∀ y : Int, 0 ≤ y → y * (2 * u) ≥ 2 * y := fun y hy => by
    have := Int.mul_le_mul_of_nonneg_left (show 2 ≤ 2 * u by omega) hy
    omega
  have big : ∀ y : Int, 0 ≤ y → (y - 1) * (2 * u) + u ≤ 2 * (n.natAbs : Int) → y ≤ n.natAbs + 1 := fun y hy hh => by
    by_cases c : 1 ≤ y
    · have := p1 (y - 1) (by omega)
      omega
    · omega
  refine ⟨?_, ?_⟩
  · by_cases c : 0 ≤ x
    · refine big x c ?_
      rw [Int.sub_mul, Int.one_mul]
      omega
    · omega
  · by_cases c : 0 ≤ x
    · omega
    · have e : (-x - 1) * (2 * u) = -(x * (2 * u)) - 2 * u := by rw [Int.sub_mul, Int.one_mul, Int.neg_mul]
      have := big (-x) (by omega) (by omega)
      omega
end Go.Proofs.YtdbgfeeglnpobaaDoor
