/- Plain: the greatest integer whose square is not greater. -/
set_option linter.unusedVariables false
namespace Go.Proofs.Ytgipfmleefojbaa

def sqrtN : Nat → Nat
  | 0 => 0
  | n + 1 => if (sqrtN n + 1) * (sqrtN n + 1) ≤ n + 1 then sqrtN n + 1 else sqrtN n

theorem sqrtN_spec : ∀ n, sqrtN n * sqrtN n ≤ n ∧ n < (sqrtN n + 1) * (sqrtN n + 1)
  | 0 => by decide
  | n + 1 => by
    obtain ⟨h1, h2⟩ := sqrtN_spec n
    unfold sqrtN
    split
    · rename_i h
      refine ⟨h, ?_⟩
      have e : (sqrtN n + 1 + 1) * (sqrtN n + 1 + 1) = (sqrtN n + 1) * (sqrtN n + 1) + 2 * sqrtN n + 3 := by
        rw [Nat.add_mul, Nat.mul_add (sqrtN n + 1)]; omega
      omega
    · omega

theorem sqrtN_uniq {n r : Nat} (h1 : r * r ≤ n) (h2 : n < (r + 1) * (r + 1)) : sqrtN n = r := by
  obtain ⟨g1, g2⟩ := sqrtN_spec n
  rcases Nat.lt_trichotomy (sqrtN n) r with h | h | h
  · have : (sqrtN n + 1) * (sqrtN n + 1) ≤ r * r := Nat.mul_le_mul h h
    omega
  · exact h
  · have : (r + 1) * (r + 1) ≤ sqrtN n * sqrtN n := Nat.mul_le_mul h h
    omega

theorem sqrtN_le {n b : Nat} (h : n < (b + 1) * (b + 1)) : sqrtN n ≤ b := by
  rcases Nat.lt_or_ge b (sqrtN n) with hb | hb
  · have : (b + 1) * (b + 1) ≤ sqrtN n * sqrtN n := Nat.mul_le_mul hb hb
    have := (sqrtN_spec n).1
    omega
  · exact hb

/-- Rounded up. -/
def sqrtU (n : Nat) : Nat := if sqrtN n * sqrtN n < n then sqrtN n + 1 else sqrtN n
/-- The span of the root of a span from lo to hi. -/
def rootS (lo hi : Int) : Int × Int × Int := if lo < 0 then (0, 0, 2) else ((sqrtN lo.toNat : Int), (sqrtU hi.toNat : Int), 0)
end Go.Proofs.Ytgipfmleefojbaa
