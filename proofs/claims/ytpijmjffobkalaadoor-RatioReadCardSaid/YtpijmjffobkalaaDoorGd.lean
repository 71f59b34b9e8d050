/- The reference's product and quotient of magnitudes, one number below 2^128 each. -/
import Derived.Test.YtpijmjffobkalaaDoorGc
import Derived.Test.YtpijmjffobkalaaDoorRefDiv
set_option linter.unusedVariables false
namespace Go.Proofs.YtpijmjffobkalaaDoor
open Go.ChangeShapes Go.WideShapes Go.ChangeAt Go.RowKit

theorem mul_u (x y : Nat) (hx : x < 18446744073709551616) (hy : y < 18446744073709551616) (w : World) :
    Calls Tryd.prog 53 #[.int .u64 (x : Int), .int .u64 (y : Int)] w fun e w' => e = .returned (uv (x * y)) ∧ Below w.heap.size w w' :=
  refmul_any x y hx hy w
theorem div_u (A B : Nat) (hA : A < 340282366920938463463374607431768211456) (hB : B < 340282366920938463463374607431768211456) (h0 : 0 < B) (w : World) :
    Calls Tryd.prog 69 #[uv A, uv B] w fun e w' => e = .returned (.tuple #[uv (A / B), uv (A % B)]) ∧ Below w.heap.size w w' := by
  have a1 := hilo A; have a2 := loN_lt A; have a3 := hiN_lt hA; have b1 := hilo B; have b2 := loN_lt B; have b3 := hiN_lt hB
  have q1 := hilo (A / B); have q2 := loN_lt (A / B); have r1 := hilo (A % B); have r2 := loN_lt (A % B)
  by_cases hh : hiN A = 0 ∧ hiN B = 0
  · obtain ⟨hh1, hh2⟩ := hh
    have eA : loN A = A := by omega
    have eB : loN B = B := by omega
    have hq : A / B ≤ A := Nat.div_le_self _ _
    have hr : A % B < B := Nat.mod_lt _ h0
    have e1 := hiN_small (A := A / B) (by omega)
    have e2 := hiN_small (A := A % B) (by omega)
    have := refdiv_fast A B (A / B) (A % B) (by omega) h0 (by omega) (by rw [← Int.natCast_ediv]; exact IntWalk.u64_in _ ⟨Int.natCast_nonneg _, by omega⟩) (Int.natCast_emod A B).symm w
    simp only [uv, hh1, hh2, eA, eB, e1.1, e1.2, e2.1, e2.2]
    exact this
  · have := refdiv_slow A B (hiN A) (loN A) (hiN B) (loN B) (hiN (A / B)) (loN (A / B)) (hiN (A % B)) (loN (A % B)) a2 a3 b2 b3 a1.symm b1.symm h0 q1 q2 r1 r2 (by
      rcases Nat.eq_zero_or_pos (hiN A) with h | h
      · right
        simp only [beq_iff_eq, beq_eq_false_iff_ne]
        omega
      · left
        simp only [beq_eq_false_iff_ne]
        omega) w
    exact this
#print axioms div_u
end Go.Proofs.YtpijmjffobkalaaDoor
