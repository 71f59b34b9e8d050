/- The reference's magnitudes again: each contract says what becomes of one number below 2^128. -/
import Derived.Test.YtpijmjffobkalaaDoorRefU
import Derived.Test.YtpijmjffobkalaaDoorMG
set_option linter.unusedVariables false
namespace Go.Proofs.YtpijmjffobkalaaDoor
open Go.ChangeShapes Go.WideShapes Go.ChangeAt Go.RowKit

/-- A magnitude's value. -/
abbrev uv (A : Nat) : Value := .agg #[.int .u64 (hiN A : Int), .int .u64 (loN A : Int)]

theorem half_core (h l x y z v : Nat) (e1 : (h : Int) / 2 = (x : Int)) (e2 : (l : Int) / 2 = (y : Int)) (e3 : IntKind.u64.wrap ((h : Int) * 9223372036854775808) = (z : Int)) (e4 : IntKind.u64.wrap ((y : Int) + (z : Int)) = (v : Int)) (w : World) :
    Calls Tryd.prog 70 #[.agg #[.int .u64 (h : Int), .int .u64 (l : Int)]] w fun e w' => e = .returned (.agg #[.int .u64 (x : Int), .int .u64 (v : Int)]) ∧ Below w.heap.size w w' := by
  go_enter Tryd.func70, Tryd.ntmps70
  go_wp2
  exact bodyPost_ret (v := .agg #[.int .u64 (x : Int), .int .u64 (v : Int)]) (by simp [results, Tryd.results70, go_sem]) rfl ⟨rfl, by repeat (first | exact Below.refl _ _ | refine below_al ?_ _)⟩
theorem half_u (A : Nat) (hA : A < 340282366920938463463374607431768211456) (w : World) :
    Calls Tryd.prog 70 #[uv A] w fun e w' => e = .returned (uv (A / 2)) ∧ Below w.heap.size w w' := by
  obtain ⟨p1, p2⟩ := half_parts A hA
  have := half_core (hiN A) (loN A) (hiN (A / 2)) (loN A / 2) (hiN A * 9223372036854775808 % 18446744073709551616) (loN (A / 2)) (by omega) (by omega) (by rw [IntKind.wrap_u64]; omega) (by rw [IntKind.wrap_u64]; omega) w
  exact this
theorem less_u (A B : Nat) (w : World) :
    Calls Tryd.prog 55 #[uv A, uv B] w fun e w' => e = .returned (.bool (decide (A < B))) ∧ Below w.heap.size w w' := by
  have := refless_any (hiN A) (loN A) (hiN B) (loN B) w
  rw [show decide ((hiN A : Int) < (hiN B : Int) ∨ (hiN A : Int) = (hiN B : Int) ∧ (loN A : Int) < (loN B : Int)) = decide (A < B) from by
    have a1 := hilo A; have a2 := loN_lt A; have b1 := hilo B; have b2 := loN_lt B
    rw [Bool.eq_iff_iff, decide_eq_true_iff, decide_eq_true_iff]; omega] at this
  exact this
theorem minus_u (A B : Nat) (hA : A < 340282366920938463463374607431768211456) (h : B ≤ A) (w : World) :
    Calls Tryd.prog 56 #[uv A, uv B] w fun e w' => e = .returned (uv (A - B)) ∧ Below w.heap.size w w' := by
  have := refminus_any (hiN A) (loN A) (hiN B) (loN B) w
  have a1 := hilo A; have a2 := loN_lt A; have b1 := hilo B; have b2 := loN_lt B
  have c1 := hilo (A - B); have c2 := loN_lt (A - B); have c3 := hiN_lt (A := A - B) (by omega); have a3 := hiN_lt hA
  have e1 : IntKind.u64.wrap ((hiN A : Int) - hiN B - (if (loN A : Int) < loN B then 1 else 0)) = (hiN (A - B) : Int) := by
    rw [IntKind.wrap_u64]; split <;> omega
  have e2 : IntKind.u64.wrap ((loN A : Int) - loN B) = (loN (A - B) : Int) := by
    rw [IntKind.wrap_u64]; omega
  rw [e1, e2] at this
  exact this
theorem plus_u (A B : Nat) (h : A + B < 340282366920938463463374607431768211456) (w : World) :
    Calls Tryd.prog 54 #[uv A, uv B] w fun e w' => e = .returned (uv (A + B)) ∧ Below w.heap.size w w' := by
  have := refplus_any (hiN A) (loN A) (hiN B) (loN B) w
  have a1 := hilo A; have a2 := loN_lt A; have b1 := hilo B; have b2 := loN_lt B
  have c1 := hilo (A + B); have c2 := loN_lt (A + B); have c3 := hiN_lt (A := A + B) (by omega)
  have e2 : IntKind.u64.wrap ((loN A : Int) + loN B) = (loN (A + B) : Int) := by
    rw [IntKind.wrap_u64]; omega
  have e1 : IntKind.u64.wrap ((hiN A : Int) + hiN B + (if IntKind.u64.wrap ((loN A : Int) + loN B) < loN A then 1 else 0)) = (hiN (A + B) : Int) := by
    rw [e2, IntKind.wrap_u64]; split <;> omega
  rw [e1, e2] at this
  exact this

/-- The number that a block of a magnitude holds. -/
def uAt (w : World) (g : Nat) : Nat :=
  match w.cell? ⟨g, 0, none⟩, w.cell? ⟨g, 1, none⟩ with
  | some (.int _ x), some (.int _ y) => x.toNat * 18446744073709551616 + y.toNat
  | _, _ => 0
theorem At.u {w : World} {g : Nat} {t : TypeId} {A : Nat} (h : At w g t #[.int .u64 (hiN A : Int), .int .u64 (loN A : Int)]) : uAt w g = A := by
  unfold uAt
  rw [h.c0, h.c1]
  have := hilo A
  simp only [Int.toNat_natCast]
  omega
#print axioms half_u
#print axioms minus_u
end Go.Proofs.YtpijmjffobkalaaDoor
