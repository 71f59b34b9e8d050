/- Contracts of the reference's magnitudes: Size, Mul, Plus, Less, Minus. -/
import Derived.Test.YtpijmjffobkalaaDoorBase
import Derived.Test.YtpijmjffobkalaaDoorMU
import Derived.Shelf.Bits.Mul64
set_option linter.unusedVariables false
namespace Go.Proofs.YtpijmjffobkalaaDoor
open Go.ChangeShapes Go.WideShapes Go.ChangeAt Go.RowKit

theorem refsize_pos (m : Nat) (hm : m ≤ 9223372036854775807) (w : World) :
    Calls Tryd.prog 49 #[.int .i64 (m : Int)] w fun e w' => e = .returned (.int .u64 (m : Int)) ∧ w = w' := by
  go_enter Tryd.func49, Tryd.ntmps49
  go_wp2
  go_ret
  exact ⟨rfl, rfl⟩

theorem refsize_neg (m : Nat) (h0 : 0 < m) (hm : m ≤ 9223372036854775808) (w : World) :
    Calls Tryd.prog 49 #[.int .i64 (-(m : Int))] w fun e w' => e = .returned (.int .u64 (m : Int)) ∧ w = w' := by
  have e1 : IntKind.u64.wrap (-IntKind.u64.wrap (-(m : Int))) = (m : Int) := by rw [IntKind.wrap_u64, IntKind.wrap_u64]; omega
  go_enter Tryd.func49, Tryd.ntmps49
  go_wp2
  go_ret
  exact ⟨rfl, rfl⟩

theorem refless_any (ah al bh bl : Int) (w : World) :
    Calls Tryd.prog 55 #[.agg #[.int .u64 ah, .int .u64 al], .agg #[.int .u64 bh, .int .u64 bl]] w fun e w' => e = .returned (.bool (decide (ah < bh ∨ ah = bh ∧ al < bl))) ∧ Below w.heap.size w w' := by
  by_cases h1 : ah < bh
  · rw [show decide (ah < bh ∨ ah = bh ∧ al < bl) = true from decide_eq_true (.inl h1)]
    go_enter Tryd.func55, Tryd.ntmps55
    go_wp2
    go_ret
    exact ⟨rfl, by repeat (first | exact Below.refl _ _ | refine below_al ?_ _)⟩
  · by_cases h2 : ah = bh
    · by_cases h3 : al < bl
      · rw [show decide (ah < bh ∨ ah = bh ∧ al < bl) = true from decide_eq_true (.inr ⟨h2, h3⟩)]
        subst h2
        go_enter Tryd.func55, Tryd.ntmps55
        go_wp2
        go_ret
        exact ⟨rfl, by repeat (first | exact Below.refl _ _ | refine below_al ?_ _)⟩
      · rw [show decide (ah < bh ∨ ah = bh ∧ al < bl) = false from decide_eq_false (by omega)]
        subst h2
        go_enter Tryd.func55, Tryd.ntmps55
        go_wp2
        go_ret
        exact ⟨rfl, by repeat (first | exact Below.refl _ _ | refine below_al ?_ _)⟩
    · rw [show decide (ah < bh ∨ ah = bh ∧ al < bl) = false from decide_eq_false (by omega)]
      have h2' : (ah == bh) = false := by simpa using h2
      go_enter Tryd.func55, Tryd.ntmps55
      go_wp2
      go_ret
      exact ⟨rfl, by repeat (first | exact Below.refl _ _ | refine below_al ?_ _)⟩

theorem refminus_any (ah al bh bl : Int) (w : World) :
    Calls Tryd.prog 56 #[.agg #[.int .u64 ah, .int .u64 al], .agg #[.int .u64 bh, .int .u64 bl]] w fun e w' => e = .returned (.agg #[.int .u64 (IntKind.u64.wrap (ah - bh - (if al < bl then 1 else 0))), .int .u64 (IntKind.u64.wrap (al - bl))]) ∧ Below w.heap.size w w' := by
  by_cases h : al < bl
  · have e1 : IntKind.u64.wrap (IntKind.u64.wrap (ah - bh) - 1) = IntKind.u64.wrap (ah - bh - 1) := by simp only [IntKind.wrap_u64]; omega
    rw [if_pos h]
    go_enter Tryd.func56, Tryd.ntmps56
    go_wp2
    exact bodyPost_ret (v := .agg #[.int .u64 (IntKind.u64.wrap (ah - bh - 1)), .int .u64 (IntKind.u64.wrap (al - bl))]) (by simp [results, Tryd.results56, go_sem]) rfl ⟨rfl, by repeat (first | exact Below.refl _ _ | refine below_al ?_ _)⟩
  · rw [if_neg h, Int.sub_zero]
    go_enter Tryd.func56, Tryd.ntmps56
    go_wp2
    exact bodyPost_ret (v := .agg #[.int .u64 (IntKind.u64.wrap (ah - bh)), .int .u64 (IntKind.u64.wrap (al - bl))]) (by simp [results, Tryd.results56, go_sem]) rfl ⟨rfl, by repeat (first | exact Below.refl _ _ | refine below_al ?_ _)⟩

theorem refplus_any (ah al bh bl : Int) (w : World) :
    Calls Tryd.prog 54 #[.agg #[.int .u64 ah, .int .u64 al], .agg #[.int .u64 bh, .int .u64 bl]] w fun e w' => e = .returned (.agg #[.int .u64 (IntKind.u64.wrap (ah + bh + (if IntKind.u64.wrap (al + bl) < al then 1 else 0))), .int .u64 (IntKind.u64.wrap (al + bl))]) ∧ Below w.heap.size w w' := by
  by_cases h : IntKind.u64.wrap (al + bl) < al
  · have e1 : IntKind.u64.wrap (IntKind.u64.wrap (ah + bh) + 1) = IntKind.u64.wrap (ah + bh + 1) := by simp only [IntKind.wrap_u64]; omega
    rw [if_pos h]
    go_enter Tryd.func54, Tryd.ntmps54
    go_wp2
    exact bodyPost_ret (v := .agg #[.int .u64 (IntKind.u64.wrap (ah + bh + 1)), .int .u64 (IntKind.u64.wrap (al + bl))]) (by simp [results, Tryd.results54, go_sem]) rfl ⟨rfl, by repeat (first | exact Below.refl _ _ | refine below_al ?_ _)⟩
  · rw [if_neg h, Int.add_zero]
    go_enter Tryd.func54, Tryd.ntmps54
    go_wp2
    exact bodyPost_ret (v := .agg #[.int .u64 (IntKind.u64.wrap (ah + bh)), .int .u64 (IntKind.u64.wrap (al + bl))]) (by simp [results, Tryd.results54, go_sem]) rfl ⟨rfl, by repeat (first | exact Below.refl _ _ | refine below_al ?_ _)⟩

theorem refmul_core (x y xh xl yh yl lo lo1 lo0 p1 mid mid1 mid0 p2 oth oth1 p3 s1 H os L : Nat)
    (e1 : (x : Int) / 4294967296 = xh) (e2 : bits .and .u64 (x : Int) 4294967295 = xl) (e3 : (y : Int) / 4294967296 = yh) (e4 : bits .and .u64 (y : Int) 4294967295 = yl)
    (e5 : IntKind.u64.wrap ((xl : Int) * (yl : Int)) = lo) (e6 : (lo : Int) / 4294967296 = lo1) (e7 : bits .and .u64 (lo : Int) 4294967295 = lo0)
    (e8 : IntKind.u64.wrap ((xh : Int) * (yl : Int)) = p1) (e9 : IntKind.u64.wrap ((p1 : Int) + (lo1 : Int)) = mid) (e10 : (mid : Int) / 4294967296 = mid1) (e11 : bits .and .u64 (mid : Int) 4294967295 = mid0)
    (e12 : IntKind.u64.wrap ((xl : Int) * (yh : Int)) = p2) (e13 : IntKind.u64.wrap ((p2 : Int) + (mid0 : Int)) = oth) (e14 : (oth : Int) / 4294967296 = oth1)
    (e15 : IntKind.u64.wrap ((xh : Int) * (yh : Int)) = p3) (e16 : IntKind.u64.wrap ((p3 : Int) + (mid1 : Int)) = s1) (e17 : IntKind.u64.wrap ((s1 : Int) + (oth1 : Int)) = H)
    (e18 : IntKind.u64.wrap ((oth : Int) * 4294967296) = os) (e19 : IntKind.u64.wrap ((os : Int) + (lo0 : Int)) = L) (w : World) :
    Calls Tryd.prog 53 #[.int .u64 x, .int .u64 y] w fun e w' => e = .returned (.agg #[.int .u64 (H : Int), .int .u64 (L : Int)]) ∧ Below w.heap.size w w' := by
  go_enter Tryd.func53, Tryd.ntmps53
  go_wp2
  exact bodyPost_ret (v := .agg #[.int .u64 (H : Int), .int .u64 (L : Int)]) (by simp [results, Tryd.results53, go_sem]) rfl ⟨rfl, by repeat (first | exact Below.refl _ _ | refine below_al ?_ _)⟩

theorem refmul_any (x y : Nat) (hx : x < 18446744073709551616) (hy : y < 18446744073709551616) (w : World) :
    Calls Tryd.prog 53 #[.int .u64 x, .int .u64 y] w fun e w' => e = .returned (.agg #[.int .u64 ((x * y / 18446744073709551616 : Nat) : Int), .int .u64 ((x * y % 18446744073709551616 : Nat) : Int)]) ∧ Below w.heap.size w w' := by
  obtain ⟨h1, h2, h3, h4⟩ := Lib.mul64_hi x y hx hy
  have h5 := mul_lo x y
  have h6 := Lib.half_mul_le (a := x / 4294967296) (b := y / 4294967296) (by omega) (by omega)
  have h7 := Lib.half_mul_le (a := x / 4294967296) (b := y % 4294967296) (by omega) (by omega)
  have h8 := Lib.half_mul_le (a := x % 4294967296) (b := y / 4294967296) (by omega) (by omega)
  have hH : x * y / 18446744073709551616 < 18446744073709551616 := by
    have : x * y < 18446744073709551616 * 18446744073709551616 := Nat.mul_lt_mul_of_lt_of_le hx (Nat.le_of_lt hy) (by omega)
    omega
  have mN := fun (a : Nat) (ha : a < 18446744073709551616) => Mul64.maskN a ha
  have wN := fun (a : Nat) (ha : a < 18446744073709551616) => Mul64.wrapN a ha
  refine refmul_core x y (x / 4294967296) (x % 4294967296) (y / 4294967296) (y % 4294967296) ((x % 4294967296) * (y % 4294967296)) ((x % 4294967296) * (y % 4294967296) / 4294967296) ((x % 4294967296) * (y % 4294967296) % 4294967296)
    ((x / 4294967296) * (y % 4294967296)) ((x / 4294967296) * (y % 4294967296) + (x % 4294967296) * (y % 4294967296) / 4294967296) (((x / 4294967296) * (y % 4294967296) + (x % 4294967296) * (y % 4294967296) / 4294967296) / 4294967296) (((x / 4294967296) * (y % 4294967296) + (x % 4294967296) * (y % 4294967296) / 4294967296) % 4294967296)
    ((x % 4294967296) * (y / 4294967296)) ((x % 4294967296) * (y / 4294967296) + ((x / 4294967296) * (y % 4294967296) + (x % 4294967296) * (y % 4294967296) / 4294967296) % 4294967296) (((x % 4294967296) * (y / 4294967296) + ((x / 4294967296) * (y % 4294967296) + (x % 4294967296) * (y % 4294967296) / 4294967296) % 4294967296) / 4294967296)
    ((x / 4294967296) * (y / 4294967296)) ((x / 4294967296) * (y / 4294967296) + ((x / 4294967296) * (y % 4294967296) + (x % 4294967296) * (y % 4294967296) / 4294967296) / 4294967296) (x * y / 18446744073709551616)
    (((x % 4294967296) * (y / 4294967296) + ((x / 4294967296) * (y % 4294967296) + (x % 4294967296) * (y % 4294967296) / 4294967296) % 4294967296) % 4294967296 * 4294967296) (x * y % 18446744073709551616)
    (by omega) (mN x hx) (by omega) (mN y hy) ?_ (by omega) (mN _ h1) ?_ ?_ (by omega) (mN _ h2) ?_ ?_ (by omega) ?_ ?_ ?_ ?_ ?_ w
  · rw [← Int.natCast_mul]; exact wN _ h1
  · rw [← Int.natCast_mul]; exact wN _ (by omega)
  · rw [← Int.natCast_add]; exact wN _ h2
  · rw [← Int.natCast_mul]; exact wN _ (by omega)
  · rw [← Int.natCast_add]; exact wN _ (by omega)
  · rw [← Int.natCast_mul]; exact wN _ (by omega)
  · rw [← Int.natCast_add]; exact wN _ (by omega)
  · rw [← Int.natCast_add, ← wN _ hH]
    congr 2
    omega
  · rw [IntKind.wrap_u64]
    omega
  · rw [h5, ← Int.natCast_add]; exact wN _ (by omega)
end Go.Proofs.YtpijmjffobkalaaDoor
