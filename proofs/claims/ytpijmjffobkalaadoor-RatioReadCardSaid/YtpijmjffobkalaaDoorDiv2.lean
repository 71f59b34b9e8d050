/- math/bits.Div64's contract: where the high half is less than the divisor it returns the quotient and the rest of the two halves by the divisor; what was there is as it was. -/
import Derived.Test.YtpijmjffobkalaaDoorDiv
set_option linter.unusedVariables false
namespace Go.Proofs.YtpijmjffobkalaaDoor
open Go.ChangeShapes Go.WideShapes Go.ChangeAt Go.RowKit

theorem bitLen_pow : ∀ (n y : Nat), y ≤ n → 0 < y → y < 2 ^ 64 → 1 ≤ Lib.bitLen y ∧ 2 ^ (Lib.bitLen y - 1) ≤ y ∧ y < 2 ^ Lib.bitLen y
  | 0, y, h, h0, _ => by omega
  | n + 1, y, h, h0, hy => by
    have e := Lib.bitLen_half y (by omega) hy
    by_cases h1 : y = 1
    · subst h1
      have e0 : Lib.bitLen (1 / 2) = 0 := by decide
      rw [e, e0]
      decide
    · obtain ⟨a, b, c⟩ := bitLen_pow n (y / 2) (by omega) (by omega) (by omega)
      have p1 : 2 ^ (1 + Lib.bitLen (y / 2)) = 2 * 2 ^ Lib.bitLen (y / 2) := by rw [Nat.add_comm, Nat.pow_succ, Nat.mul_comm]
      have p2 : 2 ^ (Lib.bitLen (y / 2)) = 2 * 2 ^ (Lib.bitLen (y / 2) - 1) := by
        rw [← Nat.pow_succ', Nat.succ_eq_add_one, Nat.sub_add_cancel a]
      rw [e, p1, Nat.add_sub_cancel_left]
      refine ⟨by omega, by omega, by omega⟩

theorem wrapU (a : Nat) (ha : a < 18446744073709551616) : IntKind.u64.wrap (a : Int) = (a : Int) := IntWalk.u64_in _ (by omega)

theorem lz_any (y : Nat) (hy : y < 18446744073709551616) (h0 : 0 < y) :
    ∃ s : Nat, s ≤ 63 ∧ 9223372036854775808 ≤ y * 2 ^ s ∧ y * 2 ^ s < 18446744073709551616 ∧
      ∀ w : World, Calls Tryd.prog 76 #[.int .u64 y] w fun e w' => e = .returned (.int .i64 (s : Int)) ∧ w = w' := by
  obtain ⟨a, b, c⟩ := bitLen_pow y y (Nat.le_refl _) h0 (by omega)
  have hl : Lib.bitLen y ≤ 64 := by
    rcases Nat.lt_or_ge 64 (Lib.bitLen y) with h | h
    · have : 2 ^ 64 ≤ 2 ^ (Lib.bitLen y - 1) := Nat.pow_le_pow_right (by omega) (by omega)
      omega
    · exact h
  refine ⟨64 - Lib.bitLen y, by omega, ?_, ?_, fun w => ?_⟩
  · have p : 2 ^ (Lib.bitLen y - 1) * 2 ^ (64 - Lib.bitLen y) = 2 ^ 63 := by rw [← Nat.pow_add]; congr 1; omega
    have := Nat.mul_le_mul_right (2 ^ (64 - Lib.bitLen y)) b
    omega
  · have p : 2 ^ (Lib.bitLen y) * 2 ^ (64 - Lib.bitLen y) = 2 ^ 64 := by rw [← Nat.pow_add]; congr 1; omega
    have := Nat.mul_lt_mul_of_pos_right c (Nat.pow_pos (n := 64 - Lib.bitLen y) (show 0 < 2 by omega))
    omega
  · refine (Tryd.bits_LeadingZeros64 (y : Int) w (by omega) (by omega)).mono ?_
    rintro e w' ⟨rfl, rfl⟩
    refine ⟨ret_int ?_, rfl⟩
    rw [Int.toNat_natCast]
    omega

theorem div64_any (hi lo y : Nat) (hlo : lo < 18446744073709551616) (hy : y < 18446744073709551616) (hhi : hi < y) (w : World) :
    Calls Tryd.prog 68 #[.int .u64 hi, .int .u64 lo, .int .u64 y] w fun e w' => e = .returned (.tuple #[.int .u64 (((hi * 18446744073709551616 + lo) / y : Nat) : Int), .int .u64 (((hi * 18446744073709551616 + lo) % y : Nat) : Int)]) ∧ Below w.heap.size w w' := by
  rcases Nat.eq_zero_or_pos hi with h0 | h0
  · subst h0
    have := div64_zero lo y hlo hy (by omega) w
    rw [Nat.zero_mul, Nat.zero_add]
    exact this
  · obtain ⟨s, hs, hl, hh, hz⟩ := lz_any y hy (by omega)
    obtain ⟨hu, hN⟩ := k_whole hi lo y s hlo hs hhi
    have hAB : hi * 2 ^ s + lo / 2 ^ (64 - s) < 18446744073709551616 := by omega
    have hor : (hi * 2 ^ s) ||| (lo / 2 ^ (64 - s)) = hi * 2 ^ s + lo / 2 ^ (64 - s) := by
      refine nat_join s _ _ (Nat.mul_mod_left _ _) ?_
      rw [Nat.div_lt_iff_lt_mul (Nat.pow_pos (by omega)), ← Nat.pow_add, Nat.add_sub_cancel' (by omega)]
      exact hlo
    have hk := k_two (y * 2 ^ s) (hi * 2 ^ s + lo / 2 ^ (64 - s)) (lo * 2 ^ s % 18446744073709551616 / 4294967296) (lo * 2 ^ s % 18446744073709551616 % 4294967296) (by omega)
    rw [hN, k_div] at hk
    have hm := k_mod (hi * 18446744073709551616 + lo) y s
    rw [← hk.2] at hm
    have hq := hk.1
    clear hk
    have hcast : ∀ a : Nat, (a : Int) * 2 ^ s = ((a * 2 ^ s : Nat) : Int) := fun a => by simp
    have eA : IntKind.u64.wrap ((hi : Int) * 2 ^ s) = ((hi * 2 ^ s : Nat) : Int) := by rw [hcast]; exact wrapU _ (Nat.lt_of_le_of_lt (Nat.le_add_right _ _) hAB)
    have eY : IntKind.u64.wrap ((y : Int) * 2 ^ s) = ((y * 2 ^ s : Nat) : Int) := by rw [hcast]; exact wrapU _ hh
    have et : IntKind.u64.wrap ((lo : Int) * 2 ^ s) = ((lo * 2 ^ s % 18446744073709551616 : Nat) : Int) := by rw [hcast, IntKind.wrap_u64]; omega
    have eu := u64_or_nat (hi * 2 ^ s) (lo / 2 ^ (64 - s)) (Nat.lt_of_le_of_lt (Nat.le_add_right _ _) hAB) (Nat.lt_of_le_of_lt (Nat.le_add_left _ _) hAB)
    rw [hor] at eu
    have eB : (lo : Int) / 2 ^ (64 - s) = ((lo / 2 ^ (64 - s) : Nat) : Int) := by simp
    have hYr : ∀ u' v' : Nat, u' < y * 2 ^ s → kr (y * 2 ^ s) u' v' < y * 2 ^ s := fun _ _ h => kr_lt h
    generalize hY : y * 2 ^ s = Y at *
    generalize hu' : hi * 2 ^ s + lo / 2 ^ (64 - s) = u at *
    generalize hA' : hi * 2 ^ s = A at *
    generalize hB' : lo / 2 ^ (64 - s) = B at *
    have ht : lo * 2 ^ s % 18446744073709551616 < 18446744073709551616 := Nat.mod_lt _ (by omega)
    generalize lo * 2 ^ s % 18446744073709551616 = t at *
    have hYd : Y / 4294967296 * 4294967296 + Y % 4294967296 = Y := Nat.div_add_mod' Y 4294967296
    have ka := k_start (y1 := Y / 4294967296) (y0 := Y % 4294967296) (u := u) (v := t / 4294967296) (by omega) (by omega) (by omega) (by omega)
    have kq1 := k_eq Y u (t / 4294967296)
    have kr1 := kr_lt (v := t / 4294967296) hu
    have kb := k_start (y1 := Y / 4294967296) (y0 := Y % 4294967296) (u := kr Y u (t / 4294967296)) (v := t % 4294967296) (by omega) (by omega) (by omega) (by omega)
    have kq0 := k_eq Y (kr Y u (t / 4294967296)) (t % 4294967296)
    have kr0 := kr_lt (v := t % 4294967296) kr1
    have hq1 := k_lt (v := t / 4294967296) hu (by omega)
    have hq0 := k_lt (v := t % 4294967296) kr1 (by omega)
    have hy1 : 0 < Y / 4294967296 := by omega
    have key := div64_core hi lo y s Y (Y / 4294967296) (Y % 4294967296) A B u t (t / 4294967296) (t % 4294967296)
      (u / (Y / 4294967296)) (u / (Y / 4294967296) * (Y / 4294967296)) (u % (Y / 4294967296)) (kq Y u (t / 4294967296)) (kq Y u (t / 4294967296) * Y % 18446744073709551616) ((u * 4294967296 + t / 4294967296) % 18446744073709551616) (kr Y u (t / 4294967296))
      (kr Y u (t / 4294967296) / (Y / 4294967296)) (kr Y u (t / 4294967296) / (Y / 4294967296) * (Y / 4294967296)) (kr Y u (t / 4294967296) % (Y / 4294967296)) (kq Y (kr Y u (t / 4294967296)) (t % 4294967296)) (kq Y (kr Y u (t / 4294967296)) (t % 4294967296) * Y % 18446744073709551616)
      ((kr Y u (t / 4294967296) * 4294967296 + t % 4294967296) % 18446744073709551616) (kr Y (kr Y u (t / 4294967296)) (t % 4294967296)) ((hi * 18446744073709551616 + lo) % y)
      hs h0 hhi (by omega) (by omega) (by omega) (by omega) (by omega) (by omega)
      eY (by omega) (Mul64.maskN Y hh) eA eB eu et (by omega) (Mul64.maskN t ht)
      ?_ ?_ ?_ ka (Nat.mod_lt _ hy1) (by rw [hYd]; exact rfl) ?_ ?_ ?_ (by omega)
      ?_ ?_ ?_ kb (Nat.mod_lt _ hy1) (by rw [hYd]; exact rfl) ?_ ?_ ?_ ?_ hz w
    · refine key.mono ?_
      rintro e w' ⟨rfl, hb⟩
      refine ⟨?_, hb⟩
      rw [← hq]
      have : IntKind.u64.wrap (IntKind.u64.wrap (((kq Y u (t / 4294967296) : Nat) : Int) * 4294967296) + ((kq Y (kr Y u (t / 4294967296)) (t % 4294967296) : Nat) : Int)) = ((kq Y u (t / 4294967296) * 4294967296 + kq Y (kr Y u (t / 4294967296)) (t % 4294967296) : Nat) : Int) := by
        rw [IntKind.wrap_u64, IntKind.wrap_u64]
        omega
      rw [this]
    · have : u / (Y / 4294967296) ≤ u := Nat.div_le_self _ _
      rw [← Int.natCast_ediv]
      exact wrapU _ (by omega)
    · refine mul_cast _ _ _ rfl ?_
      have : u / (Y / 4294967296) * (Y / 4294967296) ≤ u := Nat.div_mul_le_self _ _
      omega
    · have h1 := Nat.div_add_mod u (Y / 4294967296)
      rw [Nat.mul_comm] at h1
      have h2 : u % (Y / 4294967296) ≤ u := Nat.mod_le _ _
      generalize u % (Y / 4294967296) = r at *
      generalize u / (Y / 4294967296) * (Y / 4294967296) = m at *
      rw [IntKind.wrap_u64]
      omega
    · rw [← Int.natCast_mul, IntKind.wrap_u64]
      omega
    · rw [IntKind.wrap_u64, IntKind.wrap_u64]
      omega
    · rw [Nat.mul_comm] at kq1
      generalize kq Y u (t / 4294967296) * Y = m at *
      generalize kr Y u (t / 4294967296) = r at *
      rw [IntKind.wrap_u64]
      omega
    · have : kr Y u (t / 4294967296) / (Y / 4294967296) ≤ kr Y u (t / 4294967296) := Nat.div_le_self _ _
      rw [← Int.natCast_ediv]
      exact wrapU _ (by omega)
    · refine mul_cast _ _ _ rfl ?_
      have : kr Y u (t / 4294967296) / (Y / 4294967296) * (Y / 4294967296) ≤ kr Y u (t / 4294967296) := Nat.div_mul_le_self _ _
      omega
    · have h1 := Nat.div_add_mod (kr Y u (t / 4294967296)) (Y / 4294967296)
      rw [Nat.mul_comm] at h1
      have h2 : kr Y u (t / 4294967296) % (Y / 4294967296) ≤ kr Y u (t / 4294967296) := Nat.mod_le _ _
      generalize kr Y u (t / 4294967296) % (Y / 4294967296) = r at *
      generalize kr Y u (t / 4294967296) / (Y / 4294967296) * (Y / 4294967296) = m at *
      rw [IntKind.wrap_u64]
      omega
    · rw [← Int.natCast_mul, IntKind.wrap_u64]
      omega
    · rw [IntKind.wrap_u64, IntKind.wrap_u64]
      omega
    · rw [Nat.mul_comm] at kq0
      generalize kq Y (kr Y u (t / 4294967296)) (t % 4294967296) * Y = m at *
      generalize kr Y (kr Y u (t / 4294967296)) (t % 4294967296) = r at *
      generalize kr Y u (t / 4294967296) = r' at *
      rw [IntKind.wrap_u64]
      omega
    · rw [← hm]
      simp
#print axioms div64_any
end Go.Proofs.YtpijmjffobkalaaDoor
