/- Plain: what one round of the reference's long division does, in the walk's own names. -/
import Derived.Test.YtpijmjffobkalaaDoorBase
import Derived.Test.YtpijmjffobkalaaDoorMU
set_option linter.unusedVariables false
namespace Go.Proofs.YtpijmjffobkalaaDoor
open Go.RowKit

/-- The three numbers of the loop, in halves. -/
def LdH (A b k a1 a0 q1 q0 r1 r0 : Nat) : Prop :=
  LdInv A b k (a1 * 18446744073709551616 + a0) (q1 * 18446744073709551616 + q0) (r1 * 18446744073709551616 + r0) ∧ a0 < 18446744073709551616 ∧ q0 < 18446744073709551616 ∧ r0 < 18446744073709551616

/-- What one round does, in the walk's own names. -/
structure LdMore (A B k a1 a0 q1 q0 r1 r0 bh bl ov nr1 nr0 na1 na0 nq1 nq0 : Nat) : Prop where
  yes : (0 < ov ∨ ¬ (nr1 < bh ∨ nr1 = bh ∧ nr0 < bl)) → ∃ mr1 : Nat, IntKind.u64.wrap ((nr1 : Int) - (bh : Int) - (if (nr0 : Int) < (bl : Int) then 1 else 0)) = (mr1 : Int) ∧ ∃ mr0 : Nat, IntKind.u64.wrap ((nr0 : Int) - (bl : Int)) = (mr0 : Int) ∧ Hid (LdH A B (k + 1) na1 na0 nq1 (nq0 + 1) mr1 mr0)
  no : ov = 0 → (nr1 < bh ∨ nr1 = bh ∧ nr0 < bl) → LdH A B (k + 1) na1 na0 nq1 nq0 nr1 nr0
  part : 0 < ov ∨ ov = 0 ∧ True
  room : nq0 < 18446744073709551615

theorem dbl {a x y : Nat} (h : a < 18446744073709551616) (hx : x = 2 * a % 18446744073709551616) (hy : y = a / 9223372036854775808) : 2 * a = y * 18446744073709551616 + x ∧ x ≤ 18446744073709551614 ∧ y ≤ 1 := by omega
theorem add_small {a b c : Nat} (ha : a ≤ 18446744073709551614) (hb : b ≤ 1) (hc : c = (a + b) % 18446744073709551616) : c = a + b := by omega

/-- The same in sums alone. -/
theorem ld_more' {A b k a q r a' q' r' ov bit : Nat} (h : LdInv A b k a q r)
    (ea : 2 * a = bit * 340282366920938463463374607431768211456 + a') (ha' : a' < 340282366920938463463374607431768211456) (eq : 2 * q = q') (er : 2 * r + bit = ov * 340282366920938463463374607431768211456 + r') :
    (b ≤ ov * 340282366920938463463374607431768211456 + r' → LdInv A b (k + 1) a' (q' + 1) (ov * 340282366920938463463374607431768211456 + r' - b)) ∧
    (ov * 340282366920938463463374607431768211456 + r' < b → LdInv A b (k + 1) a' q' (ov * 340282366920938463463374607431768211456 + r')) := by
  have hs := ld_step h
  have e1 : 2 * a % 340282366920938463463374607431768211456 = a' := by omega
  have e2 : a / 170141183460469231731687303715884105728 = bit := by omega
  rw [e1, e2, eq, er] at hs
  exact hs

theorem sub_pair {nr1 nr0 bh bl ov : Nat} (h1 : nr1 < 18446744073709551616) (h0 : nr0 < 18446744073709551616) (hbh : bh < 18446744073709551616) (hbl : bl < 18446744073709551616) (hov : ov ≤ 1)
    (hge : bh * 18446744073709551616 + bl ≤ ov * 340282366920938463463374607431768211456 + (nr1 * 18446744073709551616 + nr0))
    (hlt : ov * 340282366920938463463374607431768211456 + (nr1 * 18446744073709551616 + nr0) - (bh * 18446744073709551616 + bl) < 340282366920938463463374607431768211456) :
    ∃ mr1 : Nat, IntKind.u64.wrap ((nr1 : Int) - (bh : Int) - (if (nr0 : Int) < (bl : Int) then 1 else 0)) = (mr1 : Int) ∧ ∃ mr0 : Nat, IntKind.u64.wrap ((nr0 : Int) - (bl : Int)) = (mr0 : Int) ∧ mr0 < 18446744073709551616 ∧
      ov * 340282366920938463463374607431768211456 + (nr1 * 18446744073709551616 + nr0) - (bh * 18446744073709551616 + bl) = mr1 * 18446744073709551616 + mr0 := by
  simp only [IntKind.wrap_u64]
  by_cases hb : nr0 < bl
  · rw [if_pos (by omega)]
    refine ⟨ov * 18446744073709551616 + nr1 - bh - 1, by omega, 18446744073709551616 + nr0 - bl, by omega, by omega, by omega⟩
  · rw [if_neg (by omega)]
    refine ⟨ov * 18446744073709551616 + nr1 - bh, by omega, nr0 - bl, by omega, by omega, by omega⟩

theorem dbl2 {a1 a0 x4 x5 x6 na1 na0 : Nat} (f3 : 2 * a1 = x4 * 18446744073709551616 + x5) (f4 : 2 * a0 = x6 * 18446744073709551616 + na0) (s3 : na1 = x5 + x6) (g3 : x5 ≤ 18446744073709551614) (g4 : na0 ≤ 18446744073709551614) (k4 : x6 ≤ 1) :
    2 * (a1 * 18446744073709551616 + a0) = x4 * 340282366920938463463374607431768211456 + (na1 * 18446744073709551616 + na0) ∧ na1 * 18446744073709551616 + na0 < 340282366920938463463374607431768211456 ∧ na1 < 18446744073709551616 ∧ na0 < 18446744073709551615 := by
  subst s3
  refine ⟨by omega, by omega, by omega, by omega⟩
theorem dbl3 {r1 r0 ov x1 x2 x3 x4 nr1 nr0 : Nat} (f1 : 2 * r1 = ov * 18446744073709551616 + x1) (f2 : 2 * r0 = x2 * 18446744073709551616 + x3) (s1 : nr1 = x1 + x2) (s2 : nr0 = x3 + x4) (g1 : x1 ≤ 18446744073709551614) (g2 : x3 ≤ 18446744073709551614) (k2 : x2 ≤ 1) (k4 : x4 ≤ 1) :
    2 * (r1 * 18446744073709551616 + r0) + x4 = ov * 340282366920938463463374607431768211456 + (nr1 * 18446744073709551616 + nr0) ∧ nr1 < 18446744073709551616 ∧ nr0 < 18446744073709551616 := by
  subst s1 s2
  refine ⟨by omega, by omega, by omega⟩
theorem dbl4 {q1 q0 x7 x8 nq1 nq0 : Nat} (f5 : x7 = 2 * q1) (f6 : 2 * q0 = x8 * 18446744073709551616 + nq0) (s4 : nq1 = x7 + x8) :
    2 * (q1 * 18446744073709551616 + q0) = nq1 * 18446744073709551616 + nq0 := by
  subst f5 s4
  omega
theorem sub_small {r b k : Nat} (h : r < b) (hb : b < 340282366920938463463374607431768211456) (hk : k ≤ 1) : 2 * r + k - b < 340282366920938463463374607431768211456 := by omega
theorem no_pair {nr1 nr0 bh bl : Nat} (h0 : nr0 < 18446744073709551616) (hc : nr1 < bh ∨ nr1 = bh ∧ nr0 < bl) : nr1 * 18446744073709551616 + nr0 < bh * 18446744073709551616 + bl := by omega
theorem yes_pair {nr1 nr0 bh bl ov : Nat} (hbh : bh < 18446744073709551616) (hbl : bl < 18446744073709551616) (hc : 0 < ov ∨ ¬ (nr1 < bh ∨ nr1 = bh ∧ nr0 < bl)) : bh * 18446744073709551616 + bl ≤ ov * 340282366920938463463374607431768211456 + (nr1 * 18446744073709551616 + nr0) := by
  rcases hc with hc | hc
  · have := Nat.mul_le_mul_right 340282366920938463463374607431768211456 hc
    omega
  · have : bh * 18446744073709551616 + bl ≤ nr1 * 18446744073709551616 + nr0 := by omega
    exact Nat.le_trans this (Nat.le_add_left _ _)
theorem pair_lt {bh bl : Nat} (hbh : bh < 18446744073709551616) (hbl : bl < 18446744073709551616) : bh * 18446744073709551616 + bl < 340282366920938463463374607431768211456 := by omega

theorem up1 {n : Nat} (h : n < 18446744073709551615) : n + 1 < 18446744073709551616 := by omega

theorem ld_more {A B k a1 a0 q1 q0 r1 r0 bh bl ov x1 x2 nr1 x3 x4 nr0 x5 x6 na1 na0 x7 x8 nq1 nq0 : Nat} (h : LdH A B k a1 a0 q1 q0 r1 r0) (hB : B = bh * 18446744073709551616 + bl) (hlt : k < 128)
    (hbh : bh < 18446744073709551616) (hbl : bl < 18446744073709551616)
    (dov : ov = r1 / 9223372036854775808) (d1 : x1 = 2 * r1 % 18446744073709551616) (d2 : x2 = r0 / 9223372036854775808) (d3 : nr1 = (x1 + x2) % 18446744073709551616)
    (d4 : x3 = 2 * r0 % 18446744073709551616) (d5 : x4 = a1 / 9223372036854775808) (d6 : nr0 = (x3 + x4) % 18446744073709551616)
    (d7 : x5 = 2 * a1 % 18446744073709551616) (d8 : x6 = a0 / 9223372036854775808) (d9 : na1 = (x5 + x6) % 18446744073709551616) (d10 : na0 = 2 * a0 % 18446744073709551616)
    (d11 : x7 = 2 * q1 % 18446744073709551616) (d12 : x8 = q0 / 9223372036854775808) (d13 : nq1 = (x7 + x8) % 18446744073709551616) (d14 : nq0 = 2 * q0 % 18446744073709551616) :
    LdMore A B k a1 a0 q1 q0 r1 r0 bh bl ov nr1 nr0 na1 na0 nq1 nq0 := by
  obtain ⟨hi, ha0, hq0, hr0⟩ := h
  have hr := hi.hr
  have hA := hi.ha
  have hq : q1 * 18446744073709551616 + q0 < 170141183460469231731687303715884105728 := by
    have := hi.hq
    have p : 2 ^ k ≤ 2 ^ 127 := Nat.pow_le_pow_right (by omega) (by omega)
    exact Nat.lt_of_lt_of_le this p
  have ha1 : a1 < 18446744073709551616 := by clear dov d1 d2 d3 d4 d5 d6 d7 d8 d9 d10 d11 d12 d13 d14; omega
  have hr1 : r1 < 18446744073709551616 := by clear dov d1 d2 d3 d4 d5 d6 d7 d8 d9 d10 d11 d12 d13 d14; omega
  have hq1 : q1 < 9223372036854775808 := by clear dov d1 d2 d3 d4 d5 d6 d7 d8 d9 d10 d11 d12 d13 d14; omega
  obtain ⟨f1, g1, k1⟩ := dbl hr1 d1 dov
  obtain ⟨f2, g2, k2⟩ := dbl hr0 d4 d2
  obtain ⟨f3, g3, k3⟩ := dbl ha1 d7 d5
  obtain ⟨f4, g4, k4⟩ := dbl ha0 d10 d8
  obtain ⟨f6, g6, k6⟩ := dbl hq0 d14 d12
  have f5 : x7 = 2 * q1 := by clear dov d1 d2 d3 d4 d5 d6 d7 d8 d9 d10 d12 d13 d14; omega
  have s1 := add_small g1 k2 d3
  have s2 := add_small g2 k3 d6
  have s3 := add_small g3 k4 d9
  have s4 : nq1 = x7 + x8 := add_small (by omega) k6 d13
  clear dov d1 d2 d3 d4 d5 d6 d7 d8 d9 d10 d11 d12 d13 d14
  obtain ⟨u1, u2, u3, u4⟩ := dbl2 f3 f4 s3 g3 g4 k4
  obtain ⟨v1, v2, v3⟩ := dbl3 f1 f2 s1 s2 g1 g2 k2 k3
  have y1 := dbl4 f5 f6 s4
  obtain ⟨t1, t2⟩ := ld_more' hi u1 u2 y1 v1
  have hlt2 := sub_small hr (by rw [hB]; exact pair_lt hbh hbl) k3
  rw [v1] at hlt2
  have hnq : nq0 < 18446744073709551615 := Nat.lt_succ_of_le g6
  have hna : na0 < 18446744073709551616 := Nat.lt_of_lt_of_le u4 (by decide)
  have hnq' : nq0 < 18446744073709551616 := Nat.lt_of_lt_of_le hnq (by decide)
  clear f1 f2 f3 f4 f5 f6 g1 g2 g3 g4 g6 s1 s2 s3 s4 u1 u2 y1 v1 hi hr hA hq
  subst hB
  refine ⟨fun hc => ?_, fun h0 hc => ⟨?_, hna, hnq', v3⟩, (Nat.eq_zero_or_pos ov).symm.imp id (fun h => ⟨h, trivial⟩), hnq⟩
  · have hge := yes_pair hbh hbl hc
    obtain ⟨m1, e1, m0, e0, hm, e⟩ := sub_pair v2 v3 hbh hbl k1 hge hlt2
    have t := t1 hge
    rw [e, Nat.add_assoc (nq1 * 18446744073709551616) nq0 1] at t
    exact ⟨m1, e1, m0, e0, t, hna, up1 hnq, hm⟩
  · have t := t2 (by rw [h0, Nat.zero_mul, Nat.zero_add]; exact no_pair v3 hc)
    rw [h0, Nat.zero_mul, Nat.zero_add] at t
    exact t

theorem ld_fin {A B a1 a0 q1 q0 r1 r0 qh ql rh rl : Nat} (h : LdH A B 128 a1 a0 q1 q0 r1 r0) (hq : qh * 18446744073709551616 + ql = A / B) (hql : ql < 18446744073709551616) (hr : rh * 18446744073709551616 + rl = A % B) (hrl : rl < 18446744073709551616) :
    True ∧ (q1 = qh ∧ q0 = ql) ∧ (r1 = rh ∧ r0 = rl) := by
  obtain ⟨hi, ha0, hq0, hr0⟩ := h
  obtain ⟨e1, e2⟩ := ld_done hi
  rw [← hq] at e1
  rw [← hr] at e2
  clear hi hq hr
  refine ⟨trivial, ⟨by omega, by omega⟩, by omega, by omega⟩
end Go.Proofs.YtpijmjffobkalaaDoor
