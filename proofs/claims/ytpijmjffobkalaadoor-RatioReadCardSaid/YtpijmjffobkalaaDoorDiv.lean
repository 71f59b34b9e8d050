/- math/bits.Div64: where the high half is less than the divisor it returns the quotient and the rest. -/
import Derived.Test.YtpijmjffobkalaaDoorBase
import Derived.Test.YtpijmjffobkalaaDoorShelf
import Derived.Test.YtpijmjffobkalaaDoorMDiv
import Derived.Lib.BitFns
import Derived.Deep.DeepCutAuto
import Derived.Deep.CutBlock
set_option linter.unusedVariables false
namespace Go.Proofs.YtpijmjffobkalaaDoor
open Go.ChangeShapes Go.WideShapes Go.ChangeAt Go.RowKit

theorem div64_zero (lo y : Nat) (hlo : lo < 18446744073709551616) (hy : y < 18446744073709551616) (h0 : 0 < y) (w : World) :
    Calls Tryd.prog 68 #[.int .u64 0, .int .u64 lo, .int .u64 y] w fun e w' => e = .returned (.tuple #[.int .u64 ((lo / y : Nat) : Int), .int .u64 ((lo % y : Nat) : Int)]) ∧ Below w.heap.size w w' := by
  have h1 : (1 : Int) ≤ (y : Int) := by omega
  have h2 : (lo : Int) ≤ 18446744073709551615 := by omega
  have h3 : (y : Int) ≤ 18446744073709551615 := by omega
  go_enter Tryd.func68, Tryd.ntmps68
  go_wp2_with fail
  go_quiet (fail)
  go_wp2_with fail
  go_ret2
  refine ⟨?_, below_drewN (Below.refl _ _) _⟩
  show Ending.returned (.tuple #[.int .u64 (IntKind.u64.wrap ((lo : Int) / (y : Int))), .int .u64 ((lo : Int) % (y : Int))]) = _
  have e1 : lo / y ≤ lo := Nat.div_le_self _ _
  have e2 : (0 : Int) ≤ ((lo / y : Nat) : Int) := Int.natCast_nonneg _
  have e3 : ((lo / y : Nat) : Int) ≤ 18446744073709551615 := by
    generalize lo / y = q at *
    omega
  rw [← Int.natCast_ediv, ← Int.natCast_emod, IntWalk.u64_in _ ⟨e2, e3⟩]

theorem mul_cast (a b c : Nat) (h : a * b = c) (hc : c < 18446744073709551616) : IntKind.u64.wrap ((a : Int) * (b : Int)) = (c : Int) := by
  rw [← Int.natCast_mul, h]; exact IntWalk.u64_in _ (by omega)

set_option maxRecDepth 100000 in
set_option maxHeartbeats 1000000 in
/-- What the walk's numbers are, under names. -/
theorem div64_core (hi lo y s Y y1 y0 A B u t v1 v0 qa ma ra q1 m1 u1 u2 qb mb rb q0 m0 n0 d0 r0 : Nat) (hs : s ≤ 63) (h0 : 1 ≤ hi) (hhi : hi < y)
    (b1 : 2147483648 ≤ y1) (b1' : y1 < 4294967296) (b0 : y0 < 4294967296) (bv1 : v1 < 4294967296) (bv0 : v0 < 4294967296) (bu : u < y1 * 4294967296 + y0)
    (eY : IntKind.u64.wrap ((y : Int) * 2 ^ s) = (Y : Int)) (e1 : (Y : Int) / 4294967296 = y1) (e0 : bits .and .u64 (Y : Int) 4294967295 = y0)
    (eA : IntKind.u64.wrap ((hi : Int) * 2 ^ s) = (A : Int)) (eB : (lo : Int) / 2 ^ (64 - s) = (B : Int)) (eu : bits .or .u64 (A : Int) (B : Int) = (u : Int))
    (et : IntKind.u64.wrap ((lo : Int) * 2 ^ s) = (t : Int)) (ev1 : (t : Int) / 4294967296 = v1) (ev0 : bits .and .u64 (t : Int) 4294967295 = v0)
    (eqa : IntKind.u64.wrap ((u : Int) / (y1 : Int)) = (qa : Int)) (ema : IntKind.u64.wrap ((qa : Int) * (y1 : Int)) = (ma : Int)) (era : IntKind.u64.wrap ((u : Int) - (ma : Int)) = (ra : Int))
    (ka : KInv y1 y0 u v1 qa ra) (kra : ra < y1) (dq1 : Hid (kq (y1 * 4294967296 + y0) u v1 = q1))
    (em1 : IntKind.u64.wrap ((q1 : Int) * (Y : Int)) = (m1 : Int)) (eu1 : IntKind.u64.wrap (IntKind.u64.wrap ((u : Int) * 4294967296) + v1) = (u1 : Int)) (eu2 : IntKind.u64.wrap ((u1 : Int) - (m1 : Int)) = (u2 : Int)) (bu2 : u2 < y1 * 4294967296 + y0)
    (eqb : IntKind.u64.wrap ((u2 : Int) / (y1 : Int)) = (qb : Int)) (emb : IntKind.u64.wrap ((qb : Int) * (y1 : Int)) = (mb : Int)) (erb : IntKind.u64.wrap ((u2 : Int) - (mb : Int)) = (rb : Int))
    (kb : KInv y1 y0 u2 v0 qb rb) (krb : rb < y1) (dq0 : Hid (kq (y1 * 4294967296 + y0) u2 v0 = q0))
    (em0 : IntKind.u64.wrap ((q0 : Int) * (Y : Int)) = (m0 : Int)) (en0 : IntKind.u64.wrap (IntKind.u64.wrap ((u2 : Int) * 4294967296) + v0) = (n0 : Int)) (ed0 : IntKind.u64.wrap ((n0 : Int) - (m0 : Int)) = (d0 : Int))
    (er0 : (d0 : Int) / 2 ^ s = (r0 : Int))
    (hz : ∀ w : World, Calls Tryd.prog 76 #[.int .u64 y] w fun e w' => e = .returned (.int .i64 (s : Int)) ∧ w = w') (w : World) :
    Calls Tryd.prog 68 #[.int .u64 hi, .int .u64 lo, .int .u64 y] w fun e w' => e = .returned (.tuple #[.int .u64 (IntKind.u64.wrap (IntKind.u64.wrap ((q1 : Int) * 4294967296) + q0)), .int .u64 (r0 : Int)]) ∧ Below w.heap.size w w' := by
  have H := Lib.hid hz
  clear hz
  go_enter Tryd.func68, Tryd.ntmps68
  go_upto_block 0 with (go_at_call 76; refine (H.out _).mono ?_; rintro e w' ⟨rfl, rfl⟩)
  go_cut [15, 16] (fun q r wx => q = .int .u64 (q1 : Int) ∧ wx = w)
  case first =>
    clear eY e1 e0 eA eB eu et ev1 ev0 eqa ema era em1 eu1 eu2 eqb emb erb em0 en0 ed0 er0
    go_wp2_with fail
    go_loop [15, 16] (fun q r => ∃ Q R : Nat, KInv y1 y0 u v1 Q R ∧ R < 4294967296 ∧ q = .int .u64 (Q : Int) ∧ r = .int .u64 (R : Int)) (fun q _ => (intOf q).toNat)
    case atStart => exact ⟨qa, ra, ka, by omega, rfl, rfl⟩
    case round =>
      obtain ⟨Q, R, kk, hR, rfl, rfl⟩ := hrel
      have htop := kk.top
      by_cases c1 : 4294967296 ≤ Q
      · obtain ⟨hq1, kn⟩ := k_more b1 b0 bu bv1 (v := v1) kk (.inl c1)
        have c1i : (4294967296 : Int) ≤ (Q : Int) := by omega
        by_cases c2 : 4294967296 ≤ R + y1
        · have ee := k_break b1 b0 kn (by omega) c2
          have c2i : (4294967296 : Int) ≤ (R : Int) + (y1 : Int) := by omega
          have EE := Lib.hid (ee.trans dq1.out)
          clear ee
          go_wp2
          go_meet
          exact ⟨by rw [← EE.out]; go_num, rfl⟩
        · have c2i : decide ((4294967296 : Int) ≤ (R : Int) + (y1 : Int)) = false := decide_eq_false (by omega)
          go_wp2
          go_round
          case rel => exact ⟨Q - 1, R + y1, kn, by omega, by go_num, by go_num⟩
          case measure => simp [intOf]; omega
      · obtain ⟨Pn, hP⟩ : ∃ Pn : Nat, Q * y0 = Pn := ⟨_, rfl⟩
        have c1i : decide ((4294967296 : Int) ≤ (Q : Int)) = false := decide_eq_false (by omega)
        have hPb : Pn < 18446744073709551616 := by
          rw [← hP]
          have := Nat.mul_le_mul (show Q ≤ 4294967295 by omega) (show y0 ≤ 4294967295 by omega)
          omega
        have eP := mul_cast Q y0 Pn hP hPb
        by_cases cc : 4294967296 * R + v1 < Pn
        · obtain ⟨hq1, kn⟩ := k_more b1 b0 bu bv1 (v := v1) kk (.inr (by rw [hP]; exact cc))
          have cci : 4294967296 * (R : Int) + (v1 : Int) < (Pn : Int) := by omega
          have HP := Lib.hid hP
          clear hP
          by_cases c2 : 4294967296 ≤ R + y1
          · have ee := k_break b1 b0 kn (by omega) c2
            have c2i : (4294967296 : Int) ≤ (R : Int) + (y1 : Int) := by omega
            have EE := Lib.hid (ee.trans dq1.out)
            clear ee
            go_wp2
            go_meet
            exact ⟨by rw [← EE.out]; go_num, rfl⟩
          · have c2i : decide ((4294967296 : Int) ≤ (R : Int) + (y1 : Int)) = false := decide_eq_false (by omega)
            go_wp2
            go_round
            case rel => exact ⟨Q - 1, R + y1, kn, by omega, by go_num, by go_num⟩
            case measure => simp [intOf]; omega
        · have ee := k_done b1 kk (by rw [hP]; omega)
          have cci : decide (4294967296 * (R : Int) + (v1 : Int) < (Pn : Int)) = false := decide_eq_false (by omega)
          have EE := Lib.hid (ee.trans dq1.out)
          clear ee
          have HP := Lib.hid hP
          clear hP
          go_wp2
          go_meet
          exact ⟨by rw [← EE.out], rfl⟩
  case rest =>
    obtain ⟨rfl, rfl⟩ := hcut
    go_upto_block 2 with fail
    go_cut [16, 18] (fun r q wx => q = .int .u64 (q0 : Int) ∧ wx = wc)
    case first =>
      clear eY e1 e0 eA eB eu et ev1 ev0 eqa ema era em1 eu1 eu2 eqb emb erb em0 en0 ed0 er0
      go_wp2_with fail
      go_loop [16, 18] (fun r q => ∃ Q R : Nat, KInv y1 y0 u2 v0 Q R ∧ R < 4294967296 ∧ q = .int .u64 (Q : Int) ∧ r = .int .u64 (R : Int)) (fun _ q => (intOf q).toNat)
      case atStart => exact ⟨qb, rb, kb, by omega, rfl, rfl⟩
      case round =>
        obtain ⟨Q, R, kk, hR, rfl, rfl⟩ := hrel
        have htop := kk.top
        by_cases c1 : 4294967296 ≤ Q
        · obtain ⟨hq1, kn⟩ := k_more b1 b0 bu2 bv0 (v := v0) kk (.inl c1)
          have c1i : (4294967296 : Int) ≤ (Q : Int) := by omega
          by_cases c2 : 4294967296 ≤ R + y1
          · have ee := k_break b1 b0 kn (by omega) c2
            have c2i : (4294967296 : Int) ≤ (R : Int) + (y1 : Int) := by omega
            have EE := Lib.hid (ee.trans dq0.out)
            clear ee
            go_wp2
            go_meet
            exact ⟨by rw [← EE.out]; go_num, rfl⟩
          · have c2i : decide ((4294967296 : Int) ≤ (R : Int) + (y1 : Int)) = false := decide_eq_false (by omega)
            go_wp2
            go_round
            case rel => exact ⟨Q - 1, R + y1, kn, by omega, by go_num, by go_num⟩
            case measure => simp [intOf]; omega
        · obtain ⟨Pn, hP⟩ : ∃ Pn : Nat, Q * y0 = Pn := ⟨_, rfl⟩
          have c1i : decide ((4294967296 : Int) ≤ (Q : Int)) = false := decide_eq_false (by omega)
          have hPb : Pn < 18446744073709551616 := by
            rw [← hP]
            have := Nat.mul_le_mul (show Q ≤ 4294967295 by omega) (show y0 ≤ 4294967295 by omega)
            omega
          have eP := mul_cast Q y0 Pn hP hPb
          by_cases cc : 4294967296 * R + v0 < Pn
          · obtain ⟨hq1, kn⟩ := k_more b1 b0 bu2 bv0 (v := v0) kk (.inr (by rw [hP]; exact cc))
            have cci : 4294967296 * (R : Int) + (v0 : Int) < (Pn : Int) := by omega
            have HP := Lib.hid hP
            clear hP
            by_cases c2 : 4294967296 ≤ R + y1
            · have ee := k_break b1 b0 kn (by omega) c2
              have c2i : (4294967296 : Int) ≤ (R : Int) + (y1 : Int) := by omega
              have EE := Lib.hid (ee.trans dq0.out)
              clear ee
              go_wp2
              go_meet
              exact ⟨by rw [← EE.out]; go_num, rfl⟩
            · have c2i : decide ((4294967296 : Int) ≤ (R : Int) + (y1 : Int)) = false := decide_eq_false (by omega)
              go_wp2
              go_round
              case rel => exact ⟨Q - 1, R + y1, kn, by omega, by go_num, by go_num⟩
              case measure => simp [intOf]; omega
          · have ee := k_done b1 kk (by rw [hP]; omega)
            have cci : decide (4294967296 * (R : Int) + (v0 : Int) < (Pn : Int)) = false := decide_eq_false (by omega)
            have EE := Lib.hid (ee.trans dq0.out)
            clear ee
            have HP := Lib.hid hP
            clear hP
            go_wp2
            go_meet
            exact ⟨by rw [← EE.out], rfl⟩
    case rest =>
      obtain ⟨rfl, rfl⟩ := hcut
      go_wp2
      go_ret2
      exact ⟨rfl, Below.refl _ _⟩
end Go.Proofs.YtpijmjffobkalaaDoor
