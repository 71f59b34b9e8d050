/- the reference's Decimal: a number's decimal text. -/
import Derived.Test.YtdcfpopbnkafaaaDoorJoB
set_option linter.unusedVariables false
namespace Go.Proofs.YtdcfpopbnkafaaaDoor
open Go.ChangeShapes Go.WideShapes Go.ChangeAt Go.RowKit

open Go.Lib (decDigits itoa)
theorem dec_len (n : Nat) (h : n ≤ 9223372036854775807) : (decDigits n).length ≤ 21 := by
  have := Lib.itoa_length_le (n : Int) (by omega) (by omega)
  rwa [Lib.itoa_nonneg] at this
theorem digit_enc : ∀ r : Fin 10, Utf8.encode (48 + (r.val : Int)) = (⟨#[UInt8.ofNat (48 + r.val)]⟩ : ByteArray) := by decide +kernel
theorem conv_digit (r : Nat) (hr : r < 10) (w : World) : (convert 21 9 (.int .i32 (48 + (r : Int)))).run Tryd.prog w = .ok (.string ⟨#[UInt8.ofNat (48 + r)]⟩) w := by
  have := digit_enc ⟨r, hr⟩
  simp only at this
  simp [convert, run_underlying Tryd.underlying21, run_underlying Tryd.underlying9, Conv.intToString, this]
set_option maxRecDepth 100000 in
set_option maxHeartbeats 1000000 in
theorem dec23_any : ∀ (n : Nat), n ≤ 9223372036854775807 → ∀ w : World, Calls Tryd.prog 48 #[.int .i64 (n : Int)] w fun e w' => e = .returned (.string ⟨(decDigits n).toArray⟩) ∧ w = w' := by
  intro n
  induction n using Nat.strongRecOn with
  | _ n ih =>
  intro hn w
  obtain ⟨q, hq⟩ : ∃ q, n / 10 = q := ⟨_, rfl⟩
  obtain ⟨r, hr⟩ : ∃ r, n % 10 = r := ⟨_, rfl⟩
  have hr9 : r < 10 := by omega
  have e1 : (n : Int) % 10 = (r : Int) := by omega
  have e2 : (n : Int) / 10 = (q : Int) := by omega
  have e3 : Int.tmod (n : Int) 10 = (r : Int) := by rw [Int.tmod_eq_emod_of_nonneg (by omega)]; omega
  have e4 : Int.tdiv (n : Int) 10 = (q : Int) := by rw [Int.tdiv_eq_ediv_of_nonneg (by omega)]; omega
  have e5 : IntKind.i64.wrap (q : Int) = (q : Int) := IntWalk.i64_in _ (by omega)
  have e6 : IntKind.i64.wrap (r : Int) = (r : Int) := IntWalk.i64_in _ (by omega)
  have e7 : IntKind.i64.wrap (48 + (r : Int)) = 48 + (r : Int) := IntWalk.i64_in _ (by omega)
  have e8 : IntKind.i32.wrap (48 + (r : Int)) = 48 + (r : Int) := by rw [IntKind.wrap_i32]; omega
  have cv := conv_digit r hr9
  obtain ⟨d, hd⟩ : ∃ d : ByteArray, (⟨#[UInt8.ofNat (48 + r)]⟩ : ByteArray) = d := ⟨_, rfl⟩
  rw [hd] at cv
  have bd : d.size ≤ 1 := by rw [← hd]; exact Nat.le_refl 1
  by_cases h : n < 10
  · have hE : Hid (d = (⟨(decDigits n).toArray⟩ : ByteArray)) := Lib.hid (by rw [Lib.decDigits_one h, ← hd, show r = n by omega])
    clear ih hd hq hr
    go_enter Tryd.func48, Tryd.ntmps48
    go_wp2_with fail
    go_ret
    exact ⟨by rw [← hE.out]; rfl, rfl⟩
  · have HI := Lib.hid (ih q (by omega) (by omega) w)
    have bl := dec_len q (by omega)
    have hS : Hid ((⟨(decDigits q).toArray⟩ : ByteArray) ++ d = ⟨(decDigits n).toArray⟩) := Lib.hid (by_inj (by
      rw [by_append, mk_by, mk_by, dec_step (n := n) (by omega), hq, hr, ← hd]))
    have bo : (⟨(decDigits q).toArray⟩ : ByteArray).size ≤ 50 := by rw [mk_size]; omega
    generalize (⟨(decDigits q).toArray⟩ : ByteArray) = D at *
    clear ih hd hq hr bl
    go_enter Tryd.func48, Tryd.ntmps48
    go_wp2_with fail
    refine HI.out.mono ?_
    rintro e w1 ⟨rfl, rfl⟩
    go_wp2_with fail
    go_ret
    exact ⟨by rw [← hS.out]; rfl, rfl⟩

end Go.Proofs.YtdcfpopbnkafaaaDoor
