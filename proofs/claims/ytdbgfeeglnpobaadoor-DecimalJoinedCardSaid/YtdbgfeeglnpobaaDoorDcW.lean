/- decimal: words and numerals; the reference's. -/
import Derived.Test.YtdbgfeeglnpobaaDoorDcA
import Derived.Deep.LoopGhost
import Derived.Deep.DeepCutAuto
import Derived.Deep.CutBlock
set_option linter.unusedVariables false
namespace Go.Proofs.YtdbgfeeglnpobaaDoor
open Go.ChangeShapes Go.WideShapes Go.ChangeAt Go.RowKit

abbrev by_ (s : ByteArray) : List UInt8 := s.data.toList
theorem by_len (s : ByteArray) : (by_ s).length = s.size := rfl
theorem isWrd_of {c : UInt8} (h1 : isLet c = false) (h2 : isDig c = false) (h3 : ((c.toNat : Int) == 95) = false) : isWrd c = false := by
  have : ¬ c.toNat = 95 := fun h => by rw [h] at h3; exact absurd h3 (by decide)
  simp [isWrd, h1, h2, this]
theorem isWrd_u {c : UInt8} (h3 : ((c.toNat : Int) == 95) = true) : isWrd c = true := by
  have : c.toNat = 95 := by have := of_decide_eq_true h3; omega
  simp [isWrd, this]

set_option maxRecDepth 100000 in
set_option maxHeartbeats 1000000 in
theorem word_any (s : ByteArray) (hs : s.size ≤ 9223372036854775806) (w : World) : Calls Tryd.prog 41 #[.string s] w fun e w' => e = .returned (.int .i64 (runL isWrd (by_ s) : Int)) ∧ w = w' := by
  go_enter Tryd.func41, Tryd.ntmps41
  go_wp2
  go_loopg [3] (s.size - 0) (fun g i wr => ∃ k : Nat, 0 ≤ k ∧ k ≤ s.size ∧ i = .int .i64 (k : Int) ∧ Hid (g = s.size - k ∧ runA isWrd (by_ s) k = runL isWrd (by_ s)) ∧ w = wr)
  case atStart => exact ⟨0, Nat.le_refl _, Nat.zero_le _, rfl, Lib.hid ⟨rfl, runA_zero _ _⟩, rfl⟩
  case round =>
    obtain ⟨k, hak, hk, rfl, hr, rfl⟩ := hrel
    by_cases hlt : k < s.size
    · obtain ⟨c, hc⟩ : ∃ c, s[k] = c := ⟨_, rfl⟩
      have hc' : Hid ((by_ s)[k]'hlt = c) := Lib.hid hc
      have HL : Hid (∀ w, Calls Tryd.prog 40 #[.int .u8 (c.toNat : Int)] w fun e w' => e = .returned (.bool (isLet c)) ∧ w = w') := Lib.hid fun w => letter_any c w
      have HD : Hid (∀ w, Calls Tryd.prog 42 #[.int .u8 (c.toNat : Int)] w fun e w' => e = .returned (.bool (isDig c)) ∧ w = w') := Lib.hid fun w => digit_any c w
      cases hL : isLet c
      · rw [hL] at HL
        cases hD : isDig c
        · rw [hD] at HD
          cases hU : ((c.toNat : Int) == 95)
          · have hw := Lib.hid (isWrd_of hL hD hU)
            clear hL hD
            go_wp2_with fail
            refine (HL.out _).mono ?_
            rintro e w' ⟨rfl, rfl⟩
            go_wp2_with fail
            refine (HD.out _).mono ?_
            rintro e w' ⟨rfl, rfl⟩
            have hR : runL isWrd (by_ s) = k := by rw [← hr.out.2]; exact runA_no hlt (by rw [hc'.out]; exact hw.out)
            go_wp2_with fail
            go_ret
            exact ⟨by rw [hR]; rfl, rfl⟩
          · have hw := Lib.hid (isWrd_u hU)
            clear hL hD
            go_wp2_with fail
            refine (HL.out _).mono ?_
            rintro e w' ⟨rfl, rfl⟩
            go_wp2_with fail
            refine (HD.out _).mono ?_
            rintro e w' ⟨rfl, rfl⟩
            go_wp2_with fail
            go_roundg (s.size - (k + 1))
            case measure => have := hr.out.1; omega
            case rel => exact ⟨k + 1, by omega, by omega, by go_num, Lib.hid ⟨rfl, by rw [runA_yes hlt (by rw [hc'.out]; exact hw.out)]; exact hr.out.2⟩, rfl⟩
        · rw [hD] at HD
          have hw : Hid (isWrd c = true) := Lib.hid (by simp [isWrd, hD])
          clear hL hD
          go_wp2_with fail
          refine (HL.out _).mono ?_
          rintro e w' ⟨rfl, rfl⟩
          go_wp2_with fail
          refine (HD.out _).mono ?_
          rintro e w' ⟨rfl, rfl⟩
          go_wp2_with fail
          go_roundg (s.size - (k + 1))
          case measure => have := hr.out.1; omega
          case rel => exact ⟨k + 1, by omega, by omega, by go_num, Lib.hid ⟨rfl, by rw [runA_yes hlt (by rw [hc'.out]; exact hw.out)]; exact hr.out.2⟩, rfl⟩
      · rw [hL] at HL
        have hw : Hid (isWrd c = true) := Lib.hid (by simp [isWrd, hL])
        clear hL
        go_wp2_with fail
        refine (HL.out _).mono ?_
        rintro e w' ⟨rfl, rfl⟩
        go_wp2_with fail
        go_roundg (s.size - (k + 1))
        case measure => have := hr.out.1; omega
        case rel => exact ⟨k + 1, by omega, by omega, by go_num, Lib.hid ⟨rfl, by rw [runA_yes hlt (by rw [hc'.out]; exact hw.out)]; exact hr.out.2⟩, rfl⟩
    · have hR : runL isWrd (by_ s) = k := by rw [← hr.out.2]; exact runA_end (by rw [by_len]; omega)
      go_wp2_with fail
      go_ret
      exact ⟨by rw [hR]; rfl, rfl⟩

set_option maxRecDepth 100000 in
set_option maxHeartbeats 1000000 in
theorem refword_any (s : ByteArray) (a : Nat) (ha : a ≤ s.size) (hs : s.size ≤ 9223372036854775806) (w : World) : Calls Tryd.prog 53 #[.string s, .int .i64 (a : Int)] w fun e w' => e = .returned (.int .i64 (runA isWrd (by_ s) a : Int)) ∧ w = w' := by
  go_enter Tryd.func53, Tryd.ntmps53
  go_wp2
  go_loopg [1] (s.size - a) (fun g i wr => ∃ k : Nat, a ≤ k ∧ k ≤ s.size ∧ i = .int .i64 (k : Int) ∧ Hid (g = s.size - k ∧ runA isWrd (by_ s) k = runA isWrd (by_ s) a) ∧ w = wr)
  case atStart => exact ⟨a, Nat.le_refl _, ha, rfl, Lib.hid ⟨rfl, rfl⟩, rfl⟩
  case round =>
    obtain ⟨k, hak, hk, rfl, hr, rfl⟩ := hrel
    by_cases hlt : k < s.size
    · obtain ⟨c, hc⟩ : ∃ c, s[k] = c := ⟨_, rfl⟩
      have hc' : Hid ((by_ s)[k]'hlt = c) := Lib.hid hc
      have HL : Hid (∀ w, Calls Tryd.prog 52 #[.int .u8 (c.toNat : Int)] w fun e w' => e = .returned (.bool (isLet c)) ∧ w = w') := Lib.hid fun w => refLetter_any c w
      have HD : Hid (∀ w, Calls Tryd.prog 39 #[.int .u8 (c.toNat : Int)] w fun e w' => e = .returned (.bool (isDig c)) ∧ w = w') := Lib.hid fun w => refDigit_any c w
      cases hL : isLet c
      · rw [hL] at HL
        cases hD : isDig c
        · rw [hD] at HD
          cases hU : ((c.toNat : Int) == 95)
          · have hw := Lib.hid (isWrd_of hL hD hU)
            clear hL hD
            go_wp2_with fail
            refine (HL.out _).mono ?_
            rintro e w' ⟨rfl, rfl⟩
            go_wp2_with fail
            refine (HD.out _).mono ?_
            rintro e w' ⟨rfl, rfl⟩
            have hR : runA isWrd (by_ s) a = k := by rw [← hr.out.2]; exact runA_no hlt (by rw [hc'.out]; exact hw.out)
            go_wp2_with fail
            go_ret
            exact ⟨by rw [hR]; rfl, rfl⟩
          · have hw := Lib.hid (isWrd_u hU)
            clear hL hD
            go_wp2_with fail
            refine (HL.out _).mono ?_
            rintro e w' ⟨rfl, rfl⟩
            go_wp2_with fail
            refine (HD.out _).mono ?_
            rintro e w' ⟨rfl, rfl⟩
            go_wp2_with fail
            go_roundg (s.size - (k + 1))
            case measure => have := hr.out.1; omega
            case rel => exact ⟨k + 1, by omega, by omega, by go_num, Lib.hid ⟨rfl, by rw [runA_yes hlt (by rw [hc'.out]; exact hw.out)]; exact hr.out.2⟩, rfl⟩
        · rw [hD] at HD
          have hw : Hid (isWrd c = true) := Lib.hid (by simp [isWrd, hD])
          clear hL hD
          go_wp2_with fail
          refine (HL.out _).mono ?_
          rintro e w' ⟨rfl, rfl⟩
          go_wp2_with fail
          refine (HD.out _).mono ?_
          rintro e w' ⟨rfl, rfl⟩
          go_wp2_with fail
          go_roundg (s.size - (k + 1))
          case measure => have := hr.out.1; omega
          case rel => exact ⟨k + 1, by omega, by omega, by go_num, Lib.hid ⟨rfl, by rw [runA_yes hlt (by rw [hc'.out]; exact hw.out)]; exact hr.out.2⟩, rfl⟩
      · rw [hL] at HL
        have hw : Hid (isWrd c = true) := Lib.hid (by simp [isWrd, hL])
        clear hL
        go_wp2_with fail
        refine (HL.out _).mono ?_
        rintro e w' ⟨rfl, rfl⟩
        go_wp2_with fail
        go_roundg (s.size - (k + 1))
        case measure => have := hr.out.1; omega
        case rel => exact ⟨k + 1, by omega, by omega, by go_num, Lib.hid ⟨rfl, by rw [runA_yes hlt (by rw [hc'.out]; exact hw.out)]; exact hr.out.2⟩, rfl⟩
    · have hR : runA isWrd (by_ s) a = k := by rw [← hr.out.2]; exact runA_end (by rw [by_len]; omega)
      go_wp2_with fail
      go_ret
      exact ⟨by rw [hR]; rfl, rfl⟩

set_option maxRecDepth 100000 in
set_option maxHeartbeats 1000000 in
theorem reffigures_any (s : ByteArray) (a : Nat) (ha : a ≤ s.size) (hs : s.size ≤ 9223372036854775806) (w : World) : Calls Tryd.prog 64 #[.string s, .int .i64 (a : Int)] w fun e w' => e = .returned (.int .i64 (runA isDig (by_ s) a : Int)) ∧ w = w' := by
  go_enter Tryd.func64, Tryd.ntmps64
  go_wp2
  go_loopg [1] (s.size - a) (fun g i wr => ∃ k : Nat, a ≤ k ∧ k ≤ s.size ∧ i = .int .i64 (k : Int) ∧ Hid (g = s.size - k ∧ runA isDig (by_ s) k = runA isDig (by_ s) a) ∧ w = wr)
  case atStart => exact ⟨a, Nat.le_refl _, ha, rfl, Lib.hid ⟨rfl, rfl⟩, rfl⟩
  case round =>
    obtain ⟨k, hak, hk, rfl, hr, rfl⟩ := hrel
    by_cases hlt : k < s.size
    · obtain ⟨c, hc⟩ : ∃ c, s[k] = c := ⟨_, rfl⟩
      have hc' : Hid ((by_ s)[k]'hlt = c) := Lib.hid hc
      have HD : Hid (∀ w, Calls Tryd.prog 39 #[.int .u8 (c.toNat : Int)] w fun e w' => e = .returned (.bool (isDig c)) ∧ w = w') := Lib.hid fun w => refDigit_any c w
      cases hD : isDig c
      · rw [hD] at HD
        have hw := Lib.hid hD
        clear hD
        go_wp2_with fail
        refine (HD.out _).mono ?_
        rintro e w' ⟨rfl, rfl⟩
        have hR : runA isDig (by_ s) a = k := by rw [← hr.out.2]; exact runA_no hlt (by rw [hc'.out]; exact hw.out)
        go_wp2_with fail
        go_ret
        exact ⟨by rw [hR]; rfl, rfl⟩
      · rw [hD] at HD
        have hw := Lib.hid hD
        clear hD
        go_wp2_with fail
        refine (HD.out _).mono ?_
        rintro e w' ⟨rfl, rfl⟩
        go_wp2_with fail
        go_roundg (s.size - (k + 1))
        case measure => have := hr.out.1; omega
        case rel => exact ⟨k + 1, by omega, by omega, by go_num, Lib.hid ⟨rfl, by rw [runA_yes hlt (by rw [hc'.out]; exact hw.out)]; exact hr.out.2⟩, rfl⟩
    · have hR : runA isDig (by_ s) a = k := by rw [← hr.out.2]; exact runA_end (by rw [by_len]; omega)
      go_wp2_with fail
      go_ret
      exact ⟨by rw [hR]; rfl, rfl⟩

end Go.Proofs.YtdbgfeeglnpobaaDoor
