/- Names: decimal.IsName and the reference's. -/
import Derived.Test.YtpocmijfkjjboaaGreatDoorBase
import Derived.Test.YtpocmijfkjjboaaGreatDoorMTok
import Derived.Deep.LoopGhost
import Derived.Deep.DeepCutAuto
import Derived.Deep.CutBlock
import Derived.Lib.Strings
set_option linter.unusedVariables false
namespace Go.Proofs.YtpocmijfkjjboaaGreatDoor
open Go.ChangeShapes Go.WideShapes Go.ChangeAt Go.RowKit

theorem isDig_int (c : UInt8) : isDig c = (decide (48 ≤ (c.toNat : Int)) && decide ((c.toNat : Int) ≤ 57)) := by
  unfold isDig
  congr 1
  · exact decide_eq_decide.2 (by omega)
  · exact decide_eq_decide.2 (by omega)
theorem isLet_int (c : UInt8) : isLet c = (decide (97 ≤ (c.toNat : Int)) && decide ((c.toNat : Int) ≤ 122) || decide (65 ≤ (c.toNat : Int)) && decide ((c.toNat : Int) ≤ 90)) := by
  unfold isLet
  congr 2
  · exact decide_eq_decide.2 (by omega)
  · exact decide_eq_decide.2 (by omega)
  · exact decide_eq_decide.2 (by omega)
  · exact decide_eq_decide.2 (by omega)

theorem digit_any (c : UInt8) (w : World) : Calls Tryz.prog 72 #[.int .u8 (c.toNat : Int)] w fun e w' => e = .returned (.bool (isDig c)) ∧ w = w' := by
  rw [isDig_int]
  generalize (c.toNat : Int) = n
  by_cases h1 : 48 ≤ n <;> by_cases h2 : n ≤ 57 <;> (go_enter Tryz.func72, Tryz.ntmps72; go_wp2; all_goals (go_ret; exact ⟨ret_bool (by simp [*]), rfl⟩))

theorem refDigit_any (c : UInt8) (w : World) : Calls Tryz.prog 81 #[.int .u8 (c.toNat : Int)] w fun e w' => e = .returned (.bool (isDig c)) ∧ w = w' := by
  rw [isDig_int]
  generalize (c.toNat : Int) = n
  by_cases h1 : 48 ≤ n <;> by_cases h2 : n ≤ 57 <;> (go_enter Tryz.func81, Tryz.ntmps81; go_wp2; all_goals (go_ret; exact ⟨ret_bool (by simp [*]), rfl⟩))

theorem letter_any (c : UInt8) (w : World) : Calls Tryz.prog 53 #[.int .u8 (c.toNat : Int)] w fun e w' => e = .returned (.bool (isLet c)) ∧ w = w' := by
  rw [isLet_int]
  generalize (c.toNat : Int) = n
  by_cases h1 : 97 ≤ n <;> by_cases h2 : n ≤ 122 <;> by_cases h3 : 65 ≤ n <;> by_cases h4 : n ≤ 90 <;> (go_enter Tryz.func53, Tryz.ntmps53; go_wp2; all_goals (go_ret; exact ⟨ret_bool (by simp [*]), rfl⟩))

theorem refLetter_any (c : UInt8) (w : World) : Calls Tryz.prog 66 #[.int .u8 (c.toNat : Int)] w fun e w' => e = .returned (.bool (isLet c)) ∧ w = w' := by
  rw [isLet_int]
  generalize (c.toNat : Int) = n
  by_cases h1 : 97 ≤ n <;> by_cases h2 : n ≤ 122 <;> by_cases h3 : 65 ≤ n <;> by_cases h4 : n ≤ 90 <;> (go_enter Tryz.func66, Tryz.ntmps66; go_wp2; all_goals (go_ret; exact ⟨ret_bool (by simp [*]), rfl⟩))


abbrev by_ (s : ByteArray) : List UInt8 := s.data.toList

theorem by_len (s : ByteArray) : (by_ s).length = s.size := rfl
theorem isWrd_of {c : UInt8} (h1 : isLet c = false) (h2 : isDig c = false) (h3 : ((c.toNat : Int) == 95) = false) : isWrd c = false := by
  have : ¬ c.toNat = 95 := fun h => by rw [h] at h3; exact absurd h3 (by decide)
  simp [isWrd, h1, h2, this]
theorem isWrd_u {c : UInt8} (h3 : ((c.toNat : Int) == 95) = true) : isWrd c = true := by
  have : c.toNat = 95 := by have := of_decide_eq_true h3; omega
  simp [isWrd, this]


set_option maxRecDepth 100000 in
set_option maxHeartbeats 1000000 in
theorem word_any (s : ByteArray) (hs : s.size ≤ 9223372036854775806) (w : World) : Calls Tryz.prog 54 #[.string s] w fun e w' => e = .returned (.int .i64 (runL isWrd (by_ s) : Int)) ∧ w = w' := by
  go_enter Tryz.func54, Tryz.ntmps54
  go_wp2
  go_loopg [3] (s.size - 0) (fun g i wr => ∃ k : Nat, 0 ≤ k ∧ k ≤ s.size ∧ i = .int .i64 (k : Int) ∧ Hid (g = s.size - k ∧ runA isWrd (by_ s) k = runL isWrd (by_ s)) ∧ w = wr)
  case atStart => exact ⟨0, Nat.le_refl _, Nat.zero_le _, rfl, Lib.hid ⟨rfl, runA_zero _ _⟩, rfl⟩
  case round =>
    obtain ⟨k, hak, hk, rfl, hr, rfl⟩ := hrel
    by_cases hlt : k < s.size
    · obtain ⟨c, hc⟩ : ∃ c, s[k] = c := ⟨_, rfl⟩
      have hc' : Hid ((by_ s)[k]'hlt = c) := Lib.hid hc
      have HL : Hid (∀ w, Calls Tryz.prog 53 #[.int .u8 (c.toNat : Int)] w fun e w' => e = .returned (.bool (isLet c)) ∧ w = w') := Lib.hid fun w => letter_any c w
      have HD : Hid (∀ w, Calls Tryz.prog 72 #[.int .u8 (c.toNat : Int)] w fun e w' => e = .returned (.bool (isDig c)) ∧ w = w') := Lib.hid fun w => digit_any c w
      cases hL : isLet c
      · rw [hL] at HL
        cases hD : isDig c
        · rw [hD] at HD
          cases hU : ((c.toNat : Int) == 95)
          · have hw := Lib.hid (isWrd_of hL hD hU)
            clear hL hD
            go_wp2_with fail
            refine (HL.out _).mono ?_
            rintro e w' ⟨rfl, rfl⟩
            go_wp2_with fail
            refine (HD.out _).mono ?_
            rintro e w' ⟨rfl, rfl⟩
            have hR : runL isWrd (by_ s) = k := by rw [← hr.out.2]; exact runA_no hlt (by rw [hc'.out]; exact hw.out)
            go_wp2_with fail
            go_ret
            exact ⟨by rw [hR]; rfl, rfl⟩
          · have hw := Lib.hid (isWrd_u hU)
            clear hL hD
            go_wp2_with fail
            refine (HL.out _).mono ?_
            rintro e w' ⟨rfl, rfl⟩
            go_wp2_with fail
            refine (HD.out _).mono ?_
            rintro e w' ⟨rfl, rfl⟩
            go_wp2_with fail
            go_roundg (s.size - (k + 1))
            case measure => have := hr.out.1; omega
            case rel => exact ⟨k + 1, by omega, by omega, by go_num, Lib.hid ⟨rfl, by rw [runA_yes hlt (by rw [hc'.out]; exact hw.out)]; exact hr.out.2⟩, rfl⟩
        · rw [hD] at HD
          have hw : Hid (isWrd c = true) := Lib.hid (by simp [isWrd, hD])
          clear hL hD
          go_wp2_with fail
          refine (HL.out _).mono ?_
          rintro e w' ⟨rfl, rfl⟩
          go_wp2_with fail
          refine (HD.out _).mono ?_
          rintro e w' ⟨rfl, rfl⟩
          go_wp2_with fail
          go_roundg (s.size - (k + 1))
          case measure => have := hr.out.1; omega
          case rel => exact ⟨k + 1, by omega, by omega, by go_num, Lib.hid ⟨rfl, by rw [runA_yes hlt (by rw [hc'.out]; exact hw.out)]; exact hr.out.2⟩, rfl⟩
      · rw [hL] at HL
        have hw : Hid (isWrd c = true) := Lib.hid (by simp [isWrd, hL])
        clear hL
        go_wp2_with fail
        refine (HL.out _).mono ?_
        rintro e w' ⟨rfl, rfl⟩
        go_wp2_with fail
        go_roundg (s.size - (k + 1))
        case measure => have := hr.out.1; omega
        case rel => exact ⟨k + 1, by omega, by omega, by go_num, Lib.hid ⟨rfl, by rw [runA_yes hlt (by rw [hc'.out]; exact hw.out)]; exact hr.out.2⟩, rfl⟩
    · have hR : runL isWrd (by_ s) = k := by rw [← hr.out.2]; exact runA_end (by rw [by_len]; omega)
      go_wp2_with fail
      go_ret
      exact ⟨by rw [hR]; rfl, rfl⟩


set_option maxRecDepth 100000 in
set_option maxHeartbeats 1000000 in
theorem refword_any (s : ByteArray) (a : Nat) (ha : a ≤ s.size) (hs : s.size ≤ 9223372036854775806) (w : World) : Calls Tryz.prog 67 #[.string s, .int .i64 (a : Int)] w fun e w' => e = .returned (.int .i64 (runA isWrd (by_ s) a : Int)) ∧ w = w' := by
  go_enter Tryz.func67, Tryz.ntmps67
  go_wp2
  go_loopg [1] (s.size - a) (fun g i wr => ∃ k : Nat, a ≤ k ∧ k ≤ s.size ∧ i = .int .i64 (k : Int) ∧ Hid (g = s.size - k ∧ runA isWrd (by_ s) k = runA isWrd (by_ s) a) ∧ w = wr)
  case atStart => exact ⟨a, Nat.le_refl _, ha, rfl, Lib.hid ⟨rfl, rfl⟩, rfl⟩
  case round =>
    obtain ⟨k, hak, hk, rfl, hr, rfl⟩ := hrel
    by_cases hlt : k < s.size
    · obtain ⟨c, hc⟩ : ∃ c, s[k] = c := ⟨_, rfl⟩
      have hc' : Hid ((by_ s)[k]'hlt = c) := Lib.hid hc
      have HL : Hid (∀ w, Calls Tryz.prog 66 #[.int .u8 (c.toNat : Int)] w fun e w' => e = .returned (.bool (isLet c)) ∧ w = w') := Lib.hid fun w => refLetter_any c w
      have HD : Hid (∀ w, Calls Tryz.prog 81 #[.int .u8 (c.toNat : Int)] w fun e w' => e = .returned (.bool (isDig c)) ∧ w = w') := Lib.hid fun w => refDigit_any c w
      cases hL : isLet c
      · rw [hL] at HL
        cases hD : isDig c
        · rw [hD] at HD
          cases hU : ((c.toNat : Int) == 95)
          · have hw := Lib.hid (isWrd_of hL hD hU)
            clear hL hD
            go_wp2_with fail
            refine (HL.out _).mono ?_
            rintro e w' ⟨rfl, rfl⟩
            go_wp2_with fail
            refine (HD.out _).mono ?_
            rintro e w' ⟨rfl, rfl⟩
            have hR : runA isWrd (by_ s) a = k := by rw [← hr.out.2]; exact runA_no hlt (by rw [hc'.out]; exact hw.out)
            go_wp2_with fail
            go_ret
            exact ⟨by rw [hR]; rfl, rfl⟩
          · have hw := Lib.hid (isWrd_u hU)
            clear hL hD
            go_wp2_with fail
            refine (HL.out _).mono ?_
            rintro e w' ⟨rfl, rfl⟩
            go_wp2_with fail
            refine (HD.out _).mono ?_
            rintro e w' ⟨rfl, rfl⟩
            go_wp2_with fail
            go_roundg (s.size - (k + 1))
            case measure => have := hr.out.1; omega
            case rel => exact ⟨k + 1, by omega, by omega, by go_num, Lib.hid ⟨rfl, by rw [runA_yes hlt (by rw [hc'.out]; exact hw.out)]; exact hr.out.2⟩, rfl⟩
        · rw [hD] at HD
          have hw : Hid (isWrd c = true) := Lib.hid (by simp [isWrd, hD])
          clear hL hD
          go_wp2_with fail
          refine (HL.out _).mono ?_
          rintro e w' ⟨rfl, rfl⟩
          go_wp2_with fail
          refine (HD.out _).mono ?_
          rintro e w' ⟨rfl, rfl⟩
          go_wp2_with fail
          go_roundg (s.size - (k + 1))
          case measure => have := hr.out.1; omega
          case rel => exact ⟨k + 1, by omega, by omega, by go_num, Lib.hid ⟨rfl, by rw [runA_yes hlt (by rw [hc'.out]; exact hw.out)]; exact hr.out.2⟩, rfl⟩
      · rw [hL] at HL
        have hw : Hid (isWrd c = true) := Lib.hid (by simp [isWrd, hL])
        clear hL
        go_wp2_with fail
        refine (HL.out _).mono ?_
        rintro e w' ⟨rfl, rfl⟩
        go_wp2_with fail
        go_roundg (s.size - (k + 1))
        case measure => have := hr.out.1; omega
        case rel => exact ⟨k + 1, by omega, by omega, by go_num, Lib.hid ⟨rfl, by rw [runA_yes hlt (by rw [hc'.out]; exact hw.out)]; exact hr.out.2⟩, rfl⟩
    · have hR : runA isWrd (by_ s) a = k := by rw [← hr.out.2]; exact runA_end (by rw [by_len]; omega)
      go_wp2_with fail
      go_ret
      exact ⟨by rw [hR]; rfl, rfl⟩


theorem ne_of (s : ByteArray) (h : 0 < s.size) : s.toList.isEmpty = false := by
  rw [Lib.toList_data]
  cases e : s.data.toList with
  | nil => rw [Lib.size_eq, e] at h; simp at h
  | cons _ _ => rfl

theorem em_of (s : ByteArray) (h : s.size = 0) : s.toList.isEmpty = true := by
  rw [Lib.toList_data, List.isEmpty_iff]
  exact List.length_eq_zero_iff.1 (by rw [← Lib.size_eq]; exact h)

theorem drop_head (s : ByteArray) (i : Nat) (h : i < s.size) (c : UInt8) (hc : s[i] = c) : ((by_ s).drop i).headD 0 = c ∧ (by_ s).drop i ≠ [] := by
  have e : (by_ s).drop i = (by_ s)[i]'h :: (by_ s).drop (i + 1) := List.drop_eq_getElem_cons h
  have : (by_ s)[i]'h = c := hc
  rw [e, this]
  exact ⟨rfl, by simp⟩

def nameB (l : List UInt8) : Bool := !l.isEmpty && decide (l.length ≤ 20) && isLet (l.headD 0) && decide (runL isWrd l = l.length)

set_option maxRecDepth 100000 in
set_option maxHeartbeats 1000000 in
theorem isName_any (s : ByteArray) (hs : s.size ≤ 9223372036854775806) (w : World) :
    Calls Tryz.prog 34 #[.string s] w fun e w' => e = .returned (.bool (nameB (by_ s))) ∧ w = w' := by
  obtain ⟨b, hb⟩ : ∃ b, nameB (by_ s) = b := ⟨_, rfl⟩
  rw [hb]
  unfold nameB at hb
  by_cases h0 : s.size = 0
  · have hE : Hid (b = false) := Lib.hid (by
      have : by_ s = [] := List.length_eq_zero_iff.1 (by rw [by_len]; exact h0)
      rw [← hb, this]; rfl)
    have em := em_of s h0
    clear hb
    go_enter Tryz.func34, Tryz.ntmps34
    go_wp2_with fail
    go_ret
    exact ⟨by rw [hE.out]; rfl, rfl⟩

  have hp : 0 < s.size := Nat.pos_of_ne_zero h0
  have ne := ne_of s hp
  have hl : (by_ s).length = s.size := rfl
  have hne : (by_ s).isEmpty = false := by rw [← ne, Lib.toList_data]
  rw [hne, hl] at hb
  by_cases h1 : s.size ≤ 20
  · obtain ⟨c, hc⟩ : ∃ c, s[0]'hp = c := ⟨_, rfl⟩
    have hhd := (drop_head s 0 hp c hc).1
    rw [List.drop_zero] at hhd
    rw [hhd] at hb
    have z1 : ((s.size : Int) == 0) = false := by rw [beq_eq_false_iff_ne]; omega
    have z2 : decide ((20 : Int) < (s.size : Int)) = false := by simp; omega
    have HL := Lib.hid (fun w => letter_any c w)
    cases hL : isLet c
    · have hE : Hid (b = false) := Lib.hid (by rw [← hb, hL]; simp)
      rw [hL] at HL
      clear hb hL hhd hne hl
      go_enter Tryz.func34, Tryz.ntmps34
      go_wp2_with fail
      refine (HL.out _).mono ?_
      rintro e w' ⟨rfl, rfl⟩
      go_wp2_with fail
      go_ret
      exact ⟨by rw [hE.out]; rfl, rfl⟩

    · rw [hL] at HL
      have HW := Lib.hid (fun w => word_any s hs w)
      have hw := runL_le isWrd (by_ s)
      rw [hl] at hw
      by_cases h2 : runL isWrd (by_ s) = s.size
      · have hE : Hid (b = true) := Lib.hid (by rw [← hb, hL, h2]; simp [h1])
        rw [h2] at HW
        clear hb hL hhd hne hl hw
        go_enter Tryz.func34, Tryz.ntmps34
        go_wp2_with fail
        refine (HL.out _).mono ?_
        rintro e w' ⟨rfl, rfl⟩
        go_wp2_with fail
        refine (HW.out _).mono ?_
        rintro e w' ⟨rfl, rfl⟩
        go_wp2_with fail
        go_ret
        exact ⟨by rw [hE.out]; rfl, rfl⟩

      · have hE : Hid (b = false) := Lib.hid (by rw [← hb]; simp [h2])
        generalize runL isWrd (by_ s) = M at *
        have h3 : ¬ (M : Int) = (s.size : Int) := by omega
        have h4 : ((M : Int) == (s.size : Int)) = false := by simpa using h3
        clear hb hL hhd hne hl hw h2
        go_enter Tryz.func34, Tryz.ntmps34
        go_wp2_with fail
        refine (HL.out _).mono ?_
        rintro e w' ⟨rfl, rfl⟩
        go_wp2_with fail
        refine (HW.out _).mono ?_
        rintro e w' ⟨rfl, rfl⟩
        go_wp2_with fail
        go_ret
        exact ⟨by rw [hE.out]; rfl, rfl⟩

  · have hE : Hid (b = false) := Lib.hid (by rw [← hb]; simp [h1])
    have z1 : ((s.size : Int) == 0) = false := by rw [beq_eq_false_iff_ne]; omega
    have z2 : decide ((20 : Int) < (s.size : Int)) = true := by simp; omega
    clear hb hne hl
    go_enter Tryz.func34, Tryz.ntmps34
    go_wp2_with fail
    go_ret
    exact ⟨by rw [hE.out]; rfl, rfl⟩


set_option maxRecDepth 100000 in
set_option maxHeartbeats 1000000 in
theorem refisName_any (s : ByteArray) (hs : s.size ≤ 9223372036854775806) (w : World) :
    Calls Tryz.prog 47 #[.string s] w fun e w' => e = .returned (.bool (nameB (by_ s))) ∧ w = w' := by
  obtain ⟨b, hb⟩ : ∃ b, nameB (by_ s) = b := ⟨_, rfl⟩
  rw [hb]
  unfold nameB at hb
  by_cases h0 : s.size = 0
  · have hE : Hid (b = false) := Lib.hid (by
      have : by_ s = [] := List.length_eq_zero_iff.1 (by rw [by_len]; exact h0)
      rw [← hb, this]; rfl)
    have em := em_of s h0
    clear hb
    go_enter Tryz.func47, Tryz.ntmps47
    go_wp2_with fail
    go_ret
    exact ⟨by rw [hE.out]; rfl, rfl⟩

  have hp : 0 < s.size := Nat.pos_of_ne_zero h0
  have ne := ne_of s hp
  have hl : (by_ s).length = s.size := rfl
  have hne : (by_ s).isEmpty = false := by rw [← ne, Lib.toList_data]
  rw [hne, hl] at hb
  by_cases h1 : s.size ≤ 20
  · obtain ⟨c, hc⟩ : ∃ c, s[0]'hp = c := ⟨_, rfl⟩
    have hhd := (drop_head s 0 hp c hc).1
    rw [List.drop_zero] at hhd
    rw [hhd] at hb
    have z1 : ((s.size : Int) == 0) = false := by rw [beq_eq_false_iff_ne]; omega
    have z2 : decide ((20 : Int) < (s.size : Int)) = false := by simp; omega
    have HL := Lib.hid (fun w => refLetter_any c w)
    cases hL : isLet c
    · have hE : Hid (b = false) := Lib.hid (by rw [← hb, hL]; simp)
      rw [hL] at HL
      clear hb hL hhd hne hl
      go_enter Tryz.func47, Tryz.ntmps47
      go_wp2_with fail
      refine (HL.out _).mono ?_
      rintro e w' ⟨rfl, rfl⟩
      go_wp2_with fail
      go_ret
      exact ⟨by rw [hE.out]; rfl, rfl⟩

    · rw [hL] at HL
      have HW := Lib.hid (fun w => by have := refword_any s 0 (Nat.zero_le _) hs w; rw [runA_zero, Int.natCast_zero] at this; exact this)
      have hw := runL_le isWrd (by_ s)
      rw [hl] at hw
      by_cases h2 : runL isWrd (by_ s) = s.size
      · have hE : Hid (b = true) := Lib.hid (by rw [← hb, hL, h2]; simp [h1])
        rw [h2] at HW
        clear hb hL hhd hne hl hw
        go_enter Tryz.func47, Tryz.ntmps47
        go_wp2_with fail
        refine (HL.out _).mono ?_
        rintro e w' ⟨rfl, rfl⟩
        go_wp2_with fail
        refine (HW.out _).mono ?_
        rintro e w' ⟨rfl, rfl⟩
        go_wp2_with fail
        go_ret
        exact ⟨by rw [hE.out]; rfl, rfl⟩

      · have hE : Hid (b = false) := Lib.hid (by rw [← hb]; simp [h2])
        generalize runL isWrd (by_ s) = M at *
        have h3 : ¬ (M : Int) = (s.size : Int) := by omega
        have h4 : ((M : Int) == (s.size : Int)) = false := by simpa using h3
        clear hb hL hhd hne hl hw h2
        go_enter Tryz.func47, Tryz.ntmps47
        go_wp2_with fail
        refine (HL.out _).mono ?_
        rintro e w' ⟨rfl, rfl⟩
        go_wp2_with fail
        refine (HW.out _).mono ?_
        rintro e w' ⟨rfl, rfl⟩
        go_wp2_with fail
        go_ret
        exact ⟨by rw [hE.out]; rfl, rfl⟩

  · have hE : Hid (b = false) := Lib.hid (by rw [← hb]; simp [h1])
    have z1 : ((s.size : Int) == 0) = false := by rw [beq_eq_false_iff_ne]; omega
    have z2 : decide ((20 : Int) < (s.size : Int)) = true := by simp; omega
    clear hb hne hl
    go_enter Tryz.func47, Tryz.ntmps47
    go_wp2_with fail
    go_ret
    exact ⟨by rw [hE.out]; rfl, rfl⟩


end Go.Proofs.YtpocmijfkjjboaaGreatDoor
