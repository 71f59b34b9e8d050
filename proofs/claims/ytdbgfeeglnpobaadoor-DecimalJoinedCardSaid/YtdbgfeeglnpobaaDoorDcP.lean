/- decimal.Parse. -/
import Derived.Test.YtdbgfeeglnpobaaDoorMPar
import Derived.Test.YtdbgfeeglnpobaaDoorDcH
import Derived.Test.YtdbgfeeglnpobaaDoorDcT
import Derived.Deep.LoopGhost
import Derived.Deep.DeepCutAuto
import Derived.Deep.CutBlock
import Derived.Lib.ConvBytes
import Derived.Lib.AtoiErrMem
set_option linter.unusedVariables false
namespace Go.Proofs.YtdbgfeeglnpobaaDoor
open Go.ChangeShapes Go.WideShapes Go.ChangeAt Go.RowKit

set_option maxRecDepth 100000 in
set_option maxHeartbeats 1000000 in
theorem all_any (s : ByteArray) (hs : s.size ≤ 9223372036854775806) (w : World) :
    Calls Tryd.prog 38 #[.string s] w fun e w' => e = .returned (.bool (allD (by_ s))) ∧ w = w' := by
  obtain ⟨b, hb⟩ : ∃ b, allD (by_ s) = b := ⟨_, rfl⟩
  rw [hb]
  replace hb := Lib.hid hb
  go_enter Tryd.func38, Tryd.ntmps38
  go_wp2_with fail
  go_loopg [6] s.size (fun g i wr => ∃ k : Nat, k ≤ s.size ∧ i = .int .i64 (k : Int) ∧ Hid (g = s.size - k ∧ ((by_ s).take k).all isDig = true) ∧ w = wr)
  case atStart => exact ⟨0, Nat.zero_le _, rfl, Lib.hid ⟨rfl, rfl⟩, rfl⟩
  case round =>
    obtain ⟨k, hk, rfl, hr, rfl⟩ := hrel
    by_cases hlt : k < s.size
    · obtain ⟨c, hc⟩ : ∃ c, s[k] = c := ⟨_, rfl⟩
      have hc' : Hid ((by_ s)[k]'hlt = c) := Lib.hid hc
      have HD : Hid (∀ w, Calls Tryd.prog 42 #[.int .u8 (c.toNat : Int)] w fun e w' => e = .returned (.bool (isDig c)) ∧ w = w') := Lib.hid fun w => digit_any c w
      cases hD : isDig c
      · rw [hD] at HD
        have hE : Hid (b = false) := Lib.hid (by
          rw [← hb.out]
          unfold allD
          cases hall : (by_ s).all isDig
          · simp
          · have := all_take isDig hall k hlt
            rw [hc'.out, hD] at this
            exact absurd this (by decide))
        clear hD
        go_wp2_with fail
        refine (HD.out _).mono ?_
        rintro e w' ⟨rfl, rfl⟩
        go_wp2_with fail
        go_ret
        exact ⟨by rw [hE.out]; rfl, rfl⟩
      · rw [hD] at HD
        replace hD := Lib.hid hD
        go_wp2_with fail
        refine (HD.out _).mono ?_
        rintro e w' ⟨rfl, rfl⟩
        go_wp2_with fail
        go_roundg (s.size - (k + 1))
        case measure => have := hr.out.1; omega
        case rel =>
          refine ⟨k + 1, by omega, by go_num, Lib.hid ⟨rfl, ?_⟩, rfl⟩
          rw [List.take_succ_eq_append_getElem (show k < (by_ s).length from hlt), List.all_append, hr.out.2, hc'.out]
          simp [hD.out]
    · have hE : Hid (b = !(by_ s).isEmpty) := Lib.hid (by
        rw [← hb.out]
        have := hr.out.2
        rw [List.take_of_length_le (by rw [by_len]; omega)] at this
        simp [allD, this])
      have he : s.toList.isEmpty = (by_ s).isEmpty := by rw [Lib.toList_data]
      by_cases h0 : s.size = 0
      · have e0 := em_of s h0
        rw [e0] at he
        replace hE : Hid (b = false) := Lib.hid (by rw [hE.out, ← he]; rfl)
        clear he
        go_wp2_with fail
        go_ret
        exact ⟨by rw [hE.out]; rfl, rfl⟩
      · have e0 := ne_of s (by omega)
        rw [e0] at he
        replace hE : Hid (b = true) := Lib.hid (by rw [hE.out, ← he]; rfl)
        clear he
        go_wp2_with fail
        go_ret
        exact ⟨by rw [hE.out]; rfl, rfl⟩

set_option maxRecDepth 100000 in
theorem lcut_any (s : ByteArray) (hs : s.size ≤ 1000000) (w : World) :
    Calls Tryd.prog 58 #[.string s, .string ⟨#[46]⟩] w fun e w' => e = .returned (.tuple #[.string ⟨(cutD (by_ s)).1.toArray⟩, .string ⟨(cutD (by_ s)).2.1.toArray⟩, .bool (cutD (by_ s)).2.2]) ∧ Below w.heap.size w w' := by
  have HI : Hid (∀ w, Calls Tryd.prog 70 #[.string s, .string ⟨#[46]⟩] w fun e w' => e = .returned (.int .i64 (Lib.indexByte (by_ s) 46)) ∧ w = w') := Lib.hid fun w => (Tryd.stringslite_Index_one s 46 w).mono fun _ _ ⟨a, b⟩ => ⟨a, b.symm⟩
  have hb := idx_bd (by_ s) 46
  have hg := Lib.indexByte_ge (by_ s) 46
  have hl : (by_ s).length = s.size := rfl
  rw [hl] at hb
  unfold cutD
  generalize Lib.indexByte (by_ s) 46 = i at *
  clear hl
  by_cases h : i < 0
  · rw [if_pos h]
    have hm : (⟨(by_ s).toArray⟩ : ByteArray) = s := by_mk s
    rw [show (((by_ s), [], false) : List UInt8 × List UInt8 × Bool).1 = by_ s from rfl, hm]
    show Calls Tryd.prog 58 #[.string s, .string ⟨#[46]⟩] w fun e w' => e = .returned (.tuple #[.string s, .string ⟨#[]⟩, .bool false]) ∧ Below w.heap.size w w'
    clear hm
    go_enter Tryd.func58, Tryd.ntmps58
    go_wp2_with fail
    refine (HI.out _).mono ?_
    rintro e w' ⟨rfl, rfl⟩
    go_wp2_with fail
    go_ret3
    exact ⟨rfl, Below.refl _ _⟩
  · rw [if_neg h]
    obtain ⟨j, rfl⟩ : ∃ j : Nat, i = (j : Int) := ⟨i.toNat, by omega⟩
    rw [Int.toNat_natCast, ← by_take, ← by_drop]
    show Calls Tryd.prog 58 #[.string s, .string ⟨#[46]⟩] w fun e w' => e = .returned (.tuple #[.string ⟨(by_ (s.extract 0 j)).toArray⟩, .string ⟨(by_ (s.extract (j + 1) s.size)).toArray⟩, .bool true]) ∧ Below w.heap.size w w'
    rw [by_mk, by_mk]
    have q1 : (j : Int) ≤ (s.size : Int) := by omega
    have q2 : (j : Int) + 1 ≤ (s.size : Int) := by omega
    go_enter Tryd.func58, Tryd.ntmps58
    go_wp2_with fail
    refine (HI.out _).mono ?_
    rintro e w' ⟨rfl, rfl⟩
    go_upto_region 3 with fail
    go_region
    go_wp2_with fail
    go_ret3
    exact ⟨rfl, (by repeat (first | with_reducible assumption | with_reducible exact Below.refl _ _ | with_reducible refine below_al ?_ _ | with_reducible refine below_drew ?_ | with_reducible refine below_drewN ?_ _ | with_reducible refine below_set ?_ (by dsimp only; omega) _))⟩
set_option maxRecDepth 100000 in
theorem cut_any (s : ByteArray) (hs : s.size ≤ 1000000) (w : World) :
    Calls Tryd.prog 37 #[.string s, .string ⟨#[46]⟩] w fun e w' => e = .returned (.tuple #[.string ⟨(cutD (by_ s)).1.toArray⟩, .string ⟨(cutD (by_ s)).2.1.toArray⟩, .bool (cutD (by_ s)).2.2]) ∧ Below w.heap.size w w' := by
  have HL := Lib.hid (fun w => lcut_any s hs w)
  generalize cutD (by_ s) = r at *
  go_enter Tryd.func37, Tryd.ntmps37
  go_wp2_with fail
  refine (HL.out _).mono ?_
  rintro e w' ⟨rfl, HB⟩
  go_wp2_with fail
  go_ret3
  exact ⟨rfl, HB⟩

end Go.Proofs.YtdbgfeeglnpobaaDoor
