/- decimal: numerals; the reference's symbols. -/
import Derived.Test.YtdbgfeeglnpobaaDoorDcW
import Derived.Deep.LoopGhost
import Derived.Deep.DeepCutAuto
import Derived.Deep.CutBlock
set_option linter.unusedVariables false
namespace Go.Proofs.YtdbgfeeglnpobaaDoor
open Go.ChangeShapes Go.WideShapes Go.ChangeAt Go.RowKit

theorem getD_at (s : ByteArray) (k : Nat) (h : k < s.size) (c : UInt8) (hc : s[k] = c) : (by_ s).getD k 0 = c := by
  have : (by_ s)[k]'h = c := hc
  rw [List.getD, List.getElem?_eq_getElem h, Option.getD_some, this]
set_option maxRecDepth 100000 in
set_option maxHeartbeats 1000000 in
theorem numeral_any (s : ByteArray) (hs : s.size ≤ 9223372036854775806) (w : World) : Calls Tryd.prog 43 #[.string s] w fun e w' => e = .returned (.int .i64 (numL (by_ s) : Int)) ∧ w = w' := by
  have HN : Hid (numL (by_ s) = if decide (runA isDig (by_ s) 0 + 1 < s.size) && decide (((by_ s).getD (runA isDig (by_ s) 0) 0).toNat = 46) && isDig ((by_ s).getD (runA isDig (by_ s) 0 + 1) 0) then runA isDig (by_ s) (runA isDig (by_ s) 0 + 1) else runA isDig (by_ s) 0) := Lib.hid rfl
  have hE := (runA_le (p := isDig) (l := by_ s) (Nat.zero_le _)).2
  rw [by_len] at hE
  obtain ⟨E, hE'⟩ : ∃ E, E = runA isDig (by_ s) 0 := ⟨_, rfl⟩
  rw [← hE'] at HN hE
  replace hE' := Lib.hid hE'
  go_enter Tryd.func43, Tryd.ntmps43
  go_upto_block 0 with fail
  go_cut [3] (fun i wn => i = .int .i64 (E : Int) ∧ w = wn)
  case first =>
    go_wp2_with fail
    go_loopg [3] (s.size - 0) (fun g i wr => ∃ k : Nat, 0 ≤ k ∧ k ≤ s.size ∧ i = .int .i64 (k : Int) ∧ Hid (g = s.size - k ∧ runA isDig (by_ s) k = runA isDig (by_ s) 0) ∧ w = wr)
    case atStart => exact ⟨0, Nat.le_refl _, Nat.zero_le _, rfl, Lib.hid ⟨rfl, rfl⟩, rfl⟩
    case round =>
      obtain ⟨k, hak, hk, rfl, hr, rfl⟩ := hrel
      by_cases hlt : k < s.size
      · obtain ⟨c, hc⟩ : ∃ c, s[k] = c := ⟨_, rfl⟩
        have hc' : Hid ((by_ s)[k]'hlt = c) := Lib.hid hc
        have HD : Hid (∀ w, Calls Tryd.prog 42 #[.int .u8 (c.toNat : Int)] w fun e w' => e = .returned (.bool (isDig c)) ∧ w = w') := Lib.hid fun w => digit_any c w
        cases hD : isDig c
        · rw [hD] at HD
          have hw := Lib.hid hD
          clear hD
          go_wp2_with fail
          refine (HD.out _).mono ?_
          rintro e w' ⟨rfl, rfl⟩
          have hR : runA isDig (by_ s) 0 = k := by rw [← hr.out.2]; exact runA_no hlt (by rw [hc'.out]; exact hw.out)
          go_wp2_with fail
          go_meet
          exact ⟨by rw [hE'.out, hR], rfl⟩
        · rw [hD] at HD
          have hw := Lib.hid hD
          clear hD
          go_wp2_with fail
          refine (HD.out _).mono ?_
          rintro e w' ⟨rfl, rfl⟩
          go_wp2_with fail
          go_roundg (s.size - (k + 1))
          case measure => have := hr.out.1; omega
          case rel => exact ⟨k + 1, by omega, by omega, by go_num, Lib.hid ⟨rfl, by rw [runA_yes hlt (by rw [hc'.out]; exact hw.out)]; exact hr.out.2⟩, rfl⟩
      · have hR : runA isDig (by_ s) 0 = k := by rw [← hr.out.2]; exact runA_end (by rw [by_len]; omega)
        go_wp2_with fail
        go_meet
        exact ⟨by rw [hE'.out, hR], rfl⟩

  case rest =>
    obtain ⟨rfl, rfl⟩ := hcut
    by_cases h1 : E + 1 < s.size
    · obtain ⟨c, hc⟩ : ∃ c, s[E] = c := ⟨_, rfl⟩
      obtain ⟨d, hd⟩ : ∃ d, s[E + 1] = d := ⟨_, rfl⟩
      have HD : Hid (∀ w, Calls Tryd.prog 42 #[.int .u8 (d.toNat : Int)] w fun e w' => e = .returned (.bool (isDig d)) ∧ w = w') := Lib.hid fun w => digit_any d w
      have HG := Lib.hid (And.intro (getD_at s E (by omega) c hc) (getD_at s (E + 1) h1 d hd))
      cases h2 : ((c.toNat : Int) == 46)
      · have hF : Hid (numL (by_ s) = E) := Lib.hid (by
          have : ¬ c.toNat = 46 := fun h => by rw [h] at h2; exact absurd h2 (by decide)
          rw [HN.out, HG.out.1]
          simp [this])
        go_wp2_with fail
        go_ret
        exact ⟨by rw [hF.out]; rfl, rfl⟩
      · have h2' : c.toNat = 46 := by have := of_decide_eq_true h2; omega
        cases h3 : isDig d
        · have hF : Hid (numL (by_ s) = E) := Lib.hid (by
            rw [HN.out, HG.out.2, h3]
            simp)
          rw [h3] at HD
          clear h3
          go_wp2_with fail
          refine (HD.out _).mono ?_
          rintro e w' ⟨rfl, rfl⟩
          go_wp2_with fail
          go_ret
          exact ⟨by rw [hF.out]; rfl, rfl⟩
        · have hF : Hid (runA isDig (by_ s) (E + 1) = numL (by_ s)) := Lib.hid (by
            rw [HN.out, HG.out.1, HG.out.2, h3]
            simp [h1, h2'])
          rw [h3] at HD
          clear h3 h2'
          go_wp2_with fail
          refine (HD.out _).mono ?_
          rintro e w' ⟨rfl, rfl⟩
          clear hd hc HG HD h2 HN
          obtain ⟨a, ha⟩ : ∃ a, E + 1 = a := ⟨_, rfl⟩
          have hiE : ((E : Int) + 1) = (a : Int) := by omega
          go_wp2_with fail
          go_loopg [3] (s.size - a) (fun g i wr => ∃ k : Nat, a ≤ k ∧ k ≤ s.size ∧ i = .int .i64 (k : Int) ∧ Hid (g = s.size - k ∧ runA isDig (by_ s) k = numL (by_ s)) ∧ w = wr)
          case atStart => exact ⟨a, Nat.le_refl _, by omega, rfl, Lib.hid ⟨rfl, by rw [← ha]; exact hF.out⟩, rfl⟩
          case round =>
            obtain ⟨k, hak, hk, rfl, hr, rfl⟩ := hrel
            by_cases hlt : k < s.size
            · obtain ⟨c, hc⟩ : ∃ c, s[k] = c := ⟨_, rfl⟩
              have hc' : Hid ((by_ s)[k]'hlt = c) := Lib.hid hc
              have HD : Hid (∀ w, Calls Tryd.prog 42 #[.int .u8 (c.toNat : Int)] w fun e w' => e = .returned (.bool (isDig c)) ∧ w = w') := Lib.hid fun w => digit_any c w
              cases hD : isDig c
              · rw [hD] at HD
                have hw := Lib.hid hD
                clear hD
                go_wp2_with fail
                refine (HD.out _).mono ?_
                rintro e w' ⟨rfl, rfl⟩
                have hR : numL (by_ s) = k := by rw [← hr.out.2]; exact runA_no hlt (by rw [hc'.out]; exact hw.out)
                go_wp2_with fail
                go_ret
                exact ⟨by rw [hR]; rfl, rfl⟩
              · rw [hD] at HD
                have hw := Lib.hid hD
                clear hD
                go_wp2_with fail
                refine (HD.out _).mono ?_
                rintro e w' ⟨rfl, rfl⟩
                go_wp2_with fail
                go_roundg (s.size - (k + 1))
                case measure => have := hr.out.1; omega
                case rel => exact ⟨k + 1, by omega, by omega, by go_num, Lib.hid ⟨rfl, by rw [runA_yes hlt (by rw [hc'.out]; exact hw.out)]; exact hr.out.2⟩, rfl⟩
            · have hR : numL (by_ s) = k := by rw [← hr.out.2]; exact runA_end (by rw [by_len]; omega)
              go_wp2_with fail
              go_ret
              exact ⟨by rw [hR]; rfl, rfl⟩

    · have hF : Hid (numL (by_ s) = E) := Lib.hid (by
        rw [HN.out]
        simp [h1])
      go_wp2_with fail
      go_ret
      exact ⟨by rw [hF.out]; rfl, rfl⟩

end Go.Proofs.YtdbgfeeglnpobaaDoor
