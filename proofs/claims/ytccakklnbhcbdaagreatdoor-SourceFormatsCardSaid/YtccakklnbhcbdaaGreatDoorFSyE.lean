import Derived.Test.YtccakklnbhcbdaaGreatDoorFQj
import Derived.Test.YtccakklnbhcbdaaGreatDoorFQb
set_option linter.unusedVariables false
set_option linter.unusedSimpArgs false
namespace Go.Proofs.YtccakklnbhcbdaaGreatDoor
open Go.ChangeShapes Go.WideShapes Go.ChangeAt Go.RowKit
set_option maxRecDepth 100000 in
set_option maxHeartbeats 1000000 in
theorem named_any (S : ByteArray) (w : World) : Calls Tryz.prog 62 #[.string S] w fun e w' => e = .returned (.bool (namedW (by_ S))) ∧ w = w' := by
 by_cases hMember : S = (⟨#[109, 101, 109, 98, 101, 114]⟩ : ByteArray)
 ·subst hMember
  have hres : Hid (namedW (by_ (⟨#[109, 101, 109, 98, 101, 114]⟩ : ByteArray)) = true) := Lib.hid (by decide)
  go_enter Tryz.func62, Tryz.ntmps62
  go_wp2_with fail
  go_ret
  exact ⟨by rw [hres.out]; rfl, rfl⟩
 ·have eMember := str_ne hMember
  rw [show (⟨#[109, 101, 109, 98, 101, 114]⟩ : ByteArray).toList = [109, 101, 109, 98, 101, 114] by simp] at eMember
  replace hMember : by_ S ≠ wMember := fun e => hMember (by_inj (e.trans rfl))
  by_cases hBar : S = (⟨#[98, 97, 114]⟩ : ByteArray)
  ·subst hBar
   have hres : Hid (namedW (by_ (⟨#[98, 97, 114]⟩ : ByteArray)) = true) := Lib.hid (by decide)
   go_enter Tryz.func62, Tryz.ntmps62
   go_wp2_with fail
   go_ret
   exact ⟨by rw [hres.out]; rfl, rfl⟩
  ·have eBar := str_ne hBar
   rw [show (⟨#[98, 97, 114]⟩ : ByteArray).toList = [98, 97, 114] by simp] at eBar
   replace hBar : by_ S ≠ wBar := fun e => hBar (by_inj (e.trans rfl))
   by_cases hRun : S = (⟨#[114, 117, 110]⟩ : ByteArray)
   ·subst hRun
    have hres : Hid (namedW (by_ (⟨#[114, 117, 110]⟩ : ByteArray)) = true) := Lib.hid (by decide)
    go_enter Tryz.func62, Tryz.ntmps62
    go_wp2_with fail
    go_ret
    exact ⟨by rw [hres.out]; rfl, rfl⟩
   ·have eRun := str_ne hRun
    rw [show (⟨#[114, 117, 110]⟩ : ByteArray).toList = [114, 117, 110] by simp] at eRun
    replace hRun : by_ S ≠ wRun := fun e => hRun (by_inj (e.trans rfl))
    by_cases hDemand : S = (⟨#[100, 101, 109, 97, 110, 100]⟩ : ByteArray)
    ·subst hDemand
     have hres : Hid (namedW (by_ (⟨#[100, 101, 109, 97, 110, 100]⟩ : ByteArray)) = true) := Lib.hid (by decide)
     go_enter Tryz.func62, Tryz.ntmps62
     go_wp2_with fail
     go_ret
     exact ⟨by rw [hres.out]; rfl, rfl⟩
    ·have eDemand := str_ne hDemand
     rw [show (⟨#[100, 101, 109, 97, 110, 100]⟩ : ByteArray).toList = [100, 101, 109, 97, 110, 100] by simp] at eDemand
     replace hDemand : by_ S ≠ wDemand := fun e => hDemand (by_inj (e.trans rfl))
     have hres : Hid (namedW (by_ S) = false) := Lib.hid (by unfold namedW; simp [hMember, hBar, hRun, hDemand])
     clear hMember hBar hRun hDemand
     go_enter Tryz.func62, Tryz.ntmps62
     go_wp2_with fail
     go_ret
     exact ⟨by rw [hres.out]; rfl, rfl⟩
set_option maxRecDepth 100000 in
set_option maxHeartbeats 1000000 in
theorem least_any (S : ByteArray) (w : World) : Calls Tryz.prog 61 #[.string S] w fun e w' => e = .returned (.int .i64 (leastW (by_ S) : Int)) ∧ w = w' := by
 by_cases hMember : S = (⟨#[109, 101, 109, 98, 101, 114]⟩ : ByteArray)
 ·subst hMember
  have hres : Hid (leastW (by_ (⟨#[109, 101, 109, 98, 101, 114]⟩ : ByteArray)) = 3) := Lib.hid (by decide)
  go_enter Tryz.func61, Tryz.ntmps61
  go_wp2_with fail
  go_ret
  exact ⟨by rw [hres.out]; rfl, rfl⟩
 ·have eMember := str_ne hMember
  rw [show (⟨#[109, 101, 109, 98, 101, 114]⟩ : ByteArray).toList = [109, 101, 109, 98, 101, 114] by simp] at eMember
  replace hMember : by_ S ≠ wMember := fun e => hMember (by_inj (e.trans rfl))
  by_cases hBox : S = (⟨#[98, 111, 120]⟩ : ByteArray)
  ·subst hBox
   have hres : Hid (leastW (by_ (⟨#[98, 111, 120]⟩ : ByteArray)) = 6) := Lib.hid (by decide)
   go_enter Tryz.func61, Tryz.ntmps61
   go_wp2_with fail
   go_ret
   exact ⟨by rw [hres.out]; rfl, rfl⟩
  ·have eBox := str_ne hBox
   rw [show (⟨#[98, 111, 120]⟩ : ByteArray).toList = [98, 111, 120] by simp] at eBox
   replace hBox : by_ S ≠ wBox := fun e => hBox (by_inj (e.trans rfl))
   by_cases hHole : S = (⟨#[104, 111, 108, 101]⟩ : ByteArray)
   ·subst hHole
    have hres : Hid (leastW (by_ (⟨#[104, 111, 108, 101]⟩ : ByteArray)) = 6) := Lib.hid (by decide)
    go_enter Tryz.func61, Tryz.ntmps61
    go_wp2_with fail
    go_ret
    exact ⟨by rw [hres.out]; rfl, rfl⟩
   ·have eHole := str_ne hHole
    rw [show (⟨#[104, 111, 108, 101]⟩ : ByteArray).toList = [104, 111, 108, 101] by simp] at eHole
    replace hHole : by_ S ≠ wHole := fun e => hHole (by_inj (e.trans rfl))
    by_cases hDemand : S = (⟨#[100, 101, 109, 97, 110, 100]⟩ : ByteArray)
    ·subst hDemand
     have hres : Hid (leastW (by_ (⟨#[100, 101, 109, 97, 110, 100]⟩ : ByteArray)) = 6) := Lib.hid (by decide)
     go_enter Tryz.func61, Tryz.ntmps61
     go_wp2_with fail
     go_ret
     exact ⟨by rw [hres.out]; rfl, rfl⟩
    ·have eDemand := str_ne hDemand
     rw [show (⟨#[100, 101, 109, 97, 110, 100]⟩ : ByteArray).toList = [100, 101, 109, 97, 110, 100] by simp] at eDemand
     replace hDemand : by_ S ≠ wDemand := fun e => hDemand (by_inj (e.trans rfl))
     by_cases hRule : S = (⟨#[114, 117, 108, 101]⟩ : ByteArray)
     ·subst hRule
      have hres : Hid (leastW (by_ (⟨#[114, 117, 108, 101]⟩ : ByteArray)) = 9) := Lib.hid (by decide)
      go_enter Tryz.func61, Tryz.ntmps61
      go_wp2_with fail
      go_ret
      exact ⟨by rw [hres.out]; rfl, rfl⟩
     ·have eRule := str_ne hRule
      rw [show (⟨#[114, 117, 108, 101]⟩ : ByteArray).toList = [114, 117, 108, 101] by simp] at eRule
      replace hRule : by_ S ≠ wRule := fun e => hRule (by_inj (e.trans rfl))
      by_cases hRun : S = (⟨#[114, 117, 110]⟩ : ByteArray)
      ·subst hRun
       have hres : Hid (leastW (by_ (⟨#[114, 117, 110]⟩ : ByteArray)) = 9) := Lib.hid (by decide)
       go_enter Tryz.func61, Tryz.ntmps61
       go_wp2_with fail
       go_ret
       exact ⟨by rw [hres.out]; rfl, rfl⟩
      ·have eRun := str_ne hRun
       rw [show (⟨#[114, 117, 110]⟩ : ByteArray).toList = [114, 117, 110] by simp] at eRun
       replace hRun : by_ S ≠ wRun := fun e => hRun (by_inj (e.trans rfl))
       by_cases hBar : S = (⟨#[98, 97, 114]⟩ : ByteArray)
       ·subst hBar
        have hres : Hid (leastW (by_ (⟨#[98, 97, 114]⟩ : ByteArray)) = 4) := Lib.hid (by decide)
        go_enter Tryz.func61, Tryz.ntmps61
        go_wp2_with fail
        go_ret
        exact ⟨by rw [hres.out]; rfl, rfl⟩
       ·have eBar := str_ne hBar
        rw [show (⟨#[98, 97, 114]⟩ : ByteArray).toList = [98, 97, 114] by simp] at eBar
        replace hBar : by_ S ≠ wBar := fun e => hBar (by_inj (e.trans rfl))
        by_cases hLap : S = (⟨#[108, 97, 112]⟩ : ByteArray)
        ·subst hLap
         have hres : Hid (leastW (by_ (⟨#[108, 97, 112]⟩ : ByteArray)) = 2) := Lib.hid (by decide)
         go_enter Tryz.func61, Tryz.ntmps61
         go_wp2_with fail
         go_ret
         exact ⟨by rw [hres.out]; rfl, rfl⟩
        ·have eLap := str_ne hLap
         rw [show (⟨#[108, 97, 112]⟩ : ByteArray).toList = [108, 97, 112] by simp] at eLap
         replace hLap : by_ S ≠ wLap := fun e => hLap (by_inj (e.trans rfl))
         by_cases hStep : S = (⟨#[115, 116, 101, 112]⟩ : ByteArray)
         ·subst hStep
          have hres : Hid (leastW (by_ (⟨#[115, 116, 101, 112]⟩ : ByteArray)) = 2) := Lib.hid (by decide)
          go_enter Tryz.func61, Tryz.ntmps61
          go_wp2_with fail
          go_ret
          exact ⟨by rw [hres.out]; rfl, rfl⟩
         ·have eStep := str_ne hStep
          rw [show (⟨#[115, 116, 101, 112]⟩ : ByteArray).toList = [115, 116, 101, 112] by simp] at eStep
          replace hStep : by_ S ≠ wStep := fun e => hStep (by_inj (e.trans rfl))
          have hres : Hid (leastW (by_ S) = 0) := Lib.hid (by unfold leastW; simp [hMember, hBox, hHole, hDemand, hRule, hRun, hBar, hLap, hStep])
          clear hMember hBox hHole hDemand hRule hRun hBar hLap hStep
          go_enter Tryz.func61, Tryz.ntmps61
          go_wp2_with fail
          go_ret
          exact ⟨by rw [hres.out]; rfl, rfl⟩
theorem by_take' (s : ByteArray) (k : Nat) (h : k < s.size) : (by_ s).take (k + 1) = (by_ s).take k ++ [s[k]'h] := by
 rw [List.take_succ_eq_append_getElem (by rw [by_len]; exact h)]
 rfl
theorem numV_step (t c : Nat) (ht : t < 1000000000000000) (h1 : 48 ≤ c) (h2 : c ≤ 57) : ∃ u : Nat, u = 10 * t + (c - 48) ∧ IntKind.i64.wrap (10 * (t : Int)) = 10 * (t : Int) ∧ IntKind.u8.wrap ((c : Int) - 48) = (c : Int) - 48 ∧ IntKind.i64.wrap ((c : Int) - 48) = (c : Int) - 48 ∧ IntKind.i64.wrap (10 * (t : Int) + ((c : Int) - 48)) = (u : Int) := by
 refine ⟨_, rfl, IntWalk.i64_in _ (by omega), by rw [IntKind.wrap_u8]; omega, IntWalk.i64_in _ (by omega), ?_⟩
 rw [IntWalk.i64_in _ (by omega)]
 omega
set_option maxRecDepth 100000 in
set_option maxHeartbeats 2000000 in
theorem whole_v (s : ByteArray) (hs : s.size ≤ 1000000) (w : World) :
  Calls Tryz.prog 102 #[.string s] w fun e w' => (∃ n : Int, e = .returned (.tuple #[.int .i64 n, .bool (intO (by_ s)).isSome]) ∧ Hid (∀ q, intO (by_ s) = some q → n = (q : Int))) ∧ w = w' := by
 obtain ⟨R, hR⟩ : ∃ R, (intO (by_ s)).isSome = R := ⟨_, rfl⟩
 rw [hR]
 have hr := intR_iff (by_ s)
 rw [hR] at hr
 unfold intR at hr
 have hl : (by_ s).length = s.size := rfl
 rw [hl] at hr
 have hVf : R = false → Hid (∀ q, intO (by_ s) = some q → (0 : Int) = (q : Int)) := fun h => Lib.hid fun q h2 => by
  rw [h2] at hR
  rw [← hR] at h
  cases h
 by_cases h0 : s.size < 1
 ·have hf : R = false := by rw [← hr, decide_eq_false (by omega)]; rfl
  have hE := Lib.hid hf
  have hV := hVf hf
  have z0 : ((s.size : Int) < 1) := by omega
  clear hr hR hVf hf hl
  go_enter Tryz.func102, Tryz.ntmps102
  go_wp2_with fail
  exact bodyPost_ret (v := .tuple #[.int .i64 0, .bool false]) (by simp [results, Tryz.results102, go_sem]) rfl ⟨⟨0, by rw [hE.out], hV⟩, rfl⟩
 by_cases h1 : 15 < s.size
 ·have hf : R = false := by rw [← hr, decide_eq_false (show ¬ s.size ≤ 15 by omega)]; simp
  have hE := Lib.hid hf
  have hV := hVf hf
  have z0 : ((s.size : Int) < 1) = False := by simp; omega
  clear hr hR hVf hf hl
  go_enter Tryz.func102, Tryz.ntmps102
  go_wp2_with fail
  exact bodyPost_ret (v := .tuple #[.int .i64 0, .bool false]) (by simp [results, Tryz.results102, go_sem]) rfl ⟨⟨0, by rw [hE.out], hV⟩, rfl⟩
 have hp : 0 < s.size := by omega
 obtain ⟨c, hc⟩ : ∃ c, s[0]'hp = c := ⟨_, rfl⟩
 have hhd : (by_ s).head? = some c := by
  rw [List.head?_eq_getElem?, List.getElem?_eq_getElem (by rw [hl]; exact hp)]
  exact congrArg some hc
 rw [decide_eq_true (show 1 ≤ s.size by omega), decide_eq_true (show s.size ≤ 15 by omega), hhd] at hr
 have main : Hid ((decide (1 < s.size) && (c == 48)) = false → Calls Tryz.prog 102 #[.string s] w fun e w' => (∃ n : Int, e = .returned (.tuple #[.int .i64 n, .bool R]) ∧ Hid (∀ q, intO (by_ s) = some q → n = (q : Int))) ∧ w = w') := Lib.hid fun hz => by
  have hR2 : Hid (R = (by_ s).all digB) := Lib.hid (by
   rw [← hr]
   have : (decide (1 < s.size) && some c == some 48) = false := by rw [← hz]; congr 1
   rw [this]
   simp)
  have hVn : Hid (∀ q, intO (by_ s) = some q → (numV (by_ s) : Int) = (q : Int)) := Lib.hid fun q h => by rw [(intO_val h).1]
  have hf0 := Lib.hid hVf
  obtain ⟨n, hn⟩ : ∃ n, s.size = n := ⟨_, rfl⟩
  have hz' : 1 < n → ((c.toNat : Int) == 48) = false := fun h => by
   rw [← hn] at h
   rw [decide_eq_true h, Bool.true_and, beq_eq_false_iff_ne] at hz
   rw [beq_eq_false_iff_ne]
   intro e
   apply hz
   apply UInt8.toNat_inj.1
   have : (48 : UInt8).toNat = 48 := rfl
   omega
  have hgo : Hid (∀ k, k < n → ∃ c : UInt8, ∃ h : k < s.size, s[k]'h = c) := Lib.hid fun k hk => ⟨_, by omega, rfl⟩
  clear hr hR hVf hhd hz
  have h1n : ¬ 15 < n := by omega
  have h0n : ¬ n < 1 := by omega
  rw [hn] at hl
  by_cases hn1 : 1 < n
  ·have hz2 := hz' hn1
   clear hz'
   go_enter Tryz.func102, Tryz.ntmps102
   go_wp2_with fail
   go_loopg [5, 4] n (fun g i v wr => ∃ (k t : Nat), k ≤ n ∧ i = .int .i64 (k : Int) ∧ v = .int .i64 (t : Int) ∧ Hid (g = n - k ∧ ((by_ s).take k).all digB = true ∧ numV ((by_ s).take k) = t) ∧ w = wr)
   case atStart => exact ⟨0, 0, Nat.zero_le _, rfl, rfl, Lib.hid ⟨rfl, rfl, rfl⟩, rfl⟩
   case round =>
    obtain ⟨k, t, hk, rfl, rfl, hrr, rfl⟩ := hrel
    by_cases hlt : k < n
    ·obtain ⟨c, hks, hc⟩ := hgo.out k hlt
     have htk := by_take' s k hks
     rw [hc] at htk
     have htl : t < 1000000000000000 := by
      have h1 := numV_lt _ ((by_ s).take k) rfl hrr.out.2.1
      rw [hrr.out.2.2, List.length_take] at h1
      have h2 : 10 ^ (min k (by_ s).length) ≤ 10 ^ 15 := Nat.pow_le_pow_right (by decide) (by omega)
      omega
     cases hdg : digB c
     ·have hE : Hid (R = false) := Lib.hid (by
       rw [hR2.out]
       cases hall : (by_ s).all digB
       ·rfl
       ·have hm : c ∈ by_ s := List.mem_of_mem_take (i := k + 1) (by rw [htk]; simp)
        have := List.all_eq_true.1 hall c hm
        rw [hdg] at this
        cases this)
      have hV := hf0.out hE.out
      unfold digB at hdg
      rw [Bool.and_eq_false_iff, decide_eq_false_iff_not, decide_eq_false_iff_not] at hdg
      clear htk htl
      rcases hdg with h48 | h57
      ·have z1 : decide ((c.toNat : Int) < 48) = true := by simp; omega
       clear h48
       go_wp2_with fail
       exact bodyPost_ret (v := .tuple #[.int .i64 0, .bool false]) (by simp [results, Tryz.results102, go_sem]) rfl ⟨⟨0, by rw [hE.out], hV⟩, rfl⟩
      ·by_cases h48 : c.toNat < 48
       ·have z1 : decide ((c.toNat : Int) < 48) = true := by simp; omega
        clear h48 h57
        go_wp2_with fail
        exact bodyPost_ret (v := .tuple #[.int .i64 0, .bool false]) (by simp [results, Tryz.results102, go_sem]) rfl ⟨⟨0, by rw [hE.out], hV⟩, rfl⟩
       ·have z1 : decide ((c.toNat : Int) < 48) = false := by simp; omega
        have z2 : decide ((57 : Int) < (c.toNat : Int)) = true := by simp; omega
        clear h48 h57
        go_wp2_with fail
        exact bodyPost_ret (v := .tuple #[.int .i64 0, .bool false]) (by simp [results, Tryz.results102, go_sem]) rfl ⟨⟨0, by rw [hE.out], hV⟩, rfl⟩
     ·obtain ⟨b1, b2⟩ := digB_bd hdg
      obtain ⟨u, hu, w1, w2, w3, w4⟩ := numV_step t c.toNat htl b1 b2
      have hS : Hid (((by_ s).take (k + 1)).all digB = true ∧ numV ((by_ s).take (k + 1)) = u) := Lib.hid (by
       rw [htk, List.all_append, hrr.out.2.1, numV_snoc, hrr.out.2.2, hu]
       simp [hdg])
      have z1 : decide ((c.toNat : Int) < 48) = false := by simp; omega
      have z2 : decide ((57 : Int) < (c.toNat : Int)) = false := by simp; omega
      clear hdg htk htl hu b1 b2
      go_wp2_with fail
      go_roundg (n - (k + 1))
      case measure => have := hrr.out.1; omega
      case rel => exact ⟨k + 1, u, by omega, by go_num, rfl, Lib.hid ⟨rfl, hS.out⟩, rfl⟩
    ·have hfull : (by_ s).take k = by_ s := List.take_of_length_le (by rw [hl]; omega)
     have hE : Hid (R = true) := Lib.hid (by rw [hR2.out, ← hfull]; exact hrr.out.2.1)
     have ht : numV (by_ s) = t := by rw [← hfull]; exact hrr.out.2.2
     have hV : Hid (∀ q, intO (by_ s) = some q → (t : Int) = (q : Int)) := Lib.hid fun q h => by rw [← ht]; exact hVn.out q h
     clear hfull ht
     go_wp2_with fail
     exact bodyPost_ret (v := .tuple #[.int .i64 (t : Int), .bool true]) (by simp [results, Tryz.results102, go_sem]) rfl ⟨⟨(t : Int), by rw [hE.out], hV⟩, rfl⟩
  ·clear hz'
   go_enter Tryz.func102, Tryz.ntmps102
   go_wp2_with fail
   go_loopg [5, 4] n (fun g i v wr => ∃ (k t : Nat), k ≤ n ∧ i = .int .i64 (k : Int) ∧ v = .int .i64 (t : Int) ∧ Hid (g = n - k ∧ ((by_ s).take k).all digB = true ∧ numV ((by_ s).take k) = t) ∧ w = wr)
   case atStart => exact ⟨0, 0, Nat.zero_le _, rfl, rfl, Lib.hid ⟨rfl, rfl, rfl⟩, rfl⟩
   case round =>
    obtain ⟨k, t, hk, rfl, rfl, hrr, rfl⟩ := hrel
    by_cases hlt : k < n
    ·obtain ⟨c, hks, hc⟩ := hgo.out k hlt
     have htk := by_take' s k hks
     rw [hc] at htk
     have htl : t < 1000000000000000 := by
      have h1 := numV_lt _ ((by_ s).take k) rfl hrr.out.2.1
      rw [hrr.out.2.2, List.length_take] at h1
      have h2 : 10 ^ (min k (by_ s).length) ≤ 10 ^ 15 := Nat.pow_le_pow_right (by decide) (by omega)
      omega
     cases hdg : digB c
     ·have hE : Hid (R = false) := Lib.hid (by
       rw [hR2.out]
       cases hall : (by_ s).all digB
       ·rfl
       ·have hm : c ∈ by_ s := List.mem_of_mem_take (i := k + 1) (by rw [htk]; simp)
        have := List.all_eq_true.1 hall c hm
        rw [hdg] at this
        cases this)
      have hV := hf0.out hE.out
      unfold digB at hdg
      rw [Bool.and_eq_false_iff, decide_eq_false_iff_not, decide_eq_false_iff_not] at hdg
      clear htk htl
      rcases hdg with h48 | h57
      ·have z1 : decide ((c.toNat : Int) < 48) = true := by simp; omega
       clear h48
       go_wp2_with fail
       exact bodyPost_ret (v := .tuple #[.int .i64 0, .bool false]) (by simp [results, Tryz.results102, go_sem]) rfl ⟨⟨0, by rw [hE.out], hV⟩, rfl⟩
      ·by_cases h48 : c.toNat < 48
       ·have z1 : decide ((c.toNat : Int) < 48) = true := by simp; omega
        clear h48 h57
        go_wp2_with fail
        exact bodyPost_ret (v := .tuple #[.int .i64 0, .bool false]) (by simp [results, Tryz.results102, go_sem]) rfl ⟨⟨0, by rw [hE.out], hV⟩, rfl⟩
       ·have z1 : decide ((c.toNat : Int) < 48) = false := by simp; omega
        have z2 : decide ((57 : Int) < (c.toNat : Int)) = true := by simp; omega
        clear h48 h57
        go_wp2_with fail
        exact bodyPost_ret (v := .tuple #[.int .i64 0, .bool false]) (by simp [results, Tryz.results102, go_sem]) rfl ⟨⟨0, by rw [hE.out], hV⟩, rfl⟩
     ·obtain ⟨b1, b2⟩ := digB_bd hdg
      obtain ⟨u, hu, w1, w2, w3, w4⟩ := numV_step t c.toNat htl b1 b2
      have hS : Hid (((by_ s).take (k + 1)).all digB = true ∧ numV ((by_ s).take (k + 1)) = u) := Lib.hid (by
       rw [htk, List.all_append, hrr.out.2.1, numV_snoc, hrr.out.2.2, hu]
       simp [hdg])
      have z1 : decide ((c.toNat : Int) < 48) = false := by simp; omega
      have z2 : decide ((57 : Int) < (c.toNat : Int)) = false := by simp; omega
      clear hdg htk htl hu b1 b2
      go_wp2_with fail
      go_roundg (n - (k + 1))
      case measure => have := hrr.out.1; omega
      case rel => exact ⟨k + 1, u, by omega, by go_num, rfl, Lib.hid ⟨rfl, hS.out⟩, rfl⟩
    ·have hfull : (by_ s).take k = by_ s := List.take_of_length_le (by rw [hl]; omega)
     have hE : Hid (R = true) := Lib.hid (by rw [hR2.out, ← hfull]; exact hrr.out.2.1)
     have ht : numV (by_ s) = t := by rw [← hfull]; exact hrr.out.2.2
     have hV : Hid (∀ q, intO (by_ s) = some q → (t : Int) = (q : Int)) := Lib.hid fun q h => by rw [← ht]; exact hVn.out q h
     clear hfull ht
     go_wp2_with fail
     exact bodyPost_ret (v := .tuple #[.int .i64 (t : Int), .bool true]) (by simp [results, Tryz.results102, go_sem]) rfl ⟨⟨(t : Int), by rw [hE.out], hV⟩, rfl⟩
 cases hz : (decide (1 < s.size) && (c == 48))
 ·exact main.out hz
 ·have h2 : 1 < s.size := of_decide_eq_true (Bool.and_eq_true _ _ ▸ hz).1
  have hf : R = false := by
   rw [← hr]
   have : (decide (1 < s.size) && some c == some 48) = true := by rw [← hz]; congr 1
   rw [this]
   simp
  have hE := Lib.hid hf
  have hV := hVf hf
  have hc48 : c = 48 := eq_of_beq (Bool.and_eq_true _ _ ▸ hz).2
  subst hc48
  clear hr hR hVf hf hl hhd main hz
  go_enter Tryz.func102, Tryz.ntmps102
  go_wp2_with fail
  exact bodyPost_ret (v := .tuple #[.int .i64 0, .bool false]) (by simp [results, Tryz.results102, go_sem]) rfl ⟨⟨0, by rw [hE.out], hV⟩, rfl⟩
theorem IsI.cells {l : List Int} {v : Value} {w : World} (h : IsI l v w) (h0 : 0 < l.length) : ∃ b off c, v = .slice (some ⟨b, off, none⟩) l.length c ∧ l.length ≤ c ∧ c ≤ 9223372036854775807 ∧ b < w.heap.size ∧ ∀ k (hk : k < l.length), w.cell? ⟨b, off + k, none⟩ = some (.int .i64 l[k]) := by
 obtain ⟨a, c, rfl, h2, h3, h4⟩ := h
 obtain ⟨b, off, rfl, hb, _⟩ := h4 0 h0
 refine ⟨b, off, c, rfl, h2, h3, hb, fun k hk => ?_⟩
 obtain ⟨b2, o2, e, _, hc⟩ := h4 k hk
 injection e with e
 injection e with e1 e2
 subst e1 e2
 have := hc 0 (.int .i64 l[k]) rfl
 rwa [Nat.mul_one, Nat.add_zero] at this
end Go.Proofs.YtccakklnbhcbdaaGreatDoor
