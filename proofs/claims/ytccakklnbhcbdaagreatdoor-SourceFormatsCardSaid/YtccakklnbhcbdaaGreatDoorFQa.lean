import Derived.Lib.Mul64
import Derived.Test.YtccakklnbhcbdaaGreatDoorFA
import Derived.Deep.LoopGhost
import Derived.Deep.DeepCutAuto
import Derived.Deep.CutBlock
set_option linter.unusedVariables false
namespace Go.Proofs.YtccakklnbhcbdaaGreatDoor
end Go.Proofs.YtccakklnbhcbdaaGreatDoor
set_option linter.unusedVariables false
namespace Go.Proofs.YtccakklnbhcbdaaGreatDoor
end Go.Proofs.YtccakklnbhcbdaaGreatDoor
set_option linter.unusedVariables false
namespace Go.Proofs.YtccakklnbhcbdaaGreatDoor
def isLet (c : UInt8) : Bool := (decide (97 ≤ c.toNat) && decide (c.toNat ≤ 122)) || (decide (65 ≤ c.toNat) && decide (c.toNat ≤ 90))
def isDig (c : UInt8) : Bool := decide (48 ≤ c.toNat) && decide (c.toNat ≤ 57)
def isWrd (c : UInt8) : Bool := isLet c || isDig c || decide (c.toNat = 95)
def runL (p : UInt8 → Bool) (l : List UInt8) : Nat := (l.takeWhile p).length
def runA (p : UInt8 → Bool) (l : List UInt8) (k : Nat) : Nat := k + runL p (l.drop k)
def numA (l : List UInt8) (i : Nat) : Nat :=
 if decide (runA isDig l i + 1 < l.length) && decide ((l.getD (runA isDig l i) 0).toNat = 46) && isDig (l.getD (runA isDig l i + 1) 0) then runA isDig l (runA isDig l i + 1) else runA isDig l i
def numL (l : List UInt8) : Nat := numA l 0
def symC (c : UInt8) : Bool := [45, 43, 58, 44, 59, 47, 61, 40, 41, 60, 62, 42].contains c
def symL : List UInt8 → Nat
 | [] => 0
 | c :: l => if (decide (c.toNat = 62) || decide (c.toNat = 60) || decide (c.toNat = 58)) && decide ((l.headD 0).toNat = 61) then 2 else if symC c then 1 else 0
def nextL (l : List UInt8) : Int × Nat :=
 let c := l.headD 0
 if c.toNat = 32 ∨ c.toNat = 9 then (0, 1) else if c.toNat = 10 then (4, 1) else if c.toNat = 35 then (0, runL (fun c => decide (c.toNat ≠ 10)) l)
 else if isLet c then (if 20 < runL isWrd l then (-1, runL isWrd l) else (1, runL isWrd l)) else if isDig c then (2, numL l) else if symL l = 0 then (-1, 1) else (3, symL l)
structure Tk where
 kind : Int
 text : List UInt8
 line : Int
 col : Int
deriving DecidableEq
def tokF : Nat → List UInt8 → Int → Int → List Tk → List Tk × (Int × Int) × Int
 | 0, _, line, col, acc => (acc ++ [⟨5, [], line, col⟩], (0, 0), 0)
 | f + 1, l, line, col, acc =>
  if l = [] then (acc ++ [⟨5, [], line, col⟩], (0, 0), 0)
  else if (nextL l).1 < 0 then ([], (line, col), 7)
  else if (nextL l).1 = 4 then tokF f (l.drop 1) (line + 1) 1 (acc ++ [⟨4, [], line, col⟩])
  else if (nextL l).1 = 0 then tokF f (l.drop (nextL l).2) line (col + (nextL l).2) acc
  else tokF f (l.drop (nextL l).2) line (col + (nextL l).2) (acc ++ [⟨(nextL l).1, l.take (nextL l).2, line, col⟩])
def tokS (l : List UInt8) : List Tk × (Int × Int) × Int := if 262144 < l.length then ([], (0, 0), 4) else tokF l.length l 1 1 []
theorem runL_cons (p : UInt8 → Bool) (c : UInt8) (l : List UInt8) : runL p (c :: l) = if p c then runL p l + 1 else 0 := by
 unfold runL
 rw [List.takeWhile_cons]
 split <;> rfl
theorem runL_le (p : UInt8 → Bool) (l : List UInt8) : runL p l ≤ l.length := by
 induction l with
 | nil => simp [runL]
 | cons c l ih => rw [runL_cons]; split <;> simp <;> omega
theorem runA_yes {p : UInt8 → Bool} {l : List UInt8} {k : Nat} (hk : k < l.length) (h : p l[k] = true) : runA p l (k + 1) = runA p l k := by
 unfold runA
 rw [List.drop_eq_getElem_cons hk, runL_cons, if_pos h]
 omega
theorem runA_no {p : UInt8 → Bool} {l : List UInt8} {k : Nat} (hk : k < l.length) (h : p l[k] = false) : runA p l k = k := by
 unfold runA
 rw [List.drop_eq_getElem_cons hk, runL_cons, if_neg (by simp [h])]
 rfl
theorem runA_end {p : UInt8 → Bool} {l : List UInt8} {k : Nat} (hk : l.length ≤ k) : runA p l k = k := by
 unfold runA
 rw [List.drop_eq_nil_of_le hk]
 rfl
theorem runA_zero (p : UInt8 → Bool) (l : List UInt8) : runA p l 0 = runL p l := by simp [runA]
theorem runA_le {p : UInt8 → Bool} {l : List UInt8} {k : Nat} (hk : k ≤ l.length) : k ≤ runA p l k ∧ runA p l k ≤ l.length := by
 have := runL_le p (l.drop k)
 rw [List.length_drop] at this
 unfold runA
 omega
theorem runA_drop (p : UInt8 → Bool) (l : List UInt8) (i k : Nat) : runA p l (i + k) = i + runA p (l.drop i) k := by
 unfold runA
 rw [List.drop_drop]
 omega
theorem numA_drop (l : List UInt8) (i : Nat) : numA l i = i + numL (l.drop i) := by
 have e0 := runA_drop isDig l i 0
 rw [Nat.add_zero] at e0
 unfold numL numA
 rw [e0]
 generalize hk : runA isDig (l.drop i) 0 = k
 have e1 : l.getD (i + k) 0 = (l.drop i).getD k 0 := by simp [List.getD]
 have e2 : l.getD (i + k + 1) 0 = (l.drop i).getD (k + 1) 0 := by simp [List.getD, Nat.add_assoc]
 have e3 : decide (i + k + 1 < l.length) = decide (k + 1 < (l.drop i).length) := decide_eq_decide.2 (by rw [List.length_drop]; omega)
 rw [e1, e2, e3, Nat.add_assoc i k 1, runA_drop isDig l i (k + 1)]
 split <;> rfl
end Go.Proofs.YtccakklnbhcbdaaGreatDoor
set_option linter.unusedVariables false
namespace Go.Proofs.YtccakklnbhcbdaaGreatDoor
open Go.ChangeShapes Go.WideShapes Go.ChangeAt Go.RowKit
theorem isDig_int (c : UInt8) : isDig c = (decide (48 ≤ (c.toNat : Int)) && decide ((c.toNat : Int) ≤ 57)) := by
 unfold isDig
 congr 1
 ·exact decide_eq_decide.2 (by omega)
 ·exact decide_eq_decide.2 (by omega)
theorem isLet_int (c : UInt8) : isLet c = (decide (97 ≤ (c.toNat : Int)) && decide ((c.toNat : Int) ≤ 122) || decide (65 ≤ (c.toNat : Int)) && decide ((c.toNat : Int) ≤ 90)) := by
 unfold isLet
 congr 2
 ·exact decide_eq_decide.2 (by omega)
 ·exact decide_eq_decide.2 (by omega)
 ·exact decide_eq_decide.2 (by omega)
 ·exact decide_eq_decide.2 (by omega)
theorem digit_any (c : UInt8) (w : World) : Calls Tryz.prog 110 #[.int .u8 (c.toNat : Int)] w fun e w' => e = .returned (.bool (isDig c)) ∧ w = w' := by
 rw [isDig_int]
 generalize (c.toNat : Int) = n
 by_cases h1 : 48 ≤ n <;> by_cases h2 : n ≤ 57 <;> (go_enter Tryz.func110, Tryz.ntmps110; go_wp2; all_goals (go_ret; exact ⟨ret_bool (by simp [*]), rfl⟩))
theorem refDigit_any (c : UInt8) (w : World) : Calls Tryz.prog 112 #[.int .u8 (c.toNat : Int)] w fun e w' => e = .returned (.bool (isDig c)) ∧ w = w' := by
 rw [isDig_int]
 generalize (c.toNat : Int) = n
 by_cases h1 : 48 ≤ n <;> by_cases h2 : n ≤ 57 <;> (go_enter Tryz.func112, Tryz.ntmps112; go_wp2; all_goals (go_ret; exact ⟨ret_bool (by simp [*]), rfl⟩))
theorem letter_any (c : UInt8) (w : World) : Calls Tryz.prog 76 #[.int .u8 (c.toNat : Int)] w fun e w' => e = .returned (.bool (isLet c)) ∧ w = w' := by
 rw [isLet_int]
 generalize (c.toNat : Int) = n
 by_cases h1 : 97 ≤ n <;> by_cases h2 : n ≤ 122 <;> by_cases h3 : 65 ≤ n <;> by_cases h4 : n ≤ 90 <;> (go_enter Tryz.func76, Tryz.ntmps76; go_wp2; all_goals (go_ret; exact ⟨ret_bool (by simp [*]), rfl⟩))
theorem refLetter_any (c : UInt8) (w : World) : Calls Tryz.prog 85 #[.int .u8 (c.toNat : Int)] w fun e w' => e = .returned (.bool (isLet c)) ∧ w = w' := by
 rw [isLet_int]
 generalize (c.toNat : Int) = n
 by_cases h1 : 97 ≤ n <;> by_cases h2 : n ≤ 122 <;> by_cases h3 : 65 ≤ n <;> by_cases h4 : n ≤ 90 <;> (go_enter Tryz.func85, Tryz.ntmps85; go_wp2; all_goals (go_ret; exact ⟨ret_bool (by simp [*]), rfl⟩))
theorem wrap_in {n : Int} (h : -9223372036854775808 ≤ n ∧ n ≤ 9223372036854775807) : IntKind.i64.wrap n = n := IntWalk.i64_in _ (by omega)
end Go.Proofs.YtccakklnbhcbdaaGreatDoor
set_option linter.unusedVariables false
namespace Go.Proofs.YtccakklnbhcbdaaGreatDoor
open Go.ChangeShapes Go.WideShapes Go.ChangeAt Go.RowKit
abbrev by_ (s : ByteArray) : List UInt8 := s.data.toList
theorem by_len (s : ByteArray) : (by_ s).length = s.size := rfl
theorem isWrd_of {c : UInt8} (h1 : isLet c = false) (h2 : isDig c = false) (h3 : ((c.toNat : Int) == 95) = false) : isWrd c = false := by
 have : ¬ c.toNat = 95 := fun h => by rw [h] at h3; exact absurd h3 (by decide)
 simp [isWrd, h1, h2, this]
theorem isWrd_u {c : UInt8} (h3 : ((c.toNat : Int) == 95) = true) : isWrd c = true := by
 have : c.toNat = 95 := by have := of_decide_eq_true h3; omega
 simp [isWrd, this]
set_option maxRecDepth 100000 in
set_option maxHeartbeats 1000000 in
theorem word_any (s : ByteArray) (hs : s.size ≤ 9223372036854775806) (w : World) : Calls Tryz.prog 77 #[.string s] w fun e w' => e = .returned (.int .i64 (runL isWrd (by_ s) : Int)) ∧ w = w' := by
 go_enter Tryz.func77, Tryz.ntmps77
 go_wp2
 go_loopg [3] (s.size - 0) (fun g i wr => ∃ k : Nat, 0 ≤ k ∧ k ≤ s.size ∧ i = .int .i64 (k : Int) ∧ Hid (g = s.size - k ∧ runA isWrd (by_ s) k = runL isWrd (by_ s)) ∧ w = wr)
 case atStart => exact ⟨0, Nat.le_refl _, Nat.zero_le _, rfl, Lib.hid ⟨rfl, runA_zero _ _⟩, rfl⟩
 case round =>
  obtain ⟨k, hak, hk, rfl, hr, rfl⟩ := hrel
  by_cases hlt : k < s.size
  ·obtain ⟨c, hc⟩ : ∃ c, s[k] = c := ⟨_, rfl⟩
   have hc' : Hid ((by_ s)[k]'hlt = c) := Lib.hid hc
   have HL : Hid (∀ w, Calls Tryz.prog 76 #[.int .u8 (c.toNat : Int)] w fun e w' => e = .returned (.bool (isLet c)) ∧ w = w') := Lib.hid fun w => letter_any c w
   have HD : Hid (∀ w, Calls Tryz.prog 110 #[.int .u8 (c.toNat : Int)] w fun e w' => e = .returned (.bool (isDig c)) ∧ w = w') := Lib.hid fun w => digit_any c w
   cases hL : isLet c
   ·rw [hL] at HL
    cases hD : isDig c
    ·rw [hD] at HD
     cases hU : ((c.toNat : Int) == 95)
     ·have hw := Lib.hid (isWrd_of hL hD hU)
      clear hL hD
      go_wp2_with fail
      refine (HL.out _).mono ?_
      rintro e w' ⟨rfl, rfl⟩
      go_wp2_with fail
      refine (HD.out _).mono ?_
      rintro e w' ⟨rfl, rfl⟩
      have hR : runL isWrd (by_ s) = k := by rw [← hr.out.2]; exact runA_no hlt (by rw [hc'.out]; exact hw.out)
      go_wp2_with fail
      go_ret
      exact ⟨by rw [hR]; rfl, rfl⟩
     ·have hw := Lib.hid (isWrd_u hU)
      clear hL hD
      go_wp2_with fail
      refine (HL.out _).mono ?_
      rintro e w' ⟨rfl, rfl⟩
      go_wp2_with fail
      refine (HD.out _).mono ?_
      rintro e w' ⟨rfl, rfl⟩
      go_wp2_with fail
      go_roundg (s.size - (k + 1))
      case measure => have := hr.out.1; omega
      case rel => exact ⟨k + 1, by omega, by omega, by go_num, Lib.hid ⟨rfl, by rw [runA_yes hlt (by rw [hc'.out]; exact hw.out)]; exact hr.out.2⟩, rfl⟩
    ·rw [hD] at HD
     have hw : Hid (isWrd c = true) := Lib.hid (by simp [isWrd, hD])
     clear hL hD
     go_wp2_with fail
     refine (HL.out _).mono ?_
     rintro e w' ⟨rfl, rfl⟩
     go_wp2_with fail
     refine (HD.out _).mono ?_
     rintro e w' ⟨rfl, rfl⟩
     go_wp2_with fail
     go_roundg (s.size - (k + 1))
     case measure => have := hr.out.1; omega
     case rel => exact ⟨k + 1, by omega, by omega, by go_num, Lib.hid ⟨rfl, by rw [runA_yes hlt (by rw [hc'.out]; exact hw.out)]; exact hr.out.2⟩, rfl⟩
   ·rw [hL] at HL
    have hw : Hid (isWrd c = true) := Lib.hid (by simp [isWrd, hL])
    clear hL
    go_wp2_with fail
    refine (HL.out _).mono ?_
    rintro e w' ⟨rfl, rfl⟩
    go_wp2_with fail
    go_roundg (s.size - (k + 1))
    case measure => have := hr.out.1; omega
    case rel => exact ⟨k + 1, by omega, by omega, by go_num, Lib.hid ⟨rfl, by rw [runA_yes hlt (by rw [hc'.out]; exact hw.out)]; exact hr.out.2⟩, rfl⟩
  ·have hR : runL isWrd (by_ s) = k := by rw [← hr.out.2]; exact runA_end (by rw [by_len]; omega)
   go_wp2_with fail
   go_ret
   exact ⟨by rw [hR]; rfl, rfl⟩
set_option maxRecDepth 100000 in
set_option maxHeartbeats 1000000 in
theorem refword_any (s : ByteArray) (a : Nat) (ha : a ≤ s.size) (hs : s.size ≤ 9223372036854775806) (w : World) : Calls Tryz.prog 86 #[.string s, .int .i64 (a : Int)] w fun e w' => e = .returned (.int .i64 (runA isWrd (by_ s) a : Int)) ∧ w = w' := by
 go_enter Tryz.func86, Tryz.ntmps86
 go_wp2
 go_loopg [1] (s.size - a) (fun g i wr => ∃ k : Nat, a ≤ k ∧ k ≤ s.size ∧ i = .int .i64 (k : Int) ∧ Hid (g = s.size - k ∧ runA isWrd (by_ s) k = runA isWrd (by_ s) a) ∧ w = wr)
 case atStart => exact ⟨a, Nat.le_refl _, ha, rfl, Lib.hid ⟨rfl, rfl⟩, rfl⟩
 case round =>
  obtain ⟨k, hak, hk, rfl, hr, rfl⟩ := hrel
  by_cases hlt : k < s.size
  ·obtain ⟨c, hc⟩ : ∃ c, s[k] = c := ⟨_, rfl⟩
   have hc' : Hid ((by_ s)[k]'hlt = c) := Lib.hid hc
   have HL : Hid (∀ w, Calls Tryz.prog 85 #[.int .u8 (c.toNat : Int)] w fun e w' => e = .returned (.bool (isLet c)) ∧ w = w') := Lib.hid fun w => refLetter_any c w
   have HD : Hid (∀ w, Calls Tryz.prog 112 #[.int .u8 (c.toNat : Int)] w fun e w' => e = .returned (.bool (isDig c)) ∧ w = w') := Lib.hid fun w => refDigit_any c w
   cases hL : isLet c
   ·rw [hL] at HL
    cases hD : isDig c
    ·rw [hD] at HD
     cases hU : ((c.toNat : Int) == 95)
     ·have hw := Lib.hid (isWrd_of hL hD hU)
      clear hL hD
      go_wp2_with fail
      refine (HL.out _).mono ?_
      rintro e w' ⟨rfl, rfl⟩
      go_wp2_with fail
      refine (HD.out _).mono ?_
      rintro e w' ⟨rfl, rfl⟩
      have hR : runA isWrd (by_ s) a = k := by rw [← hr.out.2]; exact runA_no hlt (by rw [hc'.out]; exact hw.out)
      go_wp2_with fail
      go_ret
      exact ⟨by rw [hR]; rfl, rfl⟩
     ·have hw := Lib.hid (isWrd_u hU)
      clear hL hD
      go_wp2_with fail
      refine (HL.out _).mono ?_
      rintro e w' ⟨rfl, rfl⟩
      go_wp2_with fail
      refine (HD.out _).mono ?_
      rintro e w' ⟨rfl, rfl⟩
      go_wp2_with fail
      go_roundg (s.size - (k + 1))
      case measure => have := hr.out.1; omega
      case rel => exact ⟨k + 1, by omega, by omega, by go_num, Lib.hid ⟨rfl, by rw [runA_yes hlt (by rw [hc'.out]; exact hw.out)]; exact hr.out.2⟩, rfl⟩
    ·rw [hD] at HD
     have hw : Hid (isWrd c = true) := Lib.hid (by simp [isWrd, hD])
     clear hL hD
     go_wp2_with fail
     refine (HL.out _).mono ?_
     rintro e w' ⟨rfl, rfl⟩
     go_wp2_with fail
     refine (HD.out _).mono ?_
     rintro e w' ⟨rfl, rfl⟩
     go_wp2_with fail
     go_roundg (s.size - (k + 1))
     case measure => have := hr.out.1; omega
     case rel => exact ⟨k + 1, by omega, by omega, by go_num, Lib.hid ⟨rfl, by rw [runA_yes hlt (by rw [hc'.out]; exact hw.out)]; exact hr.out.2⟩, rfl⟩
   ·rw [hL] at HL
    have hw : Hid (isWrd c = true) := Lib.hid (by simp [isWrd, hL])
    clear hL
    go_wp2_with fail
    refine (HL.out _).mono ?_
    rintro e w' ⟨rfl, rfl⟩
    go_wp2_with fail
    go_roundg (s.size - (k + 1))
    case measure => have := hr.out.1; omega
    case rel => exact ⟨k + 1, by omega, by omega, by go_num, Lib.hid ⟨rfl, by rw [runA_yes hlt (by rw [hc'.out]; exact hw.out)]; exact hr.out.2⟩, rfl⟩
  ·have hR : runA isWrd (by_ s) a = k := by rw [← hr.out.2]; exact runA_end (by rw [by_len]; omega)
   go_wp2_with fail
   go_ret
   exact ⟨by rw [hR]; rfl, rfl⟩
set_option maxRecDepth 100000 in
set_option maxHeartbeats 1000000 in
theorem reffigures_any (s : ByteArray) (a : Nat) (ha : a ≤ s.size) (hs : s.size ≤ 9223372036854775806) (w : World) : Calls Tryz.prog 119 #[.string s, .int .i64 (a : Int)] w fun e w' => e = .returned (.int .i64 (runA isDig (by_ s) a : Int)) ∧ w = w' := by
 go_enter Tryz.func119, Tryz.ntmps119
 go_wp2
 go_loopg [1] (s.size - a) (fun g i wr => ∃ k : Nat, a ≤ k ∧ k ≤ s.size ∧ i = .int .i64 (k : Int) ∧ Hid (g = s.size - k ∧ runA isDig (by_ s) k = runA isDig (by_ s) a) ∧ w = wr)
 case atStart => exact ⟨a, Nat.le_refl _, ha, rfl, Lib.hid ⟨rfl, rfl⟩, rfl⟩
 case round =>
  obtain ⟨k, hak, hk, rfl, hr, rfl⟩ := hrel
  by_cases hlt : k < s.size
  ·obtain ⟨c, hc⟩ : ∃ c, s[k] = c := ⟨_, rfl⟩
   have hc' : Hid ((by_ s)[k]'hlt = c) := Lib.hid hc
   have HD : Hid (∀ w, Calls Tryz.prog 112 #[.int .u8 (c.toNat : Int)] w fun e w' => e = .returned (.bool (isDig c)) ∧ w = w') := Lib.hid fun w => refDigit_any c w
   cases hD : isDig c
   ·rw [hD] at HD
    have hw := Lib.hid hD
    clear hD
    go_wp2_with fail
    refine (HD.out _).mono ?_
    rintro e w' ⟨rfl, rfl⟩
    have hR : runA isDig (by_ s) a = k := by rw [← hr.out.2]; exact runA_no hlt (by rw [hc'.out]; exact hw.out)
    go_wp2_with fail
    go_ret
    exact ⟨by rw [hR]; rfl, rfl⟩
   ·rw [hD] at HD
    have hw := Lib.hid hD
    clear hD
    go_wp2_with fail
    refine (HD.out _).mono ?_
    rintro e w' ⟨rfl, rfl⟩
    go_wp2_with fail
    go_roundg (s.size - (k + 1))
    case measure => have := hr.out.1; omega
    case rel => exact ⟨k + 1, by omega, by omega, by go_num, Lib.hid ⟨rfl, by rw [runA_yes hlt (by rw [hc'.out]; exact hw.out)]; exact hr.out.2⟩, rfl⟩
  ·have hR : runA isDig (by_ s) a = k := by rw [← hr.out.2]; exact runA_end (by rw [by_len]; omega)
   go_wp2_with fail
   go_ret
   exact ⟨by rw [hR]; rfl, rfl⟩
end Go.Proofs.YtccakklnbhcbdaaGreatDoor
set_option linter.unusedVariables false
namespace Go.Proofs.YtccakklnbhcbdaaGreatDoor
open Go.ChangeShapes Go.WideShapes Go.ChangeAt Go.RowKit
theorem getD_at (s : ByteArray) (k : Nat) (h : k < s.size) (c : UInt8) (hc : s[k] = c) : (by_ s).getD k 0 = c := by
 have : (by_ s)[k]'h = c := hc
 rw [List.getD, List.getElem?_eq_getElem h, Option.getD_some, this]
set_option maxRecDepth 100000 in
set_option maxHeartbeats 1000000 in
theorem numeral_any (s : ByteArray) (hs : s.size ≤ 9223372036854775806) (w : World) : Calls Tryz.prog 114 #[.string s] w fun e w' => e = .returned (.int .i64 (numL (by_ s) : Int)) ∧ w = w' := by
 have HN : Hid (numL (by_ s) = if decide (runA isDig (by_ s) 0 + 1 < s.size) && decide (((by_ s).getD (runA isDig (by_ s) 0) 0).toNat = 46) && isDig ((by_ s).getD (runA isDig (by_ s) 0 + 1) 0) then runA isDig (by_ s) (runA isDig (by_ s) 0 + 1) else runA isDig (by_ s) 0) := Lib.hid rfl
 have hE := (runA_le (p := isDig) (l := by_ s) (Nat.zero_le _)).2
 rw [by_len] at hE
 obtain ⟨E, hE'⟩ : ∃ E, E = runA isDig (by_ s) 0 := ⟨_, rfl⟩
 rw [← hE'] at HN hE
 replace hE' := Lib.hid hE'
 go_enter Tryz.func114, Tryz.ntmps114
 go_upto_block 0 with fail
 go_cut [3] (fun i wn => i = .int .i64 (E : Int) ∧ w = wn)
 case first =>
  go_wp2_with fail
  go_loopg [3] (s.size - 0) (fun g i wr => ∃ k : Nat, 0 ≤ k ∧ k ≤ s.size ∧ i = .int .i64 (k : Int) ∧ Hid (g = s.size - k ∧ runA isDig (by_ s) k = runA isDig (by_ s) 0) ∧ w = wr)
  case atStart => exact ⟨0, Nat.le_refl _, Nat.zero_le _, rfl, Lib.hid ⟨rfl, rfl⟩, rfl⟩
  case round =>
   obtain ⟨k, hak, hk, rfl, hr, rfl⟩ := hrel
   by_cases hlt : k < s.size
   ·obtain ⟨c, hc⟩ : ∃ c, s[k] = c := ⟨_, rfl⟩
    have hc' : Hid ((by_ s)[k]'hlt = c) := Lib.hid hc
    have HD : Hid (∀ w, Calls Tryz.prog 110 #[.int .u8 (c.toNat : Int)] w fun e w' => e = .returned (.bool (isDig c)) ∧ w = w') := Lib.hid fun w => digit_any c w
    cases hD : isDig c
    ·rw [hD] at HD
     have hw := Lib.hid hD
     clear hD
     go_wp2_with fail
     refine (HD.out _).mono ?_
     rintro e w' ⟨rfl, rfl⟩
     have hR : runA isDig (by_ s) 0 = k := by rw [← hr.out.2]; exact runA_no hlt (by rw [hc'.out]; exact hw.out)
     go_wp2_with fail
     go_meet
     exact ⟨by rw [hE'.out, hR], rfl⟩
    ·rw [hD] at HD
     have hw := Lib.hid hD
     clear hD
     go_wp2_with fail
     refine (HD.out _).mono ?_
     rintro e w' ⟨rfl, rfl⟩
     go_wp2_with fail
     go_roundg (s.size - (k + 1))
     case measure => have := hr.out.1; omega
     case rel => exact ⟨k + 1, by omega, by omega, by go_num, Lib.hid ⟨rfl, by rw [runA_yes hlt (by rw [hc'.out]; exact hw.out)]; exact hr.out.2⟩, rfl⟩
   ·have hR : runA isDig (by_ s) 0 = k := by rw [← hr.out.2]; exact runA_end (by rw [by_len]; omega)
    go_wp2_with fail
    go_meet
    exact ⟨by rw [hE'.out, hR], rfl⟩
 case rest =>
  obtain ⟨rfl, rfl⟩ := hcut
  by_cases h1 : E + 1 < s.size
  ·obtain ⟨c, hc⟩ : ∃ c, s[E] = c := ⟨_, rfl⟩
   obtain ⟨d, hd⟩ : ∃ d, s[E + 1] = d := ⟨_, rfl⟩
   have HD : Hid (∀ w, Calls Tryz.prog 110 #[.int .u8 (d.toNat : Int)] w fun e w' => e = .returned (.bool (isDig d)) ∧ w = w') := Lib.hid fun w => digit_any d w
   have HG := Lib.hid (And.intro (getD_at s E (by omega) c hc) (getD_at s (E + 1) h1 d hd))
   cases h2 : ((c.toNat : Int) == 46)
   ·have hF : Hid (numL (by_ s) = E) := Lib.hid (by
     have : ¬ c.toNat = 46 := fun h => by rw [h] at h2; exact absurd h2 (by decide)
     rw [HN.out, HG.out.1]
     simp [this])
    go_wp2_with fail
    go_ret
    exact ⟨by rw [hF.out]; rfl, rfl⟩
   ·have h2' : c.toNat = 46 := by have := of_decide_eq_true h2; omega
    cases h3 : isDig d
    ·have hF : Hid (numL (by_ s) = E) := Lib.hid (by
      rw [HN.out, HG.out.2, h3]
      simp)
     rw [h3] at HD
     clear h3
     go_wp2_with fail
     refine (HD.out _).mono ?_
     rintro e w' ⟨rfl, rfl⟩
     go_wp2_with fail
     go_ret
     exact ⟨by rw [hF.out]; rfl, rfl⟩
    ·have hF : Hid (runA isDig (by_ s) (E + 1) = numL (by_ s)) := Lib.hid (by
      rw [HN.out, HG.out.1, HG.out.2, h3]
      simp [h1, h2'])
     rw [h3] at HD
     clear h3 h2'
     go_wp2_with fail
     refine (HD.out _).mono ?_
     rintro e w' ⟨rfl, rfl⟩
     clear hd hc HG HD h2 HN
     obtain ⟨a, ha⟩ : ∃ a, E + 1 = a := ⟨_, rfl⟩
     have hiE : ((E : Int) + 1) = (a : Int) := by omega
     go_wp2_with fail
     go_loopg [3] (s.size - a) (fun g i wr => ∃ k : Nat, a ≤ k ∧ k ≤ s.size ∧ i = .int .i64 (k : Int) ∧ Hid (g = s.size - k ∧ runA isDig (by_ s) k = numL (by_ s)) ∧ w = wr)
     case atStart => exact ⟨a, Nat.le_refl _, by omega, rfl, Lib.hid ⟨rfl, by rw [← ha]; exact hF.out⟩, rfl⟩
     case round =>
      obtain ⟨k, hak, hk, rfl, hr, rfl⟩ := hrel
      by_cases hlt : k < s.size
      ·obtain ⟨c, hc⟩ : ∃ c, s[k] = c := ⟨_, rfl⟩
       have hc' : Hid ((by_ s)[k]'hlt = c) := Lib.hid hc
       have HD : Hid (∀ w, Calls Tryz.prog 110 #[.int .u8 (c.toNat : Int)] w fun e w' => e = .returned (.bool (isDig c)) ∧ w = w') := Lib.hid fun w => digit_any c w
       cases hD : isDig c
       ·rw [hD] at HD
        have hw := Lib.hid hD
        clear hD
        go_wp2_with fail
        refine (HD.out _).mono ?_
        rintro e w' ⟨rfl, rfl⟩
        have hR : numL (by_ s) = k := by rw [← hr.out.2]; exact runA_no hlt (by rw [hc'.out]; exact hw.out)
        go_wp2_with fail
        go_ret
        exact ⟨by rw [hR]; rfl, rfl⟩
       ·rw [hD] at HD
        have hw := Lib.hid hD
        clear hD
        go_wp2_with fail
        refine (HD.out _).mono ?_
        rintro e w' ⟨rfl, rfl⟩
        go_wp2_with fail
        go_roundg (s.size - (k + 1))
        case measure => have := hr.out.1; omega
        case rel => exact ⟨k + 1, by omega, by omega, by go_num, Lib.hid ⟨rfl, by rw [runA_yes hlt (by rw [hc'.out]; exact hw.out)]; exact hr.out.2⟩, rfl⟩
      ·have hR : numL (by_ s) = k := by rw [← hr.out.2]; exact runA_end (by rw [by_len]; omega)
       go_wp2_with fail
       go_ret
       exact ⟨by rw [hR]; rfl, rfl⟩
  ·have hF : Hid (numL (by_ s) = E) := Lib.hid (by
    rw [HN.out]
    simp [h1])
   go_wp2_with fail
   go_ret
   exact ⟨by rw [hF.out]; rfl, rfl⟩
end Go.Proofs.YtccakklnbhcbdaaGreatDoor
set_option linter.unusedVariables false
namespace Go.Proofs.YtccakklnbhcbdaaGreatDoor
open Go.ChangeShapes Go.WideShapes Go.ChangeAt Go.RowKit
abbrev aloneS : ByteArray := ⟨#[45, 43, 58, 44, 59, 47, 61, 40, 41, 60, 62, 42]⟩
def symT (l : List UInt8) : Bool := (decide ((l.headD 0).toNat = 62) || decide ((l.headD 0).toNat = 60) || decide ((l.headD 0).toNat = 58)) && decide ((l.tail.headD 0).toNat = 61)
theorem symL_eq {l : List UInt8} (h : l ≠ []) : symL l = if symT l then 2 else if symC (l.headD 0) then 1 else 0 := by
 cases l with
 | nil => exact absurd rfl h
 | cons c l => rfl
theorem drop_head (s : ByteArray) (i : Nat) (h : i < s.size) (c : UInt8) (hc : s[i] = c) : ((by_ s).drop i).headD 0 = c ∧ (by_ s).drop i ≠ [] := by
 have e : (by_ s).drop i = (by_ s)[i]'h :: (by_ s).drop (i + 1) := List.drop_eq_getElem_cons h
 have : (by_ s)[i]'h = c := hc
 rw [e, this]
 exact ⟨rfl, by simp⟩
theorem drop_second (s : ByteArray) (i : Nat) (h : i + 1 < s.size) (d : UInt8) (hd : s[i + 1] = d) : ((by_ s).drop i).tail.headD 0 = d := by
 rw [List.tail_drop]
 exact (drop_head s (i + 1) h d hd).1
theorem drop_second_no (s : ByteArray) (i : Nat) (h : ¬ i + 1 < s.size) : ((by_ s).drop i).tail.headD 0 = 0 := by
 rw [List.tail_drop, List.drop_eq_nil_of_le (by rw [by_len]; omega)]
 rfl
theorem beq_no {c : UInt8} {n : Nat} (h : ((c.toNat : Int) == (n : Int)) = false) : ¬ c.toNat = n := fun e => by rw [e] at h; simp at h
theorem beq_yes {c : UInt8} {n : Nat} (h : ((c.toNat : Int) == (n : Int)) = true) : c.toNat = n := by have := of_decide_eq_true h; omega
theorem symC_yes {c x : UInt8} {k : Nat} (hk : k < 12) (hx : aloneS[k]'hk = x) (h : ((c.toNat : Int) == (x.toNat : Int)) = true) : symC c = true := by
 have e : c = x := UInt8.toNat_inj.1 (beq_yes h)
 subst e hx
 unfold symC
 rw [List.contains_iff_mem]
 exact List.getElem_mem (l := [45, 43, 58, 44, 59, 47, 61, 40, 41, 60, 62, 42]) hk
theorem symC_no {c : UInt8} (h : ∀ k (hk : k < 12), ¬ c = aloneS[k]'hk) : symC c = false := by
 unfold symC
 cases g : List.contains [45, 43, 58, 44, 59, 47, 61, 40, 41, 60, 62, 42] c
 ·rfl
 ·exfalso
  rw [List.contains_iff_mem] at g
  obtain ⟨k, hk, e⟩ := List.getElem_of_mem g
  exact h k hk e.symm
set_option maxRecDepth 100000 in
set_option maxHeartbeats 1000000 in
theorem refsym_any (s : ByteArray) (i : Nat) (hi : i < s.size) (hs : s.size ≤ 9223372036854775806) (w : World) : Calls Tryz.prog 120 #[.string s, .int .i64 (i : Int)] w fun e w' => e = .returned (.int .i64 (symL ((by_ s).drop i) : Int)) ∧ Below w.heap.size w w' := by
 obtain ⟨c, hc⟩ : ∃ c, s[i] = c := ⟨_, rfl⟩
 have D1 := Lib.hid (drop_head s i hi c hc)
 obtain ⟨b, hb⟩ : ∃ b, symT ((by_ s).drop i) = b := ⟨_, rfl⟩
 have hL := Lib.hid (symL_eq D1.out.2)
 rw [hb, D1.out.1] at hL
 replace hb := Lib.hid hb
 go_enter Tryz.func120, Tryz.ntmps120
 go_upto_region 1 with fail
 go_cut [36] (fun t wn => t = .bool b ∧ w = wn)
 case first =>
  have hb' := hb.out
  unfold symT at hb'
  rw [D1.out.1] at hb'
  by_cases h1 : i + 1 < s.size
  ·obtain ⟨d, hd⟩ : ∃ d, s[i + 1] = d := ⟨_, rfl⟩
   rw [drop_second s i h1 d hd] at hb'
   cases h2 : ((d.toNat : Int) == 61)
   ·have e : Hid (b = false) := Lib.hid (by rw [← hb']; have := beq_no (n := 61) h2; simp [this])
    clear hb'
    go_wp2_with fail
    go_meet
    exact ⟨by rw [e.out], rfl⟩
   ·have h2' := beq_yes (n := 61) h2
    rw [h2'] at hb'
    cases h3 : ((c.toNat : Int) == 62)
    ·have h3' := beq_no (n := 62) h3
     cases h4 : ((c.toNat : Int) == 60)
     ·have h4' := beq_no (n := 60) h4
      cases h5 : ((c.toNat : Int) == 58)
      ·have h5' := beq_no (n := 58) h5
       have e : Hid (b = false) := Lib.hid (by rw [← hb']; simp [h3', h4', h5'])
       clear hb' h2' h3' h4' h5'
       go_wp2_with fail
       go_meet
       exact ⟨by rw [e.out], rfl⟩
      ·have h5' := beq_yes (n := 58) h5
       have e : Hid (b = true) := Lib.hid (by rw [← hb']; simp [h5'])
       clear hb' h2' h3' h4' h5'
       go_wp2_with fail
       go_meet
       exact ⟨by rw [e.out], rfl⟩
     ·have h4' := beq_yes (n := 60) h4
      have e : Hid (b = true) := Lib.hid (by rw [← hb']; simp [h4'])
      clear hb' h2' h3' h4'
      go_wp2_with fail
      go_meet
      exact ⟨by rw [e.out], rfl⟩
    ·have h3' := beq_yes (n := 62) h3
     have e : Hid (b = true) := Lib.hid (by rw [← hb']; simp [h3'])
     clear hb' h2' h3'
     go_wp2_with fail
     go_meet
     exact ⟨by rw [e.out], rfl⟩
  ·rw [drop_second_no s i h1] at hb'
   have e : Hid (b = false) := Lib.hid (by rw [← hb']; simp)
   clear hb'
   go_wp2_with fail
   go_meet
   exact ⟨by rw [e.out], rfl⟩
 case rest =>
  obtain ⟨rfl, rfl⟩ := hcut
  cases b
  ·go_wp2_with fail
   go_loopg [6] 12 (fun g i wr => ∃ k : Nat, k ≤ 12 ∧ i = .int .i64 (k : Int) ∧ Hid (g = 12 - k ∧ ∀ j (hj : j < 12), j < k → ¬ c = aloneS[j]'hj) ∧ Below w.heap.size w wr)
   case atStart => exact ⟨0, by omega, rfl, Lib.hid ⟨rfl, fun j _ h => by omega⟩, Below.refl _ _⟩
   case round =>
    obtain ⟨k, hk, rfl, hr, HB⟩ := hrel
    by_cases hlt : k < 12
    ·obtain ⟨x, hx⟩ : ∃ x, aloneS[k]'hlt = x := ⟨_, rfl⟩
     have hx2 : Hid (aloneS[k]'hlt = x) := Lib.hid hx
     cases h : ((c.toNat : Int) == (x.toNat : Int))
     ·go_wp2_with fail
      go_quiet (fail)
      go_wp2_with fail
      go_roundg (12 - (k + 1))
      case measure => have := hr.out.1; omega
      case rel =>
       refine ⟨k + 1, by omega, by go_num, Lib.hid ⟨rfl, fun j hj h' => ?_⟩, (by repeat (first | with_reducible assumption | with_reducible exact Below.refl _ _ | with_reducible refine below_al ?_ _ | with_reducible refine below_drew ?_ | with_reducible refine below_drewN ?_ _ | with_reducible refine below_set ?_ (by dsimp only; omega) _))⟩
       rcases Nat.lt_or_ge j k with q | q
       ·exact hr.out.2 j hj q
       ·have : j = k := by omega
        subst this
        intro e
        subst e
        rw [hx2.out] at h
        simp at h
     ·have e := Lib.hid (symC_yes hlt hx h)
      go_wp2_with fail
      go_quiet (fail)
      go_wp2_with fail
      go_ret
      exact ⟨by rw [hL.out, e.out]; rfl, (by repeat (first | with_reducible assumption | with_reducible exact Below.refl _ _ | with_reducible refine below_al ?_ _ | with_reducible refine below_drew ?_ | with_reducible refine below_drewN ?_ _ | with_reducible refine below_set ?_ (by dsimp only; omega) _))⟩
    ·have hk12 : k = 12 := by omega
     have e := Lib.hid (symC_no (c := c) fun j hj => hr.out.2 j hj (by omega))
     subst hk12
     go_wp2_with fail
     go_ret
     exact ⟨by rw [hL.out, e.out]; rfl, (by repeat (first | with_reducible assumption | with_reducible exact Below.refl _ _ | with_reducible refine below_al ?_ _ | with_reducible refine below_drew ?_ | with_reducible refine below_drewN ?_ _ | with_reducible refine below_set ?_ (by dsimp only; omega) _))⟩
  ·go_wp2_with fail
   go_ret
   exact ⟨by rw [hL.out]; rfl, Below.refl _ _⟩
end Go.Proofs.YtccakklnbhcbdaaGreatDoor
