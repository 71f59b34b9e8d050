import Derived.Test.YtccakklnbhcbdaaGreatDoorFQa
import Derived.Deep.LoopGhost
import Derived.Deep.DeepCutAuto
import Derived.Deep.CutBlock
import Derived.Test.YtccakklnbhcbdaaGreatDoorFShelf
import Derived.LoopN
set_option linter.unusedVariables false
namespace Go.Proofs.YtccakklnbhcbdaaGreatDoor
open Go.ChangeShapes Go.WideShapes Go.ChangeAt Go.RowKit
theorem nextL_eq (l : List UInt8) (c : UInt8) (hc : l.headD 0 = c) : nextL l = (if c.toNat = 32 ∨ c.toNat = 9 then (0, 1) else if c.toNat = 10 then (4, 1) else if c.toNat = 35 then (0, runL (fun c => decide (c.toNat ≠ 10)) l)
 else if isLet c then (if 20 < runL isWrd l then (-1, runL isWrd l) else (1, runL isWrd l)) else if isDig c then (2, numL l) else if symL l = 0 then (-1, 1) else (3, symL l)) := by subst hc; rfl
theorem not_nl {c : UInt8} (h : ((c.toNat : Int) == 10) = false) : (fun c : UInt8 => decide (c.toNat ≠ 10)) c = true := by simpa using beq_no (n := 10) h
theorem is_nl {c : UInt8} (h : ((c.toNat : Int) == 10) = true) : (fun c : UInt8 => decide (c.toNat ≠ 10)) c = false := by simpa using beq_yes (n := 10) h
abbrev nxv (k : Int) (e : Nat) : Value := .tuple #[.int .i64 k, .int .i64 (e : Int)]
set_option maxRecDepth 100000 in
set_option maxHeartbeats 1000000 in
theorem next_sp (s : ByteArray) (i : Nat) (hi : i < s.size) (hs : s.size ≤ 9223372036854775806) (c : UInt8) (hc : s[i] = c) (h : (c.toNat : Int) = 32) (w : World) :
  Calls Tryz.prog 101 #[.string s, .int .i64 (i : Int)] w fun e w' => e = .returned (nxv 0 (i + 1)) ∧ Below w.heap.size w w' := by
 go_enter Tryz.func101, Tryz.ntmps101
 go_wp2_with fail
 go_ret2
 exact ⟨rfl, (by repeat (first | with_reducible assumption | with_reducible exact Below.refl _ _ | with_reducible refine below_al ?_ _ | with_reducible refine below_drew ?_ | with_reducible refine below_drewN ?_ _ | with_reducible refine below_set ?_ (by dsimp only; omega) _))⟩
set_option maxRecDepth 100000 in
set_option maxHeartbeats 1000000 in
theorem next_tab (s : ByteArray) (i : Nat) (hi : i < s.size) (hs : s.size ≤ 9223372036854775806) (c : UInt8) (hc : s[i] = c) (h : (c.toNat : Int) = 9) (w : World) :
  Calls Tryz.prog 101 #[.string s, .int .i64 (i : Int)] w fun e w' => e = .returned (nxv 0 (i + 1)) ∧ Below w.heap.size w w' := by
 go_enter Tryz.func101, Tryz.ntmps101
 go_wp2_with fail
 go_ret2
 exact ⟨rfl, (by repeat (first | with_reducible assumption | with_reducible exact Below.refl _ _ | with_reducible refine below_al ?_ _ | with_reducible refine below_drew ?_ | with_reducible refine below_drewN ?_ _ | with_reducible refine below_set ?_ (by dsimp only; omega) _))⟩
set_option maxRecDepth 100000 in
set_option maxHeartbeats 1000000 in
theorem next_nl (s : ByteArray) (i : Nat) (hi : i < s.size) (hs : s.size ≤ 9223372036854775806) (c : UInt8) (hc : s[i] = c) (h : (c.toNat : Int) = 10) (w : World) :
  Calls Tryz.prog 101 #[.string s, .int .i64 (i : Int)] w fun e w' => e = .returned (nxv 4 (i + 1)) ∧ Below w.heap.size w w' := by
 go_enter Tryz.func101, Tryz.ntmps101
 go_wp2_with fail
 go_ret2
 exact ⟨rfl, (by repeat (first | with_reducible assumption | with_reducible exact Below.refl _ _ | with_reducible refine below_al ?_ _ | with_reducible refine below_drew ?_ | with_reducible refine below_drewN ?_ _ | with_reducible refine below_set ?_ (by dsimp only; omega) _))⟩
set_option maxRecDepth 100000 in
set_option maxHeartbeats 1000000 in
theorem next_com (s : ByteArray) (i : Nat) (hi : i < s.size) (hs : s.size ≤ 9223372036854775806) (c : UInt8) (hc : s[i] = c) (h : (c.toNat : Int) = 35) (w : World) :
  Calls Tryz.prog 101 #[.string s, .int .i64 (i : Int)] w fun e w' => e = .returned (nxv 0 (runA (fun c : UInt8 => decide (c.toNat ≠ 10)) (by_ s) i)) ∧ Below w.heap.size w w' := by
 go_enter Tryz.func101, Tryz.ntmps101
 obtain ⟨R, hR⟩ : ∃ R, runA (fun c : UInt8 => decide (c.toNat ≠ 10)) (by_ s) i = R := ⟨_, rfl⟩
 rw [hR]
 replace hR := Lib.hid hR
 go_wp2_with fail
 clear hc h
 go_loopg [1] (s.size - i) (fun g j wr => ∃ k : Nat, i ≤ k ∧ k ≤ s.size ∧ j = .int .i64 (k : Int) ∧ Hid (g = s.size - k ∧ runA (fun c : UInt8 => decide (c.toNat ≠ 10)) (by_ s) k = R) ∧ w = wr)
 case atStart => exact ⟨i, Nat.le_refl _, by omega, rfl, Lib.hid ⟨rfl, hR.out⟩, rfl⟩
 case round =>
  obtain ⟨k, hak, hk, rfl, hr, rfl⟩ := hrel
  by_cases hlt : k < s.size
  ·obtain ⟨d, hd⟩ : ∃ d, s[k] = d := ⟨_, rfl⟩
   have hd' : Hid ((by_ s)[k]'hlt = d) := Lib.hid hd
   cases h : ((d.toNat : Int) == 10)
   ·have hw := Lib.hid (not_nl h)
    have h2 : ¬ (d.toNat : Int) = 10 := by simpa using h
    have h3 : ((d.toNat : Int) != 10) = true := by simp [h2]
    go_wp2_with fail
    go_roundg (s.size - (k + 1))
    case measure => have := hr.out.1; omega
    case rel => exact ⟨k + 1, by omega, by omega, by go_num, Lib.hid ⟨rfl, by rw [runA_yes hlt (by rw [hd'.out]; exact hw.out)]; exact hr.out.2⟩, rfl⟩
   ·have hw := Lib.hid (is_nl h)
    have h2 : (d.toNat : Int) = 10 := by simpa using h
    have hE : Hid (R = k) := Lib.hid (by rw [← hr.out.2]; exact runA_no hlt (by rw [hd'.out]; exact hw.out))
    go_wp2_with fail
    go_ret2
    exact ⟨by rw [hE.out]; rfl, Below.refl _ _⟩
  ·have hE : Hid (R = k) := Lib.hid (by rw [← hr.out.2]; exact runA_end (by rw [by_len]; omega))
   go_wp2_with fail
   go_ret2
   exact ⟨by rw [hE.out]; rfl, Below.refl _ _⟩
set_option maxRecDepth 100000 in
set_option maxHeartbeats 1000000 in
theorem next_name (s : ByteArray) (i : Nat) (hi : i < s.size) (hs : s.size ≤ 9223372036854775806) (c : UInt8) (hc : s[i] = c) (n1 : ((c.toNat : Int) == 32) = false) (n2 : ((c.toNat : Int) == 9) = false) (n3 : ((c.toNat : Int) == 10) = false) (n4 : ((c.toNat : Int) == 35) = false) (E : Nat) (hE : i ≤ E ∧ E ≤ s.size) (h20 : ¬ 20 < E - i)
  (HL : Hid (∀ w, Calls Tryz.prog 85 #[.int .u8 (c.toNat : Int)] w fun e w' => e = .returned (.bool true) ∧ w = w'))
  (HW : Hid (∀ w, Calls Tryz.prog 86 #[.string s, .int .i64 (i : Int)] w fun e w' => e = .returned (.int .i64 (E : Int)) ∧ w = w')) (w : World) :
  Calls Tryz.prog 101 #[.string s, .int .i64 (i : Int)] w fun e w' => e = .returned (nxv 1 E) ∧ Below w.heap.size w w' := by
 go_enter Tryz.func101, Tryz.ntmps101
 have e1 : IntKind.i64.wrap ((E : Int) - (i : Int)) = ((E - i : Nat) : Int) := by rw [wrap_in (by omega)]; omega
 have e2 : ¬ (20 : Int) < ((E - i : Nat) : Int) := by omega
 obtain ⟨q, hq⟩ : ∃ q, E - i = q := ⟨_, rfl⟩
 rw [hq] at e1 e2
 clear hq h20
 go_wp2_with fail
 refine (HL.out _).mono ?_
 rintro e w' ⟨rfl, rfl⟩
 go_wp2_with fail
 refine (HW.out _).mono ?_
 rintro e w' ⟨rfl, rfl⟩
 go_wp2_with fail
 go_ret2
 exact ⟨rfl, (by repeat (first | with_reducible assumption | with_reducible exact Below.refl _ _ | with_reducible refine below_al ?_ _ | with_reducible refine below_drew ?_ | with_reducible refine below_drewN ?_ _ | with_reducible refine below_set ?_ (by dsimp only; omega) _))⟩
set_option maxRecDepth 100000 in
set_option maxHeartbeats 1000000 in
theorem next_long (s : ByteArray) (i : Nat) (hi : i < s.size) (hs : s.size ≤ 9223372036854775806) (c : UInt8) (hc : s[i] = c) (n1 : ((c.toNat : Int) == 32) = false) (n2 : ((c.toNat : Int) == 9) = false) (n3 : ((c.toNat : Int) == 10) = false) (n4 : ((c.toNat : Int) == 35) = false) (E : Nat) (hE : i ≤ E ∧ E ≤ s.size) (h20 : 20 < E - i)
  (HL : Hid (∀ w, Calls Tryz.prog 85 #[.int .u8 (c.toNat : Int)] w fun e w' => e = .returned (.bool true) ∧ w = w'))
  (HW : Hid (∀ w, Calls Tryz.prog 86 #[.string s, .int .i64 (i : Int)] w fun e w' => e = .returned (.int .i64 (E : Int)) ∧ w = w')) (w : World) :
  Calls Tryz.prog 101 #[.string s, .int .i64 (i : Int)] w fun e w' => e = .returned (nxv (-1) E) ∧ Below w.heap.size w w' := by
 go_enter Tryz.func101, Tryz.ntmps101
 have e1 : IntKind.i64.wrap ((E : Int) - (i : Int)) = ((E - i : Nat) : Int) := by rw [wrap_in (by omega)]; omega
 have e2 : (20 : Int) < ((E - i : Nat) : Int) := by omega
 obtain ⟨q, hq⟩ : ∃ q, E - i = q := ⟨_, rfl⟩
 rw [hq] at e1 e2
 clear hq h20
 go_wp2_with fail
 refine (HL.out _).mono ?_
 rintro e w' ⟨rfl, rfl⟩
 go_wp2_with fail
 refine (HW.out _).mono ?_
 rintro e w' ⟨rfl, rfl⟩
 go_wp2_with fail
 go_ret2
 exact ⟨rfl, (by repeat (first | with_reducible assumption | with_reducible exact Below.refl _ _ | with_reducible refine below_al ?_ _ | with_reducible refine below_drew ?_ | with_reducible refine below_drewN ?_ _ | with_reducible refine below_set ?_ (by dsimp only; omega) _))⟩
set_option maxRecDepth 100000 in
set_option maxHeartbeats 1000000 in
theorem next_int1 (s : ByteArray) (i : Nat) (hi : i < s.size) (hs : s.size ≤ 9223372036854775806) (c : UInt8) (hc : s[i] = c) (n1 : ((c.toNat : Int) == 32) = false) (n2 : ((c.toNat : Int) == 9) = false) (n3 : ((c.toNat : Int) == 10) = false) (n4 : ((c.toNat : Int) == 35) = false) (E : Nat) (hE : E ≤ s.size) (h1 : ¬ E + 1 < s.size)
  (HL : Hid (∀ w, Calls Tryz.prog 85 #[.int .u8 (c.toNat : Int)] w fun e w' => e = .returned (.bool false) ∧ w = w'))
  (HD : Hid (∀ w, Calls Tryz.prog 112 #[.int .u8 (c.toNat : Int)] w fun e w' => e = .returned (.bool true) ∧ w = w'))
  (HF : Hid (∀ w, Calls Tryz.prog 119 #[.string s, .int .i64 (i : Int)] w fun e w' => e = .returned (.int .i64 (E : Int)) ∧ w = w')) (w : World) :
  Calls Tryz.prog 101 #[.string s, .int .i64 (i : Int)] w fun e w' => e = .returned (nxv 2 E) ∧ Below w.heap.size w w' := by
 go_enter Tryz.func101, Tryz.ntmps101
 go_wp2_with fail
 refine (HL.out _).mono ?_
 rintro e w' ⟨rfl, rfl⟩
 go_wp2_with fail
 refine (HD.out _).mono ?_
 rintro e w' ⟨rfl, rfl⟩
 go_wp2_with fail
 refine (HF.out _).mono ?_
 rintro e w' ⟨rfl, rfl⟩
 go_wp2_with fail
 go_ret2
 exact ⟨rfl, (by repeat (first | with_reducible assumption | with_reducible exact Below.refl _ _ | with_reducible refine below_al ?_ _ | with_reducible refine below_drew ?_ | with_reducible refine below_drewN ?_ _ | with_reducible refine below_set ?_ (by dsimp only; omega) _))⟩
set_option maxRecDepth 100000 in
set_option maxHeartbeats 1000000 in
theorem next_int2 (s : ByteArray) (i : Nat) (hi : i < s.size) (hs : s.size ≤ 9223372036854775806) (c : UInt8) (hc : s[i] = c) (n1 : ((c.toNat : Int) == 32) = false) (n2 : ((c.toNat : Int) == 9) = false) (n3 : ((c.toNat : Int) == 10) = false) (n4 : ((c.toNat : Int) == 35) = false) (E : Nat) (h1 : E + 1 < s.size) (d : UInt8) (hd : s[E] = d) (h2 : ((d.toNat : Int) == 46) = false)
  (HL : Hid (∀ w, Calls Tryz.prog 85 #[.int .u8 (c.toNat : Int)] w fun e w' => e = .returned (.bool false) ∧ w = w'))
  (HD : Hid (∀ w, Calls Tryz.prog 112 #[.int .u8 (c.toNat : Int)] w fun e w' => e = .returned (.bool true) ∧ w = w'))
  (HF : Hid (∀ w, Calls Tryz.prog 119 #[.string s, .int .i64 (i : Int)] w fun e w' => e = .returned (.int .i64 (E : Int)) ∧ w = w')) (w : World) :
  Calls Tryz.prog 101 #[.string s, .int .i64 (i : Int)] w fun e w' => e = .returned (nxv 2 E) ∧ Below w.heap.size w w' := by
 go_enter Tryz.func101, Tryz.ntmps101
 go_wp2_with fail
 refine (HL.out _).mono ?_
 rintro e w' ⟨rfl, rfl⟩
 go_wp2_with fail
 refine (HD.out _).mono ?_
 rintro e w' ⟨rfl, rfl⟩
 go_wp2_with fail
 refine (HF.out _).mono ?_
 rintro e w' ⟨rfl, rfl⟩
 go_wp2_with fail
 go_ret2
 exact ⟨rfl, (by repeat (first | with_reducible assumption | with_reducible exact Below.refl _ _ | with_reducible refine below_al ?_ _ | with_reducible refine below_drew ?_ | with_reducible refine below_drewN ?_ _ | with_reducible refine below_set ?_ (by dsimp only; omega) _))⟩
set_option maxRecDepth 100000 in
set_option maxHeartbeats 1000000 in
theorem next_int3 (s : ByteArray) (i : Nat) (hi : i < s.size) (hs : s.size ≤ 9223372036854775806) (c : UInt8) (hc : s[i] = c) (n1 : ((c.toNat : Int) == 32) = false) (n2 : ((c.toNat : Int) == 9) = false) (n3 : ((c.toNat : Int) == 10) = false) (n4 : ((c.toNat : Int) == 35) = false) (E : Nat) (h1 : E + 1 < s.size) (d d2 : UInt8) (hd : s[E] = d) (hd2 : s[E + 1] = d2) (h2 : (d.toNat : Int) = 46)
  (HL : Hid (∀ w, Calls Tryz.prog 85 #[.int .u8 (c.toNat : Int)] w fun e w' => e = .returned (.bool false) ∧ w = w'))
  (HD : Hid (∀ w, Calls Tryz.prog 112 #[.int .u8 (c.toNat : Int)] w fun e w' => e = .returned (.bool true) ∧ w = w'))
  (HF : Hid (∀ w, Calls Tryz.prog 119 #[.string s, .int .i64 (i : Int)] w fun e w' => e = .returned (.int .i64 (E : Int)) ∧ w = w'))
  (HD2 : Hid (∀ w, Calls Tryz.prog 112 #[.int .u8 (d2.toNat : Int)] w fun e w' => e = .returned (.bool false) ∧ w = w')) (w : World) :
  Calls Tryz.prog 101 #[.string s, .int .i64 (i : Int)] w fun e w' => e = .returned (nxv 2 E) ∧ Below w.heap.size w w' := by
 go_enter Tryz.func101, Tryz.ntmps101
 go_wp2_with fail
 refine (HL.out _).mono ?_
 rintro e w' ⟨rfl, rfl⟩
 go_wp2_with fail
 refine (HD.out _).mono ?_
 rintro e w' ⟨rfl, rfl⟩
 go_wp2_with fail
 refine (HF.out _).mono ?_
 rintro e w' ⟨rfl, rfl⟩
 go_wp2_with fail
 refine (HD2.out _).mono ?_
 rintro e w' ⟨rfl, rfl⟩
 go_wp2_with fail
 go_ret2
 exact ⟨rfl, (by repeat (first | with_reducible assumption | with_reducible exact Below.refl _ _ | with_reducible refine below_al ?_ _ | with_reducible refine below_drew ?_ | with_reducible refine below_drewN ?_ _ | with_reducible refine below_set ?_ (by dsimp only; omega) _))⟩
set_option maxRecDepth 100000 in
set_option maxHeartbeats 1000000 in
theorem next_frac (s : ByteArray) (i : Nat) (hi : i < s.size) (hs : s.size ≤ 9223372036854775806) (c : UInt8) (hc : s[i] = c) (n1 : ((c.toNat : Int) == 32) = false) (n2 : ((c.toNat : Int) == 9) = false) (n3 : ((c.toNat : Int) == 10) = false) (n4 : ((c.toNat : Int) == 35) = false) (E E2 : Nat) (h1 : E + 1 < s.size) (d d2 : UInt8) (hd : s[E] = d) (hd2 : s[E + 1] = d2) (h2 : (d.toNat : Int) = 46)
  (HL : Hid (∀ w, Calls Tryz.prog 85 #[.int .u8 (c.toNat : Int)] w fun e w' => e = .returned (.bool false) ∧ w = w'))
  (HD : Hid (∀ w, Calls Tryz.prog 112 #[.int .u8 (c.toNat : Int)] w fun e w' => e = .returned (.bool true) ∧ w = w'))
  (HF : Hid (∀ w, Calls Tryz.prog 119 #[.string s, .int .i64 (i : Int)] w fun e w' => e = .returned (.int .i64 (E : Int)) ∧ w = w'))
  (HD2 : Hid (∀ w, Calls Tryz.prog 112 #[.int .u8 (d2.toNat : Int)] w fun e w' => e = .returned (.bool true) ∧ w = w'))
  (HF2 : Hid (∀ w, Calls Tryz.prog 119 #[.string s, .int .i64 ((E : Int) + 1)] w fun e w' => e = .returned (.int .i64 (E2 : Int)) ∧ w = w')) (w : World) :
  Calls Tryz.prog 101 #[.string s, .int .i64 (i : Int)] w fun e w' => e = .returned (nxv 2 E2) ∧ Below w.heap.size w w' := by
 go_enter Tryz.func101, Tryz.ntmps101
 go_wp2_with fail
 refine (HL.out _).mono ?_
 rintro e w' ⟨rfl, rfl⟩
 go_wp2_with fail
 refine (HD.out _).mono ?_
 rintro e w' ⟨rfl, rfl⟩
 go_wp2_with fail
 refine (HF.out _).mono ?_
 rintro e w' ⟨rfl, rfl⟩
 go_wp2_with fail
 refine (HD2.out _).mono ?_
 rintro e w' ⟨rfl, rfl⟩
 go_wp2_with fail
 refine (HF2.out _).mono ?_
 rintro e w' ⟨rfl, rfl⟩
 go_wp2_with fail
 go_ret2
 exact ⟨rfl, (by repeat (first | with_reducible assumption | with_reducible exact Below.refl _ _ | with_reducible refine below_al ?_ _ | with_reducible refine below_drew ?_ | with_reducible refine below_drewN ?_ _ | with_reducible refine below_set ?_ (by dsimp only; omega) _))⟩
set_option maxRecDepth 100000 in
set_option maxHeartbeats 1000000 in
theorem next_sym (s : ByteArray) (i : Nat) (hi : i < s.size) (hs : s.size ≤ 9223372036854775806) (c : UInt8) (hc : s[i] = c) (n1 : ((c.toNat : Int) == 32) = false) (n2 : ((c.toNat : Int) == 9) = false) (n3 : ((c.toNat : Int) == 10) = false) (n4 : ((c.toNat : Int) == 35) = false) (n : Nat) (hn : 0 < n) (hn2 : i + n ≤ s.size)
  (HL : Hid (∀ w, Calls Tryz.prog 85 #[.int .u8 (c.toNat : Int)] w fun e w' => e = .returned (.bool false) ∧ w = w'))
  (HD : Hid (∀ w, Calls Tryz.prog 112 #[.int .u8 (c.toNat : Int)] w fun e w' => e = .returned (.bool false) ∧ w = w'))
  (HS : Hid (∀ w, Calls Tryz.prog 120 #[.string s, .int .i64 (i : Int)] w fun e w' => e = .returned (.int .i64 (n : Int)) ∧ Below w.heap.size w w')) (w : World) :
  Calls Tryz.prog 101 #[.string s, .int .i64 (i : Int)] w fun e w' => e = .returned (nxv 3 (i + n)) ∧ Below w.heap.size w w' := by
 go_enter Tryz.func101, Tryz.ntmps101
 have e0 : (0 : Int) < (n : Int) := by omega
 go_wp2_with fail
 refine (HL.out _).mono ?_
 rintro e w' ⟨rfl, rfl⟩
 go_wp2_with fail
 refine (HD.out _).mono ?_
 rintro e w' ⟨rfl, rfl⟩
 go_wp2_with fail
 refine (HS.out _).mono ?_
 rintro e w' ⟨rfl, HB⟩
 go_wp2_with fail
 go_ret2
 exact ⟨rfl, (by repeat (first | with_reducible assumption | with_reducible exact Below.refl _ _ | with_reducible refine below_al ?_ _ | with_reducible refine below_drew ?_ | with_reducible refine below_drewN ?_ _ | with_reducible refine below_set ?_ (by dsimp only; omega) _))⟩
set_option maxRecDepth 100000 in
set_option maxHeartbeats 1000000 in
theorem next_bad (s : ByteArray) (i : Nat) (hi : i < s.size) (hs : s.size ≤ 9223372036854775806) (c : UInt8) (hc : s[i] = c) (n1 : ((c.toNat : Int) == 32) = false) (n2 : ((c.toNat : Int) == 9) = false) (n3 : ((c.toNat : Int) == 10) = false) (n4 : ((c.toNat : Int) == 35) = false)
  (HL : Hid (∀ w, Calls Tryz.prog 85 #[.int .u8 (c.toNat : Int)] w fun e w' => e = .returned (.bool false) ∧ w = w'))
  (HD : Hid (∀ w, Calls Tryz.prog 112 #[.int .u8 (c.toNat : Int)] w fun e w' => e = .returned (.bool false) ∧ w = w'))
  (HS : Hid (∀ w, Calls Tryz.prog 120 #[.string s, .int .i64 (i : Int)] w fun e w' => e = .returned (.int .i64 0) ∧ Below w.heap.size w w')) (w : World) :
  Calls Tryz.prog 101 #[.string s, .int .i64 (i : Int)] w fun e w' => e = .returned (nxv (-1) (i + 1)) ∧ Below w.heap.size w w' := by
 go_enter Tryz.func101, Tryz.ntmps101
 go_wp2_with fail
 refine (HL.out _).mono ?_
 rintro e w' ⟨rfl, rfl⟩
 go_wp2_with fail
 refine (HD.out _).mono ?_
 rintro e w' ⟨rfl, rfl⟩
 go_wp2_with fail
 refine (HS.out _).mono ?_
 rintro e w' ⟨rfl, HB⟩
 go_wp2_with fail
 go_ret2
 exact ⟨rfl, (by repeat (first | with_reducible assumption | with_reducible exact Below.refl _ _ | with_reducible refine below_al ?_ _ | with_reducible refine below_drew ?_ | with_reducible refine below_drewN ?_ _ | with_reducible refine below_set ?_ (by dsimp only; omega) _))⟩
end Go.Proofs.YtccakklnbhcbdaaGreatDoor
set_option linter.unusedVariables false
namespace Go.Proofs.YtccakklnbhcbdaaGreatDoor
open Go.ChangeShapes Go.WideShapes Go.ChangeAt Go.RowKit
theorem symL_le (l : List UInt8) : symL l ≤ l.length := by
 match l with
 | [] => simp [symL]
 | [c] => simp [symL]; split <;> omega
 | c :: d :: r => simp only [symL, List.length_cons]; split <;> (try split) <;> omega
theorem runA_next (p : UInt8 → Bool) (l : List UInt8) (i : Nat) : runA p l i = i + runL p (l.drop i) := rfl
theorem refnext_any (s : ByteArray) (i : Nat) (hi : i < s.size) (hs : s.size ≤ 9223372036854775806) (w : World) :
  Calls Tryz.prog 101 #[.string s, .int .i64 (i : Int)] w fun e w' => e = .returned (nxv (nextL ((by_ s).drop i)).1 (i + (nextL ((by_ s).drop i)).2)) ∧ Below w.heap.size w w' := by
 obtain ⟨c, hc⟩ : ∃ c, s[i] = c := ⟨_, rfl⟩
 have D1 := drop_head s i hi c hc
 rw [nextL_eq _ c D1.1]
 have len : (by_ s).length = s.size := rfl
 have dl : ((by_ s).drop i).length = s.size - i := by rw [List.length_drop, len]
 by_cases c32 : c.toNat = 32
 ·rw [if_pos (Or.inl c32)]
  exact next_sp s i hi hs c hc (by omega) w
 by_cases c9 : c.toNat = 9
 ·rw [if_pos (Or.inr c9)]
  exact next_tab s i hi hs c hc (by omega) w
 rw [if_neg (by omega)]
 by_cases c10 : c.toNat = 10
 ·rw [if_pos c10]
  exact next_nl s i hi hs c hc (by omega) w
 rw [if_neg c10]
 by_cases c35 : c.toNat = 35
 ·rw [if_pos c35]
  have := next_com s i hi hs c hc (by omega) w
  rw [runA_next] at this
  exact this
 rw [if_neg c35]
 have n1 : ((c.toNat : Int) == 32) = false := by simp; omega
 have n2 : ((c.toNat : Int) == 9) = false := by simp; omega
 have n3 : ((c.toNat : Int) == 10) = false := by simp; omega
 have n4 : ((c.toNat : Int) == 35) = false := by simp; omega
 cases hL : isLet c
 ·have HL := Lib.hid (fun w => by have := refLetter_any c w; rw [hL] at this; exact this)
  rw [if_neg (by simp)]
  cases hD : isDig c
  ·have HD := Lib.hid (fun w => by have := refDigit_any c w; rw [hD] at this; exact this)
   rw [if_neg (by simp)]
   have HS := fun w => refsym_any s i hi hs w
   have hsl := symL_le ((by_ s).drop i)
   rw [dl] at hsl
   generalize symL ((by_ s).drop i) = n at *
   by_cases h0 : n = 0
   ·rw [if_pos h0]
    subst h0
    exact next_bad s i hi hs c hc n1 n2 n3 n4 HL HD (Lib.hid HS) w
   ·rw [if_neg h0]
    exact next_sym s i hi hs c hc n1 n2 n3 n4 n (by omega) (by omega) HL HD (Lib.hid HS) w
  ·have HD := Lib.hid (fun w => by have := refDigit_any c w; rw [hD] at this; exact this)
   rw [if_pos rfl]
   show Calls Tryz.prog 101 #[.string s, .int .i64 (i : Int)] w fun e w' => e = .returned (nxv 2 (i + numL ((by_ s).drop i))) ∧ Below w.heap.size w w'
   rw [← numA_drop]
   have HF := fun w => reffigures_any s i (by omega) hs w
   have hE := runA_le (p := isDig) (l := by_ s) (k := i) (by rw [len]; omega)
   rw [len] at hE
   have hN : numA (by_ s) i = if decide (runA isDig (by_ s) i + 1 < s.size) && decide (((by_ s).getD (runA isDig (by_ s) i) 0).toNat = 46) && isDig ((by_ s).getD (runA isDig (by_ s) i + 1) 0) then runA isDig (by_ s) (runA isDig (by_ s) i + 1) else runA isDig (by_ s) i := rfl
   rw [hN]
   generalize runA isDig (by_ s) i = E at *
   by_cases h1 : E + 1 < s.size
   ·obtain ⟨d, hd⟩ : ∃ d, s[E] = d := ⟨_, rfl⟩
    obtain ⟨d2, hd2⟩ : ∃ d2, s[E + 1] = d2 := ⟨_, rfl⟩
    rw [getD_at s E (by omega) d hd, getD_at s (E + 1) h1 d2 hd2]
    by_cases h2 : d.toNat = 46
    ·have HD2 := fun w => refDigit_any d2 w
     cases h3 : isDig d2
     ·rw [h3] at HD2
      rw [if_neg (by simp)]
      exact next_int3 s i hi hs c hc n1 n2 n3 n4 E h1 d d2 hd hd2 (by omega) HL HD (Lib.hid HF) (Lib.hid HD2) w
     ·rw [h3] at HD2
      rw [if_pos (by simp [h1, h2])]
      have HF2 := fun w => reffigures_any s (E + 1) (by omega) hs w
      exact next_frac s i hi hs c hc n1 n2 n3 n4 E _ h1 d d2 hd hd2 (by omega) HL HD (Lib.hid HF) (Lib.hid HD2) (Lib.hid HF2) w
    ·rw [if_neg (by simp [h2])]
     exact next_int2 s i hi hs c hc n1 n2 n3 n4 E h1 d hd (by simp; omega) HL HD (Lib.hid HF) w
   ·rw [if_neg (by simp [h1])]
    exact next_int1 s i hi hs c hc n1 n2 n3 n4 E (by omega) h1 HL HD (Lib.hid HF) w
 ·have HL := Lib.hid (fun w => by have := refLetter_any c w; rw [hL] at this; exact this)
  rw [if_pos rfl]
  have HW := fun w => refword_any s i (by omega) hs w
  have hE := runA_le (p := isWrd) (l := by_ s) (k := i) (by rw [len]; omega)
  rw [len] at hE
  have e0 : runL isWrd ((by_ s).drop i) = runA isWrd (by_ s) i - i := by rw [runA_next]; omega
  rw [e0]
  generalize runA isWrd (by_ s) i = E at *
  have e1 : i + (E - i) = E := by omega
  by_cases h20 : 20 < E - i
  ·rw [if_pos h20]
   show Calls Tryz.prog 101 #[.string s, .int .i64 (i : Int)] w fun e w' => e = .returned (nxv (-1) (i + (E - i))) ∧ Below w.heap.size w w'
   rw [e1]
   exact next_long s i hi hs c hc n1 n2 n3 n4 E hE h20 HL (Lib.hid HW) w
  ·rw [if_neg h20]
   show Calls Tryz.prog 101 #[.string s, .int .i64 (i : Int)] w fun e w' => e = .returned (nxv 1 (i + (E - i))) ∧ Below w.heap.size w w'
   rw [e1]
   exact next_name s i hi hs c hc n1 n2 n3 n4 E hE h20 HL (Lib.hid HW) w
theorem symT_pre {l : List UInt8} (h : l ≠ []) : symT l = (Lib.hasPrefix l [62, 61] || Lib.hasPrefix l [60, 61] || Lib.hasPrefix l [58, 61]) := by
 match l with
 | [] => exact absurd rfl h
 | [c] => simp [symT, Lib.hasPrefix, List.isPrefixOf]
 | c :: d :: r =>
  have g : ∀ (x : UInt8) (n : Nat), x.toNat = n → ∀ y : UInt8, (x == y) = decide (y.toNat = n) := fun x n hx y => by
   rw [← hx]
   cases hh : x == y
   ·have : ¬ x = y := by simpa using hh
    exact (decide_eq_false fun e => this (UInt8.toNat_inj.1 e.symm)).symm
   ·have : x = y := by simpa using hh
    subst this
    simp
  simp only [symT, Lib.hasPrefix, List.isPrefixOf, List.headD_cons, List.tail_cons, Bool.and_true, g 62 62 rfl, g 61 61 rfl, g 60 60 rfl, g 58 58 rfl]
  by_cases hd : d.toNat = 61 <;> simp [hd]
  all_goals (by_cases h1 : c.toNat = 62 <;> by_cases h2 : c.toNat = 60 <;> by_cases h3 : c.toNat = 58 <;> simp [h1, h2, h3])
theorem idx_no {l : List UInt8} {c : UInt8} (h : l.contains c = false) : Lib.indexByte l c = -1 := by
 induction l with
 | nil => rfl
 | cons b l ih =>
  simp only [List.contains_cons, Bool.or_eq_false_iff] at h
  have hb : (b == c) = false := by
   have := h.1
   simp only [beq_eq_false_iff_ne, ne_eq] at this ⊢
   exact fun e => this e.symm
  unfold Lib.indexByte
  rw [hb, ih h.2]
  rfl
theorem idx_yes {l : List UInt8} {c : UInt8} (h : l.contains c = true) : 0 ≤ Lib.indexByte l c := by
 induction l with
 | nil => simp at h
 | cons b l ih =>
  unfold Lib.indexByte
  cases hb : b == c
  ·have h2 : l.contains c = true := by
    simp only [List.contains_cons, Bool.or_eq_true] at h
    rcases h with h | h
    ·exfalso
     simp only [beq_iff_eq, beq_eq_false_iff_ne, ne_eq] at h hb
     exact hb h.symm
    ·exact h
   have := ih h2
   rw [if_neg (by simp)]
   split
   ·rename_i g
    have : Lib.indexByte l c = -1 := by simpa using g
    omega
   ·omega
  ·rw [if_pos rfl]
   decide
set_option maxRecDepth 100000 in
set_option maxHeartbeats 1000000 in
theorem symbol_1 (s : ByteArray)
  (H0 : Hid (∀ w, Calls Tryz.prog 28 #[.string s, .string ⟨#[62, 61]⟩] w fun e w' => e = .returned (.bool true) ∧ w = w')) (w : World) :
  Calls Tryz.prog 115 #[.string s] w fun e w' => e = .returned (.int .i64 2) ∧ Below w.heap.size w w' := by
 go_enter Tryz.func115, Tryz.ntmps115
 go_wp2_with fail
 refine wp_loop_rounds 4 ?_
 rw [rounds_succ]
 go_wp2_with fail
 refine (H0.out _).mono ?_
 rintro e w' ⟨rfl, rfl⟩
 go_wp2_with fail
 go_ret
 exact ⟨rfl, (by repeat (first | with_reducible assumption | with_reducible exact Below.refl _ _ | with_reducible refine below_al ?_ _ | with_reducible refine below_drew ?_ | with_reducible refine below_drewN ?_ _ | with_reducible refine below_set ?_ (by dsimp only; omega) _))⟩
set_option maxRecDepth 100000 in
set_option maxHeartbeats 1000000 in
theorem symbol_2 (s : ByteArray)
  (H0 : Hid (∀ w, Calls Tryz.prog 28 #[.string s, .string ⟨#[62, 61]⟩] w fun e w' => e = .returned (.bool false) ∧ w = w'))
  (H1 : Hid (∀ w, Calls Tryz.prog 28 #[.string s, .string ⟨#[60, 61]⟩] w fun e w' => e = .returned (.bool true) ∧ w = w')) (w : World) :
  Calls Tryz.prog 115 #[.string s] w fun e w' => e = .returned (.int .i64 2) ∧ Below w.heap.size w w' := by
 go_enter Tryz.func115, Tryz.ntmps115
 go_wp2_with fail
 refine wp_loop_rounds 4 ?_
 rw [rounds_succ]
 go_wp2_with fail
 refine (H0.out _).mono ?_
 rintro e w' ⟨rfl, rfl⟩
 go_wp2_with fail
 rw [rounds_succ]
 go_wp2_with fail
 refine (H1.out _).mono ?_
 rintro e w' ⟨rfl, rfl⟩
 go_wp2_with fail
 go_ret
 exact ⟨rfl, (by repeat (first | with_reducible assumption | with_reducible exact Below.refl _ _ | with_reducible refine below_al ?_ _ | with_reducible refine below_drew ?_ | with_reducible refine below_drewN ?_ _ | with_reducible refine below_set ?_ (by dsimp only; omega) _))⟩
set_option maxRecDepth 100000 in
set_option maxHeartbeats 1000000 in
theorem symbol_3 (s : ByteArray)
  (H0 : Hid (∀ w, Calls Tryz.prog 28 #[.string s, .string ⟨#[62, 61]⟩] w fun e w' => e = .returned (.bool false) ∧ w = w'))
  (H1 : Hid (∀ w, Calls Tryz.prog 28 #[.string s, .string ⟨#[60, 61]⟩] w fun e w' => e = .returned (.bool false) ∧ w = w'))
  (H2 : Hid (∀ w, Calls Tryz.prog 28 #[.string s, .string ⟨#[58, 61]⟩] w fun e w' => e = .returned (.bool true) ∧ w = w')) (w : World) :
  Calls Tryz.prog 115 #[.string s] w fun e w' => e = .returned (.int .i64 2) ∧ Below w.heap.size w w' := by
 go_enter Tryz.func115, Tryz.ntmps115
 go_wp2_with fail
 refine wp_loop_rounds 4 ?_
 rw [rounds_succ]
 go_wp2_with fail
 refine (H0.out _).mono ?_
 rintro e w' ⟨rfl, rfl⟩
 go_wp2_with fail
 rw [rounds_succ]
 go_wp2_with fail
 refine (H1.out _).mono ?_
 rintro e w' ⟨rfl, rfl⟩
 go_wp2_with fail
 rw [rounds_succ]
 go_wp2_with fail
 refine (H2.out _).mono ?_
 rintro e w' ⟨rfl, rfl⟩
 go_wp2_with fail
 go_ret
 exact ⟨rfl, (by repeat (first | with_reducible assumption | with_reducible exact Below.refl _ _ | with_reducible refine below_al ?_ _ | with_reducible refine below_drew ?_ | with_reducible refine below_drewN ?_ _ | with_reducible refine below_set ?_ (by dsimp only; omega) _))⟩
set_option maxRecDepth 100000 in
set_option maxHeartbeats 1000000 in
theorem symbol_4 (s : ByteArray)
  (H0 : Hid (∀ w, Calls Tryz.prog 28 #[.string s, .string ⟨#[62, 61]⟩] w fun e w' => e = .returned (.bool false) ∧ w = w'))
  (H1 : Hid (∀ w, Calls Tryz.prog 28 #[.string s, .string ⟨#[60, 61]⟩] w fun e w' => e = .returned (.bool false) ∧ w = w'))
  (H2 : Hid (∀ w, Calls Tryz.prog 28 #[.string s, .string ⟨#[58, 61]⟩] w fun e w' => e = .returned (.bool false) ∧ w = w'))
  (c : UInt8) (h0 : 0 < s.size) (hc : s[0] = c) (n : Int) (hn : 0 ≤ n)
  (HI : Hid (∀ w, Calls Tryz.prog 113 #[.string aloneS, .int .u8 (c.toNat : Int)] w fun e w' => e = .returned (.int .i64 n) ∧ w = w')) (w : World) :
  Calls Tryz.prog 115 #[.string s] w fun e w' => e = .returned (.int .i64 1) ∧ Below w.heap.size w w' := by
 go_enter Tryz.func115, Tryz.ntmps115
 go_wp2_with fail
 refine wp_loop_rounds 4 ?_
 rw [rounds_succ]
 go_wp2_with fail
 refine (H0.out _).mono ?_
 rintro e w' ⟨rfl, rfl⟩
 go_wp2_with fail
 rw [rounds_succ]
 go_wp2_with fail
 refine (H1.out _).mono ?_
 rintro e w' ⟨rfl, rfl⟩
 go_wp2_with fail
 rw [rounds_succ]
 go_wp2_with fail
 refine (H2.out _).mono ?_
 rintro e w' ⟨rfl, rfl⟩
 go_wp2_with fail
 rw [rounds_succ]
 go_wp2_with fail
 refine (HI.out _).mono ?_
 rintro e w' ⟨rfl, rfl⟩
 go_wp2_with fail
 go_ret
 exact ⟨rfl, (by repeat (first | with_reducible assumption | with_reducible exact Below.refl _ _ | with_reducible refine below_al ?_ _ | with_reducible refine below_drew ?_ | with_reducible refine below_drewN ?_ _ | with_reducible refine below_set ?_ (by dsimp only; omega) _))⟩
set_option maxRecDepth 100000 in
set_option maxHeartbeats 1000000 in
theorem symbol_5 (s : ByteArray)
  (H0 : Hid (∀ w, Calls Tryz.prog 28 #[.string s, .string ⟨#[62, 61]⟩] w fun e w' => e = .returned (.bool false) ∧ w = w'))
  (H1 : Hid (∀ w, Calls Tryz.prog 28 #[.string s, .string ⟨#[60, 61]⟩] w fun e w' => e = .returned (.bool false) ∧ w = w'))
  (H2 : Hid (∀ w, Calls Tryz.prog 28 #[.string s, .string ⟨#[58, 61]⟩] w fun e w' => e = .returned (.bool false) ∧ w = w'))
  (c : UInt8) (h0 : 0 < s.size) (hc : s[0] = c) (n : Int)
  (HI : Hid (∀ w, Calls Tryz.prog 113 #[.string aloneS, .int .u8 (c.toNat : Int)] w fun e w' => e = .returned (.int .i64 (-1)) ∧ w = w')) (w : World) :
  Calls Tryz.prog 115 #[.string s] w fun e w' => e = .returned (.int .i64 0) ∧ Below w.heap.size w w' := by
 go_enter Tryz.func115, Tryz.ntmps115
 go_wp2_with fail
 refine wp_loop_rounds 4 ?_
 rw [rounds_succ]
 go_wp2_with fail
 refine (H0.out _).mono ?_
 rintro e w' ⟨rfl, rfl⟩
 go_wp2_with fail
 rw [rounds_succ]
 go_wp2_with fail
 refine (H1.out _).mono ?_
 rintro e w' ⟨rfl, rfl⟩
 go_wp2_with fail
 rw [rounds_succ]
 go_wp2_with fail
 refine (H2.out _).mono ?_
 rintro e w' ⟨rfl, rfl⟩
 go_wp2_with fail
 rw [rounds_succ]
 go_wp2_with fail
 refine (HI.out _).mono ?_
 rintro e w' ⟨rfl, rfl⟩
 go_wp2_with fail
 go_ret
 exact ⟨rfl, (by repeat (first | with_reducible assumption | with_reducible exact Below.refl _ _ | with_reducible refine below_al ?_ _ | with_reducible refine below_drew ?_ | with_reducible refine below_drewN ?_ _ | with_reducible refine below_set ?_ (by dsimp only; omega) _))⟩
theorem symbol_any (s : ByteArray) (h0 : 0 < s.size) (w : World) :
  Calls Tryz.prog 115 #[.string s] w fun e w' => e = .returned (.int .i64 (symL (by_ s) : Int)) ∧ Below w.heap.size w w' := by
 obtain ⟨c, hc⟩ : ∃ c, s[0] = c := ⟨_, rfl⟩
 have D1 := drop_head s 0 h0 c hc
 rw [List.drop_zero] at D1
 rw [symL_eq D1.2, symT_pre D1.2, D1.1]
 have HP : ∀ p : ByteArray, ∀ w, Calls Tryz.prog 28 #[.string s, .string p] w fun e w' => e = .returned (.bool (Lib.hasPrefix (by_ s) p.data.toList)) ∧ w = w' := fun p w => (Tryz.strings_HasPrefix s p w).mono fun _ _ ⟨a, b⟩ => ⟨a, b.symm⟩
 have H0 := HP ⟨#[62, 61]⟩
 have H1 := HP ⟨#[60, 61]⟩
 have H2 := HP ⟨#[58, 61]⟩
 have HI : ∀ w, Calls Tryz.prog 113 #[.string aloneS, .int .u8 (c.toNat : Int)] w fun e w' => e = .returned (.int .i64 (Lib.indexByte [45, 43, 58, 44, 59, 47, 61, 40, 41, 60, 62, 42] c)) ∧ w = w' := fun w => (Tryz.strings_IndexByte aloneS (c.toNat : Int) w).mono fun _ _ ⟨a, b⟩ => ⟨by rw [a, show ((c.toNat : Int).toNat.toUInt8) = c from by simp], b.symm⟩
 change ∀ w, Calls _ _ _ w fun e w' => e = .returned (.bool (Lib.hasPrefix (by_ s) [62, 61])) ∧ w = w' at H0
 change ∀ w, Calls _ _ _ w fun e w' => e = .returned (.bool (Lib.hasPrefix (by_ s) [60, 61])) ∧ w = w' at H1
 change ∀ w, Calls _ _ _ w fun e w' => e = .returned (.bool (Lib.hasPrefix (by_ s) [58, 61])) ∧ w = w' at H2
 cases p0 : Lib.hasPrefix (by_ s) [62, 61]
 ·cases p1 : Lib.hasPrefix (by_ s) [60, 61]
  ·cases p2 : Lib.hasPrefix (by_ s) [58, 61]
   ·rw [p0] at H0
    rw [p1] at H1
    rw [p2] at H2
    cases g : symC c
    ·rw [idx_no g] at HI
     exact symbol_5 s (Lib.hid H0) (Lib.hid H1) (Lib.hid H2) c h0 hc 0 (Lib.hid HI) w
    ·exact symbol_4 s (Lib.hid H0) (Lib.hid H1) (Lib.hid H2) c h0 hc _ (idx_yes g) (Lib.hid HI) w
   ·rw [p0] at H0
    rw [p1] at H1
    rw [p2] at H2
    exact symbol_3 s (Lib.hid H0) (Lib.hid H1) (Lib.hid H2) w
  ·rw [p0] at H0
   rw [p1] at H1
   exact symbol_2 s (Lib.hid H0) (Lib.hid H1) w
 ·rw [p0] at H0
  exact symbol_1 s (Lib.hid H0) w
end Go.Proofs.YtccakklnbhcbdaaGreatDoor
