/- The reference's next token. -/
import Derived.Test.YtccakklnbhcbdaaGreatDoorQa
import Derived.Deep.LoopGhost
import Derived.Deep.DeepCutAuto
import Derived.Deep.CutBlock
set_option linter.unusedVariables false
namespace Go.Proofs.YtccakklnbhcbdaaGreatDoor
open Go.ChangeShapes Go.WideShapes Go.ChangeAt Go.RowKit

theorem nextL_eq (l : List UInt8) (c : UInt8) (hc : l.headD 0 = c) : nextL l = (if c.toNat = 32 ∨ c.toNat = 9 then (0, 1) else if c.toNat = 10 then (4, 1) else if c.toNat = 35 then (0, runL (fun c => decide (c.toNat ≠ 10)) l)
  else if isLet c then (if 20 < runL isWrd l then (-1, runL isWrd l) else (1, runL isWrd l)) else if isDig c then (2, numL l) else if symL l = 0 then (-1, 1) else (3, symL l)) := by subst hc; rfl
theorem not_nl {c : UInt8} (h : ((c.toNat : Int) == 10) = false) : (fun c : UInt8 => decide (c.toNat ≠ 10)) c = true := by simpa using beq_no (n := 10) h
theorem is_nl {c : UInt8} (h : ((c.toNat : Int) == 10) = true) : (fun c : UInt8 => decide (c.toNat ≠ 10)) c = false := by simpa using beq_yes (n := 10) h
/-- A pair of numbers as it is returned. -/
abbrev nxv (k : Int) (e : Nat) : Value := .tuple #[.int .i64 k, .int .i64 (e : Int)]
theorem nonl_ne {c : UInt8} (h : isLet c = true ∨ isDig c = true) : ((c.toNat : Int) == 32) = false ∧ ((c.toNat : Int) == 9) = false ∧ ((c.toNat : Int) == 10) = false ∧ ((c.toNat : Int) == 35) = false := by
  rw [isLet_int, isDig_int] at h
  simp only [Bool.or_eq_true, Bool.and_eq_true, decide_eq_true_eq] at h
  refine ⟨?_, ?_, ?_, ?_⟩ <;> (simp; omega)

set_option maxRecDepth 100000 in
set_option maxHeartbeats 1000000 in
theorem next_sp (s : ByteArray) (i : Nat) (hi : i < s.size) (hs : s.size ≤ 9223372036854775806) (c : UInt8) (hc : s[i] = c) (h : (c.toNat : Int) = 32) (w : World) :
    Calls Tryz.prog 101 #[.string s, .int .i64 (i : Int)] w fun e w' => e = .returned (nxv 0 (i + 1)) ∧ Below w.heap.size w w' := by
  go_enter Tryz.func101, Tryz.ntmps101
  go_wp2_with fail
  go_ret2
  exact ⟨rfl, (by repeat (first | with_reducible assumption | with_reducible exact Below.refl _ _ | with_reducible refine below_al ?_ _ | with_reducible refine below_drew ?_ | with_reducible refine below_drewN ?_ _ | with_reducible refine below_set ?_ (by dsimp only; omega) _))⟩

set_option maxRecDepth 100000 in
set_option maxHeartbeats 1000000 in
theorem next_tab (s : ByteArray) (i : Nat) (hi : i < s.size) (hs : s.size ≤ 9223372036854775806) (c : UInt8) (hc : s[i] = c) (h : (c.toNat : Int) = 9) (w : World) :
    Calls Tryz.prog 101 #[.string s, .int .i64 (i : Int)] w fun e w' => e = .returned (nxv 0 (i + 1)) ∧ Below w.heap.size w w' := by
  go_enter Tryz.func101, Tryz.ntmps101
  go_wp2_with fail
  go_ret2
  exact ⟨rfl, (by repeat (first | with_reducible assumption | with_reducible exact Below.refl _ _ | with_reducible refine below_al ?_ _ | with_reducible refine below_drew ?_ | with_reducible refine below_drewN ?_ _ | with_reducible refine below_set ?_ (by dsimp only; omega) _))⟩

set_option maxRecDepth 100000 in
set_option maxHeartbeats 1000000 in
theorem next_nl (s : ByteArray) (i : Nat) (hi : i < s.size) (hs : s.size ≤ 9223372036854775806) (c : UInt8) (hc : s[i] = c) (h : (c.toNat : Int) = 10) (w : World) :
    Calls Tryz.prog 101 #[.string s, .int .i64 (i : Int)] w fun e w' => e = .returned (nxv 4 (i + 1)) ∧ Below w.heap.size w w' := by
  go_enter Tryz.func101, Tryz.ntmps101
  go_wp2_with fail
  go_ret2
  exact ⟨rfl, (by repeat (first | with_reducible assumption | with_reducible exact Below.refl _ _ | with_reducible refine below_al ?_ _ | with_reducible refine below_drew ?_ | with_reducible refine below_drewN ?_ _ | with_reducible refine below_set ?_ (by dsimp only; omega) _))⟩

set_option maxRecDepth 100000 in
set_option maxHeartbeats 1000000 in
theorem next_com (s : ByteArray) (i : Nat) (hi : i < s.size) (hs : s.size ≤ 9223372036854775806) (c : UInt8) (hc : s[i] = c) (h : (c.toNat : Int) = 35) (w : World) :
    Calls Tryz.prog 101 #[.string s, .int .i64 (i : Int)] w fun e w' => e = .returned (nxv 0 (runA (fun c : UInt8 => decide (c.toNat ≠ 10)) (by_ s) i)) ∧ Below w.heap.size w w' := by
  go_enter Tryz.func101, Tryz.ntmps101
  obtain ⟨R, hR⟩ : ∃ R, runA (fun c : UInt8 => decide (c.toNat ≠ 10)) (by_ s) i = R := ⟨_, rfl⟩
  rw [hR]
  replace hR := Lib.hid hR
  go_wp2_with fail
  clear hc h
  go_loopg [1] (s.size - i) (fun g j wr => ∃ k : Nat, i ≤ k ∧ k ≤ s.size ∧ j = .int .i64 (k : Int) ∧ Hid (g = s.size - k ∧ runA (fun c : UInt8 => decide (c.toNat ≠ 10)) (by_ s) k = R) ∧ w = wr)
  case atStart => exact ⟨i, Nat.le_refl _, by omega, rfl, Lib.hid ⟨rfl, hR.out⟩, rfl⟩
  case round =>
    obtain ⟨k, hak, hk, rfl, hr, rfl⟩ := hrel
    by_cases hlt : k < s.size
    · obtain ⟨d, hd⟩ : ∃ d, s[k] = d := ⟨_, rfl⟩
      have hd' : Hid ((by_ s)[k]'hlt = d) := Lib.hid hd
      cases h : ((d.toNat : Int) == 10)
      · have hw := Lib.hid (not_nl h)
        have h2 : ¬ (d.toNat : Int) = 10 := by simpa using h
        have h3 : ((d.toNat : Int) != 10) = true := by simp [h2]
        go_wp2_with fail
        go_roundg (s.size - (k + 1))
        case measure => have := hr.out.1; omega
        case rel => exact ⟨k + 1, by omega, by omega, by go_num, Lib.hid ⟨rfl, by rw [runA_yes hlt (by rw [hd'.out]; exact hw.out)]; exact hr.out.2⟩, rfl⟩
      · have hw := Lib.hid (is_nl h)
        have h2 : (d.toNat : Int) = 10 := by simpa using h
        have hE : Hid (R = k) := Lib.hid (by rw [← hr.out.2]; exact runA_no hlt (by rw [hd'.out]; exact hw.out))
        go_wp2_with fail
        go_ret2
        exact ⟨by rw [hE.out]; rfl, Below.refl _ _⟩
    · have hE : Hid (R = k) := Lib.hid (by rw [← hr.out.2]; exact runA_end (by rw [by_len]; omega))
      go_wp2_with fail
      go_ret2
      exact ⟨by rw [hE.out]; rfl, Below.refl _ _⟩

set_option maxRecDepth 100000 in
set_option maxHeartbeats 1000000 in
theorem next_name (s : ByteArray) (i : Nat) (hi : i < s.size) (hs : s.size ≤ 9223372036854775806) (c : UInt8) (hc : s[i] = c) (n1 : ((c.toNat : Int) == 32) = false) (n2 : ((c.toNat : Int) == 9) = false) (n3 : ((c.toNat : Int) == 10) = false) (n4 : ((c.toNat : Int) == 35) = false) (E : Nat) (hE : i ≤ E ∧ E ≤ s.size) (h20 : ¬ 20 < E - i)
    (HL : Hid (∀ w, Calls Tryz.prog 85 #[.int .u8 (c.toNat : Int)] w fun e w' => e = .returned (.bool true) ∧ w = w'))
    (HW : Hid (∀ w, Calls Tryz.prog 86 #[.string s, .int .i64 (i : Int)] w fun e w' => e = .returned (.int .i64 (E : Int)) ∧ w = w')) (w : World) :
    Calls Tryz.prog 101 #[.string s, .int .i64 (i : Int)] w fun e w' => e = .returned (nxv 1 E) ∧ Below w.heap.size w w' := by
  go_enter Tryz.func101, Tryz.ntmps101
  have e1 : IntKind.i64.wrap ((E : Int) - (i : Int)) = ((E - i : Nat) : Int) := by rw [wrap_in (by omega)]; omega
  have e2 : ¬ (20 : Int) < ((E - i : Nat) : Int) := by omega
  obtain ⟨q, hq⟩ : ∃ q, E - i = q := ⟨_, rfl⟩
  rw [hq] at e1 e2
  clear hq h20
  go_wp2_with fail
  refine (HL.out _).mono ?_
  rintro e w' ⟨rfl, rfl⟩
  go_wp2_with fail
  refine (HW.out _).mono ?_
  rintro e w' ⟨rfl, rfl⟩
  go_wp2_with fail
  go_ret2
  exact ⟨rfl, (by repeat (first | with_reducible assumption | with_reducible exact Below.refl _ _ | with_reducible refine below_al ?_ _ | with_reducible refine below_drew ?_ | with_reducible refine below_drewN ?_ _ | with_reducible refine below_set ?_ (by dsimp only; omega) _))⟩

set_option maxRecDepth 100000 in
set_option maxHeartbeats 1000000 in
theorem next_long (s : ByteArray) (i : Nat) (hi : i < s.size) (hs : s.size ≤ 9223372036854775806) (c : UInt8) (hc : s[i] = c) (n1 : ((c.toNat : Int) == 32) = false) (n2 : ((c.toNat : Int) == 9) = false) (n3 : ((c.toNat : Int) == 10) = false) (n4 : ((c.toNat : Int) == 35) = false) (E : Nat) (hE : i ≤ E ∧ E ≤ s.size) (h20 : 20 < E - i)
    (HL : Hid (∀ w, Calls Tryz.prog 85 #[.int .u8 (c.toNat : Int)] w fun e w' => e = .returned (.bool true) ∧ w = w'))
    (HW : Hid (∀ w, Calls Tryz.prog 86 #[.string s, .int .i64 (i : Int)] w fun e w' => e = .returned (.int .i64 (E : Int)) ∧ w = w')) (w : World) :
    Calls Tryz.prog 101 #[.string s, .int .i64 (i : Int)] w fun e w' => e = .returned (nxv (-1) E) ∧ Below w.heap.size w w' := by
  go_enter Tryz.func101, Tryz.ntmps101
  have e1 : IntKind.i64.wrap ((E : Int) - (i : Int)) = ((E - i : Nat) : Int) := by rw [wrap_in (by omega)]; omega
  have e2 : (20 : Int) < ((E - i : Nat) : Int) := by omega
  obtain ⟨q, hq⟩ : ∃ q, E - i = q := ⟨_, rfl⟩
  rw [hq] at e1 e2
  clear hq h20
  go_wp2_with fail
  refine (HL.out _).mono ?_
  rintro e w' ⟨rfl, rfl⟩
  go_wp2_with fail
  refine (HW.out _).mono ?_
  rintro e w' ⟨rfl, rfl⟩
  go_wp2_with fail
  go_ret2
  exact ⟨rfl, (by repeat (first | with_reducible assumption | with_reducible exact Below.refl _ _ | with_reducible refine below_al ?_ _ | with_reducible refine below_drew ?_ | with_reducible refine below_drewN ?_ _ | with_reducible refine below_set ?_ (by dsimp only; omega) _))⟩

set_option maxRecDepth 100000 in
set_option maxHeartbeats 1000000 in
theorem next_int1 (s : ByteArray) (i : Nat) (hi : i < s.size) (hs : s.size ≤ 9223372036854775806) (c : UInt8) (hc : s[i] = c) (n1 : ((c.toNat : Int) == 32) = false) (n2 : ((c.toNat : Int) == 9) = false) (n3 : ((c.toNat : Int) == 10) = false) (n4 : ((c.toNat : Int) == 35) = false) (E : Nat) (hE : E ≤ s.size) (h1 : ¬ E + 1 < s.size)
    (HL : Hid (∀ w, Calls Tryz.prog 85 #[.int .u8 (c.toNat : Int)] w fun e w' => e = .returned (.bool false) ∧ w = w'))
    (HD : Hid (∀ w, Calls Tryz.prog 112 #[.int .u8 (c.toNat : Int)] w fun e w' => e = .returned (.bool true) ∧ w = w'))
    (HF : Hid (∀ w, Calls Tryz.prog 119 #[.string s, .int .i64 (i : Int)] w fun e w' => e = .returned (.int .i64 (E : Int)) ∧ w = w')) (w : World) :
    Calls Tryz.prog 101 #[.string s, .int .i64 (i : Int)] w fun e w' => e = .returned (nxv 2 E) ∧ Below w.heap.size w w' := by
  go_enter Tryz.func101, Tryz.ntmps101
  go_wp2_with fail
  refine (HL.out _).mono ?_
  rintro e w' ⟨rfl, rfl⟩
  go_wp2_with fail
  refine (HD.out _).mono ?_
  rintro e w' ⟨rfl, rfl⟩
  go_wp2_with fail
  refine (HF.out _).mono ?_
  rintro e w' ⟨rfl, rfl⟩
  go_wp2_with fail
  go_ret2
  exact ⟨rfl, (by repeat (first | with_reducible assumption | with_reducible exact Below.refl _ _ | with_reducible refine below_al ?_ _ | with_reducible refine below_drew ?_ | with_reducible refine below_drewN ?_ _ | with_reducible refine below_set ?_ (by dsimp only; omega) _))⟩

set_option maxRecDepth 100000 in
set_option maxHeartbeats 1000000 in
theorem next_int2 (s : ByteArray) (i : Nat) (hi : i < s.size) (hs : s.size ≤ 9223372036854775806) (c : UInt8) (hc : s[i] = c) (n1 : ((c.toNat : Int) == 32) = false) (n2 : ((c.toNat : Int) == 9) = false) (n3 : ((c.toNat : Int) == 10) = false) (n4 : ((c.toNat : Int) == 35) = false) (E : Nat) (h1 : E + 1 < s.size) (d : UInt8) (hd : s[E] = d) (h2 : ((d.toNat : Int) == 46) = false)
    (HL : Hid (∀ w, Calls Tryz.prog 85 #[.int .u8 (c.toNat : Int)] w fun e w' => e = .returned (.bool false) ∧ w = w'))
    (HD : Hid (∀ w, Calls Tryz.prog 112 #[.int .u8 (c.toNat : Int)] w fun e w' => e = .returned (.bool true) ∧ w = w'))
    (HF : Hid (∀ w, Calls Tryz.prog 119 #[.string s, .int .i64 (i : Int)] w fun e w' => e = .returned (.int .i64 (E : Int)) ∧ w = w')) (w : World) :
    Calls Tryz.prog 101 #[.string s, .int .i64 (i : Int)] w fun e w' => e = .returned (nxv 2 E) ∧ Below w.heap.size w w' := by
  go_enter Tryz.func101, Tryz.ntmps101
  go_wp2_with fail
  refine (HL.out _).mono ?_
  rintro e w' ⟨rfl, rfl⟩
  go_wp2_with fail
  refine (HD.out _).mono ?_
  rintro e w' ⟨rfl, rfl⟩
  go_wp2_with fail
  refine (HF.out _).mono ?_
  rintro e w' ⟨rfl, rfl⟩
  go_wp2_with fail
  go_ret2
  exact ⟨rfl, (by repeat (first | with_reducible assumption | with_reducible exact Below.refl _ _ | with_reducible refine below_al ?_ _ | with_reducible refine below_drew ?_ | with_reducible refine below_drewN ?_ _ | with_reducible refine below_set ?_ (by dsimp only; omega) _))⟩

set_option maxRecDepth 100000 in
set_option maxHeartbeats 1000000 in
theorem next_int3 (s : ByteArray) (i : Nat) (hi : i < s.size) (hs : s.size ≤ 9223372036854775806) (c : UInt8) (hc : s[i] = c) (n1 : ((c.toNat : Int) == 32) = false) (n2 : ((c.toNat : Int) == 9) = false) (n3 : ((c.toNat : Int) == 10) = false) (n4 : ((c.toNat : Int) == 35) = false) (E : Nat) (h1 : E + 1 < s.size) (d d2 : UInt8) (hd : s[E] = d) (hd2 : s[E + 1] = d2) (h2 : (d.toNat : Int) = 46)
    (HL : Hid (∀ w, Calls Tryz.prog 85 #[.int .u8 (c.toNat : Int)] w fun e w' => e = .returned (.bool false) ∧ w = w'))
    (HD : Hid (∀ w, Calls Tryz.prog 112 #[.int .u8 (c.toNat : Int)] w fun e w' => e = .returned (.bool true) ∧ w = w'))
    (HF : Hid (∀ w, Calls Tryz.prog 119 #[.string s, .int .i64 (i : Int)] w fun e w' => e = .returned (.int .i64 (E : Int)) ∧ w = w'))
    (HD2 : Hid (∀ w, Calls Tryz.prog 112 #[.int .u8 (d2.toNat : Int)] w fun e w' => e = .returned (.bool false) ∧ w = w')) (w : World) :
    Calls Tryz.prog 101 #[.string s, .int .i64 (i : Int)] w fun e w' => e = .returned (nxv 2 E) ∧ Below w.heap.size w w' := by
  go_enter Tryz.func101, Tryz.ntmps101
  go_wp2_with fail
  refine (HL.out _).mono ?_
  rintro e w' ⟨rfl, rfl⟩
  go_wp2_with fail
  refine (HD.out _).mono ?_
  rintro e w' ⟨rfl, rfl⟩
  go_wp2_with fail
  refine (HF.out _).mono ?_
  rintro e w' ⟨rfl, rfl⟩
  go_wp2_with fail
  refine (HD2.out _).mono ?_
  rintro e w' ⟨rfl, rfl⟩
  go_wp2_with fail
  go_ret2
  exact ⟨rfl, (by repeat (first | with_reducible assumption | with_reducible exact Below.refl _ _ | with_reducible refine below_al ?_ _ | with_reducible refine below_drew ?_ | with_reducible refine below_drewN ?_ _ | with_reducible refine below_set ?_ (by dsimp only; omega) _))⟩

set_option maxRecDepth 100000 in
set_option maxHeartbeats 1000000 in
theorem next_frac (s : ByteArray) (i : Nat) (hi : i < s.size) (hs : s.size ≤ 9223372036854775806) (c : UInt8) (hc : s[i] = c) (n1 : ((c.toNat : Int) == 32) = false) (n2 : ((c.toNat : Int) == 9) = false) (n3 : ((c.toNat : Int) == 10) = false) (n4 : ((c.toNat : Int) == 35) = false) (E E2 : Nat) (h1 : E + 1 < s.size) (d d2 : UInt8) (hd : s[E] = d) (hd2 : s[E + 1] = d2) (h2 : (d.toNat : Int) = 46)
    (HL : Hid (∀ w, Calls Tryz.prog 85 #[.int .u8 (c.toNat : Int)] w fun e w' => e = .returned (.bool false) ∧ w = w'))
    (HD : Hid (∀ w, Calls Tryz.prog 112 #[.int .u8 (c.toNat : Int)] w fun e w' => e = .returned (.bool true) ∧ w = w'))
    (HF : Hid (∀ w, Calls Tryz.prog 119 #[.string s, .int .i64 (i : Int)] w fun e w' => e = .returned (.int .i64 (E : Int)) ∧ w = w'))
    (HD2 : Hid (∀ w, Calls Tryz.prog 112 #[.int .u8 (d2.toNat : Int)] w fun e w' => e = .returned (.bool true) ∧ w = w'))
    (HF2 : Hid (∀ w, Calls Tryz.prog 119 #[.string s, .int .i64 ((E : Int) + 1)] w fun e w' => e = .returned (.int .i64 (E2 : Int)) ∧ w = w')) (w : World) :
    Calls Tryz.prog 101 #[.string s, .int .i64 (i : Int)] w fun e w' => e = .returned (nxv 2 E2) ∧ Below w.heap.size w w' := by
  go_enter Tryz.func101, Tryz.ntmps101
  go_wp2_with fail
  refine (HL.out _).mono ?_
  rintro e w' ⟨rfl, rfl⟩
  go_wp2_with fail
  refine (HD.out _).mono ?_
  rintro e w' ⟨rfl, rfl⟩
  go_wp2_with fail
  refine (HF.out _).mono ?_
  rintro e w' ⟨rfl, rfl⟩
  go_wp2_with fail
  refine (HD2.out _).mono ?_
  rintro e w' ⟨rfl, rfl⟩
  go_wp2_with fail
  refine (HF2.out _).mono ?_
  rintro e w' ⟨rfl, rfl⟩
  go_wp2_with fail
  go_ret2
  exact ⟨rfl, (by repeat (first | with_reducible assumption | with_reducible exact Below.refl _ _ | with_reducible refine below_al ?_ _ | with_reducible refine below_drew ?_ | with_reducible refine below_drewN ?_ _ | with_reducible refine below_set ?_ (by dsimp only; omega) _))⟩

set_option maxRecDepth 100000 in
set_option maxHeartbeats 1000000 in
theorem next_sym (s : ByteArray) (i : Nat) (hi : i < s.size) (hs : s.size ≤ 9223372036854775806) (c : UInt8) (hc : s[i] = c) (n1 : ((c.toNat : Int) == 32) = false) (n2 : ((c.toNat : Int) == 9) = false) (n3 : ((c.toNat : Int) == 10) = false) (n4 : ((c.toNat : Int) == 35) = false) (n : Nat) (hn : 0 < n) (hn2 : i + n ≤ s.size)
    (HL : Hid (∀ w, Calls Tryz.prog 85 #[.int .u8 (c.toNat : Int)] w fun e w' => e = .returned (.bool false) ∧ w = w'))
    (HD : Hid (∀ w, Calls Tryz.prog 112 #[.int .u8 (c.toNat : Int)] w fun e w' => e = .returned (.bool false) ∧ w = w'))
    (HS : Hid (∀ w, Calls Tryz.prog 120 #[.string s, .int .i64 (i : Int)] w fun e w' => e = .returned (.int .i64 (n : Int)) ∧ Below w.heap.size w w')) (w : World) :
    Calls Tryz.prog 101 #[.string s, .int .i64 (i : Int)] w fun e w' => e = .returned (nxv 3 (i + n)) ∧ Below w.heap.size w w' := by
  go_enter Tryz.func101, Tryz.ntmps101
  have e0 : (0 : Int) < (n : Int) := by omega
  go_wp2_with fail
  refine (HL.out _).mono ?_
  rintro e w' ⟨rfl, rfl⟩
  go_wp2_with fail
  refine (HD.out _).mono ?_
  rintro e w' ⟨rfl, rfl⟩
  go_wp2_with fail
  refine (HS.out _).mono ?_
  rintro e w' ⟨rfl, HB⟩
  go_wp2_with fail
  go_ret2
  exact ⟨rfl, (by repeat (first | with_reducible assumption | with_reducible exact Below.refl _ _ | with_reducible refine below_al ?_ _ | with_reducible refine below_drew ?_ | with_reducible refine below_drewN ?_ _ | with_reducible refine below_set ?_ (by dsimp only; omega) _))⟩

set_option maxRecDepth 100000 in
set_option maxHeartbeats 1000000 in
theorem next_bad (s : ByteArray) (i : Nat) (hi : i < s.size) (hs : s.size ≤ 9223372036854775806) (c : UInt8) (hc : s[i] = c) (n1 : ((c.toNat : Int) == 32) = false) (n2 : ((c.toNat : Int) == 9) = false) (n3 : ((c.toNat : Int) == 10) = false) (n4 : ((c.toNat : Int) == 35) = false)
    (HL : Hid (∀ w, Calls Tryz.prog 85 #[.int .u8 (c.toNat : Int)] w fun e w' => e = .returned (.bool false) ∧ w = w'))
    (HD : Hid (∀ w, Calls Tryz.prog 112 #[.int .u8 (c.toNat : Int)] w fun e w' => e = .returned (.bool false) ∧ w = w'))
    (HS : Hid (∀ w, Calls Tryz.prog 120 #[.string s, .int .i64 (i : Int)] w fun e w' => e = .returned (.int .i64 0) ∧ Below w.heap.size w w')) (w : World) :
    Calls Tryz.prog 101 #[.string s, .int .i64 (i : Int)] w fun e w' => e = .returned (nxv (-1) (i + 1)) ∧ Below w.heap.size w w' := by
  go_enter Tryz.func101, Tryz.ntmps101
  go_wp2_with fail
  refine (HL.out _).mono ?_
  rintro e w' ⟨rfl, rfl⟩
  go_wp2_with fail
  refine (HD.out _).mono ?_
  rintro e w' ⟨rfl, rfl⟩
  go_wp2_with fail
  refine (HS.out _).mono ?_
  rintro e w' ⟨rfl, HB⟩
  go_wp2_with fail
  go_ret2
  exact ⟨rfl, (by repeat (first | with_reducible assumption | with_reducible exact Below.refl _ _ | with_reducible refine below_al ?_ _ | with_reducible refine below_drew ?_ | with_reducible refine below_drewN ?_ _ | with_reducible refine below_set ?_ (by dsimp only; omega) _))⟩

end Go.Proofs.YtccakklnbhcbdaaGreatDoor
