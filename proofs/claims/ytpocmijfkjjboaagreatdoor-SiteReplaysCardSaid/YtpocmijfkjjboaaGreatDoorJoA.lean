/- journal: slices of bytes; sums, and where the first line ends (the reference's). -/
import Derived.Test.YtpocmijfkjjboaaGreatDoorMJo
set_option linter.unusedVariables false
namespace Go.Proofs.YtpocmijfkjjboaaGreatDoor
open Go.ChangeShapes Go.WideShapes Go.ChangeAt Go.RowKit

/-- A byte's cell. -/
def encU (c : UInt8) : List Value := [.int .u8 (c.toNat : Int)]
theorem encU_len (c : UInt8) : (encU c).length = 1 := rfl
theorem RowAt.byte {B : Nat} {w : World} {ao : Option Addr} {l : List UInt8} (h : RowAt encU 1 B w ao l) (k : Nat) (hk : k < l.length) : ∃ b off, ao = some ⟨b, off, none⟩ ∧ w.cell? ⟨b, off + k, none⟩ = some (.int .u8 (l[k].toNat : Int)) ∧ b < B := h.one (f := fun c : UInt8 => .int .u8 (c.toNat : Int)) k hk
theorem u8_le (c : UInt8) : c.toNat ≤ 255 := by have := c.toNat_lt; omega
/-- One step of a sum, as the walk reckons it. -/
theorem sum_step (t c : Nat) (ht : t < 4294967296) (hc : c ≤ 255) : ∃ u : Nat, u = (31 * t + c + 1) % 4294967296 ∧ IntKind.i64.wrap (31 * (t : Int)) = 31 * (t : Int) ∧ IntKind.i64.wrap (c : Int) = (c : Int) ∧ IntKind.i64.wrap (31 * (t : Int) + (c : Int)) = 31 * (t : Int) + (c : Int) ∧ IntKind.i64.wrap (31 * (t : Int) + (c : Int) + 1) = 31 * (t : Int) + (c : Int) + 1 ∧ Int.tmod (31 * (t : Int) + (c : Int) + 1) 4294967296 = (u : Int) ∧ (31 * (t : Int) + (c : Int) + 1) % 4294967296 = (u : Int) ∧ IntKind.i64.wrap (u : Int) = (u : Int) := by
  refine ⟨_, rfl, IntWalk.i64_in _ (by omega), IntWalk.i64_in _ (by omega), IntWalk.i64_in _ (by omega), IntWalk.i64_in _ (by omega), ?_, by omega, IntWalk.i64_in _ (by omega)⟩
  rw [Int.tmod_eq_emod_of_nonneg (by omega)]
  omega

set_option maxRecDepth 100000 in
set_option maxHeartbeats 1000000 in
theorem further_any (l : List UInt8) (ao : Option Addr) (cap : Nat) (hl : l.length ≤ cap) (hc : cap ≤ 9223372036854775807) (s : Nat) (hs : s < 4294967296) (B : Nat) (w : World) (ha : Hid (RowAt encU 1 B w ao l)) :
    Calls Tryz.prog 60 #[.int .i64 (s : Int), .slice ao l.length cap] w fun e w' => e = .returned (.int .i64 (sumF s l : Nat)) ∧ w = w' := by
  obtain ⟨R, hR⟩ : ∃ R, sumF s l = R := ⟨_, rfl⟩
  rw [hR]
  replace hR := Lib.hid hR
  obtain ⟨n, hn⟩ : ∃ n, l.length = n := ⟨_, rfl⟩
  rw [hn] at hl ⊢
  replace hn := Lib.hid hn
  replace hs := Lib.hid hs
  go_enter Tryz.func60, Tryz.ntmps60
  go_wp2_with fail
  go_loopg [9, 0] n (fun g i s' wr => ∃ (k t : Nat), k ≤ n ∧ i = .int .i64 (k : Int) ∧ s' = .int .i64 (t : Int) ∧ Hid (t < 4294967296) ∧ Hid (g = n - k ∧ sumF s (l.take k) = t) ∧ w = wr)
  case atStart => exact ⟨0, s, Nat.zero_le _, rfl, rfl, hs, Lib.hid ⟨rfl, rfl⟩, rfl⟩
  case round =>
    obtain ⟨k, t, hk, rfl, rfl, ht, hr, rfl⟩ := hrel
    by_cases hlt : k < n
    · have hkl : Hid (k < l.length) := Lib.hid (by rw [hn.out]; exact hlt)
      obtain ⟨b, off, rfl, c0, hb⟩ := ha.out.byte k hkl.out
      obtain ⟨c, hc0⟩ : ∃ c, l[k]'hkl.out = c := ⟨_, rfl⟩
      rw [hc0] at c0
      obtain ⟨u, hu, q1, q2, q3, q4, q5, q6, q7⟩ := sum_step t c.toNat ht.out (u8_le c)
      have hS : Hid (sumF s (l.take (k + 1)) = u) := Lib.hid (by
        rw [List.take_succ_eq_append_getElem hkl.out, sumF_app, hr.out.2, hc0, sumF_cons, sumF_nil, ← hu])
      have hu2 : Hid (u < 4294967296) := Lib.hid (by rw [hu]; exact Nat.mod_lt _ (by decide))
      generalize c.toNat = cn at *
      clear hc0 hb hu
      go_wp2_with fail
      go_roundg (n - (k + 1))
      case measure => have := hr.out.1; omega
      case rel => exact ⟨k + 1, u, by omega, by go_num, rfl, hu2, Lib.hid ⟨rfl, hS.out⟩, rfl⟩
    · have hE : Hid (R = t) := Lib.hid (by
        have := hr.out.2
        rw [List.take_of_length_le (by have := hn.out; omega), hR.out] at this
        exact this)
      go_wp2_with fail
      go_ret
      exact ⟨by rw [hE.out]; rfl, rfl⟩

set_option maxRecDepth 100000 in
set_option maxHeartbeats 1000000 in
theorem refsum_any (l : List UInt8) (ao : Option Addr) (cap : Nat) (hl : l.length ≤ cap) (hc : cap ≤ 9223372036854775807) (B : Nat) (w : World) (ha : Hid (RowAt encU 1 B w ao l)) :
    Calls Tryz.prog 70 #[.slice ao l.length cap] w fun e w' => e = .returned (.int .i64 (sumF 7 l : Nat)) ∧ w = w' := by
  obtain ⟨R, hR⟩ : ∃ R, sumF 7 l = R := ⟨_, rfl⟩
  rw [hR]
  replace hR := Lib.hid hR
  obtain ⟨n, hn⟩ : ∃ n, l.length = n := ⟨_, rfl⟩
  rw [hn] at hl ⊢
  replace hn := Lib.hid hn
  have hs : Hid (7 < 4294967296) := Lib.hid (by decide)
  go_enter Tryz.func70, Tryz.ntmps70
  go_wp2_with fail
  go_loopg [4, 3] n (fun g i s' wr => ∃ (k t : Nat), k ≤ n ∧ i = .int .i64 (k : Int) ∧ s' = .int .i64 (t : Int) ∧ Hid (t < 4294967296) ∧ Hid (g = n - k ∧ sumF 7 (l.take k) = t) ∧ w = wr)
  case atStart => exact ⟨0, 7, Nat.zero_le _, rfl, rfl, hs, Lib.hid ⟨rfl, rfl⟩, rfl⟩
  case round =>
    obtain ⟨k, t, hk, rfl, rfl, ht, hr, rfl⟩ := hrel
    by_cases hlt : k < n
    · have hkl : Hid (k < l.length) := Lib.hid (by rw [hn.out]; exact hlt)
      obtain ⟨b, off, rfl, c0, hb⟩ := ha.out.byte k hkl.out
      obtain ⟨c, hc0⟩ : ∃ c, l[k]'hkl.out = c := ⟨_, rfl⟩
      rw [hc0] at c0
      obtain ⟨u, hu, q1, q2, q3, q4, q5, q6, q7⟩ := sum_step t c.toNat ht.out (u8_le c)
      have hS : Hid (sumF 7 (l.take (k + 1)) = u) := Lib.hid (by
        rw [List.take_succ_eq_append_getElem hkl.out, sumF_app, hr.out.2, hc0, sumF_cons, sumF_nil, ← hu])
      have hu2 : Hid (u < 4294967296) := Lib.hid (by rw [hu]; exact Nat.mod_lt _ (by decide))
      generalize c.toNat = cn at *
      clear hc0 hb hu
      go_wp2_with fail
      go_roundg (n - (k + 1))
      case measure => have := hr.out.1; omega
      case rel => exact ⟨k + 1, u, by omega, by go_num, rfl, hu2, Lib.hid ⟨rfl, hS.out⟩, rfl⟩
    · have hE : Hid (R = t) := Lib.hid (by
        have := hr.out.2
        rw [List.take_of_length_le (by have := hn.out; omega), hR.out] at this
        exact this)
      go_wp2_with fail
      go_ret
      exact ⟨by rw [hE.out]; rfl, rfl⟩

set_option maxRecDepth 100000 in
theorem sum_any (l : List UInt8) (ao : Option Addr) (cap : Nat) (hl : l.length ≤ cap) (hc : cap ≤ 9223372036854775807) (B : Nat) (w : World) (ha : Hid (RowAt encU 1 B w ao l)) :
    Calls Tryz.prog 45 #[.slice ao l.length cap] w fun e w' => e = .returned (.int .i64 (sumB l : Nat)) ∧ w = w' := by
  have H := Lib.hid (further_any l ao cap hl hc 7 (by decide) B w ha)
  obtain ⟨R, hR⟩ : ∃ R, sumF 7 l = R := ⟨_, rfl⟩
  rw [hR] at H
  show Calls _ _ _ _ fun e w' => e = .returned (.int .i64 (sumF 7 l : Nat)) ∧ w = w'
  rw [hR]
  clear hR
  go_enter Tryz.func45, Tryz.ntmps45
  go_wp2_with fail
  refine H.out.mono ?_
  rintro e w1 ⟨rfl, rfl⟩
  go_wp2_with fail
  go_ret
  exact ⟨rfl, rfl⟩

/-- How many bytes the first line has, with its end. -/
def lineN (b : List UInt8) : Nat := match cutN b with | some l => l.length + 1 | none => 0
theorem lineN_at {b : List UInt8} {k : Nat} (hk : k < b.length) (h : b[k] = 10) (hp : noB 10 (b.take k)) : lineN b = k + 1 := by
  have : cutN b = some (b.take k) := cutN_iff.2 ⟨hp, b.drop (k + 1), by
    have := List.take_append_drop k b
    rw [List.drop_eq_getElem_cons hk, h] at this
    exact this.symm⟩
  unfold lineN
  rw [this]
  simp
  omega
set_option maxRecDepth 100000 in
set_option maxHeartbeats 1000000 in
theorem line_any (l : List UInt8) (ao : Option Addr) (cap : Nat) (hl : l.length ≤ cap) (hc : cap ≤ 9223372036854775807) (B : Nat) (w : World) (ha : Hid (RowAt encU 1 B w ao l)) :
    Calls Tryz.prog 68 #[.slice ao l.length cap] w fun e w' => e = .returned (.int .i64 (lineN l : Nat)) ∧ w = w' := by
  obtain ⟨R, hR⟩ : ∃ R, lineN l = R := ⟨_, rfl⟩
  rw [hR]
  replace hR := Lib.hid hR
  obtain ⟨n, hn⟩ : ∃ n, l.length = n := ⟨_, rfl⟩
  rw [hn] at hl ⊢
  replace hn := Lib.hid hn
  go_enter Tryz.func68, Tryz.ntmps68
  go_wp2_with fail
  go_loopg [3] n (fun g i wr => ∃ (k : Nat), k ≤ n ∧ i = .int .i64 (k : Int) ∧ Hid (g = n - k ∧ noB 10 (l.take k)) ∧ w = wr)
  case atStart => exact ⟨0, Nat.zero_le _, rfl, Lib.hid ⟨rfl, noB_nil _⟩, rfl⟩
  case round =>
    obtain ⟨k, hk, rfl, hr, rfl⟩ := hrel
    by_cases hlt : k < n
    · have hkl : Hid (k < l.length) := Lib.hid (by rw [hn.out]; exact hlt)
      obtain ⟨b, off, rfl, c0, hb⟩ := ha.out.byte k hkl.out
      obtain ⟨c, hc0⟩ : ∃ c, l[k]'hkl.out = c := ⟨_, rfl⟩
      rw [hc0] at c0
      by_cases he : c = 10
      · have hE : Hid (R = k + 1) := Lib.hid (by rw [← hR.out]; exact lineN_at hkl.out (hc0.trans he) hr.out.2)
        have he1 : ((c.toNat : Int) == 10) = true := by rw [he]; rfl
        generalize c.toNat = cn at *
        clear hc0 hb he
        go_wp2_with fail
        go_ret
        exact ⟨by rw [hE.out]; first | rfl | (congr 2; go_num), rfl⟩
      · have he1 : ((c.toNat : Int) == 10) = false := by
          rw [beq_eq_false_iff_ne]
          intro h
          apply he
          apply UInt8.toNat_inj.1
          have : (10 : UInt8).toNat = 10 := rfl
          omega
        have hS : Hid (noB 10 (l.take (k + 1))) := Lib.hid (by
          rw [List.take_succ_eq_append_getElem hkl.out, noB_app, hc0]
          exact ⟨hr.out.2, noB_cons.2 ⟨he, noB_nil _⟩⟩)
        generalize c.toNat = cn at *
        clear hc0 hb he
        go_wp2_with fail
        go_roundg (n - (k + 1))
        case measure => have := hr.out.1; omega
        case rel => exact ⟨k + 1, by omega, by go_num, Lib.hid ⟨rfl, hS.out⟩, rfl⟩
    · have hE : Hid (R = 0) := Lib.hid (by
        have := hr.out.2
        rw [List.take_of_length_le (by have := hn.out; omega)] at this
        rw [← hR.out]
        unfold lineN
        rw [cutN_none this])
      go_wp2_with fail
      go_ret
      exact ⟨by rw [hE.out]; rfl, rfl⟩

end Go.Proofs.YtpocmijfkjjboaaGreatDoor
