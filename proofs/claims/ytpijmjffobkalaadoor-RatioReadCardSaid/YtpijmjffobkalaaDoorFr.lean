/- ratio.gcd, ratio.size, ratio.Valid. -/
import Derived.Test.YtpijmjffobkalaaDoorBase
set_option linter.unusedVariables false
namespace Go.Proofs.YtpijmjffobkalaaDoor
open Go.ChangeShapes Go.WideShapes Go.ChangeAt Go.RowKit

/-- The world after some draws. -/
def Drawn (w w' : World) : Prop := ∃ n, w' = w.drewN n
theorem Drawn.refl (w : World) : Drawn w w := ⟨0, rfl⟩
theorem Drawn.more {w w' : World} (h : Drawn w w') (n : Nat) : Drawn w (w'.drewN n) := by
  obtain ⟨m, rfl⟩ := h
  exact ⟨m + n, by rw [World.drewN_drewN]⟩
theorem Drawn.below {w w' : World} (h : Drawn w w') : Below w.heap.size w w' := by
  obtain ⟨m, rfl⟩ := h
  exact below_drewN (Below.refl _ _) m
theorem Drawn.quiet {P : Program} {f : FuncId} {args : Array Value} {w : World} {n : Nat} {v : Value}
    (h : Calls P f args (w.drewN n) fun e w' => e = .returned v ∧ Drawn (w.drewN n) w') : Calls P f args (w.drewN n) fun e w'' => e = .returned v ∧ ∃ m, w'' = w.drewN m :=
  h.mono fun _ _ ⟨he, m, hm⟩ => ⟨he, n + m, by rw [hm, World.drewN_drewN]⟩
theorem same_quiet {P : Program} {f : FuncId} {args : Array Value} {w : World} {n : Nat} {v : Value}
    (h : Calls P f args (w.drewN n) fun e w' => e = .returned v ∧ w.drewN n = w') : Calls P f args (w.drewN n) fun e w'' => e = .returned v ∧ ∃ m, w'' = w.drewN m :=
  h.mono fun _ _ ⟨he, hm⟩ => ⟨he, n, hm.symm⟩

theorem gcd_any (a b : Nat) (ha : a < 18446744073709551616) (hb : b < 18446744073709551616) (w : World) :
    Calls Tryd.prog 40 #[.int .u64 (a : Int), .int .u64 (b : Int)] w fun e w' => e = .returned (.int .u64 (Nat.gcd a b : Int)) ∧ Drawn w w' := by
  obtain ⟨g, hg⟩ : ∃ g, Hid (Nat.gcd a b = g) := ⟨_, rfl⟩
  rw [hg.out]
  go_enter Tryd.func40, Tryd.ntmps40
  go_wp2
  go_loopw [0, 1] (fun s t wr => ∃ x y : Nat, y < 18446744073709551616 ∧ Hid (Nat.gcd x y = g) ∧ s = .int .u64 (x : Int) ∧ t = .int .u64 (y : Int) ∧ Drawn w wr) (fun _ t _ => (intOf t).toNat)
  case atStart => exact ⟨a, b, hb, hg, rfl, rfl, Drawn.refl _⟩
  case round =>
    obtain ⟨x, y, hy, hG, rfl, rfl, hD⟩ := hrel
    by_cases h0 : y = 0
    · subst h0
      have E : x = g := by have := hG.out; rwa [Nat.gcd_zero_right] at this
      subst E
      go_wp2
      go_ret
      exact ⟨rfl, hD⟩
    · obtain ⟨r, er, dr⟩ : ∃ r : Nat, (x : Int) % (y : Int) = (r : Int) ∧ Hid (r = x % y) := ⟨x % y, (Int.natCast_emod x y).symm, rfl⟩
      have hr : r < y := by rw [dr.out]; exact Nat.mod_lt _ (by omega)
      have h1 : (1 : Int) ≤ (y : Int) := by omega
      have h2 : decide (y = 0) = false := decide_eq_false h0
      have h3 : ((y : Int) == 0) = false := by simpa using h0
      have h4 : ((y : Int) != 0) = true := by simpa using h0
      have E : Hid (Nat.gcd y r = g) := by
        rw [dr.out, ← hG.out]
        unfold Hid
        rw [Nat.gcd_comm x y, Nat.gcd_rec y x, Nat.gcd_comm]
      clear h0
      go_wp2
      go_quiet (fail)
      go_wp2
      go_roundw
      case rel => exact ⟨y, r, by omega, E, rfl, by first | rfl | rw [er], hD.more _⟩
      case measure => simp [intOf]; omega

theorem rsize_pos (m : Nat) (hm : m ≤ 9223372036854775807) (w : World) :
    Calls Tryd.prog 42 #[.int .i64 (m : Int)] w fun e w' => e = .returned (.int .u64 (m : Int)) ∧ w = w' := by
  go_enter Tryd.func42, Tryd.ntmps42
  go_wp2
  go_ret
  exact ⟨rfl, rfl⟩
theorem rsize_neg (m : Nat) (h0 : 0 < m) (hm : m ≤ 9223372036854775808) (w : World) :
    Calls Tryd.prog 42 #[.int .i64 (-(m : Int))] w fun e w' => e = .returned (.int .u64 (m : Int)) ∧ w = w' := by
  have e1 : IntKind.u64.wrap (-IntKind.u64.wrap (-(m : Int))) = (m : Int) := by rw [IntKind.wrap_u64, IntKind.wrap_u64]; omega
  go_enter Tryd.func42, Tryd.ntmps42
  go_wp2
  go_ret
  exact ⟨rfl, rfl⟩
theorem rsize_any (n : Int) (h : -9223372036854775808 ≤ n ∧ n ≤ 9223372036854775807) (w : World) :
    Calls Tryd.prog 42 #[.int .i64 n] w fun e w' => e = .returned (.int .u64 (n.natAbs : Int)) ∧ w = w' := by
  rcases Int.lt_or_le n 0 with h0 | h0
  · have e : n = -(n.natAbs : Int) := by omega
    have := rsize_neg n.natAbs (by omega) (by omega) w
    rw [← e] at this
    exact this
  · have e : n = (n.natAbs : Int) := by omega
    have := rsize_pos n.natAbs (by omega) w
    rw [← e] at this
    rw [← e]
    exact this

def fracB (num den : Int) : Bool := decide (1 ≤ den ∧ den ≤ 1152921504606846976 ∧ -1152921504606846976 ≤ num ∧ num ≤ 1152921504606846976 ∧ Nat.gcd num.natAbs den.natAbs = 1)
theorem fracB_iff {num den : Int} : fracB num den = true ↔ 1 ≤ den ∧ den ≤ 1152921504606846976 ∧ -1152921504606846976 ≤ num ∧ num ≤ 1152921504606846976 ∧ Nat.gcd num.natAbs den.natAbs = 1 := by simp [fracB]

theorem fvalid_any (num den : Int) (w : World) :
    Calls Tryd.prog 15 #[.agg #[.int .i64 num, .int .i64 den]] w fun e w' => e = .returned (.bool (fracB num den)) ∧ Below w.heap.size w w' := by
  by_cases c1 : 1 ≤ den
  · by_cases c2 : den ≤ 1152921504606846976
    · by_cases c3 : -1152921504606846976 ≤ num
      · by_cases c4 : num ≤ 1152921504606846976
        · obtain ⟨d, rfl⟩ : ∃ d : Nat, den = (d : Int) := ⟨den.toNat, by omega⟩
          have HS := Lib.hid (fun w => rsize_any num ⟨by omega, by omega⟩ w)
          have HG := Lib.hid (fun w => gcd_any num.natAbs d (by omega) (by omega) w)
          by_cases hg : Nat.gcd num.natAbs d = 1
          · rw [show fracB num (d : Int) = true from fracB_iff.2 ⟨c1, c2, c3, c4, hg⟩]
            rw [hg] at HG
            clear hg
            generalize num.natAbs = n at *
            go_enter Tryd.func15, Tryd.ntmps15
            go_wp2
            go_quiet ((first | (go_at_call 42; exact same_quiet (HS.out _)) | (go_at_call 40; exact Drawn.quiet (HG.out _))))
            go_wp2
            go_ret
            exact ⟨rfl, (by repeat (first | with_reducible exact Below.refl _ _ | with_reducible refine below_al ?_ _ | with_reducible refine below_drew ?_ | with_reducible refine below_drewN ?_ _))⟩
          · rw [show fracB num (d : Int) = false from by cases h : fracB num (d : Int); rfl; exact absurd (fracB_iff.1 h).2.2.2.2 hg]
            generalize Nat.gcd num.natAbs d = g at *
            generalize num.natAbs = n at *
            have hg' : ((g : Int) == 1) = false := by simp; omega
            have hg2 : decide (g = 1) = false := decide_eq_false hg
            clear hg
            go_enter Tryd.func15, Tryd.ntmps15
            go_wp2
            go_quiet ((first | (go_at_call 42; exact same_quiet (HS.out _)) | (go_at_call 40; exact Drawn.quiet (HG.out _))))
            go_wp2
            go_ret
            exact ⟨rfl, (by repeat (first | with_reducible exact Below.refl _ _ | with_reducible refine below_al ?_ _ | with_reducible refine below_drew ?_ | with_reducible refine below_drewN ?_ _))⟩
        · rw [show fracB num den = false from by simp [fracB]; omega]
          have c4' : decide (num ≤ 1152921504606846976) = false := decide_eq_false c4
          have HS : True := trivial
          have HG : True := trivial
          go_enter Tryd.func15, Tryd.ntmps15
          go_wp2
          go_quiet ((first | (go_at_call 42; exact same_quiet (HS.out _)) | (go_at_call 40; exact Drawn.quiet (HG.out _))))
          go_wp2
          go_ret
          exact ⟨rfl, (by repeat (first | with_reducible exact Below.refl _ _ | with_reducible refine below_al ?_ _ | with_reducible refine below_drew ?_ | with_reducible refine below_drewN ?_ _))⟩
      · rw [show fracB num den = false from by simp [fracB]; omega]
        have c3' : decide (-1152921504606846976 ≤ num) = false := decide_eq_false c3
        have HS : True := trivial
        have HG : True := trivial
        go_enter Tryd.func15, Tryd.ntmps15
        go_wp2
        go_quiet ((first | (go_at_call 42; exact same_quiet (HS.out _)) | (go_at_call 40; exact Drawn.quiet (HG.out _))))
        go_wp2
        go_ret
        exact ⟨rfl, (by repeat (first | with_reducible exact Below.refl _ _ | with_reducible refine below_al ?_ _ | with_reducible refine below_drew ?_ | with_reducible refine below_drewN ?_ _))⟩
    · rw [show fracB num den = false from by simp [fracB]; omega]
      have c2' : decide (den ≤ 1152921504606846976) = false := decide_eq_false c2
      have HS : True := trivial
      have HG : True := trivial
      go_enter Tryd.func15, Tryd.ntmps15
      go_wp2
      go_quiet ((first | (go_at_call 42; exact same_quiet (HS.out _)) | (go_at_call 40; exact Drawn.quiet (HG.out _))))
      go_wp2
      go_ret
      exact ⟨rfl, (by repeat (first | with_reducible exact Below.refl _ _ | with_reducible refine below_al ?_ _ | with_reducible refine below_drew ?_ | with_reducible refine below_drewN ?_ _))⟩
  · rw [show fracB num den = false from by simp [fracB]; omega]
    have c1' : decide (1 ≤ den) = false := decide_eq_false c1
    have HS : True := trivial
    have HG : True := trivial
    go_enter Tryd.func15, Tryd.ntmps15
    go_wp2
    go_quiet ((first | (go_at_call 42; exact same_quiet (HS.out _)) | (go_at_call 40; exact Drawn.quiet (HG.out _))))
    go_wp2
    go_ret
    exact ⟨rfl, (by repeat (first | with_reducible exact Below.refl _ _ | with_reducible refine below_al ?_ _ | with_reducible refine below_drew ?_ | with_reducible refine below_drewN ?_ _))⟩

#print axioms fvalid_any

end Go.Proofs.YtpijmjffobkalaaDoor
