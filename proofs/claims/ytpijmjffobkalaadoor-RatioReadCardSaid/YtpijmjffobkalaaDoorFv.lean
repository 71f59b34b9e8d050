/- The reference's Valid of a fraction. -/
import Derived.Test.YtpijmjffobkalaaDoorGcd
import Derived.Test.YtpijmjffobkalaaDoorRg
import Derived.Test.YtpijmjffobkalaaDoorFr
set_option linter.unusedVariables false
namespace Go.Proofs.YtpijmjffobkalaaDoor
open Go.ChangeShapes Go.WideShapes Go.ChangeAt Go.RowKit

theorem rsz_any (n : Int) (h : -9223372036854775808 ≤ n ∧ n ≤ 9223372036854775807) (w : World) :
    Calls Tryd.prog 49 #[.int .i64 n] w fun e w' => e = .returned (.int .u64 (n.natAbs : Int)) ∧ w = w' := by
  rcases Int.lt_or_le n 0 with h0 | h0
  · have e : n = -(n.natAbs : Int) := by omega
    have := refsize_neg n.natAbs (by omega) (by omega) w
    rw [← e] at this
    exact this
  · have e : n = (n.natAbs : Int) := by omega
    have := refsize_pos n.natAbs (by omega) w
    rw [← e] at this
    rw [← e]
    exact this

set_option maxRecDepth 100000 in
theorem gcd_zero (B0 : Nat) (w : World) :
    Calls Tryd.prog 51 #[uv 0, uv B0] w fun e w' => e = .returned (uv B0) ∧ Below w.heap.size w w' := by
  have h0 : hiN 0 = 0 := rfl
  have h1 : loN 0 = 0 := rfl
  simp only [uv, h0, h1]
  go_enter Tryd.func51, Tryd.ntmps51
  go_wp2
  exact bodyPost_ret (v := uv B0) (by simp [results, Tryd.results51, go_sem]) rfl ⟨rfl, (by repeat (first | with_reducible assumption | with_reducible exact Below.refl _ _ | with_reducible refine below_al ?_ _ | with_reducible refine below_drew ?_ | with_reducible refine below_drewN ?_ _ | with_reducible refine below_set ?_ (by dsimp only; omega) _))⟩
theorem gcd_all (A B : Nat) (hA : A < 340282366920938463463374607431768211456) (hB : B < 340282366920938463463374607431768211456) (h0 : 0 < B) (w : World) :
    Calls Tryd.prog 51 #[uv A, uv B] w fun e w' => e = .returned (uv (Nat.gcd A B)) ∧ Below w.heap.size w w' := by
  rcases Nat.eq_zero_or_pos A with h | h
  · subst h
    rw [Nat.gcd_zero_left]
    exact gcd_zero B w
  · exact gcd_u A B hA hB h h0 w
theorem gcd_64 (a b : Nat) (ha : a < 18446744073709551616) (hb : b < 18446744073709551616) (h0 : 0 < b) (w : World) :
    Calls Tryd.prog 51 #[.agg #[.int .u64 0, .int .u64 (a : Int)], .agg #[.int .u64 0, .int .u64 (b : Int)]] w fun e w' => e = .returned (.agg #[.int .u64 0, .int .u64 (Nat.gcd a b : Int)]) ∧ Below w.heap.size w w' := by
  have := gcd_all a b (by omega) (by omega) h0 w
  have hg : Nat.gcd a b < 18446744073709551616 := by have := Nat.gcd_le_right a h0; omega
  simp only [uv, (hiN_small ha).1, (hiN_small ha).2, (hiN_small hb).1, (hiN_small hb).2, (hiN_small hg).1, (hiN_small hg).2] at this
  exact this

theorem fracB_out {num den : Int} (h : ¬ (1 ≤ den ∧ den ≤ 1152921504606846976 ∧ -1152921504606846976 ≤ num ∧ num ≤ 1152921504606846976)) : fracB num den = false := by
  unfold fracB
  rw [decide_eq_false_iff_not]
  exact fun k => h ⟨k.1, k.2.1, k.2.2.1, k.2.2.2.1⟩
set_option maxRecDepth 100000 in
set_option maxHeartbeats 4000000 in
theorem reffvalid_any (num den : Int) (w : World) :
    Calls Tryd.prog 22 #[.agg #[.int .i64 num, .int .i64 den]] w fun e w' => e = .returned (.bool (fracB num den)) ∧ Below w.heap.size w w' := by
  by_cases c1 : 1 ≤ den
  · by_cases c2 : den ≤ 1152921504606846976
    · by_cases c3 : -1152921504606846976 ≤ num
      · by_cases c4 : num ≤ 1152921504606846976
        · have S1 := Lib.hid (fun w => rsz_any num (by omega) w)
          have S2 := Lib.hid (fun w => rsz_any den (by omega) w)
          have SG := Lib.hid (fun w => gcd_64 num.natAbs den.natAbs (by omega) (by omega) (by omega) w)
          have E : fracB num den = decide (Nat.gcd num.natAbs den.natAbs = 1) := by unfold fracB; rw [Bool.eq_iff_iff, decide_eq_true_iff, decide_eq_true_iff]; exact ⟨fun k => k.2.2.2.2, fun k => ⟨c1, c2, c3, c4, k⟩⟩
          have r1 : ∀ w : World, Calls Tryd.prog 49 #[.int .i64 num] w fun e w' => e = .returned (.int .u64 (num.natAbs : Int)) ∧ Below w.heap.size w w' := fun w => (S1.out w).mono fun _ _ ⟨a, b⟩ => ⟨a, by rw [← b]; exact Below.refl _ _⟩
          have r2 : ∀ w : World, Calls Tryd.prog 49 #[.int .i64 den] w fun e w' => e = .returned (.int .u64 (den.natAbs : Int)) ∧ Below w.heap.size w w' := fun w => (S2.out w).mono fun _ _ ⟨a, b⟩ => ⟨a, by rw [← b]; exact Below.refl _ _⟩
          have R1 := Lib.hid r1
          have R2 := Lib.hid r2
          clear S1 S2 r1 r2
          by_cases hg : Nat.gcd num.natAbs den.natAbs = 1
          case pos =>
            rw [E, decide_eq_true hg]
            clear E
            generalize Nat.gcd num.natAbs den.natAbs = g at *
            generalize num.natAbs = n at *
            generalize den.natAbs = d at *
            go_enter Tryd.func22, Tryd.ntmps22
            go_wp2_with fail
            generalize hW : World.alloc _ _ = W
            have k0 : At W w.heap.size 23 #[.int .i64 num, .int .i64 den] := by rw [← hW]; (repeat (first | (with_reducible apply At.new'; (focus (simp; done))) | with_reducible apply At.al | with_reducible apply At.drw | with_reducible apply At.dr))
            have HB : Below w.heap.size w W := by rw [← hW]; repeat (first | with_reducible assumption | with_reducible exact Below.refl _ _ | with_reducible refine below_al ?_ _ | with_reducible refine below_drew ?_ | with_reducible refine below_drewN ?_ _ | with_reducible refine below_set ?_ (by dsimp only; omega) _)
            clear hW
            have K0 := cell_regrown k0.c0
            have K1 := cell_regrown k0.c1
            refine wp_region_quiet_below (by kernel_rfl) (by kernel_rfl) ?_
            repeat (go_big_quiet_step ((first | with_reducible exact regrown_call R1.out | with_reducible exact regrown_call R2.out | with_reducible exact regrown_call SG.out)))
            refine wpQuiet_nil ?_
            intro v hb'
            have hb := below_of_regrown hb'
            clear hb' K0 K1
            have HB2 := below_then HB hb
            clear HB hb
            go_wp2_with fail
            go_ret
            exact ⟨rfl, HB2⟩
          case neg =>
            rw [E, decide_eq_false hg]
            clear E
            generalize Nat.gcd num.natAbs den.natAbs = g at *
            generalize num.natAbs = n at *
            generalize den.natAbs = d at *
            go_enter Tryd.func22, Tryd.ntmps22
            go_wp2_with fail
            generalize hW : World.alloc _ _ = W
            have k0 : At W w.heap.size 23 #[.int .i64 num, .int .i64 den] := by rw [← hW]; (repeat (first | (with_reducible apply At.new'; (focus (simp; done))) | with_reducible apply At.al | with_reducible apply At.drw | with_reducible apply At.dr))
            have HB : Below w.heap.size w W := by rw [← hW]; repeat (first | with_reducible assumption | with_reducible exact Below.refl _ _ | with_reducible refine below_al ?_ _ | with_reducible refine below_drew ?_ | with_reducible refine below_drewN ?_ _ | with_reducible refine below_set ?_ (by dsimp only; omega) _)
            clear hW
            have K0 := cell_regrown k0.c0
            have K1 := cell_regrown k0.c1
            refine wp_region_quiet_below (by kernel_rfl) (by kernel_rfl) ?_
            repeat (go_big_quiet_step ((first | with_reducible exact regrown_call R1.out | with_reducible exact regrown_call R2.out | with_reducible exact regrown_call SG.out)))
            refine wpQuiet_nil ?_
            intro v hb'
            have hb := below_of_regrown hb'
            clear hb' K0 K1
            have HB2 := below_then HB hb
            clear HB hb
            go_wp2_with fail
            go_ret
            exact ⟨rfl, HB2⟩
        · rw [fracB_out (fun k => c4 k.2.2.2)]
          go_enter Tryd.func22, Tryd.ntmps22
          go_wp2
          go_ret
          exact ⟨rfl, (by repeat (first | with_reducible exact Below.refl _ _ | with_reducible refine below_al ?_ _ | with_reducible refine below_drew ?_ | with_reducible refine below_drewN ?_ _))⟩
      · rw [fracB_out (fun k => c3 k.2.2.1)]
        go_enter Tryd.func22, Tryd.ntmps22
        go_wp2
        go_ret
        exact ⟨rfl, (by repeat (first | with_reducible exact Below.refl _ _ | with_reducible refine below_al ?_ _ | with_reducible refine below_drew ?_ | with_reducible refine below_drewN ?_ _))⟩
    · rw [fracB_out (fun k => c2 k.2.1)]
      go_enter Tryd.func22, Tryd.ntmps22
      go_wp2
      go_ret
      exact ⟨rfl, (by repeat (first | with_reducible exact Below.refl _ _ | with_reducible refine below_al ?_ _ | with_reducible refine below_drew ?_ | with_reducible refine below_drewN ?_ _))⟩
  · rw [fracB_out (fun k => c1 k.1)]
    go_enter Tryd.func22, Tryd.ntmps22
    go_wp2
    go_ret
    exact ⟨rfl, (by repeat (first | with_reducible exact Below.refl _ _ | with_reducible refine below_al ?_ _ | with_reducible refine below_drew ?_ | with_reducible refine below_drewN ?_ _))⟩
#print axioms reffvalid_any

end Go.Proofs.YtpijmjffobkalaaDoor
