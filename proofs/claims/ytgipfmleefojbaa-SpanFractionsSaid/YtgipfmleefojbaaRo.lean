/- span.root, span.Root, and the reference's Sqrt, Root. -/
import Derived.Test.YtgipfmleefojbaaSpC
import Derived.Test.YtgipfmleefojbaaMRoot
import Derived.Deep.RegionHeld3
import Derived.Deep.DrawnRows
set_option linter.unusedVariables false
namespace Go.Proofs.Ytgipfmleefojbaa
open Go.ChangeShapes Go.WideShapes Go.ChangeAt Go.RowKit

/-- What holds at the head of the loop over the bits. -/
structure RBit (n k r b : Nat) : Prop where
  lo : r * r ≤ n
  hi : n < (r + 2 ^ k) * (r + 2 ^ k)
  b : b = 2 ^ k / 2
  k : k ≤ 31

theorem sq_le {r : Nat} (h : r * r ≤ 1152921504606846976) : r ≤ 1073741824 := by
  rcases Nat.lt_or_ge 1073741824 r with h1 | h1
  · have : 1073741825 * 1073741825 ≤ r * r := Nat.mul_le_mul h1 h1
    omega
  · exact h1
theorem RBit.ble {n k r b : Nat} (h : RBit n k r b) : b ≤ 1073741824 := by
  have := Nat.pow_le_pow_right (n := 2) (by omega) h.k
  have := h.b
  omega
theorem RBit.step {n k r b : Nat} (h : RBit n k r b) (hb : 0 < b) :
    ((r + b) * (r + b) ≤ n → RBit n (k - 1) (r + b) (b / 2)) ∧ (n < (r + b) * (r + b) → RBit n (k - 1) r (b / 2)) ∧ 1 ≤ k := by
  have hk : 1 ≤ k := by
    rcases Nat.eq_zero_or_pos k with h0 | h0
    · have := h.b; subst h0; simp at this; omega
    · exact h0
  have e : 2 ^ k = 2 * 2 ^ (k - 1) := by
    rw [← Nat.pow_succ', Nat.succ_eq_add_one, Nat.sub_add_cancel hk]
  have eb : b = 2 ^ (k - 1) := by have := h.b; omega
  refine ⟨fun hc => ⟨hc, ?_, by rw [eb], by have := h.k; omega⟩, fun hc => ⟨h.lo, by rw [← eb]; exact hc, by rw [eb], by have := h.k; omega⟩, hk⟩
  have := h.hi
  rw [e, ← eb] at this
  rw [← eb]
  have e2 : r + b + b = r + 2 * b := by omega
  rw [e2]
  exact this
theorem RBit.done {n k r b : Nat} (h : RBit n k r b) (hb : b = 0) : sqrtN n = r := by
  have hk : k = 0 := by
    rcases Nat.eq_zero_or_pos k with h0 | h0
    · exact h0
    · have e : 2 ^ k = 2 * 2 ^ (k - 1) := by
        rw [← Nat.pow_succ', Nat.succ_eq_add_one, Nat.sub_add_cancel h0]
      have := Nat.pow_pos (n := k - 1) (show 0 < 2 by omega)
      have := h.b
      omega
  subst hk
  exact sqrtN_uniq h.lo (by simpa using h.hi)

theorem nm_sq (x : Nat) (h : x ≤ 2147483649) : ∃ p : Nat, IntKind.i64.wrap ((x : Int) * (x : Int)) = (p : Int) ∧ Hid (p = x * x) :=
  ⟨x * x, by
    have : x * x ≤ 2147483649 * 2147483649 := Nat.mul_le_mul h h
    rw [← Int.natCast_mul]
    exact IntWalk.i64_in _ (by omega), rfl⟩

theorem root_any (n : Nat) (hn : n ≤ 1152921504606846976) (w : World) :
    Calls Try.prog 50 #[.int .i64 (n : Int)] w fun e w' => e = .returned (.int .i64 (sqrtN n : Int)) ∧ w = w' := by
  go_enter Try.func50, Try.ntmps50
  go_wp2
  go_loop [3, 4] (fun s t => ∃ k r b : Nat, Hid (RBit n k r b) ∧ s = .int .i64 (r : Int) ∧ t = .int .i64 (b : Int)) (fun _ t => (intOf t).toNat)
  case atStart => exact ⟨31, 0, 1073741824, ⟨by omega, Nat.lt_of_le_of_lt hn (by decide), by decide, by omega⟩, rfl, rfl⟩
  case round =>
    obtain ⟨k, r, b, hR, rfl, rfl⟩ := hrel
    have hb := hR.out.ble
    have hr := sq_le (Nat.le_trans hR.out.lo hn)
    by_cases h0 : 0 < b
    · obtain ⟨s1, s2, s3⟩ := hR.out.step h0
      obtain ⟨x, ex, dx⟩ : ∃ x : Nat, (r : Int) + (b : Int) = (x : Int) ∧ Hid (x = r + b) := ⟨r + b, by omega, rfl⟩
      obtain ⟨p, ep, dp⟩ := nm_sq x (by have := dx.out; omega)
      obtain ⟨b', eb, db⟩ : ∃ b' : Nat, (b : Int) / 2 = (b' : Int) ∧ Hid (b' = b / 2) := ⟨b / 2, by omega, rfl⟩
      have e := dx.out
      have S1 := Lib.hid s1
      have S2 := Lib.hid s2
      have hpx := dp.out
      rw [e] at hpx
      have HPX := Lib.hid hpx
      have E := Lib.hid e
      clear s1 s2 e hpx
      by_cases hc : p ≤ n
      · go_wp2
        go_round
        case rel => exact ⟨k - 1, x, b', by rw [E.out, db.out]; exact S1.out (by rw [← HPX.out]; exact hc), rfl, rfl⟩
        case measure => simp [intOf]; have := db.out; omega
      · have hc' : decide (p ≤ n) = false := decide_eq_false hc
        go_wp2
        go_round
        case rel => exact ⟨k - 1, r, b', by rw [db.out]; exact S2.out (by rw [← HPX.out]; omega), rfl, rfl⟩
        case measure => simp [intOf]; have := db.out; omega
    · obtain rfl : b = 0 := by omega
      have E := hR.out.done rfl
      go_wp2
      go_ret
      exact ⟨rfl, rfl⟩

theorem refsqrt_any (n : Nat) (hn : n ≤ 1152921504606846976) (w : World) :
    Calls Try.prog 52 #[.int .i64 (n : Int)] w fun e w' => e = .returned (.int .i64 (sqrtN n : Int)) ∧ w = w' := by
  go_enter Try.func52, Try.ntmps52
  go_wp2
  go_loop [3, 4] (fun s t => ∃ lo hi : Nat, lo ≤ hi ∧ hi ≤ 1073741824 ∧ Hid (lo * lo ≤ n ∧ n < (hi + 1) * (hi + 1)) ∧ s = .int .i64 (lo : Int) ∧ t = .int .i64 (hi : Int)) (fun s t => (intOf t - intOf s).toNat)
  case atStart => exact ⟨0, 1073741824, by omega, by omega, ⟨by omega, Nat.lt_of_le_of_lt hn (by decide)⟩, rfl, rfl⟩
  case round =>
    obtain ⟨lo, hi, hle, hhi, hR, rfl, rfl⟩ := hrel
    by_cases h0 : lo < hi
    · obtain ⟨m, em, dm⟩ : ∃ m : Nat, ((lo : Int) + (hi : Int) + 1) / 2 = (m : Int) ∧ Hid (m = (lo + hi + 1) / 2) := ⟨(lo + hi + 1) / 2, by omega, rfl⟩
      have b1 : lo < m := by have := dm.out; omega
      have b2 : m ≤ hi := by have := dm.out; omega
      obtain ⟨p, ep, dp⟩ := nm_sq m (by omega)
      by_cases hc : p ≤ n
      · go_wp2
        go_round
        case rel => exact ⟨m, hi, by omega, by omega, ⟨by rw [← dp.out]; exact hc, hR.out.2⟩, by first | rfl | rw [em], rfl⟩
        case measure => simp [intOf]; omega
      · have hc' : decide (p ≤ n) = false := decide_eq_false hc
        have b3 : (1 : Int) ≤ (m : Int) := by omega
        go_wp2
        go_round
        case rel => exact ⟨lo, m - 1, by omega, by omega, ⟨hR.out.1, by rw [Nat.sub_add_cancel (by omega), ← dp.out]; omega⟩, rfl, by go_num⟩
        case measure => simp [intOf]; omega
    · obtain rfl : lo = hi := by omega
      have E := sqrtN_uniq hR.out.1 hR.out.2
      go_wp2
      go_ret
      exact ⟨rfl, rfl⟩

attribute [local go_sem ↓] Go.wp_at_zero Go.wp_at_succ
theorem sqrt_bd {n : Nat} (h : n ≤ 1152921504606846976) : sqrtN n ≤ 1073741824 := sqrtN_le (Nat.lt_of_le_of_lt h (by decide))

def rootV (lo hi : Int) : Int × Int × Int := if validB lo hi then rootS lo hi else (0, 0, 1)

set_option maxHeartbeats 1000000 in
theorem rootI_any (lo hi : Int) (w : World) :
    Calls Try.prog 19 #[sp lo hi] w fun e w' => e = .returned (spv (rootV lo hi)) ∧ Below w.heap.size w w' := by
  cases h1 : validB lo hi
  · rw [show rootV lo hi = (0, 0, 1) from by simp [rootV, h1]]
    go_enter Try.func19, Try.ntmps19
    go_wp2_with (first | (go_at_call 37; refine (valid_at _ _ _).mono ?_; rintro e w' ⟨rfl, rfl⟩))
    exact bodyPost_ret (v := .tuple #[.agg #[.int .i64 (0), .int .i64 (0)], .int .i64 1]) (by simp [results, Try.results19, go_sem]) rfl ⟨rfl, (by repeat (first | with_reducible exact Below.refl _ _ | with_reducible refine below_al ?_ _ | with_reducible refine below_drew ?_ | with_reducible refine below_drewN ?_ _))⟩
  · by_cases h0 : lo < 0
    · rw [show rootV lo hi = (0, 0, 2) from by simp [rootV, h1, rootS, h0]]
      go_enter Try.func19, Try.ntmps19
      go_wp2_with (first | (go_at_call 37; refine (valid_at _ _ _).mono ?_; rintro e w' ⟨rfl, rfl⟩))
      exact bodyPost_ret (v := .tuple #[.agg #[.int .i64 (0), .int .i64 (0)], .int .i64 2]) (by simp [results, Try.results19, go_sem]) rfl ⟨rfl, (by repeat (first | with_reducible exact Below.refl _ _ | with_reducible refine below_al ?_ _ | with_reducible refine below_drew ?_ | with_reducible refine below_drewN ?_ _))⟩
    · have h1' := validB_iff.1 h1
      obtain ⟨a, rfl⟩ : ∃ a : Nat, lo = (a : Int) := ⟨lo.toNat, by omega⟩
      obtain ⟨b, rfl⟩ : ∃ b : Nat, hi = (b : Int) := ⟨hi.toNat, by omega⟩
      have ha : a ≤ 1152921504606846976 := by omega
      have hb : b ≤ 1152921504606846976 := by omega
      have e0 : rootV (a : Int) (b : Int) = ((sqrtN a : Int), (sqrtU b : Int), 0) := by simp [rootV, h1, rootS]
      rw [e0]
      have G1 := Lib.hid (fun w => root_any a ha w)
      have G2 := Lib.hid (fun w => root_any b hb w)
      have q1 := sqrt_bd ha
      have q2 := sqrt_bd hb
      obtain ⟨p, ep, dp⟩ := nm_sq (sqrtN b) (by omega)
      have hU : sqrtU b = if p < b then sqrtN b + 1 else sqrtN b := by unfold sqrtU; rw [dp.out]
      clear h1' e0 ha hb
      generalize sqrtN a = x at *
      generalize sqrtN b = y at *
      by_cases hc : p < b
      · rw [show sqrtU b = y + 1 from by rw [hU, if_pos hc], show ((y + 1 : Nat) : Int) = (y : Int) + 1 from by omega]
        clear hU
        go_enter Try.func19, Try.ntmps19
        go_wp2_with (first | (go_at_call 37; refine (valid_at _ _ _).mono ?_; rintro e w' ⟨rfl, rfl⟩))
        go_region_held3 (fun w' => w'.cell? ⟨w.heap.size, 0, none⟩ = some (.int .i64 (a : Int)) ∧ w'.cell? ⟨w.heap.size, 1, none⟩ = some (.int .i64 (b : Int))) (go_keep)
          (first
            | (go_at_call_of 50 (Value.int IntKind.i64 (a : Int)); refine (G1.out _).mono ?_; rintro e w' ⟨rfl, rfl⟩)
            | (go_at_call_of 50 (Value.int IntKind.i64 (b : Int)); refine (G2.out _).mono ?_; rintro e w' ⟨rfl, rfl⟩))
        all_goals go_wp2
        all_goals exact bodyPost_ret (v := .tuple #[.agg #[.int .i64 ((x : Int)), .int .i64 ((y : Int) + 1)], .int .i64 0]) (by simp [results, Try.results19, go_sem]) rfl ⟨rfl, (by repeat (first | with_reducible exact Below.refl _ _ | with_reducible refine below_al ?_ _ | with_reducible refine below_drew ?_ | with_reducible refine below_drewN ?_ _))⟩
      · rw [show sqrtU b = y from by rw [hU, if_neg hc]]
        clear hU
        have hc' : decide (p < b) = false := decide_eq_false hc
        go_enter Try.func19, Try.ntmps19
        go_wp2_with (first | (go_at_call 37; refine (valid_at _ _ _).mono ?_; rintro e w' ⟨rfl, rfl⟩))
        go_region_held3 (fun w' => w'.cell? ⟨w.heap.size, 0, none⟩ = some (.int .i64 (a : Int)) ∧ w'.cell? ⟨w.heap.size, 1, none⟩ = some (.int .i64 (b : Int))) (go_keep)
          (first
            | (go_at_call_of 50 (Value.int IntKind.i64 (a : Int)); refine (G1.out _).mono ?_; rintro e w' ⟨rfl, rfl⟩)
            | (go_at_call_of 50 (Value.int IntKind.i64 (b : Int)); refine (G2.out _).mono ?_; rintro e w' ⟨rfl, rfl⟩))
        all_goals go_wp2
        all_goals exact bodyPost_ret (v := .tuple #[.agg #[.int .i64 ((x : Int)), .int .i64 ((y : Int))], .int .i64 0]) (by simp [results, Try.results19, go_sem]) rfl ⟨rfl, (by repeat (first | with_reducible exact Below.refl _ _ | with_reducible refine below_al ?_ _ | with_reducible refine below_drew ?_ | with_reducible refine below_drewN ?_ _))⟩

set_option maxHeartbeats 1000000 in
theorem refrootI_any (lo hi : Int) (h1 : validB lo hi = true) (w : World) :
    Calls Try.prog 22 #[sp lo hi] w fun e w' => e = .returned (spv (rootV lo hi)) ∧ Below w.heap.size w w' := by
  by_cases h0 : lo < 0
  · rw [show rootV lo hi = (0, 0, 2) from by simp [rootV, h1, rootS, h0]]
    go_enter Try.func22, Try.ntmps22
    go_wp2
    exact bodyPost_ret (v := .tuple #[.agg #[.int .i64 (0), .int .i64 (0)], .int .i64 2]) (by simp [results, Try.results22, go_sem]) rfl ⟨rfl, (by repeat (first | with_reducible exact Below.refl _ _ | with_reducible refine below_al ?_ _ | with_reducible refine below_drew ?_ | with_reducible refine below_drewN ?_ _))⟩
  · have h1' := validB_iff.1 h1
    obtain ⟨a, rfl⟩ : ∃ a : Nat, lo = (a : Int) := ⟨lo.toNat, by omega⟩
    obtain ⟨b, rfl⟩ : ∃ b : Nat, hi = (b : Int) := ⟨hi.toNat, by omega⟩
    have ha : a ≤ 1152921504606846976 := by omega
    have hb : b ≤ 1152921504606846976 := by omega
    have e0 : rootV (a : Int) (b : Int) = ((sqrtN a : Int), (sqrtU b : Int), 0) := by simp [rootV, h1, rootS]
    rw [e0]
    have G1 := Lib.hid (fun w => refsqrt_any a ha w)
    have G2 := Lib.hid (fun w => refsqrt_any b hb w)
    have q1 := sqrt_bd ha
    have q2 := sqrt_bd hb
    obtain ⟨p, ep, dp⟩ := nm_sq (sqrtN b) (by omega)
    have hU : sqrtU b = if p < b then sqrtN b + 1 else sqrtN b := by unfold sqrtU; rw [dp.out]
    clear h1' e0 ha hb
    generalize sqrtN a = x at *
    generalize sqrtN b = y at *
    by_cases hc : p < b
    · rw [show sqrtU b = y + 1 from by rw [hU, if_pos hc], show ((y + 1 : Nat) : Int) = (y : Int) + 1 from by omega]
      clear hU
      go_enter Try.func22, Try.ntmps22
      go_wp2_with fail
      refine (G2.out _).mono ?_
      rintro e w' ⟨rfl, rfl⟩
      go_wp2_with fail
      refine (G1.out _).mono ?_
      rintro e w' ⟨rfl, rfl⟩
      go_wp2_with fail
      exact bodyPost_ret (v := .tuple #[.agg #[.int .i64 ((x : Int)), .int .i64 ((y : Int) + 1)], .int .i64 0]) (by simp [results, Try.results22, go_sem]) rfl ⟨rfl, (by repeat (first | with_reducible exact Below.refl _ _ | with_reducible refine below_al ?_ _ | with_reducible refine below_drew ?_ | with_reducible refine below_drewN ?_ _))⟩
    · rw [show sqrtU b = y from by rw [hU, if_neg hc]]
      clear hU
      have hc' : decide (p < b) = false := decide_eq_false hc
      go_enter Try.func22, Try.ntmps22
      go_wp2_with fail
      refine (G2.out _).mono ?_
      rintro e w' ⟨rfl, rfl⟩
      go_wp2_with fail
      refine (G1.out _).mono ?_
      rintro e w' ⟨rfl, rfl⟩
      go_wp2_with fail
      exact bodyPost_ret (v := .tuple #[.agg #[.int .i64 ((x : Int)), .int .i64 ((y : Int))], .int .i64 0]) (by simp [results, Try.results22, go_sem]) rfl ⟨rfl, (by repeat (first | with_reducible exact Below.refl _ _ | with_reducible refine below_al ?_ _ | with_reducible refine below_drew ?_ | with_reducible refine below_drewN ?_ _))⟩

#print axioms rootI_any

end Go.Proofs.Ytgipfmleefojbaa
