/- SpanRoots' walk: it returns true. -/
import Derived.Test.YtgipfmleefojbaaAw
set_option linter.unusedVariables false
namespace Go.Proofs.Ytgipfmleefojbaa
open Go.ChangeShapes Go.WideShapes Go.ChangeAt Go.RowKit

theorem roots_plain {a b : Nat} (ha : a ≤ 1152921504606846976) (hb : b ≤ 1152921504606846976) (hab : a ≤ b) :
    sqrtN a ≤ sqrtU b ∧ sqrtU b ≤ 1073741824 ∧ sqrtN a * sqrtN a ≤ a ∧ a < (sqrtN a + 1) * (sqrtN a + 1) ∧ b ≤ sqrtU b * sqrtU b ∧ (sqrtU b = 0 ∨ (sqrtU b - 1) * (sqrtU b - 1) < b) := by
  obtain ⟨s1, s2⟩ := sqrtN_spec a
  obtain ⟨t1, t2⟩ := sqrtN_spec b
  have bd := sqrt_bd hb
  have hle : sqrtN a ≤ sqrtN b := by
    rcases Nat.lt_or_ge (sqrtN b) (sqrtN a) with h | h
    · have : (sqrtN b + 1) * (sqrtN b + 1) ≤ sqrtN a * sqrtN a := Nat.mul_le_mul h h
      omega
    · exact h
  unfold sqrtU
  split
  · rename_i h
    refine ⟨by omega, ?_, s1, s2, by omega, .inr (by rw [Nat.add_sub_cancel]; exact h)⟩
    rcases Nat.lt_or_ge (sqrtN b) 1073741824 with h1 | h1
    · omega
    · have : 1073741824 * 1073741824 ≤ sqrtN b * sqrtN b := Nat.mul_le_mul h1 h1
      omega
  · rename_i h
    refine ⟨hle, bd, s1, s2, by omega, ?_⟩
    rcases Nat.eq_zero_or_pos (sqrtN b) with h0 | h0
    · exact .inl h0
    · refine .inr ?_
      have : (sqrtN b - 1) * (sqrtN b - 1) < sqrtN b * sqrtN b := Nat.mul_lt_mul_of_lt_of_le (by omega) (by omega) h0
      omega
theorem nm_sq1 (x : Nat) (h : x ≤ 1073741824) : ∃ p : Nat, IntKind.i64.wrap (((x : Int) + 1) * ((x : Int) + 1)) = (p : Int) ∧ Hid (p = (x + 1) * (x + 1)) := by
  obtain ⟨p, e, d⟩ := nm_sq (x + 1) (by omega)
  exact ⟨p, by rw [← e]; simp, d⟩
theorem nm_sqm (x : Nat) (h1 : 1 ≤ x) (h : x ≤ 1073741824) : ∃ p : Nat, IntKind.i64.wrap (((x : Int) - 1) * ((x : Int) - 1)) = (p : Int) ∧ Hid (p = (x - 1) * (x - 1)) := by
  obtain ⟨p, e, d⟩ := nm_sq (x - 1) (by omega)
  refine ⟨p, ?_, d⟩
  rw [← e, Int.natCast_sub h1]
  rfl

set_option maxRecDepth 100000 in
set_option maxHeartbeats 2000000 in
theorem spanRoots_walk (lo hi : Int) (h1 : (Lit.int .i64 lo).wf = true) (h2 : (Lit.int .i64 hi).wf = true) (w : World) :
    Calls Try.prog 5 #[sp lo hi] w fun e w' => e = .returned (.bool true) ∧ Below w.heap.size w w' := by
  clear h1 h2
  cases hv : validB lo hi
  · go_enter Try.func5, Try.ntmps5
    go_wp2_with fail
    refine (awake_any _).mono ?_
    rintro e v1 ⟨rfl, hb1⟩
    have a0 : At v1 (w.heap.size) 23 #[.int .i64 lo, .int .i64 hi] := At.bel (by (repeat (first | (with_reducible apply At.new'; (focus (simp; done))) | with_reducible apply At.al | with_reducible apply At.drw | with_reducible apply At.dr))) hb1
    have HB : Below w.heap.size w v1 := below_then (by repeat (first | with_reducible assumption | with_reducible exact Below.refl _ _ | with_reducible refine below_al ?_ _ | with_reducible refine below_drew ?_ | with_reducible refine below_drewN ?_ _ | with_reducible refine below_set ?_ (by dsimp only; omega) _)) hb1
    clear hb1
    have La0 := a0.lt
    obtain ⟨a00, a01, a02, a03⟩ := a0.two
    go_wp2_with fail
    refine (refvalid_any _ _ _).mono ?_
    rintro e v2 ⟨rfl, hb2⟩
    replace a0 : At v2 (w.heap.size) 23 #[.int .i64 lo, .int .i64 hi] := At.bel (by repeat (first | with_reducible assumption | with_reducible apply At.put0 | with_reducible apply At.put1 | with_reducible refine At.far ?_ (by dsimp only; omega) _ | with_reducible apply At.al | with_reducible apply At.drw | with_reducible apply At.dr)) hb2
    replace HB : Below w.heap.size w v2 := below_then (by repeat (first | with_reducible assumption | with_reducible exact Below.refl _ _ | with_reducible refine below_al ?_ _ | with_reducible refine below_drew ?_ | with_reducible refine below_drewN ?_ _ | with_reducible refine below_set ?_ (by dsimp only; omega) _)) hb2
    clear hb2
    clear a00 a01 a02 a03 La0
    have La0 := a0.lt
    obtain ⟨a00, a01, a02, a03⟩ := a0.two
    go_wp2_with fail
    go_ret
    exact ⟨rfl, HB⟩
  · by_cases h0 : lo < 0
    · go_enter Try.func5, Try.ntmps5
      go_wp2_with fail
      refine (awake_any _).mono ?_
      rintro e v1 ⟨rfl, hb1⟩
      have a0 : At v1 (w.heap.size) 23 #[.int .i64 lo, .int .i64 hi] := At.bel (by (repeat (first | (with_reducible apply At.new'; (focus (simp; done))) | with_reducible apply At.al | with_reducible apply At.drw | with_reducible apply At.dr))) hb1
      have HB : Below w.heap.size w v1 := below_then (by repeat (first | with_reducible assumption | with_reducible exact Below.refl _ _ | with_reducible refine below_al ?_ _ | with_reducible refine below_drew ?_ | with_reducible refine below_drewN ?_ _ | with_reducible refine below_set ?_ (by dsimp only; omega) _)) hb1
      clear hb1
      have La0 := a0.lt
      obtain ⟨a00, a01, a02, a03⟩ := a0.two
      go_wp2_with fail
      refine (refvalid_any _ _ _).mono ?_
      rintro e v2 ⟨rfl, hb2⟩
      replace a0 : At v2 (w.heap.size) 23 #[.int .i64 lo, .int .i64 hi] := At.bel (by repeat (first | with_reducible assumption | with_reducible apply At.put0 | with_reducible apply At.put1 | with_reducible refine At.far ?_ (by dsimp only; omega) _ | with_reducible apply At.al | with_reducible apply At.drw | with_reducible apply At.dr)) hb2
      replace HB : Below w.heap.size w v2 := below_then (by repeat (first | with_reducible assumption | with_reducible exact Below.refl _ _ | with_reducible refine below_al ?_ _ | with_reducible refine below_drew ?_ | with_reducible refine below_drewN ?_ _ | with_reducible refine below_set ?_ (by dsimp only; omega) _)) hb2
      clear hb2
      clear a00 a01 a02 a03 La0
      have La0 := a0.lt
      obtain ⟨a00, a01, a02, a03⟩ := a0.two
      go_wp2_with fail
      go_ret
      exact ⟨rfl, HB⟩
    · have hv' := validB_iff.1 hv
      obtain ⟨a, rfl⟩ : ∃ a : Nat, lo = (a : Int) := ⟨lo.toNat, by omega⟩
      obtain ⟨b, rfl⟩ : ∃ b : Nat, hi = (b : Int) := ⟨hi.toNat, by omega⟩
      have e0 : rootV (a : Int) (b : Int) = ((sqrtN a : Int), (sqrtU b : Int), 0) := by simp [rootV, hv, rootS]
      have HR := Lib.hid (fun w => rootI_any (a : Int) (b : Int) w)
      rw [e0] at HR
      obtain ⟨g1, g2, g3, g4, g5, g6⟩ := roots_plain (a := a) (b := b) (by omega) (by omega) (by omega)
      clear hv' e0
      generalize sqrtN a = x at *
      generalize sqrtU b = y at *
      obtain ⟨p1, e1, d1⟩ := nm_sq x (by omega)
      obtain ⟨p2, e2, d2⟩ := nm_sq1 x (by omega)
      obtain ⟨p3, e3, d3⟩ := nm_sq y (by omega)
      rw [← d1.out] at g3
      rw [← d2.out] at g4
      rw [← d3.out] at g5
      by_cases hy : y = 0
      · have hy' : ((y : Int) == 0) = true := by simpa using hy
        have hy2 : decide (y = 0) = true := decide_eq_true hy
        have hy3 : y ≤ 0 := by omega
        clear g6 hy
        go_enter Try.func5, Try.ntmps5
        go_wp2_with fail
        refine (awake_any _).mono ?_
        rintro e v1 ⟨rfl, hb1⟩
        have a0 : At v1 (w.heap.size) 23 #[.int .i64 (a : Int), .int .i64 (b : Int)] := At.bel (by (repeat (first | (with_reducible apply At.new'; (focus (simp; done))) | with_reducible apply At.al | with_reducible apply At.drw | with_reducible apply At.dr))) hb1
        have HB : Below w.heap.size w v1 := below_then (by repeat (first | with_reducible assumption | with_reducible exact Below.refl _ _ | with_reducible refine below_al ?_ _ | with_reducible refine below_drew ?_ | with_reducible refine below_drewN ?_ _ | with_reducible refine below_set ?_ (by dsimp only; omega) _)) hb1
        clear hb1
        have La0 := a0.lt
        obtain ⟨a00, a01, a02, a03⟩ := a0.two
        go_wp2_with fail
        refine (refvalid_any _ _ _).mono ?_
        rintro e v2 ⟨rfl, hb2⟩
        replace a0 : At v2 (w.heap.size) 23 #[.int .i64 (a : Int), .int .i64 (b : Int)] := At.bel (by repeat (first | with_reducible assumption | with_reducible apply At.put0 | with_reducible apply At.put1 | with_reducible refine At.far ?_ (by dsimp only; omega) _ | with_reducible apply At.al | with_reducible apply At.drw | with_reducible apply At.dr)) hb2
        replace HB : Below w.heap.size w v2 := below_then (by repeat (first | with_reducible assumption | with_reducible exact Below.refl _ _ | with_reducible refine below_al ?_ _ | with_reducible refine below_drew ?_ | with_reducible refine below_drewN ?_ _ | with_reducible refine below_set ?_ (by dsimp only; omega) _)) hb2
        clear hb2
        clear a00 a01 a02 a03 La0
        have La0 := a0.lt
        obtain ⟨a00, a01, a02, a03⟩ := a0.two
        go_wp2_with fail
        refine (HR.out _).mono ?_
        rintro e v3 ⟨rfl, hb3⟩
        replace a0 : At v3 (w.heap.size) 23 #[.int .i64 (a : Int), .int .i64 (b : Int)] := At.bel (by repeat (first | with_reducible assumption | with_reducible apply At.put0 | with_reducible apply At.put1 | with_reducible refine At.far ?_ (by dsimp only; omega) _ | with_reducible apply At.al | with_reducible apply At.drw | with_reducible apply At.dr)) hb3
        replace HB : Below w.heap.size w v3 := below_then (by repeat (first | with_reducible assumption | with_reducible exact Below.refl _ _ | with_reducible refine below_al ?_ _ | with_reducible refine below_drew ?_ | with_reducible refine below_drewN ?_ _ | with_reducible refine below_set ?_ (by dsimp only; omega) _)) hb3
        clear hb3
        clear a00 a01 a02 a03 La0
        have La0 := a0.lt
        obtain ⟨a00, a01, a02, a03⟩ := a0.two
        go_wp2_with fail
        go_ret
        exact ⟨rfl, (by repeat (first | with_reducible assumption | with_reducible exact Below.refl _ _ | with_reducible refine below_al ?_ _ | with_reducible refine below_drew ?_ | with_reducible refine below_drewN ?_ _ | with_reducible refine below_set ?_ (by dsimp only; omega) _))⟩
      · have g7 := g6.resolve_left hy
        clear g6
        obtain ⟨p4, e4, d4⟩ := nm_sqm y (by omega) (by omega)
        rw [← d4.out] at g7
        have hy' : ((y : Int) == 0) = false := by simpa using hy
        have hy2 : decide (y = 0) = false := decide_eq_false hy
        have hy3 : (1 : Int) ≤ (y : Int) := by omega
        clear hy
        go_enter Try.func5, Try.ntmps5
        go_wp2_with fail
        refine (awake_any _).mono ?_
        rintro e v1 ⟨rfl, hb1⟩
        have a0 : At v1 (w.heap.size) 23 #[.int .i64 (a : Int), .int .i64 (b : Int)] := At.bel (by (repeat (first | (with_reducible apply At.new'; (focus (simp; done))) | with_reducible apply At.al | with_reducible apply At.drw | with_reducible apply At.dr))) hb1
        have HB : Below w.heap.size w v1 := below_then (by repeat (first | with_reducible assumption | with_reducible exact Below.refl _ _ | with_reducible refine below_al ?_ _ | with_reducible refine below_drew ?_ | with_reducible refine below_drewN ?_ _ | with_reducible refine below_set ?_ (by dsimp only; omega) _)) hb1
        clear hb1
        have La0 := a0.lt
        obtain ⟨a00, a01, a02, a03⟩ := a0.two
        go_wp2_with fail
        refine (refvalid_any _ _ _).mono ?_
        rintro e v2 ⟨rfl, hb2⟩
        replace a0 : At v2 (w.heap.size) 23 #[.int .i64 (a : Int), .int .i64 (b : Int)] := At.bel (by repeat (first | with_reducible assumption | with_reducible apply At.put0 | with_reducible apply At.put1 | with_reducible refine At.far ?_ (by dsimp only; omega) _ | with_reducible apply At.al | with_reducible apply At.drw | with_reducible apply At.dr)) hb2
        replace HB : Below w.heap.size w v2 := below_then (by repeat (first | with_reducible assumption | with_reducible exact Below.refl _ _ | with_reducible refine below_al ?_ _ | with_reducible refine below_drew ?_ | with_reducible refine below_drewN ?_ _ | with_reducible refine below_set ?_ (by dsimp only; omega) _)) hb2
        clear hb2
        clear a00 a01 a02 a03 La0
        have La0 := a0.lt
        obtain ⟨a00, a01, a02, a03⟩ := a0.two
        go_wp2_with fail
        refine (HR.out _).mono ?_
        rintro e v3 ⟨rfl, hb3⟩
        replace a0 : At v3 (w.heap.size) 23 #[.int .i64 (a : Int), .int .i64 (b : Int)] := At.bel (by repeat (first | with_reducible assumption | with_reducible apply At.put0 | with_reducible apply At.put1 | with_reducible refine At.far ?_ (by dsimp only; omega) _ | with_reducible apply At.al | with_reducible apply At.drw | with_reducible apply At.dr)) hb3
        replace HB : Below w.heap.size w v3 := below_then (by repeat (first | with_reducible assumption | with_reducible exact Below.refl _ _ | with_reducible refine below_al ?_ _ | with_reducible refine below_drew ?_ | with_reducible refine below_drewN ?_ _ | with_reducible refine below_set ?_ (by dsimp only; omega) _)) hb3
        clear hb3
        clear a00 a01 a02 a03 La0
        have La0 := a0.lt
        obtain ⟨a00, a01, a02, a03⟩ := a0.two
        go_wp2_with fail
        go_ret
        exact ⟨rfl, (by repeat (first | with_reducible assumption | with_reducible exact Below.refl _ _ | with_reducible refine below_al ?_ _ | with_reducible refine below_drew ?_ | with_reducible refine below_drewN ?_ _ | with_reducible refine below_set ?_ (by dsimp only; omega) _))⟩

#print axioms spanRoots_walk

end Go.Proofs.Ytgipfmleefojbaa
