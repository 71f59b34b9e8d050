/- ratio.Add, Sub, Div, Make, Cmp: what they return. -/
import Derived.Test.YtpijmjffobkalaaDoorRaAdd
import Derived.Test.YtpijmjffobkalaaDoorMRa
set_option linter.unusedVariables false
namespace Go.Proofs.YtpijmjffobkalaaDoor
open Go.ChangeShapes Go.WideShapes Go.ChangeAt Go.RowKit

theorem fracB_frc {p q : Int} : fracB p q = true ↔ Frc p q := fracB_iff
/-- The sum. -/
def raddS (an ad bn bd : Int) : Int × Int × Int := if fracB an ad && fracB bn bd then redI (an * bd + bn * ad) (ad.natAbs * bd.natAbs) else (0, 0, 1)

set_option maxRecDepth 100000 in
set_option maxHeartbeats 4000000 in
theorem radd_ok (an bn : Int) (p q : Nat) (h1 : fracB an p = true) (h2 : fracB bn q = true) (w : World) :
    Calls Tryd.prog 12 #[.agg #[.int .i64 an, .int .i64 (p : Int)], .agg #[.int .i64 bn, .int .i64 (q : Int)]] w fun e w' => e = .returned (frv (redI (an * q + bn * p) (p * q))) ∧ Below w.heap.size w w' := by
  have g1 := fracB_iff.1 h1
  have g2 := fracB_iff.1 h2
  have HV1 : Hid (∀ w, Calls Tryd.prog 15 #[.agg #[.int .i64 an, .int .i64 (p : Int)]] w fun e w' => e = .returned (.bool true) ∧ Below w.heap.size w w') := Lib.hid (fun w => by have := fvalid_any an p w; rw [h1] at this; exact this)
  have HV2 : Hid (∀ w, Calls Tryd.prog 15 #[.agg #[.int .i64 bn, .int .i64 (q : Int)]] w fun e w' => e = .returned (.bool true) ∧ Below w.heap.size w w') := Lib.hid (fun w => by have := fvalid_any bn q w; rw [h2] at this; exact this)
  have HX := hid_same (fun w => rsize_any an (by omega) w)
  have HY := hid_same (fun w => rsize_any bn (by omega) w)
  have x1 : an.natAbs ≤ 1152921504606846976 := by omega
  have y1 : bn.natAbs ≤ 1152921504606846976 := by omega
  have p0 : 0 < p := by omega
  have q0 : 0 < q := by omega
  have p1 : p ≤ 1152921504606846976 := by omega
  have q1 : q ≤ 1152921504606846976 := by omega
  have cp := g1.2.2.2.2
  have cq := g2.2.2.2.2
  simp only [Int.natAbs_natCast] at cp cq
  clear g1 g2 h1 h2
  have hg : 0 < Nat.gcd p q := Nat.gcd_pos_of_pos_right _ q0
  have hgp : Nat.gcd p q ≤ p := Nat.gcd_le_left _ p0
  have HG := hid_drawn (fun w => gcd_any p q (by omega) (by omega) w)
  have a3 : p / Nat.gcd p q ≤ p := Nat.div_le_self _ _
  have a4 : q / Nat.gcd p q ≤ q := Nat.div_le_self _ _
  have e1 := div_cast p (Nat.gcd p q)
  have e2 := div_cast q (Nat.gcd p q)
  have HP := Lib.hid (fun w => product_any an.natAbs (q / Nat.gcd p q) (by omega) (by omega) w)
  have HQ := Lib.hid (fun w => product_any bn.natAbs (p / Nat.gcd p q) (by omega) (by omega) w)
  have bX : an.natAbs * (q / Nat.gcd p q) ≤ 1152921504606846976 * 1152921504606846976 := Nat.mul_le_mul x1 (by omega)
  have bY : bn.natAbs * (p / Nat.gcd p q) ≤ 1152921504606846976 * 1152921504606846976 := Nat.mul_le_mul y1 (by omega)
  -- what the sum is
  have es : an * (q : Int) + bn * (p : Int) = (Nat.gcd p q : Int) * (an * ((q / Nat.gcd p q : Nat) : Int) + bn * ((p / Nat.gcd p q : Nat) : Int)) := by
    have k1 : q / Nat.gcd p q * Nat.gcd p q = q := Nat.div_mul_cancel (Nat.gcd_dvd_right _ _)
    have k2 : p / Nat.gcd p q * Nat.gcd p q = p := Nat.div_mul_cancel (Nat.gcd_dvd_left _ _)
    have k1' : ((q / Nat.gcd p q : Nat) : Int) * (Nat.gcd p q : Int) = (q : Int) := by rw [← Int.natCast_mul, k1]
    have k2' : ((p / Nat.gcd p q : Nat) : Int) * (Nat.gcd p q : Int) = (p : Int) := by rw [← Int.natCast_mul, k2]
    rw [Int.mul_add]
    congr 1
    · conv => lhs; rw [← k1']
      ac_rfl
    · conv => lhs; rw [← k2']
      ac_rfl
  have sx : (an * ((q / Nat.gcd p q : Nat) : Int)).natAbs = an.natAbs * (q / Nat.gcd p q) := by rw [Int.natAbs_mul, Int.natAbs_natCast]
  have sy : (bn * ((p / Nat.gcd p q : Nat) : Int)).natAbs = bn.natAbs * (p / Nat.gcd p q) := by rw [Int.natAbs_mul, Int.natAbs_natCast]
  have gx : (an < 0 → an * ((q / Nat.gcd p q : Nat) : Int) ≤ 0) ∧ (¬ an < 0 → 0 ≤ an * ((q / Nat.gcd p q : Nat) : Int)) :=
    ⟨fun h => Int.mul_nonpos_of_nonpos_of_nonneg (by omega) (Int.natCast_nonneg _), fun h => Int.mul_nonneg (by omega) (Int.natCast_nonneg _)⟩
  have gy : (bn < 0 → bn * ((p / Nat.gcd p q : Nat) : Int) ≤ 0) ∧ (¬ bn < 0 → 0 ≤ bn * ((p / Nat.gcd p q : Nat) : Int)) :=
    ⟨fun h => Int.mul_nonpos_of_nonpos_of_nonneg (by omega) (Int.natCast_nonneg _), fun h => Int.mul_nonneg (by omega) (Int.natCast_nonneg _)⟩
  generalize hA : an * ((q / Nat.gcd p q : Nat) : Int) = A at *
  generalize hB : bn * ((p / Nat.gcd p q : Nat) : Int) = B at *
  have mix : (A + B).natAbs = an.natAbs * (q / Nat.gcd p q) + bn.natAbs * (p / Nat.gcd p q) ∨ an.natAbs * (q / Nat.gcd p q) < bn.natAbs * (p / Nat.gcd p q) ∧ (A + B).natAbs = bn.natAbs * (p / Nat.gcd p q) - an.natAbs * (q / Nat.gcd p q) ∨
      ¬ an.natAbs * (q / Nat.gcd p q) < bn.natAbs * (p / Nat.gcd p q) ∧ (A + B).natAbs = an.natAbs * (q / Nat.gcd p q) - bn.natAbs * (p / Nat.gcd p q) := by
    rw [← sx, ← sy]
    omega
  have red := fun (hN0 : 0 < (A + B).natAbs) => add_red p0 q0 cp cq hN0 mix
  have HN : Hid ((decide (an < 0) == decide (bn < 0)) = true ∧ (∀ w, Calls Tryd.prog 43 #[uv (an.natAbs * (q / Nat.gcd p q)), uv (bn.natAbs * (p / Nat.gcd p q))] w fun e w' => e = .returned (uv (A + B).natAbs) ∧ Below w.heap.size w w') ∧ (if A + B = 0 then decide (an < 0) else decide (A + B < 0)) = decide (an < 0) ∨
      (decide (an < 0) == decide (bn < 0)) = false ∧ (∀ w, Calls Tryd.prog 44 #[uv (an.natAbs * (q / Nat.gcd p q)), uv (bn.natAbs * (p / Nat.gcd p q))] w fun e w' => e = .returned (.bool true) ∧ Below w.heap.size w w') ∧ (∀ w, Calls Tryd.prog 45 #[uv (bn.natAbs * (p / Nat.gcd p q)), uv (an.natAbs * (q / Nat.gcd p q))] w fun e w' => e = .returned (uv (A + B).natAbs) ∧ Below w.heap.size w w') ∧ (if A + B = 0 then decide (an < 0) else decide (A + B < 0)) = (!decide (an < 0)) ∨
      (decide (an < 0) == decide (bn < 0)) = false ∧ (∀ w, Calls Tryd.prog 44 #[uv (an.natAbs * (q / Nat.gcd p q)), uv (bn.natAbs * (p / Nat.gcd p q))] w fun e w' => e = .returned (.bool false) ∧ Below w.heap.size w w') ∧ (∀ w, Calls Tryd.prog 45 #[uv (an.natAbs * (q / Nat.gcd p q)), uv (bn.natAbs * (p / Nat.gcd p q))] w fun e w' => e = .returned (uv (A + B).natAbs) ∧ Below w.heap.size w w') ∧ (if A + B = 0 then decide (an < 0) else decide (A + B < 0)) = decide (an < 0)) := by
    apply Lib.hid
    have hP := fun w => rplus_u (an.natAbs * (q / Nat.gcd p q)) (bn.natAbs * (p / Nat.gcd p q)) (by omega) w
    have hL := fun w => rless_u (an.natAbs * (q / Nat.gcd p q)) (bn.natAbs * (p / Nat.gcd p q)) w
    have hM1 := fun h w => rminus_u (bn.natAbs * (p / Nat.gcd p q)) (an.natAbs * (q / Nat.gcd p q)) (by omega) h w
    have hM2 := fun h w => rminus_u (an.natAbs * (q / Nat.gcd p q)) (bn.natAbs * (p / Nat.gcd p q)) (by omega) h w
    rw [← sx, ← sy] at *
    by_cases s1 : an < 0 <;> by_cases s2 : bn < 0
    · left
      have k1 := gx.1 s1
      have k2 := gy.1 s2
      refine ⟨by simp [s1, s2], fun w => ?_, ?_⟩
      · have := hP w
        rw [show A.natAbs + B.natAbs = (A + B).natAbs from by omega] at this
        exact this
      · split
        · rfl
        · simp only [s1, decide_true, decide_eq_true_eq]; omega
    · right
      have k1 := gx.1 s1
      have k2 := gy.2 s2
      by_cases hl : A.natAbs < B.natAbs
      · left
        refine ⟨by simp [s1, s2], fun w => ?_, fun w => ?_, ?_⟩
        · have := hL w
          rw [decide_eq_true hl] at this
          exact this
        · have := hM1 (Nat.le_of_lt hl) w
          rw [show B.natAbs - A.natAbs = (A + B).natAbs from by omega] at this
          exact this
        · rw [if_neg (by omega)]
          simp only [s1, decide_true, Bool.not_true, decide_eq_false_iff_not]; omega
      · right
        refine ⟨by simp [s1, s2], fun w => ?_, fun w => ?_, ?_⟩
        · have := hL w
          rw [decide_eq_false hl] at this
          exact this
        · have := hM2 (Nat.le_of_not_lt hl) w
          rw [show A.natAbs - B.natAbs = (A + B).natAbs from by omega] at this
          exact this
        · split
          · rfl
          · simp only [s1, decide_true, decide_eq_true_eq]; omega
    · right
      have k1 := gx.2 s1
      have k2 := gy.1 s2
      by_cases hl : A.natAbs < B.natAbs
      · left
        refine ⟨by simp [s1, s2], fun w => ?_, fun w => ?_, ?_⟩
        · have := hL w
          rw [decide_eq_true hl] at this
          exact this
        · have := hM1 (Nat.le_of_lt hl) w
          rw [show B.natAbs - A.natAbs = (A + B).natAbs from by omega] at this
          exact this
        · rw [if_neg (by omega)]
          simp only [s1, decide_false, Bool.not_false, decide_eq_true_eq]; omega
      · right
        refine ⟨by simp [s1, s2], fun w => ?_, fun w => ?_, ?_⟩
        · have := hL w
          rw [decide_eq_false hl] at this
          exact this
        · have := hM2 (Nat.le_of_not_lt hl) w
          rw [show A.natAbs - B.natAbs = (A + B).natAbs from by omega] at this
          exact this
        · split
          · rfl
          · simp only [s1, decide_false, decide_eq_false_iff_not]; omega
    · left
      have k1 := gx.2 s1
      have k2 := gy.2 s2
      refine ⟨by simp [s1, s2], fun w => ?_, ?_⟩
      · have := hP w
        rw [show A.natAbs + B.natAbs = (A + B).natAbs from by omega] at this
        exact this
      · split
        · rfl
        · simp only [s1, decide_false, decide_eq_false_iff_not]; omega
  have bN : (A + B).natAbs < 340282366920938463463374607431768211456 := by
    have := Int.natAbs_add_le A B
    omega
  have hE : redI (an * (q : Int) + bn * (p : Int)) (p * q) = if A + B = 0 then (0, 1, 0) else sgnS (if A + B = 0 then decide (an < 0) else decide (A + B < 0)) ((A + B).natAbs / Nat.gcd (Nat.gcd p q) ((A + B).natAbs % Nat.gcd p q)) ((p / Nat.gcd p q) * (q / Nat.gcd (Nat.gcd p q) ((A + B).natAbs % Nat.gcd p q))) := by
    rw [es]
    by_cases h0 : A + B = 0
    · rw [if_pos h0, h0, Int.mul_zero]
      unfold redI redS
      rw [show (0 : Int).natAbs = 0 from rfl, Nat.gcd_zero_left, Nat.zero_div, Nat.div_self (Nat.mul_pos p0 q0)]
      decide
    · obtain ⟨r1, r2⟩ := red (by omega)
      rw [if_neg h0, if_neg h0]
      unfold redI redS
      rw [Int.natAbs_mul, Int.natAbs_natCast, r1, r2]
      congr 1
      rw [Bool.eq_iff_iff, decide_eq_true_iff, decide_eq_true_iff]
      constructor
      · intro h
        rcases Int.lt_or_le (A + B) 0 with k | k
        · exact k
        · have := Int.mul_nonneg (show (0 : Int) ≤ (Nat.gcd p q : Int) by omega) k
          omega
      · intro h
        exact Int.mul_neg_of_pos_of_neg (by omega) h
  rw [hE]
  clear hE es red mix sx sy gx gy hA hB
  generalize hneg : (if A + B = 0 then decide (an < 0) else decide (A + B < 0)) = neg at *
  have z0 : A + B = 0 ↔ (A + B).natAbs = 0 := by omega
  simp only [z0]
  clear hneg z0 bX bY
  generalize (A + B).natAbs = N at *
  generalize Nat.gcd p q = g at *
  have hC : 0 < Nat.gcd g (N % g) := Nat.gcd_pos_of_pos_left _ hg
  have HO1 := Lib.hid (fun w => rover_u N g bN hg (by omega) w)
  have hR : N % g < g := Nat.mod_lt _ hg
  have hCg : Nat.gcd g (N % g) ≤ g := Nat.gcd_le_left _ hg
  have hX := HN
  clear HN
  have kN : N / Nat.gcd g (N % g) ≤ N := Nat.div_le_self _ _
  have kq : q / Nat.gcd g (N % g) ≤ q := Nat.div_le_self _ _
  have HC := hid_drawn (fun w => gcd_any g (N % g) (by omega) (by omega) w)
  have e3 := div_cast q (Nat.gcd g (N % g))
  generalize hCC : Nat.gcd g (N % g) = Cc at *
  have HO2 := Lib.hid (fun w => rover_u N Cc bN hC (by omega) w)
  have HD := Lib.hid (fun w => product_any (p / g) (q / Cc) (by omega) (by omega) w)
  have w1 : ∀ k : Nat, k ≤ 1152921504606846976 → IntKind.u64.wrap (k : Int) = (k : Int) := fun k hk => by rw [IntKind.wrap_u64]; omega
  have HS := Lib.hid (fun w => signed_any neg (loN (N / Cc)) (loN (p / g * (q / Cc))) (loN_lt _) (loN_lt _) w)
  refine radd_core an bn neg an.natAbs bn.natAbs p q g (p / g) (q / g) (an.natAbs * (q / g)) (bn.natAbs * (p / g)) N (N % g) Cc (N / Cc) (q / Cc) (p / g * (q / Cc)) _ p1 q1 (by omega) (by omega) e1 (w1 _ (by omega)) e2 (w1 _ (by omega)) e3 (w1 _ (by omega)) (w1 _ p1) (w1 _ q1) (by simp; omega) (by simp; omega) (by omega) (by omega)
    HV1 HV2 HG HX HY HP HQ hX HO1 HC HO2 HD HS (Lib.hid ?_) w
  have n1 := hilo (N / Cc)
  have n3 := hilo (p / g * (q / Cc))
  rcases Nat.eq_zero_or_pos N with h0 | h0
  · exact .inl ⟨h0, by rw [if_pos h0]⟩
  · right
    refine ⟨h0, ?_⟩
    rw [if_neg (by omega)]
    by_cases c1 : (0 : Int) < (hiN (N / Cc) : Int) ∨ (0 : Int) < (hiN (p / g * (q / Cc)) : Int)
    · left
      exact ⟨c1, by unfold sgnS; rw [if_neg (by omega)]⟩
    · right
      have k1 : N / Cc = loN (N / Cc) := by omega
      have k2 : p / g * (q / Cc) = loN (p / g * (q / Cc)) := by omega
      exact ⟨by omega, by omega, by rw [← k1, ← k2]⟩

theorem raddS_ok {an bn : Int} {p q : Nat} (h1 : fracB an p = true) (h2 : fracB bn q = true) : raddS an p bn q = redI (an * q + bn * p) (p * q) := by simp [raddS, h1, h2]

set_option maxRecDepth 100000 in
theorem radd_bad1 (an ad bn bd : Int) 
    (HV1 : Hid (∀ w, Calls Tryd.prog 15 #[.agg #[.int .i64 an, .int .i64 ad]] w fun e w' => e = .returned (.bool false) ∧ Below w.heap.size w w')) (w : World) :
    Calls Tryd.prog 12 #[.agg #[.int .i64 an, .int .i64 ad], .agg #[.int .i64 bn, .int .i64 bd]] w fun e w' => e = .returned (frv (0, 0, 1)) ∧ Below w.heap.size w w' := by
  go_enter Tryd.func12, Tryd.ntmps12
  go_wp2_with fail
  refine (HV1.out _).mono ?_
  rintro e v1 ⟨rfl, hb1⟩
  have k_a : At v1 (w.heap.size) 23 #[.int .i64 an, .int .i64 ad] := At.bel (by (repeat (first | (with_reducible apply At.new'; (focus (simp; done))) | with_reducible apply At.al | with_reducible apply At.drw | with_reducible apply At.dr))) hb1
  have k_b : At v1 (w.heap.size + 1) 23 #[.int .i64 bn, .int .i64 bd] := At.bel (by (repeat (first | (with_reducible apply At.new'; (focus (simp; done))) | with_reducible apply At.al | with_reducible apply At.drw | with_reducible apply At.dr))) hb1
  have k_o : At v1 (w.heap.size + 1 + 1) 23 #[.int .i64 0, .int .i64 0] := At.bel (by (repeat (first | (with_reducible apply At.new'; (focus (simp; done))) | with_reducible apply At.al | with_reducible apply At.drw | with_reducible apply At.dr))) hb1
  have HB : Below w.heap.size w v1 := below_then (by repeat (first | with_reducible assumption | with_reducible exact Below.refl _ _ | with_reducible refine below_al ?_ _ | with_reducible refine below_drew ?_ | with_reducible refine below_drewN ?_ _ | with_reducible refine below_set ?_ (by dsimp only; omega) _)) hb1
  clear hb1
  have Lk_a := k_a.lt
  obtain ⟨k_a0, k_a1, k_a2, k_a3⟩ := k_a.two
  have Lk_b := k_b.lt
  obtain ⟨k_b0, k_b1, k_b2, k_b3⟩ := k_b.two
  have Lk_o := k_o.lt
  obtain ⟨k_o0, k_o1, k_o2, k_o3⟩ := k_o.two
  go_wp2_with fail
  exact bodyPost_ret (v := frv (0, 0, 1)) (by simp [results, Tryd.results12, go_sem, *]) rfl ⟨rfl, (by repeat (first | with_reducible assumption | with_reducible exact Below.refl _ _ | with_reducible refine below_al ?_ _ | with_reducible refine below_drew ?_ | with_reducible refine below_drewN ?_ _ | with_reducible refine below_set ?_ (by dsimp only; omega) _))⟩

set_option maxRecDepth 100000 in
theorem radd_bad2 (an ad bn bd : Int) 
    (HV1 : Hid (∀ w, Calls Tryd.prog 15 #[.agg #[.int .i64 an, .int .i64 ad]] w fun e w' => e = .returned (.bool true) ∧ Below w.heap.size w w'))
    (HV2 : Hid (∀ w, Calls Tryd.prog 15 #[.agg #[.int .i64 bn, .int .i64 bd]] w fun e w' => e = .returned (.bool false) ∧ Below w.heap.size w w')) (w : World) :
    Calls Tryd.prog 12 #[.agg #[.int .i64 an, .int .i64 ad], .agg #[.int .i64 bn, .int .i64 bd]] w fun e w' => e = .returned (frv (0, 0, 1)) ∧ Below w.heap.size w w' := by
  go_enter Tryd.func12, Tryd.ntmps12
  go_wp2_with fail
  refine (HV1.out _).mono ?_
  rintro e v1 ⟨rfl, hb1⟩
  have k_a : At v1 (w.heap.size) 23 #[.int .i64 an, .int .i64 ad] := At.bel (by (repeat (first | (with_reducible apply At.new'; (focus (simp; done))) | with_reducible apply At.al | with_reducible apply At.drw | with_reducible apply At.dr))) hb1
  have k_b : At v1 (w.heap.size + 1) 23 #[.int .i64 bn, .int .i64 bd] := At.bel (by (repeat (first | (with_reducible apply At.new'; (focus (simp; done))) | with_reducible apply At.al | with_reducible apply At.drw | with_reducible apply At.dr))) hb1
  have k_o : At v1 (w.heap.size + 1 + 1) 23 #[.int .i64 0, .int .i64 0] := At.bel (by (repeat (first | (with_reducible apply At.new'; (focus (simp; done))) | with_reducible apply At.al | with_reducible apply At.drw | with_reducible apply At.dr))) hb1
  have HB : Below w.heap.size w v1 := below_then (by repeat (first | with_reducible assumption | with_reducible exact Below.refl _ _ | with_reducible refine below_al ?_ _ | with_reducible refine below_drew ?_ | with_reducible refine below_drewN ?_ _ | with_reducible refine below_set ?_ (by dsimp only; omega) _)) hb1
  clear hb1
  have Lk_a := k_a.lt
  obtain ⟨k_a0, k_a1, k_a2, k_a3⟩ := k_a.two
  have Lk_b := k_b.lt
  obtain ⟨k_b0, k_b1, k_b2, k_b3⟩ := k_b.two
  have Lk_o := k_o.lt
  obtain ⟨k_o0, k_o1, k_o2, k_o3⟩ := k_o.two
  go_wp2_with fail
  refine (HV2.out _).mono ?_
  rintro e v2 ⟨rfl, hb2⟩
  clear k_a0 k_a1 k_a2 k_a3 Lk_a k_b0 k_b1 k_b2 k_b3 Lk_b k_o0 k_o1 k_o2 k_o3 Lk_o
  replace k_a : At v2 (w.heap.size) 23 #[.int .i64 an, .int .i64 ad] := At.bel (by repeat (first | with_reducible assumption | with_reducible apply At.put0 | with_reducible apply At.put1 | with_reducible refine At.far ?_ (by dsimp only; omega) _ | with_reducible apply At.al | with_reducible apply At.drw | with_reducible apply At.dr)) hb2
  replace k_b : At v2 (w.heap.size + 1) 23 #[.int .i64 bn, .int .i64 bd] := At.bel (by repeat (first | with_reducible assumption | with_reducible apply At.put0 | with_reducible apply At.put1 | with_reducible refine At.far ?_ (by dsimp only; omega) _ | with_reducible apply At.al | with_reducible apply At.drw | with_reducible apply At.dr)) hb2
  replace k_o : At v2 (w.heap.size + 1 + 1) 23 #[.int .i64 0, .int .i64 0] := At.bel (by repeat (first | with_reducible assumption | with_reducible apply At.put0 | with_reducible apply At.put1 | with_reducible refine At.far ?_ (by dsimp only; omega) _ | with_reducible apply At.al | with_reducible apply At.drw | with_reducible apply At.dr)) hb2
  replace HB : Below w.heap.size w v2 := below_then (by repeat (first | with_reducible assumption | with_reducible exact Below.refl _ _ | with_reducible refine below_al ?_ _ | with_reducible refine below_drew ?_ | with_reducible refine below_drewN ?_ _ | with_reducible refine below_set ?_ (by dsimp only; omega) _)) hb2
  clear hb2
  have Lk_a := k_a.lt
  obtain ⟨k_a0, k_a1, k_a2, k_a3⟩ := k_a.two
  have Lk_b := k_b.lt
  obtain ⟨k_b0, k_b1, k_b2, k_b3⟩ := k_b.two
  have Lk_o := k_o.lt
  obtain ⟨k_o0, k_o1, k_o2, k_o3⟩ := k_o.two
  go_wp2_with fail
  exact bodyPost_ret (v := frv (0, 0, 1)) (by simp [results, Tryd.results12, go_sem, *]) rfl ⟨rfl, (by repeat (first | with_reducible assumption | with_reducible exact Below.refl _ _ | with_reducible refine below_al ?_ _ | with_reducible refine below_drew ?_ | with_reducible refine below_drewN ?_ _ | with_reducible refine below_set ?_ (by dsimp only; omega) _))⟩

theorem radd_any (an ad bn bd : Int) (w : World) :
    Calls Tryd.prog 12 #[.agg #[.int .i64 an, .int .i64 ad], .agg #[.int .i64 bn, .int .i64 bd]] w fun e w' => e = .returned (frv (raddS an ad bn bd)) ∧ Below w.heap.size w w' := by
  cases h1 : fracB an ad
  · rw [show raddS an ad bn bd = (0, 0, 1) from by simp [raddS, h1]]
    exact radd_bad1 an ad bn bd (Lib.hid (fun w => by have := fvalid_any an ad w; rw [h1] at this; exact this)) w
  · cases h2 : fracB bn bd
    · rw [show raddS an ad bn bd = (0, 0, 1) from by simp [raddS, h2]]
      exact radd_bad2 an ad bn bd (Lib.hid (fun w => by have := fvalid_any an ad w; rw [h1] at this; exact this)) (Lib.hid (fun w => by have := fvalid_any bn bd w; rw [h2] at this; exact this)) w
    · obtain ⟨p, rfl⟩ : ∃ p : Nat, ad = (p : Int) := ⟨ad.toNat, by have := (fracB_iff.1 h1).1; omega⟩
      obtain ⟨q, rfl⟩ : ∃ q : Nat, bd = (q : Int) := ⟨bd.toNat, by have := (fracB_iff.1 h2).1; omega⟩
      rw [raddS_ok h1 h2]
      exact radd_ok an bn p q h1 h2 w

#print axioms radd_any

end Go.Proofs.YtpijmjffobkalaaDoor
