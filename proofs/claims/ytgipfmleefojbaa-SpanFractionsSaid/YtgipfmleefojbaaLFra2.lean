/- SpanFractions returns true. -/
import Derived.Test.YtgipfmleefojbaaLFra
set_option linter.unusedVariables false
namespace Go.Proofs.Ytgipfmleefojbaa
open Go.ChangeShapes Go.WideShapes Go.ChangeAt Go.RowKit

theorem ofS_or (n d u : Int) (h : fracB n d = true) (h1 : 1 ≤ u) (h2 : u ≤ 1099511627776) : (okS n u d = true ∧ ofS n d u = (dnS n u d, upS n u d, 0)) ∨ (okS n u d = false ∧ ofS n d u = (0, 0, 5)) := by
  have e : ofS n d u = hullS (ofL n d u) := by simp [ofS, h, h1, h2]
  rw [e]
  cases ho : okS n u d
  · right
    exact ⟨rfl, by simp [hullS, hullOk, ofL, ho]⟩
  · left
    refine ⟨rfl, ?_⟩
    have hw := ho
    simp only [okS, Bool.and_eq_true, withinB_iff] at hw
    simp only [hullS, hullOk, hullLo, hullHi, ofL, List.all_cons, List.all_nil, ho, Bool.and_self, if_true, List.foldl_cons, List.foldl_nil, minI_eq, maxI_eq, Prod.mk.injEq, and_true]
    omega
theorem dn_up (a b c : Int) (hc : 0 < c) : dnS a b c ≤ upS a b c ∧ upS a b c ≤ dnS a b c + 1 := by
  have h := quo_pos (a := a) (b := b) hc
  refine ⟨dn_le_up a b c, ?_⟩
  rcases Int.lt_or_le (dnS a b c + 1) (upS a b c) with k | k
  · have := Int.mul_le_mul_of_nonneg_right (show dnS a b c + 2 ≤ upS a b c by omega) (Int.le_of_lt hc)
    rw [Int.add_mul] at this
    omega
  · exact k
/-- The two ends of a fraction in lowest terms are those of the product. -/
theorem ends_eq {n u d p q : Int} (hd : 0 < d) (hq : 0 < q) (h : p * d = n * u * q) : p / q = dnS n u d ∧ -(-p / q) = upS n u d := by
  have key : ∀ m : Int, m * q ≤ p ↔ m * d ≤ n * u := fun m => by
    constructor
    · intro k
      have := Int.mul_le_mul_of_nonneg_right k (Int.le_of_lt hd)
      rw [h, Int.mul_assoc, Int.mul_comm q d, ← Int.mul_assoc] at this
      exact Int.le_of_mul_le_mul_right this hq
    · intro k
      have := Int.mul_le_mul_of_nonneg_right k (Int.le_of_lt hq)
      rw [← h, Int.mul_assoc, Int.mul_comm d q, ← Int.mul_assoc] at this
      exact Int.le_of_mul_le_mul_right this hd
  have key2 : ∀ m : Int, p ≤ m * q ↔ n * u ≤ m * d := fun m => by
    constructor
    · intro k
      have := Int.mul_le_mul_of_nonneg_right k (Int.le_of_lt hd)
      rw [h, Int.mul_assoc, Int.mul_assoc m, Int.mul_comm q d, ← Int.mul_assoc m, ← Int.mul_assoc] at this
      exact Int.le_of_mul_le_mul_right this hq
    · intro k
      have := Int.mul_le_mul_of_nonneg_right k (Int.le_of_lt hq)
      rw [← h, Int.mul_assoc m, Int.mul_comm d q, ← Int.mul_assoc] at this
      exact Int.le_of_mul_le_mul_right this hd
  constructor
  · apply Int.le_antisymm
    · rw [le_dn_pos hd, ← key]
      exact (Int.le_ediv_iff_mul_le hq).1 (Int.le_refl _)
    · rw [Int.le_ediv_iff_mul_le hq, key, ← le_dn_pos hd]
      exact Int.le_refl _
  · apply Int.le_antisymm
    · have : -(upS n u d) ≤ -p / q := by
        rw [Int.le_ediv_iff_mul_le hq, Int.neg_mul]
        have := (key2 (upS n u d)).2 ((up_le_pos hd).1 (Int.le_refl _))
        omega
      omega
    · rw [up_le_pos hd, ← key2, Int.neg_mul]
      have := (Int.le_ediv_iff_mul_le (a := -p / q) (b := -p) hq).1 (Int.le_refl _)
      omega
theorem mul_tim {l h u : Int} (h1 : validB l h = true) (hu1 : 1 ≤ u) (hu2 : u ≤ 1099511627776) : timS l h u 1 = mulS l h u u := by
  have hu : validB u u = true := validB_iff.2 (by omega)
  have w1 : withinB u = true := withinB_iff.2 (by omega)
  have w2 : withinB 1 = true := by decide
  simp only [timS, mulS, h1, hu, w1, w2, Bool.and_self, if_true, show ¬ ((1 : Int) = 0) from by decide, if_false]
  have e1 : hullOk (mulL l h u u) = hullOk (timL l h u 1) := by simp [hullOk, mulL, timL]
  have e2 : hullLo (mulL l h u u) = hullLo (timL l h u 1) := by
    simp only [hullLo, mulL, timL, List.foldl_cons, List.foldl_nil, minI_eq]; omega
  have e3 : hullHi (mulL l h u u) = hullHi (timL l h u 1) := by
    simp only [hullHi, mulL, timL, List.foldl_cons, List.foldl_nil, maxI_eq]; omega
  simp only [hullS, e1, e2, e3]
/-- What the product of the fraction and the unit is. -/
theorem rmul_or (n d u : Int) (h : fracB n d = true) (h1 : 1 ≤ u) (h2 : u ≤ 1099511627776) :
    (∃ p q : Int, rmulS n d u 1 = (p, q, 0) ∧ fracB p q = true ∧ p * d = n * u * q) ∨ rmulS n d u 1 = (0, 0, 5) := by
  have g := fracB_iff.1 h
  have hu : fracB u 1 = true := fracB_iff.2 ⟨by omega, by omega, by omega, by omega, Nat.gcd_one_right _⟩
  have e : rmulS n d u 1 = redS (decide (n < 0) != decide (u < 0)) (n.natAbs * u.natAbs) (d.natAbs * (1 : Int).natAbs) := by simp only [rmulS, h, hu, Bool.and_self, if_true]
  rw [e, show (1 : Int).natAbs = 1 from rfl, Nat.mul_one, show decide (u < 0) = false from by simp; omega, Bool.bne_false]
  obtain ⟨k1, k2, k3⟩ := red_cross (n.natAbs * u.natAbs) d.natAbs (by omega)
  unfold redS sgnS
  generalize (n.natAbs * u.natAbs) / Nat.gcd (n.natAbs * u.natAbs) d.natAbs = N at *
  generalize d.natAbs / Nat.gcd (n.natAbs * u.natAbs) d.natAbs = D at *
  split
  · rename_i hc
    left
    refine ⟨_, _, rfl, ?_, ?_⟩
    · rw [fracB_iff]
      refine ⟨by omega, by omega, by split <;> omega, by split <;> omega, ?_⟩
      have : (if decide (n < 0) = true then -(N : Int) else (N : Int)).natAbs = N := by split <;> omega
      rw [this, Int.natAbs_natCast]
      exact k3
    · have hz : (N : Int) * (d.natAbs : Int) = ((n.natAbs : Int) * (u.natAbs : Int)) * (D : Int) := by
        rw [← Int.natCast_mul, ← Int.natCast_mul, ← Int.natCast_mul, k1]
      rw [show (d.natAbs : Int) = d from by omega, show (u.natAbs : Int) = u from by omega] at hz
      by_cases hn : n < 0
      · rw [if_pos (by simpa using hn), Int.neg_mul, hz, show (n.natAbs : Int) = -n from by omega, Int.neg_mul, Int.neg_mul, Int.neg_neg]
      · rw [if_neg (by simpa using hn), hz, show (n.natAbs : Int) = n from by omega]
  · exact .inr rfl

set_option maxRecDepth 100000 in
set_option maxHeartbeats 4000000 in
theorem spanFractions_walk (fn fd u : Int) (_ : (Lit.int .i64 fn).wf = true) (_ : (Lit.int .i64 fd).wf = true) (_ : (Lit.int .i64 u).wf = true) (w : World) :
    Calls Try.prog 10 #[.agg #[.int .i64 fn, .int .i64 fd], .int .i64 u] w fun e w' => e = .returned (.bool true) ∧ Below w.heap.size w w' := by
  have HV := Lib.hid (fun w => reffvalid_any fn fd w)
  cases hv : fracB fn fd
  · rw [hv] at HV
    exact fractions_bad1 fn fd u HV w
  rw [hv] at HV
  by_cases hu1 : u < 1
  · exact fractions_bad2 fn fd u HV hu1 w
  by_cases hu2 : 1099511627776 < u
  · exact fractions_bad3 fn fd u HV hu1 hu2 w
  have g := fracB_iff.1 hv
  have bu1 : 1 ≤ u := by omega
  have bu2 : u ≤ 1099511627776 := by omega
  have HS := Lib.hid (fun w => of_span_any fn fd u w)
  have H1 := Lib.hid (fun w => of_span_any fn fd 1 w)
  have HM := Lib.hid (fun w => ratiomul_any fn fd u 1 w)
  have d0 : 0 < fd := by omega
  have o1 := of_one (a := fn) (c := fd) (by omega) (by omega)
  have w1 := dn_up fn 1 fd d0
  have w2 := dn_up fn u fd d0
  rcases ofS_or fn fd 1 hv (by omega) (by omega) with ⟨_, e1⟩ | ⟨e1, _⟩
  case inr => rw [o1] at e1; cases e1
  rw [e1] at H1
  simp only [okS, Bool.and_eq_true, withinB_iff] at o1
  have hv1 : validB (dnS fn 1 fd) (upS fn 1 fd) = true := validB_iff.2 (by omega)
  have HMul := Lib.hid (fun w => mul_any (dnS fn 1 fd) (upS fn 1 fd) u u w)
  have HT := Lib.hid (fun w => tim_any (dnS fn 1 fd) (upS fn 1 fd) u 1 w)
  rw [mul_tim hv1 bu1 bu2] at HT
  have HU := Lib.hid (fun w => of_any u u w)
  rw [show minI u u = u from by unfold minI; split <;> rfl, show maxI u u = u from by unfold maxI; split <;> rfl] at HU
  rcases ofS_or fn fd u hv bu1 bu2 with ⟨ok, es⟩ | ⟨ok, es⟩
  · rw [es] at HS
    simp only [okS, Bool.and_eq_true, withinB_iff] at ok
    refine fractions_core fn fd u (dnS fn u fd) (upS fn u fd) (rmulS fn fd u 1).1 (rmulS fn fd u 1).2.1 (rmulS fn fd u 1).2.2 (dnS fn 1 fd) (upS fn 1 fd) (mulS (dnS fn 1 fd) (upS fn 1 fd) u u).1 (mulS (dnS fn 1 fd) (upS fn 1 fd) u u).2.1 (mulS (dnS fn 1 fd) (upS fn 1 fd) u u).2.2 bu1 bu2 (by omega) w2.1 w2.2 (by omega) HV HS HM (Lib.hid ?_) H1 HU HMul HT (Lib.hid ?_) w
    · rcases rmul_or fn fd u hv bu1 bu2 with ⟨p, q, er, hf, hc⟩ | er
      · left
        rw [er]
        have gq := fracB_iff.1 hf
        have q0 : 0 < q := by omega
        obtain ⟨en1, en2⟩ := ends_eq d0 q0 hc
        refine ⟨rfl, fun w => ?_, fun w => ?_, fun w => ?_, ?_⟩
        · have := rFloor_any p q hf w
          rw [en1] at this
          exact this
        · have := rCeil_any p q hf w
          rw [en2] at this
          exact this
        · have := of_any (dnS fn u fd) (upS fn u fd) w
          rw [show minI (dnS fn u fd) (upS fn u fd) = dnS fn u fd from by unfold minI; split <;> omega, show maxI (dnS fn u fd) (upS fn u fd) = upS fn u fd from by unfold maxI; split <;> omega] at this
          exact this
        · by_cases hq : q = 1
          · left
            have : p / q = -(-p / q) := by rw [hq, Int.ediv_one, Int.ediv_one, Int.neg_neg]
            refine ⟨by simpa using hq, ?_⟩
            rw [beq_iff_eq, ← en1, ← en2]
            exact this
          · right
            refine ⟨by simpa using hq, ?_⟩
            rw [beq_eq_false_iff_ne]
            intro he
            apply hq
            have l1 := (Int.le_ediv_iff_mul_le (a := p / q) (b := p) q0).1 (Int.le_refl _)
            have l2 := (Int.le_ediv_iff_mul_le (a := -p / q) (b := -p) q0).1 (Int.le_refl _)
            have e3 : -p / q = -(p / q) := by rw [en1, he, ← en2, Int.neg_neg]
            rw [e3, Int.neg_mul] at l2
            have e4 : p = p / q * q := by omega
            have dv : q.natAbs ∣ p.natAbs := by
              refine ⟨(p / q).natAbs, ?_⟩
              rw [← Int.natAbs_mul, Int.mul_comm q, ← e4]
            have := Nat.gcd_eq_right dv
            rw [gq.2.2.2.2] at this
            omega
      · right
        rw [er]
    · rcases mulS_or hv1 (show validB u u = true from validB_iff.2 (by omega)) with ⟨lo, hi, em, h4, _⟩ | ⟨em, _⟩
      · left
        rw [em]
        have k := quo_pos (a := fn) (b := 1) d0
        rw [Int.mul_one] at k
        have i1 : dnS fn 1 fd * u ≤ dnS fn u fd := by
          rw [le_dn_pos d0, Int.mul_assoc, Int.mul_comm u fd, ← Int.mul_assoc]
          exact Int.mul_le_mul_of_nonneg_right k.1 (by omega)
        have i2 : upS fn u fd ≤ upS fn 1 fd * u := by
          rw [up_le_pos d0, Int.mul_assoc, Int.mul_comm u fd, ← Int.mul_assoc]
          exact Int.mul_le_mul_of_nonneg_right k.2.2.2 (by omega)
        refine ⟨rfl, fun w => inside_yes _ _ _ _ ?_ ?_ w⟩
        · show lo ≤ dnS fn u fd
          have := h4.1.1
          omega
        · show upS fn u fd ≤ hi
          have := h4.2.2.2.2
          omega
      · right
        rw [em]
  · rw [es] at HS
    rcases rmul_or fn fd u hv bu1 bu2 with ⟨p, q, er, hf, hc⟩ | er
    · exfalso
      have gq := fracB_iff.1 hf
      obtain ⟨en1, en2⟩ := ends_eq d0 (show 0 < q by omega) hc
      have b1 := Int.natAbs_ediv_le_natAbs p q
      have b2 := Int.natAbs_ediv_le_natAbs (-p) q
      have : okS fn u fd = true := by
        simp only [okS, Bool.and_eq_true, withinB_iff]
        omega
      rw [this] at ok
      cases ok
    · rw [er] at HM
      exact fractions_big fn fd u 0 0 0 0 bu1 bu2 HV HS HM w
#print axioms spanFractions_walk

end Go.Proofs.Ytgipfmleefojbaa
