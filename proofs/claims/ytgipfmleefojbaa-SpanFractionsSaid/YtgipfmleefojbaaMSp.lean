/- Plain: quotients a b / c, rounded down and up, as the program and the reference reckon them: out of sizes and a sign. No program in sight. -/
import Derived.Lib.Mul64
set_option linter.unusedVariables false
namespace Go.Proofs.Ytgipfmleefojbaa

def withinB (n : Int) : Bool := decide (-1152921504606846976 ≤ n) && decide (n ≤ 1152921504606846976)
def validB (lo hi : Int) : Bool := decide (lo ≤ hi) && decide (-1152921504606846976 ≤ lo) && decide (hi ≤ 1152921504606846976)
theorem withinB_iff {n : Int} : withinB n = true ↔ -1152921504606846976 ≤ n ∧ n ≤ 1152921504606846976 := by simp [withinB]
theorem withinB_not {n : Int} : withinB n = false ↔ n < -1152921504606846976 ∨ 1152921504606846976 < n := by simp [withinB]; omega
theorem validB_iff {lo hi : Int} : validB lo hi = true ↔ lo ≤ hi ∧ -1152921504606846976 ≤ lo ∧ hi ≤ 1152921504606846976 := by simp [validB, and_assoc]

/-- The sign of a b / c. -/
def sgB (a b c : Int) : Bool := (decide (a < 0) != decide (b < 0)) != decide (c < 0)
def qN (a b c : Int) : Nat := a.natAbs * b.natAbs / c.natAbs
def rN (a b c : Int) : Nat := a.natAbs * b.natAbs % c.natAbs
/-- Away from zero. -/
def qU (a b c : Int) : Nat := if rN a b c = 0 then qN a b c else qN a b c + 1
def dnS (a b c : Int) : Int := if sgB a b c then -(qU a b c : Int) else (qN a b c : Int)
def upS (a b c : Int) : Int := if sgB a b c then -(qN a b c : Int) else (qU a b c : Int)
def okS (a b c : Int) : Bool := withinB (dnS a b c) && withinB (upS a b c)

theorem qU_le (a b c : Int) : qN a b c ≤ qU a b c ∧ qU a b c ≤ qN a b c + 1 := by unfold qU; split <;> omega

theorem okS_q {a b c : Int} (h : okS a b c = true) : qN a b c ≤ 1152921504606846976 := by
  unfold okS dnS upS at h
  rw [Bool.and_eq_true, withinB_iff, withinB_iff] at h
  split at h <;> omega

theorem not_okS_q {a b c : Int} (h : 1152921504606846976 < qN a b c) : okS a b c = false := by
  cases ho : okS a b c
  · rfl
  · have := okS_q ho; omega

theorem okS_of {a b c : Int} (h : qU a b c ≤ 1152921504606846976) : okS a b c = true := by
  have := qU_le a b c
  unfold okS dnS upS
  rw [Bool.and_eq_true, withinB_iff, withinB_iff]
  split <;> omega

/-- By one the quotient is the product. -/
theorem by_one (a b : Int) : dnS a b 1 = a * b ∧ upS a b 1 = a * b := by
  have hr : rN a b 1 = 0 := by unfold rN; simp [Nat.mod_one]
  have hq : qN a b 1 = (a * b).natAbs := by unfold qN; simp [Int.natAbs_mul]
  unfold dnS upS qU
  rw [if_pos hr, hq]
  unfold sgB
  rcases Int.lt_or_le a 0 with ha | ha <;> rcases Int.lt_or_le b 0 with hb | hb
  · have := Int.mul_pos_of_neg_of_neg ha hb
    simp [ha, hb]; omega
  · have := Int.mul_nonpos_of_nonpos_of_nonneg (Int.le_of_lt ha) hb
    have hb' : ¬ b < 0 := by omega
    simp [ha, hb']; omega
  · have := Int.mul_nonpos_of_nonneg_of_nonpos ha (Int.le_of_lt hb)
    have ha' : ¬ a < 0 := by omega
    simp [ha', hb]; omega
  · have := Int.mul_nonneg ha hb
    have ha' : ¬ a < 0 := by omega
    have hb' : ¬ b < 0 := by omega
    simp [ha', hb']; omega

/-- Of numbers within the bounds, by a whole number other than 0 the quotient is within them. -/
theorem of_one {a c : Int} (ha : -1152921504606846976 ≤ a ∧ a ≤ 1152921504606846976) (hc : c ≠ 0) : okS a 1 c = true := by
  refine okS_of ?_
  unfold qU
  have hc' : 1 ≤ c.natAbs := by omega
  have h1 : qN a 1 c ≤ a.natAbs := by
    unfold qN
    rw [Int.natAbs_one, Nat.mul_one]
    exact Nat.div_le_self _ _
  have h2 : qN a 1 c * c.natAbs + rN a 1 c = a.natAbs := by
    unfold qN rN
    rw [Int.natAbs_one, Nat.mul_one]
    exact Nat.div_add_mod' _ _
  split
  · omega
  · rename_i hr
    have : qN a 1 c * 1 ≤ qN a 1 c * c.natAbs := Nat.mul_le_mul_left _ hc'
    omega

/-! ### the spans of the four functions: least and greatest of the quotients -/
def minI (a b : Int) : Int := if b < a then b else a
def maxI (a b : Int) : Int := if a < b then b else a

/-- The hull of quotients: the span, if all of them fit. -/
def hullOk (l : List (Int × Int × Int)) : Bool := l.all fun x => okS x.1 x.2.1 x.2.2
def hullLo (l : List (Int × Int × Int)) : Int := l.foldl (fun m x => minI m (dnS x.1 x.2.1 x.2.2)) 1152921504606846976
def hullHi (l : List (Int × Int × Int)) : Int := l.foldl (fun m x => maxI m (upS x.1 x.2.1 x.2.2)) (-1152921504606846976)
end Go.Proofs.Ytgipfmleefojbaa
