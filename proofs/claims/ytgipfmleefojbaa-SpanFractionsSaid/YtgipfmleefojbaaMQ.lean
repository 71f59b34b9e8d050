/- Plain: what the quotients say by inequalities; products and quotients of numbers between the ends. No program in sight. -/
import Derived.Test.YtgipfmleefojbaaMSp
set_option linter.unusedVariables false
namespace Go.Proofs.Ytgipfmleefojbaa

theorem q_spec (a b c : Int) : (qN a b c : Int) * c.natAbs + (rN a b c : Int) = (a * b).natAbs := by
  have h : qN a b c * c.natAbs + rN a b c = (a * b).natAbs := by
    unfold qN rN
    rw [Int.natAbs_mul]
    exact Nat.div_add_mod' _ _
  rw [← h]
  simp
theorem r_lt {a b c : Int} (hc : c ≠ 0) : rN a b c < c.natAbs := Nat.mod_lt _ (by omega)
/-- The sign, when the product is not 0. -/
theorem sg_of {a b c : Int} (h : a * b ≠ 0) : sgB a b c = (decide (a * b < 0) != decide (c < 0)) := by
  unfold sgB
  congr 1
  have ha : a ≠ 0 := by rintro rfl; simp at h
  have hb : b ≠ 0 := by rintro rfl; simp at h
  rcases Int.lt_or_gt_of_ne ha with h1 | h1 <;> rcases Int.lt_or_gt_of_ne hb with h2 | h2
  · have := Int.mul_pos_of_neg_of_neg h1 h2
    simp [h1, h2]; omega
  · have := Int.mul_neg_of_neg_of_pos h1 h2
    have h2' : ¬ b < 0 := by omega
    simp [h1, h2']; omega
  · have := Int.mul_neg_of_pos_of_neg h1 h2
    have h1' : ¬ a < 0 := by omega
    simp [h1', h2]; omega
  · have := Int.mul_pos h1 h2
    have h1' : ¬ a < 0 := by omega
    have h2' : ¬ b < 0 := by omega
    simp [h1', h2']; omega
theorem q_zero {a b c : Int} (h : a * b = 0) : qN a b c = 0 ∧ rN a b c = 0 := by
  have e : a.natAbs * b.natAbs = 0 := by rw [← Int.natAbs_mul, h]; rfl
  unfold qN rN
  rw [e]
  exact ⟨Nat.zero_div _, Nat.zero_mod _⟩
theorem mul_succ' (q c : Int) : (q + 1) * c = q * c + c := by rw [Int.add_mul, Int.one_mul]
theorem mul_pred' (q c : Int) : (q - 1) * c = q * c - c := by rw [Int.sub_mul, Int.one_mul]
theorem neg_mul' (q c : Int) : -q * c = -(q * c) := Int.neg_mul _ _

/-- By a positive number: the quotient rounded down, and up. -/
theorem quo_pos {a b c : Int} (hc : 0 < c) : dnS a b c * c ≤ a * b ∧ a * b < dnS a b c * c + c ∧ upS a b c * c - c < a * b ∧ a * b ≤ upS a b c * c := by
  have h1 := q_spec a b c
  have h2 := r_lt (a := a) (b := b) (c := c) (by omega)
  have hn : (c.natAbs : Int) = c := by omega
  rw [hn] at h1
  by_cases h0 : a * b = 0
  · obtain ⟨z1, z2⟩ := q_zero (c := c) h0
    have d : dnS a b c = 0 := by unfold dnS qU; rw [if_pos z2, z1]; split <;> rfl
    have u : upS a b c = 0 := by unfold upS qU; rw [if_pos z2, z1]; split <;> rfl
    rw [d, u, h0]; omega
  · have hs := sg_of (c := c) h0
    have hc' : decide (c < 0) = false := by simp; omega
    rw [hc', Bool.bne_false] at hs
    unfold dnS upS qU
    rw [hs]
    by_cases hp : a * b < 0
    · have e1 : decide (a * b < 0) = true := by simpa using hp
      simp only [e1, if_true]
      split
      · rename_i hr
        simp only [neg_mul']
        omega
      · simp only [neg_mul', Int.natCast_add, Int.natCast_one, mul_succ']
        omega
    · have e1 : decide (a * b < 0) = false := by simpa using hp
      simp only [e1, Bool.false_eq_true, if_false]
      split
      · omega
      · simp only [Int.natCast_add, Int.natCast_one, mul_succ']
        omega
/-- By a negative number. -/
theorem quo_neg {a b c : Int} (hc : c < 0) : a * b ≤ dnS a b c * c ∧ dnS a b c * c + c < a * b ∧ a * b < upS a b c * c - c ∧ upS a b c * c ≤ a * b := by
  have h1 := q_spec a b c
  have h2 := r_lt (a := a) (b := b) (c := c) (by omega)
  have hn : (c.natAbs : Int) = -c := by omega
  rw [hn, Int.mul_neg] at h1
  by_cases h0 : a * b = 0
  · obtain ⟨z1, z2⟩ := q_zero (c := c) h0
    have d : dnS a b c = 0 := by unfold dnS qU; rw [if_pos z2, z1]; split <;> rfl
    have u : upS a b c = 0 := by unfold upS qU; rw [if_pos z2, z1]; split <;> rfl
    rw [d, u, h0]; omega
  · have hs := sg_of (c := c) h0
    have hc' : decide (c < 0) = true := by simp; omega
    rw [hc', Bool.bne_true] at hs
    unfold dnS upS qU
    rw [hs]
    by_cases hp : a * b < 0
    · have e1 : decide (a * b < 0) = true := by simpa using hp
      simp only [e1, Bool.not_true, Bool.false_eq_true, if_false]
      split
      · omega
      · simp only [Int.natCast_add, Int.natCast_one, mul_succ']
        omega
    · have e1 : decide (a * b < 0) = false := by simpa using hp
      simp only [e1, Bool.not_false, if_true]
      split
      · simp only [neg_mul']
        omega
      · simp only [neg_mul', Int.natCast_add, Int.natCast_one, mul_succ']
        omega

theorem le_of_mul {m d c p : Int} (hc : 0 < c) (h1 : p < d * c + c) (h : m * c ≤ p) : m ≤ d := by
  rcases Int.lt_or_le d m with k | k
  · have := Int.mul_le_mul_of_nonneg_right (show d + 1 ≤ m by omega) (Int.le_of_lt hc)
    rw [mul_succ'] at this
    omega
  · exact k
theorem mul_of_le {m d c p : Int} (hc : 0 < c) (h1 : d * c ≤ p) (h : m ≤ d) : m * c ≤ p := by
  have := Int.mul_le_mul_of_nonneg_right h (Int.le_of_lt hc)
  omega
/-- m is at most the quotient rounded down. -/
theorem le_dn_pos {a b c m : Int} (hc : 0 < c) : m ≤ dnS a b c ↔ m * c ≤ a * b := by
  have h := quo_pos (a := a) (b := b) hc
  exact ⟨mul_of_le hc h.1, le_of_mul hc h.2.1⟩
theorem up_le_pos {a b c m : Int} (hc : 0 < c) : upS a b c ≤ m ↔ a * b ≤ m * c := by
  have h := quo_pos (a := a) (b := b) hc
  constructor
  · intro k
    have := Int.mul_le_mul_of_nonneg_right k (Int.le_of_lt hc)
    omega
  · intro k
    rcases Int.lt_or_le m (upS a b c) with l | l
    · have := Int.mul_le_mul_of_nonneg_right (show m ≤ upS a b c - 1 by omega) (Int.le_of_lt hc)
      rw [mul_pred'] at this
      omega
    · exact l
theorem le_dn_neg {a b c m : Int} (hc : c < 0) : m ≤ dnS a b c ↔ a * b ≤ m * c := by
  have h := quo_neg (a := a) (b := b) hc
  constructor
  · intro k
    have := Int.mul_le_mul_of_nonpos_right k (Int.le_of_lt hc)
    omega
  · intro k
    rcases Int.lt_or_le (dnS a b c) m with l | l
    · have := Int.mul_le_mul_of_nonpos_right (show dnS a b c + 1 ≤ m by omega) (Int.le_of_lt hc)
      rw [mul_succ'] at this
      omega
    · exact l
theorem up_le_neg {a b c m : Int} (hc : c < 0) : upS a b c ≤ m ↔ m * c ≤ a * b := by
  have h := quo_neg (a := a) (b := b) hc
  constructor
  · intro k
    have := Int.mul_le_mul_of_nonpos_right k (Int.le_of_lt hc)
    omega
  · intro k
    rcases Int.lt_or_le m (upS a b c) with l | l
    · have := Int.mul_le_mul_of_nonpos_right (show m ≤ upS a b c - 1 by omega) (Int.le_of_lt hc)
      rw [mul_pred'] at this
      omega
    · exact l

/-- A product lies between those of the ends. -/
theorem mul_mid {a b x y lo hi : Int} (h1 : a ≤ x) (h2 : x ≤ b) (l1 : lo ≤ a * y) (l2 : lo ≤ b * y) (u1 : a * y ≤ hi) (u2 : b * y ≤ hi) : lo ≤ x * y ∧ x * y ≤ hi := by
  rcases Int.le_total 0 y with hy | hy
  · have k1 := Int.mul_le_mul_of_nonneg_right h1 hy
    have k2 := Int.mul_le_mul_of_nonneg_right h2 hy
    omega
  · have k1 := Int.mul_le_mul_of_nonpos_right h1 hy
    have k2 := Int.mul_le_mul_of_nonpos_right h2 hy
    omega
theorem mul_four {al ah bl bh x y lo hi : Int} (h1 : al ≤ x) (h2 : x ≤ ah) (h3 : bl ≤ y) (h4 : y ≤ bh)
    (l1 : lo ≤ al * bl) (l2 : lo ≤ al * bh) (l3 : lo ≤ ah * bl) (l4 : lo ≤ ah * bh) (u1 : al * bl ≤ hi) (u2 : al * bh ≤ hi) (u3 : ah * bl ≤ hi) (u4 : ah * bh ≤ hi) : lo ≤ x * y ∧ x * y ≤ hi := by
  have p1 := mul_mid (a := bl) (b := bh) (x := y) (y := al) (lo := lo) (hi := hi) h3 h4 (by rw [Int.mul_comm]; exact l1) (by rw [Int.mul_comm]; exact l2) (by rw [Int.mul_comm]; exact u1) (by rw [Int.mul_comm]; exact u2)
  have p2 := mul_mid (a := bl) (b := bh) (x := y) (y := ah) (lo := lo) (hi := hi) h3 h4 (by rw [Int.mul_comm]; exact l3) (by rw [Int.mul_comm]; exact l4) (by rw [Int.mul_comm]; exact u3) (by rw [Int.mul_comm]; exact u4)
  rw [Int.mul_comm y al] at p1
  rw [Int.mul_comm y ah] at p2
  exact mul_mid h1 h2 p1.1 p2.1 p1.2 p2.2
/-- The quotients of numbers of two spans lie between those of the ends. -/
theorem quo_four {al ah bl bh x y lo hi : Int} (h1 : al ≤ x) (h2 : x ≤ ah) (h3 : bl ≤ y) (h4 : y ≤ bh) (hz : ¬ (bl ≤ 0 ∧ 0 ≤ bh))
    (l1 : lo ≤ dnS al 1 bl) (l2 : lo ≤ dnS al 1 bh) (l3 : lo ≤ dnS ah 1 bl) (l4 : lo ≤ dnS ah 1 bh) (u1 : upS al 1 bl ≤ hi) (u2 : upS al 1 bh ≤ hi) (u3 : upS ah 1 bl ≤ hi) (u4 : upS ah 1 bh ≤ hi) :
    lo ≤ dnS x 1 y ∧ upS x 1 y ≤ hi := by
  rcases Int.lt_or_le 0 bl with hb | hb
  · have hb2 : 0 < bh := by omega
    have hy : 0 < y := by omega
    rw [le_dn_pos hb, Int.mul_one] at l1
    rw [le_dn_pos hb2, Int.mul_one] at l2
    rw [up_le_pos hb, Int.mul_one] at u3
    rw [up_le_pos hb2, Int.mul_one] at u4
    rw [le_dn_pos hy, up_le_pos hy, Int.mul_one]
    have k1 := mul_mid (a := bl) (b := bh) (x := y) (y := lo) (lo := min (bl * lo) (bh * lo)) (hi := al) h3 h4 (by omega) (by omega) (by rw [Int.mul_comm]; exact l1) (by rw [Int.mul_comm]; exact l2)
    have k2 := mul_mid (a := bl) (b := bh) (x := y) (y := hi) (lo := ah) (hi := max (bl * hi) (bh * hi)) h3 h4 (by rw [Int.mul_comm]; exact u3) (by rw [Int.mul_comm]; exact u4) (by omega) (by omega)
    rw [Int.mul_comm lo y, Int.mul_comm hi y]
    omega
  · have hb2 : bh < 0 := by omega
    have hb1 : bl < 0 := by omega
    have hy : y < 0 := by omega
    rw [le_dn_neg hb1, Int.mul_one] at l3
    rw [le_dn_neg hb2, Int.mul_one] at l4
    rw [up_le_neg hb1, Int.mul_one] at u1
    rw [up_le_neg hb2, Int.mul_one] at u2
    rw [le_dn_neg hy, up_le_neg hy, Int.mul_one]
    have k1 := mul_mid (a := bl) (b := bh) (x := y) (y := lo) (lo := ah) (hi := max (bl * lo) (bh * lo)) h3 h4 (by rw [Int.mul_comm]; exact l3) (by rw [Int.mul_comm]; exact l4) (by omega) (by omega)
    have k2 := mul_mid (a := bl) (b := bh) (x := y) (y := hi) (lo := min (bl * hi) (bh * hi)) (hi := al) h3 h4 (by omega) (by omega) (by rw [Int.mul_comm]; exact u1) (by rw [Int.mul_comm]; exact u2)
    rw [Int.mul_comm lo y, Int.mul_comm hi y]
    omega
end Go.Proofs.Ytgipfmleefojbaa
