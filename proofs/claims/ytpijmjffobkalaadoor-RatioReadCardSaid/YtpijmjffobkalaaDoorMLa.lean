/- The fractions' laws, plainly: on what the functions return. -/
import Derived.Test.YtpijmjffobkalaaDoorRaCmp
set_option linter.unusedVariables false
namespace Go.Proofs.YtpijmjffobkalaaDoor

theorem redZ_val {s s' d d' : Int} (hd : 0 < d) (hd' : 0 < d') (e : s * d' = s' * d) : redI s d.natAbs = redI s' d'.natAbs :=
  redI_val (by omega) (by omega) (by rw [show (d.natAbs : Int) = d from by omega, show (d'.natAbs : Int) = d' from by omega]; exact e)
theorem redZ_or (s d : Int) (hd : 0 < d) : (∃ p q : Int, redI s d.natAbs = (p, q, 0) ∧ Frc p q ∧ p * d = s * q) ∨ redI s d.natAbs = (0, 0, 5) := by
  rcases redI_or s d.natAbs (by omega) with ⟨p, q, h1, h2, h3⟩ | ⟨h1, _⟩
  · rw [show (d.natAbs : Int) = d from by omega] at h3
    exact .inl ⟨p, q, h1, h2, h3⟩
  · exact .inr h1

section
variable {an ad bn bd cn cd : Int}
theorem raddZ (h1 : fracB an ad = true) (h2 : fracB bn bd = true) : raddS an ad bn bd = redI (an * bd + bn * ad) (ad * bd).natAbs := by
  simp [raddS, h1, h2, Int.natAbs_mul]
theorem rmulZ (h1 : fracB an ad = true) (h2 : fracB bn bd = true) : rmulS an ad bn bd = redI (an * bn) (ad * bd).natAbs := by
  simp only [rmulS, h1, h2, Bool.and_self, if_true, Int.natAbs_mul]
  exact redS_mul an bn _
theorem rsubZ (h1 : fracB an ad = true) (h2 : fracB bn bd = true) : rsubS an ad bn bd = redI (an * bd - bn * ad) (ad * bd).natAbs := by
  simp only [rsubS, h1, h2, Bool.and_self, if_true]
  rw [raddZ h1 (by rw [fracB_neg]; exact h2), Int.neg_mul, Int.sub_eq_add_neg]
theorem dpos (h1 : fracB an ad = true) : 0 < ad := by have := (fracB_iff.1 h1).1; omega
theorem dpos2 (h1 : fracB an ad = true) (h2 : fracB bn bd = true) : 0 < ad * bd := Int.mul_pos (dpos h1) (dpos h2)

theorem raddS_comm : raddS an ad bn bd = raddS bn bd an ad := by
  unfold raddS
  rw [Bool.and_comm, Int.add_comm, Nat.mul_comm]
theorem rmulS_comm : rmulS an ad bn bd = rmulS bn bd an ad := by
  unfold rmulS
  rw [Bool.and_comm, Nat.mul_comm an.natAbs, Nat.mul_comm ad.natAbs]
  congr 2
  cases decide (an < 0) <;> cases decide (bn < 0) <;> rfl
theorem raddS_no (h : (fracB an ad && fracB bn bd) = false) : raddS an ad bn bd = (0, 0, 1) := by simp only [raddS, h]; rfl
theorem rmulS_no (h : (fracB an ad && fracB bn bd) = false) : rmulS an ad bn bd = (0, 0, 1) := by simp only [rmulS, h]; rfl

/-- A sum: it is a fraction in lowest terms, or there is an error and nothing else. -/
theorem raddS_or : (∃ p q : Int, raddS an ad bn bd = (p, q, 0) ∧ fracB an ad = true ∧ fracB bn bd = true ∧ fracB p q = true ∧ p * (ad * bd) = (an * bd + bn * ad) * q) ∨
    ∃ e : Int, raddS an ad bn bd = (0, 0, e) ∧ (e = 1 ∨ e = 5) := by
  cases h : fracB an ad && fracB bn bd
  · exact .inr ⟨1, raddS_no h, .inl rfl⟩
  · obtain ⟨h1, h2⟩ := Bool.and_eq_true_iff.1 h
    rw [raddZ h1 h2]
    rcases redZ_or (an * bd + bn * ad) (ad * bd) (dpos2 h1 h2) with ⟨p, q, k1, k2, k3⟩ | k
    · exact .inl ⟨p, q, k1, h1, h2, fracB_iff.2 k2, k3⟩
    · exact .inr ⟨5, k, .inr rfl⟩
theorem rmulS_or : (∃ p q : Int, rmulS an ad bn bd = (p, q, 0) ∧ fracB an ad = true ∧ fracB bn bd = true ∧ fracB p q = true ∧ p * (ad * bd) = (an * bn) * q) ∨
    ∃ e : Int, rmulS an ad bn bd = (0, 0, e) ∧ (e = 1 ∨ e = 5) := by
  cases h : fracB an ad && fracB bn bd
  · exact .inr ⟨1, rmulS_no h, .inl rfl⟩
  · obtain ⟨h1, h2⟩ := Bool.and_eq_true_iff.1 h
    rw [rmulZ h1 h2]
    rcases redZ_or (an * bn) (ad * bd) (dpos2 h1 h2) with ⟨p, q, k1, k2, k3⟩ | k
    · exact .inl ⟨p, q, k1, h1, h2, fracB_iff.2 k2, k3⟩
    · exact .inr ⟨5, k, .inr rfl⟩
theorem rsub_undo {p q : Int} (h1 : fracB an ad = true) (h2 : fracB bn bd = true) (h : fracB p q = true) (e : p * (ad * bd) = (an * bd + bn * ad) * q) : rsubS p q bn bd = (an, ad, 0) := by
  rw [rsubZ h h2, ← redI_frc (fracB_iff.1 h1)]
  refine redZ_val (dpos2 h h2) (dpos h1) ?_
  grind
theorem rdiv_undo {p q : Int} (h1 : fracB an ad = true) (h2 : fracB bn bd = true) (h : fracB p q = true) (hz : bn ≠ 0) (e : p * (ad * bd) = (an * bn) * q) : rdivS p q bn bd = (an, ad, 0) := by
  have g := fracB_iff.1 h2
  rw [← redI_frc (fracB_iff.1 h1)]
  simp only [rdivS, h, h2, Bool.and_self, if_true, hz, if_false]
  split
  · have k : fracB (-bd) (-bn) = true := fracB_iff.2 ⟨by omega, by omega, by omega, by omega, by rw [Int.natAbs_neg, Int.natAbs_neg, Nat.gcd_comm]; exact g.2.2.2.2⟩
    rw [rmulZ h k]
    refine redZ_val (dpos2 h k) (dpos h1) ?_
    grind
  · have k : fracB bd bn = true := fracB_iff.2 ⟨by omega, by omega, by omega, by omega, by rw [Nat.gcd_comm]; exact g.2.2.2.2⟩
    rw [rmulZ h k]
    refine redZ_val (dpos2 h k) (dpos h1) ?_
    grind
theorem rdiv_nil {p q : Int} (h2 : fracB bn bd = true) (h : fracB p q = true) (hz : bn = 0) : rdivS p q bn bd = (0, 0, 16) := by
  subst hz
  simp [rdivS, h, h2]
theorem rmul_nil {p q : Int} (h1 : fracB an ad = true) (h2 : fracB bn bd = true) (h : fracB p q = true) (hz : bn = 0) (e : p * (ad * bd) = (an * bn) * q) : p = 0 := by
  rw [hz, Int.mul_zero, Int.zero_mul] at e
  have := dpos2 h1 h2
  rcases Int.mul_eq_zero.1 e with k | k
  · exact k
  · omega
theorem radd_assoc {x1 x2 y1 y2 : Int} (h1 : fracB an ad = true) (h2 : fracB bn bd = true) (h3 : fracB cn cd = true) (hx : fracB x1 x2 = true) (hy : fracB y1 y2 = true)
    (ex : x1 * (ad * bd) = (an * bd + bn * ad) * x2) (ey : y1 * (bd * cd) = (bn * cd + cn * bd) * y2) : raddS x1 x2 cn cd = raddS an ad y1 y2 := by
  rw [raddZ hx h3, raddZ h1 hy]
  refine redZ_val (dpos2 hx h3) (dpos2 h1 hy) ?_
  have := dpos h2
  apply Int.eq_of_mul_eq_mul_right (show bd ≠ 0 by omega)
  clear h1 h2 h3 hx hy this
  grind
theorem rmul_assoc {x1 x2 y1 y2 : Int} (h1 : fracB an ad = true) (h2 : fracB bn bd = true) (h3 : fracB cn cd = true) (hx : fracB x1 x2 = true) (hy : fracB y1 y2 = true)
    (ex : x1 * (ad * bd) = (an * bn) * x2) (ey : y1 * (bd * cd) = (bn * cn) * y2) : rmulS x1 x2 cn cd = rmulS an ad y1 y2 := by
  rw [rmulZ hx h3, rmulZ h1 hy]
  refine redZ_val (dpos2 hx h3) (dpos2 h1 hy) ?_
  have := dpos h2
  apply Int.eq_of_mul_eq_mul_right (show bd ≠ 0 by omega)
  clear h1 h2 h3 hx hy this
  grind
theorem rmul_dist {p1 p2 r1 r2 d1 d2 : Int} (h1 : fracB an ad = true) (h2 : fracB bn bd = true) (h3 : fracB cn cd = true) (hp : fracB p1 p2 = true) (hr : fracB r1 r2 = true) (hd : fracB d1 d2 = true)
    (ep : p1 * (ad * bd) = (an * bn) * p2) (er : r1 * (ad * cd) = (an * cn) * r2) (ed : d1 * (bd * cd) = (bn * cd + cn * bd) * d2) : rmulS an ad d1 d2 = raddS p1 p2 r1 r2 := by
  rw [rmulZ h1 hd, raddZ hp hr]
  refine redZ_val (dpos2 h1 hd) (dpos2 hp hr) ?_
  have a0 := dpos h1
  have b0 := dpos h2
  have c0 := dpos h3
  apply Int.eq_of_mul_eq_mul_right (show bd ≠ 0 by omega)
  apply Int.eq_of_mul_eq_mul_right (show cd ≠ 0 by omega)
  apply Int.eq_of_mul_eq_mul_right (show ad ≠ 0 by omega)
  clear h1 h2 h3 hp hr hd a0 b0 c0
  grind

/-! ### the order -/
theorem cmpI_neg (x y : Int) : cmpI x y = -cmpI y x := by unfold cmpI; split <;> split <;> omega
theorem cmpI_scale {x y x' y' k : Int} (hk : 0 < k) {m : Int} (hm : 0 < m) (h : (x - y) * k = (x' - y') * m) : cmpI x y = cmpI x' y' := by
  have hp : ∀ u t : Int, 0 < t → (0 < u * t ↔ 0 < u) := fun u t ht => by
    constructor
    · intro h; exact Int.pos_of_mul_pos_left h ht |> fun h => h
    · intro h; exact Int.mul_pos h ht
  have hn : ∀ u t : Int, 0 < t → (u * t < 0 ↔ u < 0) := fun u t ht => by
    have := hp (-u) t ht
    rw [Int.neg_mul] at this
    omega
  have a1 := hp (x - y) k hk
  have a2 := hn (x - y) k hk
  have b1 := hp (x' - y') m hm
  have b2 := hn (x' - y') m hm
  rw [h] at a1 a2
  unfold cmpI
  split <;> split <;> (try split) <;> (try split) <;> omega
end
end Go.Proofs.YtpijmjffobkalaaDoor
