/- Plain: sums of parts, and of what is turned around. -/
import Derived.Test.YtpijmjffobkalaaDoorRaP1
import Derived.Test.YtpijmjffobkalaaDoorRaT2
import Derived.Test.YtpijmjffobkalaaDoorMLa
set_option linter.unusedVariables false
namespace Go.Proofs.YtpijmjffobkalaaDoor
open Go.ChangeShapes Go.WideShapes Go.ChangeAt Go.RowKit

def valL : List (Int × Int) → Int × Int
  | [] => (0, 1)
  | f :: r => (f.1 * (valL r).2 + (valL r).1 * f.2, f.2 * (valL r).2)
theorem allV_cons {f : Int × Int} {r : List (Int × Int)} (h : allV (f :: r) = true) : fracB f.1 f.2 = true ∧ allV r = true := by
  unfold allV at h ⊢
  simpa using h
theorem allV_app (a b : List (Int × Int)) : allV (a ++ b) = (allV a && allV b) := by unfold allV; rw [List.all_append]
theorem valL_pos : ∀ {l : List (Int × Int)}, allV l = true → 0 < (valL l).2
  | [], _ => by decide
  | f :: r, h => Int.mul_pos (dpos (allV_cons h).1) (valL_pos (allV_cons h).2)
theorem valL_app : ∀ (a b : List (Int × Int)), valL (a ++ b) = ((valL a).1 * (valL b).2 + (valL b).1 * (valL a).2, (valL a).2 * (valL b).2)
  | [], b => by simp [valL]
  | f :: a, b => by
    rw [List.cons_append, valL, valL_app a b]
    simp only [valL]
    generalize (valL a).1 = x
    generalize (valL a).2 = y
    generalize (valL b).1 = z
    generalize (valL b).2 = t
    obtain ⟨u, v⟩ := f
    congr 1 <;> grind
theorem valL_rev : ∀ (l : List (Int × Int)), valL l.reverse = valL l
  | [] => rfl
  | f :: r => by
    rw [List.reverse_cons, valL_app, valL_rev r]
    simp only [valL]
    congr 1 <;> grind
theorem raddE {an ad bn bd : Int} (h1 : fracB an ad = true) (h2 : fracB bn bd = true) : (∃ p q : Int, raddS an ad bn bd = (p, q, 0) ∧ fracB p q = true ∧ p * (ad * bd) = (an * bd + bn * ad) * q) ∨ raddS an ad bn bd = (0, 0, 5) := by
  rw [raddZ h1 h2]
  rcases redZ_or (an * bd + bn * ad) (ad * bd) (dpos2 h1 h2) with ⟨p, q, k1, k2, k3⟩ | k
  · exact .inl ⟨p, q, k1, fracB_iff.2 k2, k3⟩
  · exact .inr k
theorem sumG_val : ∀ (l : List (Int × Int)) (x y : Int), allV l = true → fracB x y = true → (∃ p q : Int, sumG l x y = (p, q, 0) ∧ fracB p q = true ∧ p * (y * (valL l).2) = (x * (valL l).2 + (valL l).1 * y) * q) ∨ sumG l x y = (0, 0, 5)
  | [], x, y, _, h => .inl ⟨x, y, rfl, h, by simp [valL]⟩
  | f :: r, x, y, hl, h => by
    obtain ⟨hf, hr⟩ := allV_cons hl
    unfold sumG
    rcases raddE h hf with ⟨p, q, e, hv, k⟩ | e
    · rw [e, if_pos rfl]
      rcases sumG_val r p q hr hv with ⟨p2, q2, e2, hv2, k2⟩ | e2
      · refine .inl ⟨p2, q2, e2, hv2, ?_⟩
        have hq := dpos hv
        simp only [valL]
        generalize (valL r).1 = N at *
        generalize (valL r).2 = D at *
        apply Int.eq_of_mul_eq_mul_right (show q ≠ 0 by omega)
        clear hq hv hv2 e e2 hf hr hl h
        grind
      · exact .inr e2
    · rw [e]
      exact .inr (by simp)
theorem sumG_app : ∀ (a b : List (Int × Int)) (x y : Int), (sumG (a ++ b) x y).2.2 = 0 → (sumG a x y).2.2 = 0
  | [], _, _, _, _ => rfl
  | f :: a, b, x, y, h => by
    rw [List.cons_append] at h
    unfold sumG at h ⊢
    split
    · rename_i h0
      rw [if_pos h0] at h
      exact sumG_app a b _ _ h
    · rename_i h0
      rw [if_neg h0] at h
      exact h
theorem sumS_or (l : List (Int × Int)) (h : l.length ≤ 1000) : (∃ p q : Int, sumS l = (p, q, 0) ∧ allV l = true ∧ fracB p q = true ∧ p * (valL l).2 = (valL l).1 * q) ∨ ∃ e : Int, sumS l = (0, 0, e) ∧ e ≠ 0 ∧ (allV l = true → e = 5) := by
  unfold sumS
  cases hv : allV l
  · exact .inr ⟨1, rfl, by decide, fun h => by cases h⟩
  · rw [if_pos rfl, if_neg (by omega)]
    rcases sumG_val l 0 1 hv (by decide) with ⟨p, q, e, k, k2⟩ | e
    · exact .inl ⟨p, q, e, rfl, k, by simpa using k2⟩
    · exact .inr ⟨5, e, by decide, fun _ => rfl⟩
/-- A part of a sum that fits fits. -/
theorem sum_first {l : List (Int × Int)} (k : Nat) (h : l.length ≤ 1000) (h0 : (sumS l).2.2 = 0) : (sumS (l.take k)).2.2 = 0 := by
  have hv : allV l = true := by
    rcases sumS_or l h with ⟨p, q, e, v, _⟩ | ⟨e, h1, h2, _⟩
    · exact v
    · rw [h1] at h0; exact absurd h0 h2
  have hs := List.take_append_drop k l
  have hv2 : allV (l.take k) = true := by
    rw [← hs, allV_app] at hv
    exact (Bool.and_eq_true_iff.1 hv).1
  have hl2 : (l.take k).length ≤ 1000 := by rw [List.length_take]; omega
  unfold sumS at h0 ⊢
  rw [hv, if_pos rfl, if_neg (by omega)] at h0
  rw [hv2, if_pos rfl, if_neg (by omega)]
  rw [← hs] at h0
  exact sumG_app _ _ _ _ h0
theorem sum_parts {l : List (Int × Int)} (k : Nat) {p q p1 q1 p2 q2 : Int} (h : l.length ≤ 1000) (h0 : sumS l = (p, q, 0)) (h1 : sumS (l.take k) = (p1, q1, 0)) (h2 : sumS (l.drop k) = (p2, q2, 0)) : raddS p1 q1 p2 q2 = (p, q, 0) := by
  have get : ∀ {m : List (Int × Int)} {a b : Int}, m.length ≤ 1000 → sumS m = (a, b, 0) → allV m = true ∧ fracB a b = true ∧ a * (valL m).2 = (valL m).1 * b := by
    intro m a b hm hs
    rcases sumS_or m hm with ⟨p, q, e, v, hf, hk⟩ | ⟨e, h1, h2, _⟩
    · rw [e] at hs
      simp only [Prod.mk.injEq, and_true] at hs
      obtain ⟨rfl, rfl⟩ := hs
      exact ⟨v, hf, hk⟩
    · rw [h1] at hs
      simp only [Prod.mk.injEq] at hs
      exact absurd hs.2.2 h2
  obtain ⟨_, f0, k0⟩ := get h h0
  obtain ⟨v1, f1, k1⟩ := get (by rw [List.length_take]; omega) h1
  obtain ⟨v2, f2, k2⟩ := get (by rw [List.length_drop]; omega) h2
  have hs := valL_app (l.take k) (l.drop k)
  rw [List.take_append_drop] at hs
  rw [hs] at k0
  simp only at k0
  have d1 := valL_pos v1
  have d2 := valL_pos v2
  rw [raddZ f1 f2]
  have hfr : Frc p q := fracB_iff.1 f0
  rw [← redI_frc hfr]
  refine redZ_val (dpos2 f1 f2) (dpos f0) ?_
  generalize (valL (l.take k)).1 = N1 at *
  generalize (valL (l.take k)).2 = D1 at *
  generalize (valL (l.drop k)).1 = N2 at *
  generalize (valL (l.drop k)).2 = D2 at *
  apply Int.eq_of_mul_eq_mul_right (show D1 ≠ 0 by omega)
  apply Int.eq_of_mul_eq_mul_right (show D2 ≠ 0 by omega)
  clear hfr d1 d2 v1 v2 f0 f1 f2 h0 h1 h2 h hs get
  grind
theorem sum_turned {l : List (Int × Int)} {p q : Int} (h : l.length ≤ 1000) (h0 : sumS l = (p, q, 0)) : sumS l.reverse = (p, q, 0) ∨ sumS l.reverse = (0, 0, 5) := by
  rcases sumS_or l h with ⟨p0, q0, e, v, hf, hk⟩ | ⟨e, h1, h2, _⟩
  · rw [e] at h0
    simp only [Prod.mk.injEq, and_true] at h0
    obtain ⟨rfl, rfl⟩ := h0
    have hvr : allV l.reverse = true := by unfold allV at v ⊢; rw [List.all_reverse]; exact v
    rcases sumS_or l.reverse (by rw [List.length_reverse]; exact h) with ⟨p1, q1, e1, v1, hf1, hk1⟩ | ⟨e1, h3, h4, h5⟩
    · left
      rw [e1]
      rw [valL_rev] at hk1
      have d := valL_pos v
      have hq := frc_uniq (fracB_iff.1 hf1) (fracB_iff.1 hf) (by
        generalize (valL l).1 = N at *
        generalize (valL l).2 = D at *
        apply Int.eq_of_mul_eq_mul_right (show D ≠ 0 by omega)
        clear d hf hf1 v v1 hvr e e1 h
        grind)
      rw [hq.1, hq.2]
    · right
      rw [h3, h5 hvr]
  · rw [h1] at h0
    simp only [Prod.mk.injEq] at h0
    exact absurd h0.2.2 h2

end Go.Proofs.YtpijmjffobkalaaDoor
