/- What sums, differences, products and quotients of two valid spans are: their ends, or the error. -/
import Derived.Test.YtgipfmleefojbaaRMul
import Derived.Test.YtgipfmleefojbaaRDiv
import Derived.Test.YtgipfmleefojbaaMQ
set_option linter.unusedVariables false
namespace Go.Proofs.Ytgipfmleefojbaa
open Go.ChangeShapes Go.WideShapes Go.ChangeAt Go.RowKit

theorem u64_wf {n : Int} (h : (Lit.int .u64 n).wf = true) : 0 ≤ n ∧ n ≤ 18446744073709551615 := by
  simp only [Lit.wf, Bool.and_eq_true, decide_eq_true_eq] at h
  have e1 : IntKind.u64.min = 0 := by decide
  have e2 : IntKind.u64.max = 18446744073709551615 := by decide
  rw [e1, e2] at h
  exact h
theorem fitS_or (lo hi : Int) : (fitS lo hi = (lo, hi, 0) ∧ withinB lo = true ∧ withinB hi = true) ∨ fitS lo hi = (0, 0, 5) ∧ (withinB lo && withinB hi) = false := by
  cases h : (withinB lo && withinB hi)
  · exact .inr ⟨by simp [fitS, h], rfl⟩
  · rw [Bool.and_eq_true] at h
    exact .inl ⟨fitS_yes h.1 h.2, h.1, h.2⟩
theorem addS_fit {al ah bl bh : Int} (h1 : validB al ah = true) (h2 : validB bl bh = true) : addS al ah bl bh = fitS (al + bl) (ah + bh) := by simp [addS, h1, h2]
theorem subS_fit {al ah bl bh : Int} (h1 : validB al ah = true) (h2 : validB bl bh = true) : subS al ah bl bh = fitS (al - bh) (ah - bl) := by simp [subS, h1, h2]

/-- All of four numbers lie between two. -/
def In4 (lo hi p q r s : Int) : Prop := (lo ≤ p ∧ lo ≤ q ∧ lo ≤ r ∧ lo ≤ s) ∧ p ≤ hi ∧ q ≤ hi ∧ r ≤ hi ∧ s ≤ hi
theorem mulS_or {al ah bl bh : Int} (h1 : validB al ah = true) (h2 : validB bl bh = true) :
    (∃ lo hi, mulS al ah bl bh = (lo, hi, 0) ∧ In4 lo hi (al * bl) (al * bh) (ah * bl) (ah * bh) ∧ -1152921504606846976 ≤ lo ∧ hi ≤ 1152921504606846976 ∧
      (lo = al * bl ∨ lo = al * bh ∨ lo = ah * bl ∨ lo = ah * bh) ∧ (hi = al * bl ∨ hi = al * bh ∨ hi = ah * bl ∨ hi = ah * bh)) ∨
    mulS al ah bl bh = (0, 0, 5) ∧ (prods al ah bl bh).all withinB = false := by
  cases h : (prods al ah bl bh).all withinB
  · right
    refine ⟨?_, rfl⟩
    rw [List.all_eq_false] at h
    obtain ⟨x, hx, hn⟩ := h
    exact mulS_no h1 h2 hx (by simpa using hn)
  · left
    have h' := h
    simp only [prods, List.all_cons, List.all_nil, Bool.and_true, Bool.and_eq_true, withinB_iff] at h'
    refine ⟨_, _, mulS_ok h1 h2 h, ?_⟩
    clear h
    generalize al * bl = p at *
    generalize al * bh = q at *
    generalize ah * bl = r at *
    generalize ah * bh = s at *
    simp only [minI_eq, maxI_eq, In4]
    omega
theorem divS_or {al ah bl bh : Int} (h1 : validB al ah = true) (h2 : validB bl bh = true) (hz : hasB bl bh 0 = false) :
    ∃ lo hi, divS al ah bl bh = (lo, hi, 0) ∧ (lo ≤ dnS al 1 bl ∧ lo ≤ dnS al 1 bh ∧ lo ≤ dnS ah 1 bl ∧ lo ≤ dnS ah 1 bh) ∧ (upS al 1 bl ≤ hi ∧ upS al 1 bh ≤ hi ∧ upS ah 1 bl ≤ hi ∧ upS ah 1 bh ≤ hi) ∧
      (lo = dnS al 1 bl ∨ lo = dnS al 1 bh ∨ lo = dnS ah 1 bl ∨ lo = dnS ah 1 bh) ∧ (hi = upS al 1 bl ∨ hi = upS al 1 bh ∨ hi = upS ah 1 bl ∨ hi = upS ah 1 bh) := by
  have g1 := validB_iff.1 h1
  have g2 := validB_iff.1 h2
  have hz' : ¬ (bl ≤ 0 ∧ 0 ≤ bh) := by simpa [hasB] using hz
  have o1 := of_one (a := al) (c := bl) (by omega) (by omega)
  have o2 := of_one (a := al) (c := bh) (by omega) (by omega)
  have o3 := of_one (a := ah) (c := bl) (by omega) (by omega)
  have o4 := of_one (a := ah) (c := bh) (by omega) (by omega)
  obtain ⟨e, _⟩ := divS_ok h1 h2 hz
  simp only [okS, Bool.and_eq_true, withinB_iff] at o1 o2 o3 o4
  refine ⟨_, _, e.trans (fitS_yes (withinB_iff.2 ?_) (withinB_iff.2 ?_)), ?_⟩ <;> clear e
  all_goals
    generalize dnS al 1 bl = p at *
    generalize dnS al 1 bh = q at *
    generalize dnS ah 1 bl = r at *
    generalize dnS ah 1 bh = s at *
    generalize upS al 1 bl = p' at *
    generalize upS al 1 bh = q' at *
    generalize upS ah 1 bl = r' at *
    generalize upS ah 1 bh = s' at *
    simp only [lo4, hi4, minI_eq, maxI_eq]
    omega
end Go.Proofs.Ytgipfmleefojbaa
