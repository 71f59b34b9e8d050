/- Plain: the tokens' recursion, step by step. -/
import Derived.Test.YtdbgfeeglnpobaaDoorDcZ
set_option linter.unusedVariables false
namespace Go.Proofs.YtdbgfeeglnpobaaDoor

theorem nextL_pos {l : List UInt8} (h : l ≠ []) : 1 ≤ (nextL l).2 ∧ (nextL l).2 ≤ l.length := by
  match l, h with
  | c :: r, _ =>
    rw [nextL_eq (c :: r) c rfl]
    have l1 : 1 ≤ (c :: r).length := by simp
    have g : ∀ p : UInt8 → Bool, p c = true → 1 ≤ runL p (c :: r) ∧ runL p (c :: r) ≤ (c :: r).length := fun p hp => ⟨by rw [runL_cons, if_pos hp]; omega, runL_le _ _⟩
    have len : 0 ≤ (c :: r).length := Nat.zero_le _
    split
    · exact ⟨Nat.le_refl _, l1⟩
    split
    · exact ⟨Nat.le_refl _, l1⟩
    split
    · exact g _ (by rename_i h; simp [h])
    split
    · rename_i h
      have := g isWrd (by simp [isWrd, h])
      split <;> exact this
    split
    · rename_i h
      have g1 := g isDig h
      have e : numL (c :: r) = numA (c :: r) 0 := rfl
      have e0 : runA isDig (c :: r) 0 = runL isDig (c :: r) := runA_zero _ _
      show 1 ≤ numL (c :: r) ∧ numL (c :: r) ≤ (c :: r).length
      rw [e]
      unfold numA
      rw [e0]
      split
      · rename_i k
        simp only [Bool.and_eq_true, decide_eq_true_eq] at k
        have := runA_le (p := isDig) (l := c :: r) (k := runL isDig (c :: r) + 1) (by omega)
        omega
      · exact g1
    split
    · exact ⟨Nat.le_refl _, l1⟩
    · rename_i h
      have := symL_le (c :: r)
      exact ⟨show 1 ≤ symL (c :: r) by omega, this⟩
theorem tok_fuel : ∀ (f g : Nat) (l : List UInt8) (line col : Int) (acc : List Tk), l.length ≤ f → l.length ≤ g → tokF f l line col acc = tokF g l line col acc
  | 0, 0, _, _, _, _, _, _ => rfl
  | 0, g + 1, l, line, col, acc, h, _ => by
    have : l = [] := List.length_eq_zero_iff.1 (by omega)
    subst this
    rfl
  | f + 1, 0, l, line, col, acc, _, h => by
    have : l = [] := List.length_eq_zero_iff.1 (by omega)
    subst this
    rfl
  | f + 1, g + 1, l, line, col, acc, hf, hg => by
    unfold tokF
    by_cases h0 : l = []
    · rw [if_pos h0, if_pos h0]
    · have hp := nextL_pos h0
      rw [if_neg h0, if_neg h0]
      have r := fun (n : Nat) (h1 : 1 ≤ n) line col acc => tok_fuel f g (l.drop n) line col acc (by rw [List.length_drop]; omega) (by rw [List.length_drop]; omega)
      rw [r 1 (Nat.le_refl _), r _ hp.1, r _ hp.1]
section
variable {s : ByteArray} {line col : Int} {acc : List Tk}
theorem tok_step (h : 0 < s.size) : tokF s.size (by_ s) line col acc =
    if (nextL (by_ s)).1 < 0 then ([], (line, col), 7)
    else if (nextL (by_ s)).1 = 4 then tokF ((by_ s).drop 1).length ((by_ s).drop 1) (line + 1) 1 (acc ++ [⟨4, [], line, col⟩])
    else if (nextL (by_ s)).1 = 0 then tokF ((by_ s).drop (nextL (by_ s)).2).length ((by_ s).drop (nextL (by_ s)).2) line (col + (nextL (by_ s)).2) acc
    else tokF ((by_ s).drop (nextL (by_ s)).2).length ((by_ s).drop (nextL (by_ s)).2) line (col + (nextL (by_ s)).2) (acc ++ [⟨(nextL (by_ s)).1, (by_ s).take (nextL (by_ s)).2, line, col⟩]) := by
  have len : (by_ s).length = s.size := rfl
  obtain ⟨f, hf⟩ : ∃ f, s.size = f + 1 := ⟨s.size - 1, by omega⟩
  have h0 : by_ s ≠ [] := fun e => by rw [e] at len; simp at len; omega
  have hp := nextL_pos h0
  rw [hf]
  conv => lhs; unfold tokF
  rw [if_neg h0]
  have r := fun (n : Nat) (h1 : 1 ≤ n) line col acc => tok_fuel f ((by_ s).drop n).length ((by_ s).drop n) line col acc (by rw [List.length_drop]; omega) (Nat.le_refl _)
  rw [r 1 (Nat.le_refl _), r _ hp.1, r _ hp.1]
theorem tok_stop (h : s.size = 0) : tokF s.size (by_ s) line col acc = (acc ++ [⟨5, [], line, col⟩], (0, 0), 0) := by
  rw [h]
  rfl
theorem by_drop (s : ByteArray) (n : Nat) : by_ (s.extract n s.size) = (by_ s).drop n := by
  have e := Lib.extract_data s n s.size
  rw [show (s.extract n s.size).data.toList = by_ (s.extract n s.size) from rfl] at e
  rw [e, List.take_of_length_le]
  rw [List.length_drop]
  exact Nat.le_refl _
theorem by_take (s : ByteArray) (n : Nat) : by_ (s.extract 0 n) = (by_ s).take n := by
  have e := Lib.extract_data s 0 n
  rw [List.drop_zero, Nat.sub_zero] at e
  exact e
theorem by_mk (s : ByteArray) : (⟨(by_ s).toArray⟩ : ByteArray) = s := Lib.mk_data s
end
end Go.Proofs.YtdbgfeeglnpobaaDoor
