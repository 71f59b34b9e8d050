/- Plain: decimal texts of numbers. No program in sight. -/
import Derived.Test.YtdbgfeeglnpobaaDoorDcZ
import Derived.Lib.ItoaLen
import Derived.Lib.ItoaMem
set_option linter.unusedVariables false
namespace Go.Proofs.YtdbgfeeglnpobaaDoor
open Go.Lib

/-- At least m digits. -/
def padD (n m : Nat) : List UInt8 := List.replicate (m - (decDigits n).length) 48 ++ decDigits n
/-- The decimal text of a number with k digits behind the point. -/
def fmtL (n : Int) (k : Nat) : List UInt8 :=
  (if n < 0 then [45] else []) ++ (if k = 0 then decDigits n.natAbs else (padD n.natAbs (k + 1)).take ((padD n.natAbs (k + 1)).length - k) ++ 46 :: (padD n.natAbs (k + 1)).drop ((padD n.natAbs (k + 1)).length - k))
def digD (n m : Nat) : List UInt8 := if n = 0 then List.replicate m 48 else padD n m
theorem dec_len_pos (n : Nat) : 1 ≤ (decDigits n).length := by
  unfold decDigits
  split <;> simp
theorem dec_step {n : Nat} (h : 10 ≤ n) : decDigits n = decDigits (n / 10) ++ [UInt8.ofNat (48 + n % 10)] := by
  rw [decDigits, dif_neg (by omega)]
theorem digD_step {n m : Nat} (h : 0 < n ∨ 0 < m) : digD n m = digD (n / 10) (m - 1) ++ [UInt8.ofNat (48 + n % 10)] := by
  unfold digD
  by_cases h0 : n = 0
  · subst h0
    rw [if_pos rfl, if_pos (by decide)]
    obtain ⟨k, rfl⟩ : ∃ k, m = k + 1 := ⟨m - 1, by omega⟩
    rw [List.replicate_succ']
    rfl
  · rw [if_neg h0]
    by_cases h1 : n < 10
    · rw [if_pos (by omega)]
      unfold padD
      rw [decDigits_one h1, show n % 10 = n from by omega]
      rfl
    · rw [if_neg (by omega)]
      unfold padD
      rw [dec_step (by omega), List.length_append, ← List.append_assoc]
      congr 2
      congr 1
      simp
      omega
theorem digD_zero : digD 0 0 = [] := rfl
theorem digD_pad {n m : Nat} (h : 1 ≤ m) : digD n m = padD n m := by
  unfold digD
  split
  · rename_i h0
    subst h0
    unfold padD
    rw [decDigits_one (by omega)]
    obtain ⟨k, rfl⟩ : ∃ k, m = k + 1 := ⟨m - 1, by omega⟩
    rw [List.replicate_succ']
    rfl
  · rfl
theorem pad_one (n : Nat) : padD n 1 = decDigits n := by
  unfold padD
  have := dec_len_pos n
  rw [show 1 - (decDigits n).length = 0 from by omega]
  rfl
theorem pad_len (n m : Nat) : (padD n m).length = max m (decDigits n).length := by
  unfold padD
  rw [List.length_append, List.length_replicate]
  omega
theorem dec_len (n : Nat) (h : n ≤ 9223372036854775807) : (decDigits n).length ≤ 21 := by
  have := itoa_length_le (n : Int) (by omega) (by omega)
  rwa [itoa_nonneg] at this
end Go.Proofs.YtdbgfeeglnpobaaDoor
