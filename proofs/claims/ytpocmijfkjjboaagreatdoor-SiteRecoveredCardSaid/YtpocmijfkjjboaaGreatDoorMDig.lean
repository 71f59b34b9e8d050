/- Plain: digits, decimal texts, and where a byte stands first. -/
import Derived.Test.YtpocmijfkjjboaaGreatDoorStA
import Derived.Lib.AtoiAll
import Derived.Lib.AtoiTie
import Derived.Lib.Bytealg
import Derived.Lib.LaidTab
import Derived.Lib.ItoaMem
import Derived.Lib.ItoaLen
set_option linter.unusedVariables false
namespace Go.Proofs.YtpocmijfkjjboaaGreatDoor
open Go.ChangeShapes Go.WideShapes Go.ChangeAt Go.RowKit

open Go.Lib (decDigits itoa atoiAll parseUint10 parseMag indexByte decDigits_one NumEnd)

theorem by_mk (s : ByteArray) : (⟨(by_ s).toArray⟩ : ByteArray) = s := Lib.mk_data s
theorem by_append (a b : ByteArray) : by_ (a ++ b) = by_ a ++ by_ b := by
  show (a ++ b).data.toList = a.data.toList ++ b.data.toList
  simp
theorem by_inj {a b : ByteArray} (h : by_ a = by_ b) : a = b := by rw [← by_mk a, ← by_mk b, h]
theorem mk_by (l : List UInt8) : by_ (⟨l.toArray⟩ : ByteArray) = l := by simp
theorem by_dot (c : UInt8) : by_ (⟨#[c]⟩ : ByteArray) = [c] := rfl
theorem mk_size (l : List UInt8) : (⟨l.toArray⟩ : ByteArray).size = l.length := by simp [ByteArray.size]

theorem dec_step {n : Nat} (h : 10 ≤ n) : Lib.decDigits n = Lib.decDigits (n / 10) ++ [UInt8.ofNat (48 + n % 10)] := by
  rw [Lib.decDigits, dif_neg (by omega)]
/-- The text of a fraction. -/

def digB (c : UInt8) : Bool := decide (48 ≤ c.toNat) && decide (c.toNat ≤ 57)
theorem digB_bd {c : UInt8} (h : digB c = true) : 48 ≤ c.toNat ∧ c.toNat ≤ 57 := by simpa [digB] using h
theorem dec_dig : ∀ (n : Nat), (decDigits n).all digB = true ∧ decDigits n ≠ [] := by
  intro n
  induction n using Nat.strongRecOn with
  | _ n ih =>
    by_cases h : n < 10
    · rw [decDigits_one h]
      refine ⟨?_, by simp⟩
      simp [digB]
      omega
    · rw [dec_step (by omega)]
      refine ⟨?_, by simp⟩
      rw [List.all_append, (ih (n / 10) (by omega)).1]
      simp [digB]
      omega
theorem pu_app : ∀ (l m : List UInt8) (a : Nat), parseUint10 a (l ++ m) = match parseUint10 a l with | .ok u => parseUint10 u m | e => e
  | [], m, a => rfl
  | c :: l, m, a => by
    simp only [List.cons_append, parseUint10]
    split
    · split
      · rfl
      · split
        · rfl
        · exact pu_app l m _
    · rfl
theorem pu_dec : ∀ (n : Nat), n < 18446744073709551616 → parseUint10 0 (decDigits n) = .ok n := by
  intro n
  induction n using Nat.strongRecOn with
  | _ n ih =>
    intro hn
    by_cases h : n < 10
    · rw [decDigits_one h]
      have e : (UInt8.ofNat (48 + n)).toNat = 48 + n := by simp; omega
      simp only [parseUint10, e]
      rw [if_pos (by omega), if_neg (by omega), if_neg (by omega)]
      congr 1
      omega
    · have e : (UInt8.ofNat (48 + n % 10)).toNat = 48 + n % 10 := by simp; omega
      rw [dec_step (by omega), pu_app, ih (n / 10) (by omega) (by omega)]
      simp only [parseUint10, e]
      rw [if_pos (by omega), if_neg (by omega), if_neg (by omega)]
      congr 1
      omega
theorem pm_dec (n : Nat) (h : n < 18446744073709551616) : parseMag (decDigits n) = .ok n := by
  unfold parseMag
  rw [if_neg (dec_dig n).2, pu_dec n h]
theorem atoi_dec (n : Nat) (h : n ≤ 9223372036854775807) : atoiAll (decDigits n) = .ok (n : Int) := by
  have hp := pm_dec n (by omega)
  have hd := dec_dig n
  cases hl : decDigits n with
  | nil => exact absurd hl hd.2
  | cons c r =>
    rw [hl] at hp hd
    have hc := digB_bd (List.all_eq_true.1 hd.1 c (by simp))
    unfold atoiAll
    simp only
    rw [if_neg (by omega), hp]
    simp only
    rw [if_neg (by omega), if_neg (by omega), if_neg (by omega)]
theorem atoi_neg (n : Nat) (h : n ≤ 9223372036854775807) : atoiAll (45 :: decDigits n) = .ok (-(n : Int)) := by
  have hp := pm_dec n (by omega)
  unfold atoiAll
  simp only
  rw [if_pos (by decide), hp]
  simp only
  rw [if_neg (by simp), if_neg (by omega), if_pos (by decide)]
theorem atoi_itoa (n : Int) (h : -9223372036854775807 ≤ n ∧ n ≤ 9223372036854775807) : atoiAll (itoa n) = .ok n := by
  unfold itoa
  split
  · rw [atoi_neg _ (by omega)]
    congr 1
    omega
  · rw [atoi_dec _ (by omega)]
    congr 1
    omega
theorem idx_in (c : UInt8) : ∀ (l m : List UInt8), (l.all fun b => b != c) = true → indexByte (l ++ c :: m) c = (l.length : Int)
  | [], m, _ => by simp [indexByte]
  | b :: l, m, h => by
    simp only [List.all_cons, Bool.and_eq_true] at h
    have hb : (b == c) = false := by have := h.1; simpa using this
    show indexByte (b :: (l ++ c :: m)) c = _
    unfold indexByte
    rw [hb, idx_in c l m h.2, if_neg (by simp), if_neg (by simp <;> omega)]
    simp only [List.length_cons]
    omega
theorem idx_no (c : UInt8) : ∀ (l : List UInt8), (l.all fun b => b != c) = true → indexByte l c = -1
  | [], _ => rfl
  | b :: l, h => by
    simp only [List.all_cons, Bool.and_eq_true] at h
    have hb : (b == c) = false := by have := h.1; simpa using this
    unfold indexByte
    rw [hb, idx_no c l h.2]
    simp

theorem dec_ne (n : Nat) (c : UInt8) (hc : c.toNat < 48) : ((decDigits n).all fun b => b != c) = true := by
  rw [List.all_eq_true]
  intro b hb
  have := digB_bd (List.all_eq_true.1 (dec_dig n).1 b hb)
  simp only [bne_iff_ne, ne_eq]
  rintro rfl
  omega

def numV (l : List UInt8) : Nat := l.foldl (fun a c => 10 * a + (c.toNat - 48)) 0
theorem numV_snoc (l : List UInt8) (c : UInt8) : numV (l ++ [c]) = 10 * numV l + (c.toNat - 48) := by
  unfold numV
  rw [List.foldl_append]
  rfl
theorem numV_dec : ∀ (n : Nat), numV (decDigits n) = n := by
  intro n
  induction n using Nat.strongRecOn with
  | _ n ih =>
    by_cases h : n < 10
    · rw [decDigits_one h]
      have e : (UInt8.ofNat (48 + n)).toNat = 48 + n := by simp; omega
      simp only [numV, List.foldl_cons, List.foldl_nil, e]
      omega
    · have e : (UInt8.ofNat (48 + n % 10)).toNat = 48 + n % 10 := by simp; omega
      rw [dec_step (by omega), numV_snoc, ih (n / 10) (by omega), e]
      omega
theorem numV_lt : ∀ (k : Nat) (l : List UInt8), l.length = k → l.all digB = true → numV l < 10 ^ k := by
  intro k
  induction k with
  | zero =>
    intro l hl _
    rw [List.length_eq_zero_iff] at hl
    subst hl
    decide
  | succ k ih =>
    intro l hl hd
    obtain ⟨m, c, rfl⟩ : ∃ m c, l = m ++ [c] := ⟨l.dropLast, l.getLast (by rintro rfl; simp at hl), (List.dropLast_concat_getLast _).symm⟩
    rw [List.all_append] at hd
    simp only [Bool.and_eq_true, List.all_cons, List.all_nil, and_true] at hd
    have h1 := ih m (by simpa using hl) hd.1
    have h2 := digB_bd hd.2
    rw [numV_snoc, Nat.pow_succ]
    omega
theorem dec_len19 : ∀ (k n : Nat), n < 10 ^ (k + 1) → (decDigits n).length ≤ k + 1
  | 0, n, h => by rw [decDigits_one (by omega)]; simp
  | k + 1, n, h => by
    by_cases h0 : n < 10
    · rw [decDigits_one h0]; simp
    · rw [dec_step (by omega), List.length_append]
      have := dec_len19 k (n / 10) (by rw [Nat.pow_succ] at h; omega)
      simp
      omega

end Go.Proofs.YtpocmijfkjjboaaGreatDoor
