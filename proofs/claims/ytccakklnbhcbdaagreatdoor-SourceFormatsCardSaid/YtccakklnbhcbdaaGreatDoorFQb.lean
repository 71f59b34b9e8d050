import Derived.Test.YtccakklnbhcbdaaGreatDoorFB
import Derived.Lib.AtoiAll
import Derived.Lib.AtoiTie
import Derived.Lib.Bytealg
import Derived.Lib.LaidTab
import Derived.Lib.ItoaMem
import Derived.Lib.ItoaLen
set_option linter.unusedVariables false
namespace Go.Proofs.YtccakklnbhcbdaaGreatDoor
theorem nextL_pos {l : List UInt8} (h : l ≠ []) : 1 ≤ (nextL l).2 ∧ (nextL l).2 ≤ l.length := by
 match l, h with
 | c :: r, _ =>
  rw [nextL_eq (c :: r) c rfl]
  have l1 : 1 ≤ (c :: r).length := by simp
  have g : ∀ p : UInt8 → Bool, p c = true → 1 ≤ runL p (c :: r) ∧ runL p (c :: r) ≤ (c :: r).length := fun p hp => ⟨by rw [runL_cons, if_pos hp]; omega, runL_le _ _⟩
  have len : 0 ≤ (c :: r).length := Nat.zero_le _
  split
  ·exact ⟨Nat.le_refl _, l1⟩
  split
  ·exact ⟨Nat.le_refl _, l1⟩
  split
  ·exact g _ (by rename_i h; simp [h])
  split
  ·rename_i h
   have := g isWrd (by simp [isWrd, h])
   split <;> exact this
  split
  ·rename_i h
   have g1 := g isDig h
   have e : numL (c :: r) = numA (c :: r) 0 := rfl
   have e0 : runA isDig (c :: r) 0 = runL isDig (c :: r) := runA_zero _ _
   show 1 ≤ numL (c :: r) ∧ numL (c :: r) ≤ (c :: r).length
   rw [e]
   unfold numA
   rw [e0]
   split
   ·rename_i k
    simp only [Bool.and_eq_true, decide_eq_true_eq] at k
    have := runA_le (p := isDig) (l := c :: r) (k := runL isDig (c :: r) + 1) (by omega)
    omega
   ·exact g1
  split
  ·exact ⟨Nat.le_refl _, l1⟩
  ·rename_i h
   have := symL_le (c :: r)
   exact ⟨show 1 ≤ symL (c :: r) by omega, this⟩
theorem tok_fuel : ∀ (f g : Nat) (l : List UInt8) (line col : Int) (acc : List Tk), l.length ≤ f → l.length ≤ g → tokF f l line col acc = tokF g l line col acc
 | 0, 0, _, _, _, _, _, _ => rfl
 | 0, g + 1, l, line, col, acc, h, _ => by
  have : l = [] := List.length_eq_zero_iff.1 (by omega)
  subst this
  rfl
 | f + 1, 0, l, line, col, acc, _, h => by
  have : l = [] := List.length_eq_zero_iff.1 (by omega)
  subst this
  rfl
 | f + 1, g + 1, l, line, col, acc, hf, hg => by
  unfold tokF
  by_cases h0 : l = []
  ·rw [if_pos h0, if_pos h0]
  ·have hp := nextL_pos h0
   rw [if_neg h0, if_neg h0]
   have r := fun (n : Nat) (h1 : 1 ≤ n) line col acc => tok_fuel f g (l.drop n) line col acc (by rw [List.length_drop]; omega) (by rw [List.length_drop]; omega)
   rw [r 1 (Nat.le_refl _), r _ hp.1, r _ hp.1]
section
variable {s : ByteArray} {line col : Int} {acc : List Tk}
theorem tok_step (h : 0 < s.size) : tokF s.size (by_ s) line col acc =
  if (nextL (by_ s)).1 < 0 then ([], (line, col), 7)
  else if (nextL (by_ s)).1 = 4 then tokF ((by_ s).drop 1).length ((by_ s).drop 1) (line + 1) 1 (acc ++ [⟨4, [], line, col⟩])
  else if (nextL (by_ s)).1 = 0 then tokF ((by_ s).drop (nextL (by_ s)).2).length ((by_ s).drop (nextL (by_ s)).2) line (col + (nextL (by_ s)).2) acc
  else tokF ((by_ s).drop (nextL (by_ s)).2).length ((by_ s).drop (nextL (by_ s)).2) line (col + (nextL (by_ s)).2) (acc ++ [⟨(nextL (by_ s)).1, (by_ s).take (nextL (by_ s)).2, line, col⟩]) := by
 have len : (by_ s).length = s.size := rfl
 obtain ⟨f, hf⟩ : ∃ f, s.size = f + 1 := ⟨s.size - 1, by omega⟩
 have h0 : by_ s ≠ [] := fun e => by rw [e] at len; simp at len; omega
 have hp := nextL_pos h0
 rw [hf]
 conv => lhs; unfold tokF
 rw [if_neg h0]
 have r := fun (n : Nat) (h1 : 1 ≤ n) line col acc => tok_fuel f ((by_ s).drop n).length ((by_ s).drop n) line col acc (by rw [List.length_drop]; omega) (Nat.le_refl _)
 rw [r 1 (Nat.le_refl _), r _ hp.1, r _ hp.1]
theorem tok_stop (h : s.size = 0) : tokF s.size (by_ s) line col acc = (acc ++ [⟨5, [], line, col⟩], (0, 0), 0) := by
 rw [h]
 rfl
theorem by_drop (s : ByteArray) (n : Nat) : by_ (s.extract n s.size) = (by_ s).drop n := by
 have e := Lib.extract_data s n s.size
 rw [show (s.extract n s.size).data.toList = by_ (s.extract n s.size) from rfl] at e
 rw [e, List.take_of_length_le]
 rw [List.length_drop]
 exact Nat.le_refl _
theorem by_take (s : ByteArray) (n : Nat) : by_ (s.extract 0 n) = (by_ s).take n := by
 have e := Lib.extract_data s 0 n
 rw [List.drop_zero, Nat.sub_zero] at e
 exact e
theorem by_mk (s : ByteArray) : (⟨(by_ s).toArray⟩ : ByteArray) = s := Lib.mk_data s
end
end Go.Proofs.YtccakklnbhcbdaaGreatDoor
set_option linter.unusedVariables false
namespace Go.Proofs.YtccakklnbhcbdaaGreatDoor
open Go.ChangeShapes Go.WideShapes Go.ChangeAt Go.RowKit
open Go.Lib (decDigits itoa atoiAll parseUint10 parseMag indexByte decDigits_one NumEnd)
theorem by_append (a b : ByteArray) : by_ (a ++ b) = by_ a ++ by_ b := by
 show (a ++ b).data.toList = a.data.toList ++ b.data.toList
 simp
theorem by_inj {a b : ByteArray} (h : by_ a = by_ b) : a = b := by rw [← by_mk a, ← by_mk b, h]
theorem mk_by (l : List UInt8) : by_ (⟨l.toArray⟩ : ByteArray) = l := by simp
theorem mk_size (l : List UInt8) : (⟨l.toArray⟩ : ByteArray).size = l.length := by simp [ByteArray.size]
theorem dec_step {n : Nat} (h : 10 ≤ n) : Lib.decDigits n = Lib.decDigits (n / 10) ++ [UInt8.ofNat (48 + n % 10)] := by
 rw [Lib.decDigits, dif_neg (by omega)]
def digB (c : UInt8) : Bool := decide (48 ≤ c.toNat) && decide (c.toNat ≤ 57)
theorem digB_bd {c : UInt8} (h : digB c = true) : 48 ≤ c.toNat ∧ c.toNat ≤ 57 := by simpa [digB] using h
theorem dec_dig : ∀ (n : Nat), (decDigits n).all digB = true ∧ decDigits n ≠ [] := by
 intro n
 induction n using Nat.strongRecOn with
 | _ n ih =>
  by_cases h : n < 10
  ·rw [decDigits_one h]
   refine ⟨?_, by simp⟩
   simp [digB]
   omega
  ·rw [dec_step (by omega)]
   refine ⟨?_, by simp⟩
   rw [List.all_append, (ih (n / 10) (by omega)).1]
   simp [digB]
   omega
theorem pu_app : ∀ (l m : List UInt8) (a : Nat), parseUint10 a (l ++ m) = match parseUint10 a l with | .ok u => parseUint10 u m | e => e
 | [], m, a => rfl
 | c :: l, m, a => by
  simp only [List.cons_append, parseUint10]
  split
  ·split
   ·rfl
   ·split
    ·rfl
    ·exact pu_app l m _
  ·rfl
theorem pu_dec : ∀ (n : Nat), n < 18446744073709551616 → parseUint10 0 (decDigits n) = .ok n := by
 intro n
 induction n using Nat.strongRecOn with
 | _ n ih =>
  intro hn
  by_cases h : n < 10
  ·rw [decDigits_one h]
   have e : (UInt8.ofNat (48 + n)).toNat = 48 + n := by simp; omega
   simp only [parseUint10, e]
   rw [if_pos (by omega), if_neg (by omega), if_neg (by omega)]
   congr 1
   omega
  ·have e : (UInt8.ofNat (48 + n % 10)).toNat = 48 + n % 10 := by simp; omega
   rw [dec_step (by omega), pu_app, ih (n / 10) (by omega) (by omega)]
   simp only [parseUint10, e]
   rw [if_pos (by omega), if_neg (by omega), if_neg (by omega)]
   congr 1
   omega
theorem pm_dec (n : Nat) (h : n < 18446744073709551616) : parseMag (decDigits n) = .ok n := by
 unfold parseMag
 rw [if_neg (dec_dig n).2, pu_dec n h]
theorem atoi_dec (n : Nat) (h : n ≤ 9223372036854775807) : atoiAll (decDigits n) = .ok (n : Int) := by
 have hp := pm_dec n (by omega)
 have hd := dec_dig n
 cases hl : decDigits n with
 | nil => exact absurd hl hd.2
 | cons c r =>
  rw [hl] at hp hd
  have hc := digB_bd (List.all_eq_true.1 hd.1 c (by simp))
  unfold atoiAll
  simp only
  rw [if_neg (by omega), hp]
  simp only
  rw [if_neg (by omega), if_neg (by omega), if_neg (by omega)]
def numV (l : List UInt8) : Nat := l.foldl (fun a c => 10 * a + (c.toNat - 48)) 0
theorem numV_snoc (l : List UInt8) (c : UInt8) : numV (l ++ [c]) = 10 * numV l + (c.toNat - 48) := by
 unfold numV
 rw [List.foldl_append]
 rfl
theorem numV_dec : ∀ (n : Nat), numV (decDigits n) = n := by
 intro n
 induction n using Nat.strongRecOn with
 | _ n ih =>
  by_cases h : n < 10
  ·rw [decDigits_one h]
   have e : (UInt8.ofNat (48 + n)).toNat = 48 + n := by simp; omega
   simp only [numV, List.foldl_cons, List.foldl_nil, e]
   omega
  ·have e : (UInt8.ofNat (48 + n % 10)).toNat = 48 + n % 10 := by simp; omega
   rw [dec_step (by omega), numV_snoc, ih (n / 10) (by omega), e]
   omega
theorem numV_lt : ∀ (k : Nat) (l : List UInt8), l.length = k → l.all digB = true → numV l < 10 ^ k := by
 intro k
 induction k with
 | zero =>
  intro l hl _
  rw [List.length_eq_zero_iff] at hl
  subst hl
  decide
 | succ k ih =>
  intro l hl hd
  obtain ⟨m, c, rfl⟩ : ∃ m c, l = m ++ [c] := ⟨l.dropLast, l.getLast (by rintro rfl; simp at hl), (List.dropLast_concat_getLast _).symm⟩
  rw [List.all_append] at hd
  simp only [Bool.and_eq_true, List.all_cons, List.all_nil, and_true] at hd
  have h1 := ih m (by simpa using hl) hd.1
  have h2 := digB_bd hd.2
  rw [numV_snoc, Nat.pow_succ]
  omega
theorem dec_len19 : ∀ (k n : Nat), n < 10 ^ (k + 1) → (decDigits n).length ≤ k + 1
 | 0, n, h => by rw [decDigits_one (by omega)]; simp
 | k + 1, n, h => by
  by_cases h0 : n < 10
  ·rw [decDigits_one h0]; simp
  ·rw [dec_step (by omega), List.length_append]
   have := dec_len19 k (n / 10) (by rw [Nat.pow_succ] at h; omega)
   simp
   omega
end Go.Proofs.YtccakklnbhcbdaaGreatDoor
set_option linter.unusedVariables false
namespace Go.Proofs.YtccakklnbhcbdaaGreatDoor
open Go.ChangeShapes Go.WideShapes Go.ChangeAt Go.RowKit
open Go.Lib (decDigits itoa atoiAll itoa_nonneg)
def intO (l : List UInt8) : Option Nat := if l.length ≤ 15 ∧ decDigits (numV l) = l then some (numV l) else none
theorem intO_iff {l : List UInt8} {n : Nat} : intO l = some n ↔ l.length ≤ 15 ∧ l = decDigits n := by
 unfold intO
 constructor
 ·intro h
  split at h
  ·rename_i q
   injection h with h
   subst h
   exact ⟨q.1, q.2.symm⟩
  ·cases h
 ·rintro ⟨h1, rfl⟩
  rw [numV_dec, if_pos ⟨h1, rfl⟩]
theorem dec_pos (n : Nat) : 1 ≤ (decDigits n).length := List.length_pos_iff.2 (dec_dig n).2
theorem dec_lt {n : Nat} (h : (decDigits n).length ≤ 15) : n < 1000000000000000 := by
 have h1 := numV_lt _ (decDigits n) rfl (dec_dig n).1
 rw [numV_dec] at h1
 have h2 : 10 ^ (decDigits n).length ≤ 10 ^ 15 := Nat.pow_le_pow_right (by decide) h
 omega
theorem dec_of_digits : ∀ (k : Nat) (l : List UInt8), l.length = k → l.all digB = true → l ≠ [] → (1 < l.length → l.head? ≠ some 48) → decDigits (numV l) = l := by
 intro k
 induction k with
 | zero =>
  intro l hl _ hn _
  exact absurd (List.length_eq_zero_iff.1 hl) hn
 | succ k ih =>
  intro l hl hd hn hz
  obtain ⟨m, c, rfl⟩ : ∃ m c, l = m ++ [c] := ⟨l.dropLast, l.getLast hn, (List.dropLast_concat_getLast hn).symm⟩
  rw [List.all_append] at hd
  simp only [Bool.and_eq_true, List.all_cons, List.all_nil, and_true] at hd
  have hc := digB_bd hd.2
  have ec : UInt8.ofNat (48 + (c.toNat - 48)) = c := by
   rw [show 48 + (c.toNat - 48) = c.toNat by omega]
   simp
  rw [numV_snoc]
  by_cases hm : m = []
  ·subst hm
   rw [show numV ([] : List UInt8) = 0 from rfl, Nat.mul_zero, Nat.zero_add, Lib.decDigits_one (by omega), ec]
   rfl
  ·have hml : 1 ≤ m.length := List.length_pos_iff.2 hm
   have hh : m.head? ≠ some 48 := by
    have := hz (by simp; omega)
    cases m with
    | nil => exact absurd rfl hm
    | cons a r => simpa using this
   have hi := ih m (by simpa using hl) hd.1 hm (fun _ => hh)
   have hpos : 1 ≤ numV m := by
    rcases Nat.eq_zero_or_pos (numV m) with q | q
    ·rw [q] at hi
     have e0 : m = [48] := by rw [← hi, Lib.decDigits_one (by decide)]; rfl
     rw [e0] at hh
     exact absurd rfl hh
    ·exact q
   rw [dec_step (by omega), show (10 * numV m + (c.toNat - 48)) / 10 = numV m by omega, hi, show (10 * numV m + (c.toNat - 48)) % 10 = c.toNat - 48 by omega, ec]
def intR (l : List UInt8) : Bool := decide (1 ≤ l.length) && decide (l.length ≤ 15) && !(decide (1 < l.length) && l.head? == some 48) && l.all digB
theorem dec_head {n : Nat} (h : 1 < (decDigits n).length) : (decDigits n).head? ≠ some 48 := by
 induction n using Nat.strongRecOn with
 | _ n ih =>
  by_cases h0 : n < 10
  ·rw [Lib.decDigits_one h0] at h; simp at h
  ·rw [dec_step (by omega)] at h ⊢
   by_cases h1 : n / 10 < 10
   ·rw [Lib.decDigits_one h1]
    have e : (UInt8.ofNat (48 + n / 10)).toNat = 48 + n / 10 := by simp; omega
    simp only [List.cons_append, List.head?_cons, ne_eq, Option.some.injEq]
    intro e2
    rw [e2] at e
    have : (48 : UInt8).toNat = 48 := rfl
    omega
   ·have hl : 1 < (decDigits (n / 10)).length := by
     rw [dec_step (by omega), List.length_append]
     have := dec_pos (n / 10 / 10)
     simp
     omega
    have := ih (n / 10) (by omega) hl
    cases hd : decDigits (n / 10) with
    | nil => exact absurd hd (dec_dig _).2
    | cons a r => rw [hd] at this; simpa using this
theorem intR_iff (l : List UInt8) : intR l = (intO l).isSome := by
 unfold intR intO
 rw [Bool.eq_iff_iff]
 simp only [Bool.and_eq_true, decide_eq_true_eq, Bool.not_eq_true', Bool.and_eq_false_iff, decide_eq_false_iff_not]
 constructor
 ·rintro ⟨⟨⟨h1, h2⟩, h3⟩, h4⟩
  rw [if_pos ⟨h2, dec_of_digits _ l rfl h4 (by rintro rfl; simp at h1) (fun h => by
   rcases h3 with q | q
   ·exact absurd h q
   ·intro e
    rw [e] at q
    simp at q)⟩]
  rfl
 ·intro h
  split at h
  ·rename_i q
   obtain ⟨q1, q2⟩ := q
   refine ⟨⟨⟨?_, q1⟩, ?_⟩, ?_⟩
   ·rw [← q2]; exact dec_pos _
   ·by_cases h1 : 1 < l.length
    ·right
     have := dec_head (n := numV l) (by rw [q2]; exact h1)
     rw [q2] at this
     simpa using this
    ·exact .inl h1
   ·rw [← q2]; exact (dec_dig _).1
  ·cases h
theorem intO_val {l : List UInt8} {n : Nat} (h : intO l = some n) : n = numV l ∧ n < 1000000000000000 := by
 obtain ⟨h1, rfl⟩ := intO_iff.1 h
 exact ⟨(numV_dec n).symm, dec_lt h1⟩
theorem intO_atoi (l : List UInt8) {n : Int} (h : atoiAll l = .ok n) : (intO l).isSome = (decide (0 ≤ n) && decide (l.length ≤ 15) && decide (itoa n = l)) ∧ ((intO l).isSome = true → intO l = some n.toNat) := by
 have key : ∀ m, intO l = some m → n = (m : Int) := fun m hm => by
  obtain ⟨h1, rfl⟩ := intO_iff.1 hm
  have := dec_lt h1
  rw [atoi_dec m (by omega)] at h
  injection h with h
  exact h.symm
 constructor
 ·rw [Bool.eq_iff_iff]
  simp only [Bool.and_eq_true, decide_eq_true_eq]
  constructor
  ·intro hs
   obtain ⟨m, hm⟩ := Option.isSome_iff_exists.1 hs
   obtain rfl := key m hm
   obtain ⟨h1, h2⟩ := intO_iff.1 hm
   exact ⟨⟨by omega, h1⟩, by rw [itoa_nonneg]; exact h2.symm⟩
  ·rintro ⟨⟨h1, h2⟩, h3⟩
   rw [intO_iff.2 ⟨h2, show l = decDigits n.toNat by rw [← h3, ← itoa_nonneg, Int.toNat_of_nonneg h1]⟩]
   rfl
 ·intro hs
  obtain ⟨m, hm⟩ := Option.isSome_iff_exists.1 hs
  rw [hm, key m hm]
  rfl
theorem intO_bad {l : List UInt8} (h : ∀ v, atoiAll l ≠ .ok v) : intO l = none := by
 cases hm : intO l with
 | none => rfl
 | some m =>
  obtain ⟨h1, rfl⟩ := intO_iff.1 hm
  have := dec_lt h1
  exact absurd (atoi_dec m (by omega)) (h _)
end Go.Proofs.YtccakklnbhcbdaaGreatDoor
