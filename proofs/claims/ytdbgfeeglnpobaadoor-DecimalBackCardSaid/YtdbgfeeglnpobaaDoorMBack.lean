/- Plain: numbers are read from their texts. No program in sight. -/
import Derived.Test.YtdbgfeeglnpobaaDoorMPar2
set_option linter.unusedVariables false
namespace Go.Proofs.YtdbgfeeglnpobaaDoor
open Go.Lib

/-- The number that digits stand for, behind a number. -/
def valD : List UInt8 → Nat → Nat
  | [], n => n
  | c :: r, n => valD r (10 * n + (c.toNat - 48))
theorem valD_ge : ∀ (l : List UInt8) (n : Nat), n ≤ valD l n
  | [], n => Nat.le_refl _
  | c :: r, n => Nat.le_trans (by omega) (valD_ge r _)
theorem accP_val : ∀ (l : List UInt8) (n : Nat), l.all isDig = true → n ≤ 1152921504606846976 → accP l n = if valD l n ≤ 1152921504606846976 then some (valD l n) else none
  | [], n, _, h => by
    show some n = if n ≤ 1152921504606846976 then some n else none
    rw [if_pos h]
  | c :: r, n, hd, h => by
    simp only [List.all_cons, Bool.and_eq_true] at hd
    have hc := isDig_bd hd.1
    rw [accP_cons]
    show _ = if valD r (10 * n + (c.toNat - 48)) ≤ 1152921504606846976 then some (valD r (10 * n + (c.toNat - 48))) else none
    have := valD_ge r (10 * n + (c.toNat - 48))
    split
    · rw [if_neg (by omega)]
    · exact accP_val r _ hd.2 (by omega)
theorem valD_app : ∀ (a b : List UInt8) (n : Nat), valD (a ++ b) n = valD b (valD a n)
  | [], b, n => rfl
  | c :: a, b, n => valD_app a b _
theorem valD_zeros (z : Nat) : ∀ n : Nat, valD (List.replicate z 48) n = n * 10 ^ z := by
  induction z with
  | zero => intro n; show n = n * 1; omega
  | succ z ih =>
    intro n
    show valD (List.replicate z 48) (10 * n + 0) = _
    rw [ih, Nat.pow_succ, Nat.add_zero, Nat.mul_comm 10 n, Nat.mul_assoc, Nat.mul_comm 10]
theorem of48 {d : Nat} (h : d < 10) : (UInt8.ofNat (48 + d)).toNat - 48 = d ∧ isDig (UInt8.ofNat (48 + d)) = true ∧ (UInt8.ofNat (48 + d)).toNat = 48 + d := by
  have e : (UInt8.ofNat (48 + d)).toNat = 48 + d := by simp; omega
  exact ⟨by omega, by simp [isDig]; omega, e⟩
theorem dig_of {c : UInt8} (h : isDig c = true) : UInt8.ofNat (48 + (c.toNat - 48)) = c := by
  have hb := isDig_bd h
  apply UInt8.toNat_inj.1
  rw [(of48 (d := c.toNat - 48) (by omega)).2.2]
  omega
theorem dec_facts (n : Nat) : valD (decDigits n) 0 = n ∧ (decDigits n).all isDig = true ∧ (1 ≤ n → ¬ ((decDigits n).headD 0).toNat = 48) := by
  induction n using Nat.strongRecOn with
  | _ n ih =>
    by_cases h : n < 10
    · rw [decDigits_one h]
      have := of48 h
      refine ⟨?_, ?_, fun h1 => ?_⟩
      · show 10 * 0 + _ = n
        omega
      · show (isDig (UInt8.ofNat (48 + n)) && true) = true
        rw [this.2.1]
        rfl
      · show ¬ (UInt8.ofNat (48 + n)).toNat = 48
        omega
    · rw [dec_step (by omega)]
      have i := ih (n / 10) (by omega)
      have := of48 (d := n % 10) (by omega)
      refine ⟨?_, ?_, fun h1 => ?_⟩
      · rw [valD_app, i.1]
        show 10 * (n / 10) + _ = n
        omega
      · rw [List.all_append, i.2.1]
        show (true && (isDig (UInt8.ofNat (48 + n % 10)) && true)) = true
        rw [this.2.1]
        rfl
      · have hne := dec_len_pos (n / 10)
        have := i.2.2 (by omega)
        cases hd : decDigits (n / 10) with
        | nil => rw [hd] at hne; simp at hne
        | cons c r => rw [hd] at this; exact this
theorem pad_facts (n m : Nat) : valD (padD n m) 0 = n ∧ (padD n m).all isDig = true := by
  unfold padD
  have := dec_facts n
  rw [valD_app, valD_zeros, Nat.zero_mul, List.all_append, this.1, this.2.1, rep_dig]
  exact ⟨rfl, rfl⟩
/-- Digits are those of their number, with zeros ahead. -/
theorem dig_val : ∀ (n : Nat) (L : List UInt8), L.length = n → L.all isDig = true → digD (valD L 0) n = L
  | 0, L, hl, _ => by
    have : L = [] := List.length_eq_zero_iff.1 hl
    subst this
    rfl
  | n + 1, L, hl, hd => by
    have hne : L ≠ [] := fun e => by rw [e] at hl; simp at hl
    have e := List.dropLast_concat_getLast hne
    generalize L.dropLast = I at e
    generalize L.getLast hne = c at e
    subst e
    simp only [List.length_append, List.length_singleton] at hl
    rw [List.all_append] at hd
    simp only [Bool.and_eq_true, List.all_cons, List.all_nil, Bool.and_true] at hd
    have hb := isDig_bd hd.2
    rw [valD_app]
    show digD (10 * valD I 0 + (c.toNat - 48)) (n + 1) = _
    rw [digD_step (.inr (by omega)), show (10 * valD I 0 + (c.toNat - 48)) / 10 = valD I 0 from by omega, show (10 * valD I 0 + (c.toNat - 48)) % 10 = c.toNat - 48 from by omega, show n + 1 - 1 = n from rfl, dig_val n I (by omega) hd.1, dig_of hd.2]
theorem pad_val {L : List UInt8} {m : Nat} (hd : L.all isDig = true) (h1 : 1 ≤ m) (hm : m ≤ L.length) (hh : L.length = m ∨ ¬ (L.headD 0).toNat = 48) : padD (valD L 0) m = L := by
  have e := dig_val L.length L rfl hd
  rw [digD_pad (by omega)] at e
  rcases hh with hh | hh
  · rw [← hh]; exact e
  · unfold padD at e ⊢
    have hz : L.length - (decDigits (valD L 0)).length = 0 := by
      cases hz : L.length - (decDigits (valD L 0)).length with
      | zero => rfl
      | succ z =>
        exfalso
        rw [hz, List.replicate_succ] at e
        exact hh (by rw [← e]; rfl)
    rw [hz] at e
    rw [show m - (decDigits (valD L 0)).length = 0 from by omega]
    exact e
theorem noDot {l : List UInt8} (h : l.all isDig = true) : indexByte l 46 = -1 := idx_no (by
  cases hc : l.contains 46
  · rfl
  · rw [List.contains_iff_mem] at hc
    have := List.all_eq_true.1 h _ hc
    exact absurd this (by decide))
theorem idx_app : ∀ {W P : List UInt8}, W.all isDig = true → indexByte (W ++ 46 :: P) 46 = (W.length : Int)
  | [], P, _ => rfl
  | c :: W, P, h => by
    simp only [List.all_cons, Bool.and_eq_true] at h
    have hc : (c == 46) = false := by
      have := isDig_bd h.1
      cases hh : c == 46
      · rfl
      · have : c = 46 := by simpa using hh
        subst this
        exact absurd h.1 (by decide)
    show indexByte (c :: (W ++ 46 :: P)) 46 = _
    unfold indexByte
    rw [hc, idx_app h.2, if_neg (by simp), if_neg (by simp <;> omega)]
    simp only [List.length_cons]
    omega
theorem cutD_no' {W : List UInt8} (h : W.all isDig = true) : cutD W = (W, [], false) := by
  unfold cutD
  rw [noDot h]
  rfl
theorem cutD_yes {W P : List UInt8} (h : W.all isDig = true) : cutD (W ++ 46 :: P) = (W, P, true) := by
  unfold cutD
  rw [idx_app h, if_neg (by omega), Int.toNat_natCast]
  simp
/-- What stands behind the sign. -/
def bodL (m k : Nat) : List UInt8 := if k = 0 then decDigits m else (padD m (k + 1)).take ((padD m (k + 1)).length - k) ++ 46 :: (padD m (k + 1)).drop ((padD m (k + 1)).length - k)
theorem fmt_bod (n : Int) (k : Nat) : fmtL n k = (if n < 0 then [45] else []) ++ bodL n.natAbs k := rfl
/-- The parts of a body. -/
theorem bod_parts (m k : Nat) : ∃ W P : List UInt8, ∃ po : Bool, bodL m k = (if po then W ++ 46 :: P else W) ∧ cutD (bodL m k) = (W, P, po) ∧ W ≠ [] ∧ W ++ P = padD m (k + 1) ∧ P.length = k ∧ (po = true ↔ 0 < k) ∧ W.all isDig = true ∧ P.all isDig = true ∧ (1 < W.length → ¬ (W.headD 0).toNat = 48) := by
  have pf := pad_facts m (k + 1)
  have pl := pad_len m (k + 1)
  have df := dec_facts m
  have hlead : ∀ W P : List UInt8, W ++ P = padD m (k + 1) → P.length = k → 1 < W.length → ¬ (W.headD 0).toNat = 48 := fun W P e hp hw => by
    have el := congrArg List.length e
    rw [List.length_append, pl] at el
    have hz : k + 1 - (decDigits m).length = 0 := by omega
    have e2 : padD m (k + 1) = decDigits m := by unfold padD; rw [hz]; rfl
    have h1 : 1 ≤ m := by
      rcases Nat.eq_zero_or_pos m with h | h
      · subst h
        rw [decDigits_one (by omega)] at el hz
        simp at el
        omega
      · exact h
    rw [e2] at e
    have := df.2.2 h1
    rw [← e] at this
    cases W with
    | nil => simp at hw
    | cons c W => exact this
  by_cases h0 : k = 0
  · subst h0
    have e : bodL m 0 = padD m 1 := by rw [pad_one]; rfl
    rw [e]
    refine ⟨padD m 1, [], false, rfl, cutD_no' pf.2, fun h => ?_, by rw [List.append_nil], rfl, by simp, pf.2, rfl, hlead _ [] (by rw [List.append_nil]) rfl⟩
    have := congrArg List.length h
    rw [pl] at this
    simp at this
  · have e : bodL m k = (padD m (k + 1)).take ((padD m (k + 1)).length - k) ++ 46 :: (padD m (k + 1)).drop ((padD m (k + 1)).length - k) := if_neg h0
    have hd1 : ((padD m (k + 1)).take ((padD m (k + 1)).length - k)).all isDig = true := List.all_eq_true.2 fun x hx => List.all_eq_true.1 pf.2 x (List.mem_of_mem_take hx)
    have hd2 : ((padD m (k + 1)).drop ((padD m (k + 1)).length - k)).all isDig = true := List.all_eq_true.2 fun x hx => List.all_eq_true.1 pf.2 x (List.mem_of_mem_drop hx)
    have hpl : ((padD m (k + 1)).drop ((padD m (k + 1)).length - k)).length = k := by rw [List.length_drop]; omega
    rw [e]
    refine ⟨_, _, true, rfl, cutD_yes hd1, fun h => ?_, List.take_append_drop _ _, hpl, by simp; omega, hd1, hd2, hlead _ _ (List.take_append_drop _ _) hpl⟩
    have := congrArg List.length h
    rw [List.length_take, List.length_nil] at this
    omega
theorem sgn_pre (n : Int) (b : List UInt8) (h : b.headD 0 ≠ 45) : hasPrefix ((if n < 0 then [45] else []) ++ b) [45] = decide (n < 0) ∧ trimPrefix ((if n < 0 then [45] else []) ++ b) [45] = b := by
  by_cases hn : n < 0
  · rw [if_pos hn]
    have e : hasPrefix ([45] ++ b) [45] = true := by simp [hasPrefix, List.isPrefixOf]
    unfold trimPrefix
    rw [e, if_pos rfl]
    exact ⟨by simp [hn], rfl⟩
  · rw [if_neg hn, List.nil_append]
    have e : hasPrefix b [45] = false := by
      cases b with
      | nil => rfl
      | cons c b =>
        have : ¬ c = 45 := h
        simp only [hasPrefix, List.isPrefixOf, Bool.and_true, beq_eq_false_iff_ne, ne_eq]
        exact fun e => this e.symm
    unfold trimPrefix
    rw [e, if_neg (by simp)]
    exact ⟨by simp [hn], rfl⟩
theorem bod_head (m k : Nat) : (bodL m k).headD 0 ≠ 45 := by
  obtain ⟨W, P, po, e, _, hne, _, _, _, hd, _⟩ := bod_parts m k
  rw [e]
  cases W with
  | nil => exact absurd rfl hne
  | cons c W =>
    simp only [List.all_cons, Bool.and_eq_true] at hd
    have : ¬ c = 45 := fun e => by rw [e] at hd; exact absurd hd.1 (by decide)
    cases po <;> exact this
/-- Numbers are read from their texts, with as many digits, or more. -/
theorem par_fmt (n : Int) (k j : Nat) (hkj : k ≤ j) : parS (fmtL n k) j = if n.natAbs * 10 ^ (j - k) ≤ 1152921504606846976 then (n * ((10 ^ (j - k) : Nat) : Int), 0) else (0, 5) := by
  rw [fmt_bod]
  have hs := sgn_pre n (bodL n.natAbs k) (bod_head _ _)
  obtain ⟨W, P, po, e, hc, hne, hwp, hpl, hpo, hd1, hd2, hl⟩ := bod_parts n.natAbs k
  unfold parS
  rw [hs.1, hs.2, hc]
  dsimp only
  have hW : allD W = true := by
    unfold allD
    rw [hd1]
    cases W with
    | nil => exact absurd rfl hne
    | cons c W => rfl
  have hlead : (decide (1 < W.length) && decide ((W.headD 0).toNat = 48)) = false := by
    by_cases h : 1 < W.length
    · rw [decide_eq_false (hl h)]; simp
    · rw [decide_eq_false h]; rfl
  have hb : badP W P po j = false := by
    unfold badP
    rw [hW, hlead]
    cases po
    · rfl
    · have hk : 0 < k := hpo.1 rfl
      have hP : allD P = true := by
        unfold allD
        rw [hd2]
        cases P with
        | nil => simp at hpl; omega
        | cons c P => rfl
      rw [hP, decide_eq_false (show ¬ j < P.length by omega)]
      rfl
  rw [hb, if_neg (by simp), hwp, hpl]
  have pf := pad_facts n.natAbs (k + 1)
  unfold parV
  rw [accP_val _ 0 (by rw [List.all_append, pf.2, rep_dig]; rfl) (by omega), valD_app, pf.1, valD_zeros]
  by_cases hB : n.natAbs * 10 ^ (j - k) ≤ 1152921504606846976
  · rw [if_pos hB, if_pos hB]
    dsimp only
    congr 1
    by_cases hn : n < 0
    · rw [if_pos (by simpa using hn), Int.natCast_mul, show ((n.natAbs : Nat) : Int) = -n from by omega, Int.neg_mul, Int.neg_neg]
    · rw [if_neg (by simpa using hn), Int.natCast_mul, show ((n.natAbs : Nat) : Int) = n from by omega]
  · rw [if_neg hB, if_neg hB]
end Go.Proofs.YtdbgfeeglnpobaaDoor
