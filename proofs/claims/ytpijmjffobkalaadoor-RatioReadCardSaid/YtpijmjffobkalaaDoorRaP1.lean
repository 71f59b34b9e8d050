/- Plain: what ratio.Parse and the reference's Parse read. -/
import Derived.Test.YtpijmjffobkalaaDoorRaT1
import Derived.Lib.AtoiAll
import Derived.Lib.AtoiTie
import Derived.Lib.Bytealg
set_option linter.unusedVariables false
namespace Go.Proofs.YtpijmjffobkalaaDoor
open Go.ChangeShapes Go.WideShapes Go.ChangeAt Go.RowKit

open Go.Lib (decDigits itoa atoiAll parseUint10 parseMag indexByte decDigits_one NumEnd)
def digB (c : UInt8) : Bool := decide (48 ≤ c.toNat) && decide (c.toNat ≤ 57)
theorem digB_bd {c : UInt8} (h : digB c = true) : 48 ≤ c.toNat ∧ c.toNat ≤ 57 := by simpa [digB] using h
theorem dec_dig : ∀ (n : Nat), (decDigits n).all digB = true ∧ decDigits n ≠ [] := by
  intro n
  induction n using Nat.strongRecOn with
  | _ n ih =>
    by_cases h : n < 10
    · rw [decDigits_one h]
      refine ⟨?_, by simp⟩
      simp [digB]
      omega
    · rw [dec_step (by omega)]
      refine ⟨?_, by simp⟩
      rw [List.all_append, (ih (n / 10) (by omega)).1]
      simp [digB]
      omega
theorem pu_app : ∀ (l m : List UInt8) (a : Nat), parseUint10 a (l ++ m) = match parseUint10 a l with | .ok u => parseUint10 u m | e => e
  | [], m, a => rfl
  | c :: l, m, a => by
    simp only [List.cons_append, parseUint10]
    split
    · split
      · rfl
      · split
        · rfl
        · exact pu_app l m _
    · rfl
theorem pu_dec : ∀ (n : Nat), n < 18446744073709551616 → parseUint10 0 (decDigits n) = .ok n := by
  intro n
  induction n using Nat.strongRecOn with
  | _ n ih =>
    intro hn
    by_cases h : n < 10
    · rw [decDigits_one h]
      have e : (UInt8.ofNat (48 + n)).toNat = 48 + n := by simp; omega
      simp only [parseUint10, e]
      rw [if_pos (by omega), if_neg (by omega), if_neg (by omega)]
      congr 1
      omega
    · have e : (UInt8.ofNat (48 + n % 10)).toNat = 48 + n % 10 := by simp; omega
      rw [dec_step (by omega), pu_app, ih (n / 10) (by omega) (by omega)]
      simp only [parseUint10, e]
      rw [if_pos (by omega), if_neg (by omega), if_neg (by omega)]
      congr 1
      omega
theorem pm_dec (n : Nat) (h : n < 18446744073709551616) : parseMag (decDigits n) = .ok n := by
  unfold parseMag
  rw [if_neg (dec_dig n).2, pu_dec n h]
theorem atoi_dec (n : Nat) (h : n ≤ 9223372036854775807) : atoiAll (decDigits n) = .ok (n : Int) := by
  have hp := pm_dec n (by omega)
  have hd := dec_dig n
  cases hl : decDigits n with
  | nil => exact absurd hl hd.2
  | cons c r =>
    rw [hl] at hp hd
    have hc := digB_bd (List.all_eq_true.1 hd.1 c (by simp))
    unfold atoiAll
    simp only
    rw [if_neg (by omega), hp]
    simp only
    rw [if_neg (by omega), if_neg (by omega), if_neg (by omega)]
theorem atoi_neg (n : Nat) (h : n ≤ 9223372036854775807) : atoiAll (45 :: decDigits n) = .ok (-(n : Int)) := by
  have hp := pm_dec n (by omega)
  unfold atoiAll
  simp only
  rw [if_pos (by decide), hp]
  simp only
  rw [if_neg (by simp), if_neg (by omega), if_pos (by decide)]
theorem atoi_itoa (n : Int) (h : -9223372036854775807 ≤ n ∧ n ≤ 9223372036854775807) : atoiAll (itoa n) = .ok n := by
  unfold itoa
  split
  · rw [atoi_neg _ (by omega)]
    congr 1
    omega
  · rw [atoi_dec _ (by omega)]
    congr 1
    omega
theorem idx_in (c : UInt8) : ∀ (l m : List UInt8), (l.all fun b => b != c) = true → indexByte (l ++ c :: m) c = (l.length : Int)
  | [], m, _ => by simp [indexByte]
  | b :: l, m, h => by
    simp only [List.all_cons, Bool.and_eq_true] at h
    have hb : (b == c) = false := by have := h.1; simpa using this
    show indexByte (b :: (l ++ c :: m)) c = _
    unfold indexByte
    rw [hb, idx_in c l m h.2, if_neg (by simp), if_neg (by simp <;> omega)]
    simp only [List.length_cons]
    omega
theorem idx_no (c : UInt8) : ∀ (l : List UInt8), (l.all fun b => b != c) = true → indexByte l c = -1
  | [], _ => rfl
  | b :: l, h => by
    simp only [List.all_cons, Bool.and_eq_true] at h
    have hb : (b == c) = false := by have := h.1; simpa using this
    unfold indexByte
    rw [hb, idx_no c l h.2]
    simp
theorem idx_bd (l : List UInt8) (c : UInt8) : indexByte l c < l.length := by
  induction l with
  | nil => show (-1 : Int) < ((0 : Nat) : Int); omega
  | cons b l ih =>
    unfold indexByte
    simp only [List.length_cons]
    split
    · omega
    · split <;> omega
/-- Around the first byte c. -/
def cutB (c : UInt8) (l : List UInt8) : List UInt8 × List UInt8 × Bool :=
  if indexByte l c < 0 then (l, [], false) else (l.take (indexByte l c).toNat, l.drop ((indexByte l c).toNat + 1), true)
theorem cutB_no {c : UInt8} {l : List UInt8} (h : (l.all fun b => b != c) = true) : cutB c l = (l, [], false) := by
  unfold cutB
  rw [idx_no c l h]
  rfl
theorem cutB_yes {c : UInt8} {l m : List UInt8} (h : (l.all fun b => b != c) = true) : cutB c (l ++ c :: m) = (l, m, true) := by
  unfold cutB
  rw [idx_in c l m h, if_neg (by omega), Int.toNat_natCast]
  simp
theorem dec_ne (n : Nat) (c : UInt8) (hc : c.toNat < 48) : ((decDigits n).all fun b => b != c) = true := by
  rw [List.all_eq_true]
  intro b hb
  have := digB_bd (List.all_eq_true.1 (dec_dig n).1 b hb)
  simp only [bne_iff_ne, ne_eq]
  rintro rfl
  omega
theorem itoa_slash (n : Int) : ((itoa n).all fun b => b != 47) = true := by
  unfold itoa
  split
  · rw [List.all_cons, dec_ne _ 47 (by decide)]
    decide
  · exact dec_ne _ 47 (by decide)
theorem cut_txt (n d : Int) : cutB 47 (txtL n d) = if d = 1 then (itoa n, [], false) else (itoa n, itoa d, true) := by
  unfold txtL
  split
  · rw [List.append_nil, cutB_no (itoa_slash n)]
  · rw [cutB_yes (itoa_slash n)]
/-- What ratio.Parse reads. -/
def parO (l : List UInt8) : Option (Int × Int) :=
  match atoiAll (cutB 47 l).1, atoiAll (if (cutB 47 l).2.2 then (cutB 47 l).2.1 else [49]) with
  | .ok n, .ok d => if fracB n d && txtL n d == l then some (n, d) else none
  | _, _ => none
theorem parO_some {l : List UInt8} {n d : Int} (h : parO l = some (n, d)) : fracB n d = true ∧ txtL n d = l := by
  unfold parO at h
  split at h
  · split at h
    · rename_i hh
      simp only [Option.some.injEq, Prod.mk.injEq] at h
      obtain ⟨rfl, rfl⟩ := h
      simpa using hh
    · cases h
  · cases h
theorem parO_txt {n d : Int} (h : fracB n d = true) : parO (txtL n d) = some (n, d) := by
  have g := fracB_iff.1 h
  have an : atoiAll (itoa n) = .ok n := atoi_itoa n (by omega)
  unfold parO
  rw [cut_txt]
  by_cases h1 : d = 1
  · subst h1
    rw [if_pos rfl]
    simp only
    rw [an, show atoiAll (if false = true then ([] : List UInt8) else [49]) = .ok 1 from by decide +kernel]
    simp [h]
  · rw [if_neg h1]
    simp only [if_true]
    rw [an, atoi_itoa d (by omega)]
    simp [h]
/-- Digits, at most 19. -/
def numV (l : List UInt8) : Nat := l.foldl (fun a c => 10 * a + (c.toNat - 48)) 0
def numR (l : List UInt8) : Int × Bool :=
  if l.length < 1 ∨ 19 < l.length then (0, false) else if l.all digB then (((numV l % 9223372036854775808 : Nat) : Int), decide (numV l ≤ 1152921504606846976)) else (0, false)
theorem numV_snoc (l : List UInt8) (c : UInt8) : numV (l ++ [c]) = 10 * numV l + (c.toNat - 48) := by
  unfold numV
  rw [List.foldl_append]
  rfl
theorem numV_dec : ∀ (n : Nat), numV (decDigits n) = n := by
  intro n
  induction n using Nat.strongRecOn with
  | _ n ih =>
    by_cases h : n < 10
    · rw [decDigits_one h]
      have e : (UInt8.ofNat (48 + n)).toNat = 48 + n := by simp; omega
      simp only [numV, List.foldl_cons, List.foldl_nil, e]
      omega
    · have e : (UInt8.ofNat (48 + n % 10)).toNat = 48 + n % 10 := by simp; omega
      rw [dec_step (by omega), numV_snoc, ih (n / 10) (by omega), e]
      omega
theorem numV_lt : ∀ (k : Nat) (l : List UInt8), l.length = k → l.all digB = true → numV l < 10 ^ k := by
  intro k
  induction k with
  | zero =>
    intro l hl _
    rw [List.length_eq_zero_iff] at hl
    subst hl
    decide
  | succ k ih =>
    intro l hl hd
    obtain ⟨m, c, rfl⟩ : ∃ m c, l = m ++ [c] := ⟨l.dropLast, l.getLast (by rintro rfl; simp at hl), (List.dropLast_concat_getLast _).symm⟩
    rw [List.all_append] at hd
    simp only [Bool.and_eq_true, List.all_cons, List.all_nil, and_true] at hd
    have h1 := ih m (by simpa using hl) hd.1
    have h2 := digB_bd hd.2
    rw [numV_snoc, Nat.pow_succ]
    omega
theorem dec_len19 : ∀ (k n : Nat), n < 10 ^ (k + 1) → (decDigits n).length ≤ k + 1
  | 0, n, h => by rw [decDigits_one (by omega)]; simp
  | k + 1, n, h => by
    by_cases h0 : n < 10
    · rw [decDigits_one h0]; simp
    · rw [dec_step (by omega), List.length_append]
      have := dec_len19 k (n / 10) (by rw [Nat.pow_succ] at h; omega)
      simp
      omega
theorem numR_dec (n : Nat) (h : n ≤ 1152921504606846976) : numR (decDigits n) = ((n : Int), true) := by
  have hl := dec_len19 18 n (by omega)
  have hd := dec_dig n
  have h0 : 0 < (decDigits n).length := List.length_pos_iff.2 hd.2
  unfold numR
  rw [if_neg (by omega), if_pos hd.1, numV_dec, Nat.mod_eq_of_lt (by omega), decide_eq_true h]
/-- What the reference's Parse reads. -/
def refN (t : List UInt8) : Int × Bool := numR (cutB 47 t).1
def refD (t : List UInt8) : Int × Bool := if (cutB 47 t).2.2 then numR (cutB 47 t).2.1 else (1, true)
def ngL (l : List UInt8) : Bool := l.head? == some 45
def bodR (l : List UInt8) : List UInt8 := if ngL l then l.tail else l
def sgR (g : Bool) (n : Int) : Int := if g then 0 - n else n
def refO (l : List UInt8) : Option (Int × Int) :=
  if (refN (bodR l)).2 && (refD (bodR l)).2 && fracB (sgR (ngL l) (refN (bodR l)).1) (refD (bodR l)).1 && txtL (sgR (ngL l) (refN (bodR l)).1) (refD (bodR l)).1 == l then some (sgR (ngL l) (refN (bodR l)).1, (refD (bodR l)).1) else none
theorem refO_some {l : List UInt8} {n d : Int} (h : refO l = some (n, d)) : fracB n d = true ∧ txtL n d = l := by
  unfold refO at h
  split at h
  · rename_i hh
    simp only [Option.some.injEq, Prod.mk.injEq] at h
    obtain ⟨rfl, rfl⟩ := h
    simp only [Bool.and_eq_true, beq_iff_eq] at hh
    exact ⟨hh.1.2, hh.2⟩
  · cases h
theorem refO_txt {n d : Int} (h : fracB n d = true) : refO (txtL n d) = some (n, d) := by
  have g := fracB_iff.1 h
  have key : ∃ m : Nat, m ≤ 1152921504606846976 ∧ n = sgR (ngL (txtL n d)) m ∧ bodR (txtL n d) = decDigits m ++ (if d = 1 then [] else 47 :: itoa d) := by
    by_cases hn : n < 0
    · have e : txtL n d = 45 :: (decDigits n.natAbs ++ (if d = 1 then [] else 47 :: itoa d)) := by
        unfold txtL itoa
        rw [if_pos hn]
        rfl
      refine ⟨n.natAbs, by omega, ?_, ?_⟩
      · rw [e]
        show n = 0 - (n.natAbs : Int)
        omega
      · rw [e]
        rfl
    · have e : txtL n d = decDigits n.toNat ++ (if d = 1 then [] else 47 :: itoa d) := by
        unfold txtL itoa
        rw [if_neg hn]
      have hg : ngL (txtL n d) = false := by
        have hd := dec_dig n.toNat
        rw [e]
        cases hl : decDigits n.toNat with
        | nil => exact absurd hl hd.2
        | cons c r =>
          rw [hl] at hd
          have hc := digB_bd (List.all_eq_true.1 hd.1 c (by simp))
          unfold ngL
          simp only [List.cons_append, List.head?_cons]
          have : c ≠ 45 := by rintro rfl; exact absurd hc.1 (by decide)
          simpa using this
      refine ⟨n.toNat, by omega, ?_, ?_⟩
      · rw [hg]
        show n = (n.toNat : Int)
        omega
      · unfold bodR
        rw [hg, if_neg (by simp)]
        exact e
  obtain ⟨m, hm, hs, hb⟩ := key
  have hc : cutB 47 (bodR (txtL n d)) = if d = 1 then (decDigits m, [], false) else (decDigits m, itoa d, true) := by
    rw [hb]
    split
    · rw [List.append_nil, cutB_no (dec_ne m 47 (by decide))]
    · rw [cutB_yes (dec_ne m 47 (by decide))]
  have hN : refN (bodR (txtL n d)) = ((m : Int), true) := by
    unfold refN
    rw [hc]
    split <;> exact numR_dec m hm
  have hD : refD (bodR (txtL n d)) = (d, true) := by
    unfold refD
    rw [hc]
    by_cases h1 : d = 1
    · subst h1
      rfl
    · rw [if_neg h1]
      simp only [if_true]
      have : itoa d = decDigits d.toNat := by unfold itoa; rw [if_neg (by omega)]
      rw [this, numR_dec _ (by omega)]
      congr 1
      omega
  unfold refO
  rw [hN, hD]
  simp only [← hs]
  simp [h]
theorem parO_eq (l : List UInt8) : parO l = refO l := by
  cases h : parO l with
  | some x =>
    obtain ⟨n, d⟩ := x
    obtain ⟨h1, h2⟩ := parO_some h
    rw [← h2, refO_txt h1]
  | none =>
    cases h' : refO l with
    | none => rfl
    | some x =>
      obtain ⟨n, d⟩ := x
      obtain ⟨h1, h2⟩ := refO_some h'
      rw [← h2, parO_txt h1] at h
      cases h
theorem parO_iff (l : List UInt8) (n d : Int) : parO l = some (n, d) ↔ fracB n d = true ∧ txtL n d = l :=
  ⟨parO_some, fun ⟨h1, h2⟩ => by rw [← h2]; exact parO_txt h1⟩

end Go.Proofs.YtpijmjffobkalaaDoor
