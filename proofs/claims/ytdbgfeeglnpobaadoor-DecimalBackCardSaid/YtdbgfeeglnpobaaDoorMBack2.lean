/- Plain: texts are those of their numbers. No program in sight. -/
import Derived.Test.YtdbgfeeglnpobaaDoorMBack
set_option linter.unusedVariables false
namespace Go.Proofs.YtdbgfeeglnpobaaDoor
open Go.Lib

/-- A text has all digits: none are asked for, or as many stand behind the point. -/
def fullB (l : List UInt8) (k : Nat) : Bool := decide (k = 0) || (decide (0 ≤ indexByte l 46) && decide ((l.length : Int) - indexByte l 46 - 1 = k))
theorem pre_split (l : List UInt8) : l = (if hasPrefix l [45] then [45] else []) ++ trimPrefix l [45] := by
  unfold trimPrefix
  cases h : hasPrefix l [45]
  · rfl
  · cases l with
    | nil => simp [hasPrefix, List.isPrefixOf] at h
    | cons c r =>
      simp only [hasPrefix, List.isPrefixOf, Bool.and_true] at h
      have : (45 : UInt8) = c := by simpa using h
      subst this
      rfl
/-- The index of the point, with a sign ahead or not. -/
theorem idx_sgn (b : Bool) (T : List UInt8) : (indexByte T 46 < 0 → indexByte ((if b then [45] else []) ++ T) 46 < 0) ∧ (0 ≤ indexByte T 46 → indexByte ((if b then [45] else []) ++ T) 46 = indexByte T 46 + (if b then 1 else 0)) := by
  cases b
  · exact ⟨fun h => h, fun h => (Int.add_zero _).symm⟩
  · have hg := indexByte_ge T 46
    show (_ → indexByte (45 :: T) 46 < 0) ∧ (_ → indexByte (45 :: T) 46 = indexByte T 46 + 1)
    have e : indexByte (45 :: T) 46 = if indexByte T 46 == -1 then -1 else indexByte T 46 + 1 := rfl
    rw [e]
    refine ⟨fun h => ?_, fun h => ?_⟩
    · rw [if_pos (by simp; omega)]; decide
    · rw [if_neg (by simp; omega)]
/-- What a good text has. -/
theorem good_parts {wh pt : List UInt8} {po : Bool} {k : Nat} (hp : po = false → pt = []) (h : badP wh pt po k = false) :
    wh ≠ [] ∧ wh.all isDig = true ∧ pt.all isDig = true ∧ pt.length ≤ k ∧ (po = true → pt ≠ []) ∧ (wh.length = 1 ∨ ¬ (wh.headD 0).toNat = 48) := by
  unfold badP at h
  simp only [Bool.or_eq_false_iff] at h
  have h1 : allD wh = true := by simpa using h.1.1
  have hw : wh ≠ [] := by
    intro e
    subst e
    simp [allD] at h1
  have h3 := h.1.2
  refine ⟨hw, allD_all h1, ?_, ?_, ?_, ?_⟩
  · cases po
    · rw [hp rfl]; rfl
    · have h4 := h.2
      simp only [Bool.true_and, Bool.or_eq_false_iff] at h4
      exact allD_all (by simpa using h4.1)
  · cases po
    · rw [hp rfl]; exact Nat.zero_le _
    · have h4 := h.2
      simp only [Bool.true_and, Bool.or_eq_false_iff, decide_eq_false_iff_not] at h4
      omega
  · intro hpo e
    subst hpo e
    have h4 := h.2
    simp [allD] at h4
  · by_cases hl : 1 < wh.length
    · right
      rw [decide_eq_true hl, Bool.true_and] at h3
      exact of_decide_eq_false h3
    · left
      cases wh with
      | nil => exact absurd rfl hw
      | cons c r => simp only [List.length_cons] at hl ⊢; omega
theorem parV_ok {neg : Bool} {X : List UInt8} {v : Int} (hd : X.all isDig = true) (h : parV neg X = (v, 0)) : valD X 0 ≤ 1152921504606846976 ∧ v = (if neg then -((valD X 0 : Nat) : Int) else ((valD X 0 : Nat) : Int)) := by
  unfold parV at h
  rw [accP_val X 0 hd (by omega)] at h
  by_cases hB : valD X 0 ≤ 1152921504606846976
  · rw [if_pos hB] at h
    simp only [Prod.mk.injEq] at h
    exact ⟨hB, h.1.symm⟩
  · rw [if_neg hB] at h
    simp at h
theorem parV_err {neg : Bool} {X : List UInt8} {v e : Int} (h : parV neg X = (v, e)) (he : e ≠ 0) : v = 0 := by
  unfold parV at h
  split at h
  · simp only [Prod.mk.injEq] at h; exact h.1.symm
  · simp only [Prod.mk.injEq] at h; exact absurd h.2.symm he
theorem parS_err {l : List UInt8} {k : Nat} {v e : Int} (h : parS l k = (v, e)) (he : e ≠ 0) : v = 0 := by
  unfold parS at h
  dsimp only at h
  split at h
  · simp only [Prod.mk.injEq] at h; exact h.1.symm
  · exact parV_err h he
/-- The sign and the number. -/
theorem sgn_back (neg : Bool) (m k : Nat) (l : List UInt8) (hl : l = (if neg then [45] else []) ++ bodL m k) (v : Int) (hv : v = if neg then -(m : Int) else (m : Int)) : fmtL v k = l ∨ v = 0 ∧ 45 :: fmtL v k = l := by
  rw [fmt_bod]
  cases neg
  · left
    have h1 : v = (m : Int) := hv
    rw [if_neg (by omega), show v.natAbs = m from by omega, hl]
    rfl
  · have h1 : v = -(m : Int) := hv
    rcases Nat.eq_zero_or_pos m with h | h
    · right
      subst h
      refine ⟨by omega, ?_⟩
      rw [if_neg (by omega), show v.natAbs = 0 from by omega, hl]
      rfl
    · left
      rw [if_pos (by omega), show v.natAbs = m from by omega, hl]
      rfl
/-- What is read is the number of its text. -/
theorem par_back {l : List UInt8} {k : Nat} {v : Int} (h : parS l k = (v, 0)) : (-1152921504606846976 ≤ v ∧ v ≤ 1152921504606846976) ∧ (fullB l k = true → fmtL v k = l ∨ v = 0 ∧ 45 :: fmtL v k = l) := by
  have hsp := pre_split l
  have hno := cutD_no (trimPrefix l [45])
  unfold parS at h
  dsimp only at h
  generalize hneg : hasPrefix l [45] = neg at *
  generalize hT : trimPrefix l [45] = T at *
  rcases hc : cutD T with ⟨wh, pt, po⟩
  rw [hc] at h hno
  dsimp only at h hno
  cases hb : badP wh pt po k
  · rw [hb, if_neg (by simp)] at h
    obtain ⟨g1, g2, g3, g4, g5, g6⟩ := good_parts hno hb
    have hX : (wh ++ pt ++ List.replicate (k - pt.length) 48).all isDig = true := by rw [List.all_append, List.all_append, g2, g3, rep_dig]; rfl
    obtain ⟨hB, hv⟩ := parV_ok hX h
    refine ⟨?_, fun hf => ?_⟩
    · cases neg
      · have : v = ((valD (wh ++ pt ++ List.replicate (k - pt.length) 48) 0 : Nat) : Int) := hv
        omega
      · have : v = -((valD (wh ++ pt ++ List.replicate (k - pt.length) 48) 0 : Nat) : Int) := hv
        omega
    · have hw1 : 1 ≤ wh.length := by
        cases wh with
        | nil => exact absurd rfl g1
        | cons c r => simp
      have hidx := idx_sgn neg T
      rw [← hsp] at hidx
      unfold cutD at hc
      by_cases hi : indexByte T 46 < 0
      · rw [if_pos hi] at hc
        simp only [Prod.mk.injEq] at hc
        obtain ⟨e1, e2, e3⟩ := hc
        subst e1 e2 e3
        have hk : k = 0 := by
          unfold fullB at hf
          have := hidx.1 hi
          rw [decide_eq_false (show ¬ 0 ≤ indexByte l 46 by omega)] at hf
          simpa using hf
        subst hk
        refine sgn_back neg (valD T 0) 0 l ?_ v ?_
        · show l = _ ++ decDigits (valD T 0)
          have := pad_val (L := T) (m := 1) g2 (Nat.le_refl _) hw1 g6
          rw [pad_one] at this
          rw [this]
          exact hsp
        · rw [hv, show T ++ [] ++ List.replicate (0 - ([] : List UInt8).length) 48 = T from by simp]
      · rw [if_neg hi] at hc
        simp only [Prod.mk.injEq] at hc
        obtain ⟨e1, e2, e3⟩ := hc
        subst e3
        have hpne := g5 rfl
        have hp1 : 1 ≤ pt.length := by
          cases pt with
          | nil => exact absurd rfl hpne
          | cons c r => simp
        have hk : ¬ k = 0 := by omega
        obtain ⟨d, hd⟩ : ∃ d : Nat, indexByte T 46 = (d : Int) := ⟨(indexByte T 46).toNat, by omega⟩
        have hdl := idx_bd T 46
        rw [hd, Int.toNat_natCast] at e1 e2
        rw [hd] at hdl
        have hdl' : d < T.length := by omega
        have hl2 := hidx.2 (by omega)
        have hpk : pt.length = k := by
          unfold fullB at hf
          rw [decide_eq_false hk, Bool.false_or] at hf
          simp only [Bool.and_eq_true, decide_eq_true_eq] at hf
          have hlen := congrArg List.length hsp
          rw [List.length_append] at hlen
          have hpl := congrArg List.length e2
          rw [List.length_drop] at hpl
          rw [hl2, hd] at hf
          cases neg
          · simp at hlen hf
            omega
          · simp at hlen hf
            omega
        have hT2 : T = wh ++ 46 :: pt := by
          have ht := (List.take_append_drop d T).symm
          rw [e1] at ht
          rw [List.drop_eq_getElem_cons hdl', e2] at ht
          have h46 : T[d] = 46 := by
            have := idx_dot T
            rcases this with ⟨x, _⟩ | ⟨x, y⟩
            · rw [x] at hd; omega
            · have hdd : runL ne46 T = d := by omega
              have z := runL_at (p := ne46) T y
              rw [hdd] at z
              have z2 : (T.getD d 0).toNat = 46 := by simpa [ne46] using z
              rw [List.getD, List.getElem?_eq_getElem hdl', Option.getD_some] at z2
              exact UInt8.toNat_inj.1 z2
          rw [h46] at ht
          exact ht
        have hL : (wh ++ pt).all isDig = true := by rw [List.all_append, g2, g3]; rfl
        have hpv := pad_val (L := wh ++ pt) (m := k + 1) hL (by omega) (by rw [List.length_append]; omega) (by
          rcases g6 with g | g
          · left; rw [List.length_append]; omega
          · right
            cases wh with
            | nil => exact absurd rfl g1
            | cons c r => exact g)
        refine sgn_back neg (valD (wh ++ pt) 0) k l ?_ v ?_
        · unfold bodL
          rw [if_neg hk, hpv, List.length_append, show wh.length + pt.length - k = wh.length from by omega, List.take_left', List.drop_left', ← hT2]
          · exact hsp
          · rfl
          · rfl
        · rw [hv, show k - pt.length = 0 from by omega, List.replicate_zero, List.append_nil]
  · rw [hb, if_pos rfl] at h
    simp at h
end Go.Proofs.YtdbgfeeglnpobaaDoor
