/- Plain: two ways of reading decimal texts are one. No program in sight. -/
import Derived.Test.YtdbgfeeglnpobaaDoorMPar
import Derived.Test.YtdbgfeeglnpobaaDoorDcR
set_option linter.unusedVariables false
namespace Go.Proofs.YtdbgfeeglnpobaaDoor
open Go.Lib

/-- What lies behind the byte behind the first digits. -/
def rpPart (T : List UInt8) : List UInt8 := T.drop (runL isDig T + 1)
def rpBad (T : List UInt8) (k : Nat) : Bool :=
  (decide (runL isDig T < T.length) && (!decide ((T.getD (runL isDig T) 0).toNat = 46) || (rpPart T).isEmpty || decide (k < (rpPart T).length))) || !(rpPart T).all isDig || (T.take (runL isDig T)).isEmpty || (decide (1 < runL isDig T) && decide ((T.headD 0).toNat = 48))
def rpX (T : List UInt8) (k : Nat) : List UInt8 := T.take (runL isDig T) ++ rpPart T ++ List.replicate (k - (rpPart T).length) 48
theorem runL_at {p : UInt8 → Bool} : ∀ (l : List UInt8), runL p l < l.length → p (l.getD (runL p l) 0) = false
  | [], h => by simp at h
  | c :: l, h => by
    rw [runL_cons] at h ⊢
    cases hc : p c
    · rw [if_neg (by simp)]
      exact hc
    · rw [hc, if_pos rfl] at h
      rw [if_pos rfl]
      have := runL_at l (by simp at h; omega)
      simpa using this
theorem runL_mono {p q : UInt8 → Bool} (h : ∀ c, p c = true → q c = true) : ∀ l : List UInt8, runL p l ≤ runL q l
  | [] => Nat.le_refl _
  | c :: l => by
    rw [runL_cons, runL_cons]
    have := runL_mono h l
    cases hp : p c
    · simp
    · rw [h c hp]
      simpa using this
theorem runL_before {p : UInt8 → Bool} : ∀ (l : List UInt8) (i : Nat), i < runL p l → p (l.getD i 0) = true
  | [], i, h => by simp [runL] at h
  | c :: l, i, h => by
    rw [runL_cons] at h
    cases hp : p c
    · rw [hp] at h; simp at h
    · rw [hp, if_pos rfl] at h
      cases i with
      | zero => exact hp
      | succ i => simpa using runL_before l i (by omega)
theorem runL_all {p : UInt8 → Bool} : ∀ l : List UInt8, (l.take (runL p l)).all p = true
  | [] => rfl
  | c :: l => by
    rw [runL_cons]
    cases hp : p c
    · simp
    · rw [if_pos rfl, List.take_succ_cons, List.all_cons, hp, runL_all l]
      rfl
theorem runL_take {p : UInt8 → Bool} : ∀ (l : List UInt8) (n : Nat), (l.take n).all p = true → n ≤ l.length → n ≤ runL p l
  | [], n, _, h => by
    have : n = 0 := by simpa using h
    subst this
    exact Nat.zero_le _
  | c :: l, 0, _, _ => Nat.zero_le _
  | c :: l, n + 1, h, hn => by
    simp only [List.take_succ_cons, List.all_cons, Bool.and_eq_true] at h
    rw [runL_cons, if_pos h.1]
    have := runL_take l n h.2 (by simpa using hn)
    omega
def ne46 (c : UInt8) : Bool := decide (c.toNat ≠ 46)
theorem idx_dot (l : List UInt8) : (indexByte l 46 = -1 ∧ runL ne46 l = l.length) ∨ (indexByte l 46 = (runL ne46 l : Int) ∧ runL ne46 l < l.length) := by
  induction l with
  | nil => exact .inl ⟨rfl, rfl⟩
  | cons c l ih =>
    rw [runL_cons]
    unfold indexByte
    cases h : c == 46
    · have hc : ne46 c = true := by
        have : ¬ c = 46 := by simpa using h
        have : ¬ c.toNat = 46 := fun e => this (UInt8.toNat_inj.1 e)
        simpa [ne46] using this
      rw [hc, if_neg (by simp), if_pos rfl]
      rcases ih with ⟨h1, h2⟩ | ⟨h1, h2⟩
      · left
        rw [h1, h2]
        exact ⟨rfl, by simp⟩
      · right
        rw [h1, if_neg (by simp <;> omega)]
        simp only [List.length_cons]
        omega
    · have hc : c = 46 := by simpa using h
      subst hc
      right
      rw [if_pos rfl, if_neg (by decide)]
      exact ⟨rfl, by simp⟩
theorem head_take {l : List UInt8} {n : Nat} (h : 0 < n) : (l.take n).headD 0 = l.headD 0 := by
  cases l with
  | nil => simp
  | cons c l => cases n with
    | zero => omega
    | succ n => rfl
theorem rp_same (T : List UInt8) (k : Nat) : badP (cutD T).1 (cutD T).2.1 (cutD T).2.2 k = rpBad T k ∧ (rpBad T k = false → (cutD T).1 ++ (cutD T).2.1 ++ List.replicate (k - (cutD T).2.1.length) 48 = rpX T k) := by
  have hm : runL isDig T ≤ runL ne46 T := runL_mono (fun c hc => by
    have := isDig_bd hc
    simp [ne46]; omega) T
  have hl := runL_le isDig T
  have hat := runL_at (p := isDig) T
  have hall := runL_all (p := isDig) T
  unfold rpBad rpX rpPart
  unfold cutD
  rcases idx_dot T with ⟨h1, h2⟩ | ⟨h1, h2⟩
  · rw [if_pos (by rw [h1]; decide)]
    rw [h2] at hm
    by_cases ha : runL isDig T = T.length
    · rw [ha] at hall ⊢
      rw [List.take_length] at hall ⊢
      rw [List.drop_of_length_le (by omega)]
      refine ⟨?_, fun _ => rfl⟩
      unfold badP allD
      rw [hall]
      simp
    · have hlt : runL isDig T < T.length := by omega
      have h3 := hat hlt
      have h4 := runL_before (p := ne46) T (runL isDig T) (by rw [h2]; exact hlt)
      have h5 : ¬ (T.getD (runL isDig T) 0).toNat = 46 := by simpa [ne46] using h4
      have e1 : rpBad T k = true := by
        unfold rpBad
        rw [decide_eq_true hlt, decide_eq_false h5]
        simp
      have e2 : allD T = false := by
        cases hh : allD T
        · rfl
        · exfalso
          have := runL_take (p := isDig) T T.length (by rw [List.take_length]; exact allD_all hh) (Nat.le_refl _)
          omega
      unfold rpBad rpPart at e1
      rw [e1]
      refine ⟨?_, fun h => by simp at h⟩
      unfold badP
      rw [e2]
      simp
  · rw [if_neg (by rw [h1]; omega)]
    rw [h1, Int.toNat_natCast]
    have h46 := runL_at (p := ne46) T h2
    generalize hd : runL ne46 T = d at *
    by_cases ha : runL isDig T = d
    · rw [ha] at hall ⊢
      have hp : (T.getD d 0).toNat = 46 := by simpa [ne46] using h46
      rw [decide_eq_true h2, decide_eq_true hp]
      refine ⟨?_, fun _ => rfl⟩
      unfold badP allD
      dsimp only
      rw [hall, List.length_take, Nat.min_eq_left (by omega)]
      by_cases hd0 : 1 < d
      · rw [head_take (by omega)]
        cases (T.take d).isEmpty <;> cases decide ((T.headD 0).toNat = 48) <;> cases (T.drop (d + 1)).isEmpty <;> cases (T.drop (d + 1)).all isDig <;> cases decide (k < (T.drop (d + 1)).length) <;> simp [hd0]
      · rw [decide_eq_false hd0]
        cases (T.take d).isEmpty <;> cases (T.drop (d + 1)).isEmpty <;> cases (T.drop (d + 1)).all isDig <;> cases decide (k < (T.drop (d + 1)).length) <;> simp
    · have hlt : runL isDig T < d := by omega
      have h4 := runL_before (p := ne46) T (runL isDig T) (by rw [hd]; exact hlt)
      have h5 : ¬ (T.getD (runL isDig T) 0).toNat = 46 := by simpa [ne46] using h4
      have e1 : rpBad T k = true := by
        unfold rpBad
        rw [decide_eq_true (show runL isDig T < T.length by omega), decide_eq_false h5]
        simp
      have e2 : allD (T.take d) = false := by
        cases hh : allD (T.take d)
        · rfl
        · exfalso
          have := runL_take (p := isDig) T d (allD_all hh) (by omega)
          omega
      unfold rpBad rpPart at e1
      rw [e1]
      refine ⟨?_, fun h => by simp at h⟩
      unfold badP
      dsimp only
      rw [e2]
      simp
theorem parS_ref (l : List UInt8) (k : Nat) : parS l k = if rpBad (trimPrefix l [45]) k then (0, 7) else parV (hasPrefix l [45]) (rpX (trimPrefix l [45]) k) := by
  have h := rp_same (trimPrefix l [45]) k
  unfold parS
  dsimp only
  rw [h.1]
  cases hb : rpBad (trimPrefix l [45]) k
  · rw [if_neg (by simp), if_neg (by simp), h.2 hb]
  · rfl
end Go.Proofs.YtdbgfeeglnpobaaDoor
