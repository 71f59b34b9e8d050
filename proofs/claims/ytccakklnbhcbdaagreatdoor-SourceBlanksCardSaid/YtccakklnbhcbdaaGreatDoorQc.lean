/- Joined for the hand-in: sMSpl, sMJoi. -/
import Derived.Test.YtccakklnbhcbdaaGreatDoorQa
import Derived.Lib.Bytealg
import Derived.Lib.LaidTab
import Derived.Lib.SplitLaws
import Derived.Test.YtccakklnbhcbdaaGreatDoorQb

/- Plain: a text parted at a byte; strings.Split's words are those. -/
set_option linter.unusedVariables false
namespace Go.Proofs.YtccakklnbhcbdaaGreatDoor
open Go.ChangeShapes Go.WideShapes Go.ChangeAt Go.RowKit

open Go.Lib (indexByte)
def noB (c : UInt8) (l : List UInt8) : Prop := ∀ b ∈ l, b ≠ c
theorem noB_nil (c : UInt8) : noB c [] := fun _ h => by cases h
theorem noB_app {c : UInt8} {a b : List UInt8} : noB c (a ++ b) ↔ noB c a ∧ noB c b := by
  unfold noB
  constructor
  · exact fun h => ⟨fun x hx => h x (List.mem_append_left _ hx), fun x hx => h x (List.mem_append_right _ hx)⟩
  · rintro ⟨h1, h2⟩ x hx
    rcases List.mem_append.1 hx with q | q
    · exact h1 x q
    · exact h2 x q
theorem noB_cons {c b : UInt8} {l : List UInt8} : noB c (b :: l) ↔ b ≠ c ∧ noB c l := by
  unfold noB
  simp
def splitB (c : UInt8) : List UInt8 → List (List UInt8)
  | [] => [[]]
  | b :: l => if b = c then [] :: splitB c l else match splitB c l with | w :: ws => (b :: w) :: ws | [] => [[b]]
theorem splitB_ne (c : UInt8) (l : List UInt8) : splitB c l ≠ [] := by
  cases l with
  | nil => simp [splitB]
  | cons b l => unfold splitB; split; simp; split <;> simp
theorem splitB_no {c : UInt8} : ∀ {l : List UInt8}, noB c l → splitB c l = [l]
  | [], _ => rfl
  | b :: l, h => by
    unfold splitB
    rw [if_neg (noB_cons.1 h).1, splitB_no (noB_cons.1 h).2]
theorem splitB_at {c : UInt8} : ∀ {a : List UInt8} (l : List UInt8), noB c a → splitB c (a ++ c :: l) = a :: splitB c l
  | [], l, _ => by
    show splitB c (c :: l) = _
    rw [splitB, if_pos rfl]
  | b :: a, l, h => by
    show splitB c (b :: (a ++ c :: l)) = _
    rw [splitB.eq_2, if_neg (noB_cons.1 h).1, splitB_at l (noB_cons.1 h).2]
theorem splitB_back {c : UInt8} : ∀ {l a : List UInt8} {ws : List (List UInt8)}, splitB c l = a :: ws → noB c a ∧ ((ws = [] ∧ l = a) ∨ ∃ r, ws = splitB c r ∧ l = a ++ c :: r)
  | [], a, ws, h => by
    simp only [splitB, List.cons.injEq] at h
    obtain ⟨rfl, rfl⟩ := h
    exact ⟨noB_nil _, .inl ⟨rfl, rfl⟩⟩
  | b :: l, a, ws, h => by
    unfold splitB at h
    split at h
    · rename_i hb
      simp only [List.cons.injEq] at h
      obtain ⟨rfl, rfl⟩ := h
      exact ⟨noB_nil _, .inr ⟨l, rfl, by rw [hb]; rfl⟩⟩
    · rename_i hb
      split at h
      · rename_i w ws' hs
        simp only [List.cons.injEq] at h
        obtain ⟨rfl, rfl⟩ := h
        obtain ⟨h1, h2⟩ := splitB_back hs
        refine ⟨noB_cons.2 ⟨hb, h1⟩, ?_⟩
        rcases h2 with ⟨q1, q2⟩ | ⟨r, q1, q2⟩
        · exact .inl ⟨q1, by rw [q2]⟩
        · exact .inr ⟨r, q1, by rw [q2]; rfl⟩
      · rename_i hs
        exact absurd hs (splitB_ne _ _)
theorem noB_all {c : UInt8} {l : List UInt8} (h : noB c l) : (l.all fun b => b != c) = true := by
  rw [List.all_eq_true]
  intro b hb
  simpa using h b hb
theorem idxs_in (c : UInt8) : ∀ (l m : List UInt8), noB c l → indexByte (l ++ c :: m) c = (l.length : Int)
  | [], m, _ => by simp [indexByte]
  | b :: l, m, h => by
    have hb : (b == c) = false := by simpa using (noB_cons.1 h).1
    show indexByte (b :: (l ++ c :: m)) c = _
    unfold indexByte
    rw [hb, idxs_in c l m (noB_cons.1 h).2, if_neg (by simp), if_neg (by simp <;> omega)]
    simp only [List.length_cons]
    omega
theorem idxs_no (c : UInt8) : ∀ (l : List UInt8), noB c l → indexByte l c = -1
  | [], _ => rfl
  | b :: l, h => by
    have hb : (b == c) = false := by simpa using (noB_cons.1 h).1
    unfold indexByte
    rw [hb, idxs_no c l (noB_cons.1 h).2]
    simp
/-- What strings.Split hands back at a separator of one byte. -/
theorem split_by (c : UInt8) : ∀ (k : Nat) (s : ByteArray), Lib.countB s ⟨#[c]⟩ = k → (Lib.splitB ⟨#[c]⟩ 0 k s).map by_ = splitB c (by_ s) := by
  have key : ∀ s : ByteArray, (noB c (by_ s) ∧ Lib.indexB s ⟨#[c]⟩ = -1) ∨ ∃ a r, noB c a ∧ by_ s = a ++ c :: r ∧ Lib.indexB s ⟨#[c]⟩ = (a.length : Int) := by
    intro s
    have e0 : Lib.indexB s ⟨#[c]⟩ = indexByte (by_ s) c := Lib.index_one _ _
    cases hs : splitB c (by_ s) with
    | nil => exact absurd hs (splitB_ne _ _)
    | cons a ws =>
      obtain ⟨ha, ⟨_, h2⟩ | ⟨r, _, h2⟩⟩ := splitB_back hs
      · rw [← h2] at ha
        exact .inl ⟨ha, by rw [e0]; exact idxs_no c _ ha⟩
      · exact .inr ⟨a, r, ha, h2, by rw [e0, h2]; exact idxs_in c a r ha⟩
  have one : (⟨#[c]⟩ : ByteArray).size = 1 := rfl
  intro k
  induction k with
  | zero =>
    intro s hk
    rcases key s with ⟨h1, _⟩ | ⟨a, r, h1, h2, h3⟩
    · rw [Lib.splitB_zero, splitB_no h1]
      rfl
    · have := Lib.countB_hit s ⟨#[c]⟩ a.length (by rw [one]; decide) h3
      omega
  | succ k ih =>
    intro s hk
    rcases key s with ⟨_, h2⟩ | ⟨a, r, h1, h2, h3⟩
    · rw [Lib.countB_miss s ⟨#[c]⟩ h2] at hk
      omega
    · have hc := Lib.countB_hit s ⟨#[c]⟩ a.length (by rw [one]; decide) h3
      have e1 : by_ (s.extract 0 (a.length + 0)) = a := by
        show (s.extract 0 (a.length + 0)).data.toList = a
        rw [Lib.extract_data, show s.data.toList = a ++ c :: r from h2]
        simp
      have e2 : by_ (s.extract (a.length + (⟨#[c]⟩ : ByteArray).size) s.size) = r := by
        show (s.extract (a.length + (⟨#[c]⟩ : ByteArray).size) s.size).data.toList = r
        rw [Lib.extract_data, show s.data.toList = a ++ c :: r from h2, one]
        have hz : s.size = a.length + (r.length + 1) := by
          have := congrArg List.length h2
          rw [by_len] at this
          simpa using this
        have hd : (a ++ c :: r).drop (a.length + 1) = r := by
          rw [show a ++ c :: r = (a ++ [c]) ++ r by simp, List.drop_left' (by simp)]
        rw [hz, hd, List.take_of_length_le (by omega)]
      rw [Lib.splitB_hit ⟨#[c]⟩ 0 k s a.length h3, List.map_cons, e1, ih _ (by omega), e2, h2, splitB_at r h1]
/-- The line in which a place lies. -/
theorem split_line {c : UInt8} : ∀ (a u l : List UInt8), (a = [] ∨ ∃ b, a = b ++ [c]) → noB c u → (splitB c (a ++ (u ++ l)))[a.count c]? = some (u ++ l.takeWhile (· != c)) := by
  have base : ∀ (u l : List UInt8), noB c u → (splitB c (u ++ l))[0]? = some (u ++ l.takeWhile (· != c)) := by
    intro u l hu
    by_cases hl : noB c l
    · rw [splitB_no (noB_app.2 ⟨hu, hl⟩)]
      have : l.takeWhile (· != c) = l := by
        have q := List.takeWhile_append_of_pos (p := (· != c)) (l₁ := l) (l₂ := []) (fun x hx => by simpa using hl x hx)
        simpa using q
      rw [this]
      rfl
    · obtain ⟨p, r, hp, rfl⟩ : ∃ p r, noB c p ∧ l = p ++ c :: r := by
        cases hs : splitB c l with
        | nil => exact absurd hs (splitB_ne _ _)
        | cons p ws =>
          obtain ⟨h1, ⟨_, h2⟩ | ⟨r, _, h2⟩⟩ := splitB_back hs
          · rw [h2] at hl; exact absurd h1 hl
          · exact ⟨p, r, h1, h2⟩
      rw [← List.append_assoc, splitB_at r (noB_app.2 ⟨hu, hp⟩)]
      have : (p ++ c :: r).takeWhile (· != c) = p := by
        rw [List.takeWhile_append_of_pos (fun x hx => by simpa using hp x hx)]
        simp
      rw [this]
      rfl
  intro a
  induction hn : a.length using Nat.strongRecOn generalizing a with
  | _ n ih =>
    intro u l ha hu
    rcases ha with rfl | ⟨b, rfl⟩
    · exact base u l hu
    · cases hs : splitB c (b ++ [c]) with
      | nil => exact absurd hs (splitB_ne _ _)
      | cons p ws =>
        obtain ⟨h1, ⟨_, h2⟩ | ⟨r, _, h2⟩⟩ := splitB_back hs
        · rw [← h2, noB_app, noB_cons] at h1
          exact absurd rfl h1.2.1
        · have hr : r = [] ∨ ∃ d, r = d ++ [c] := by
            rcases List.eq_nil_or_concat r with q | ⟨d, e, q⟩
            · exact .inl q
            · rw [List.concat_eq_append] at q
              subst q
              have h3 : b ++ [c] = (p ++ c :: d) ++ [e] := by rw [h2]; simp
              have := List.append_inj_right' h3 (by simp)
              simp only [List.cons.injEq, and_true] at this
              exact .inr ⟨d, by rw [this]⟩
          rw [h2]
          have e1 : p ++ c :: r ++ (u ++ l) = p ++ c :: (r ++ (u ++ l)) := by simp
          have e2 : (p ++ c :: r).count c = r.count c + 1 := by
            rw [List.count_append, List.count_cons, List.count_eq_zero.2 (fun hm => h1 c hm rfl)]
            simp
          rw [e1, splitB_at _ h1, e2, List.getElem?_cons_succ]
          refine ih r.length ?_ r rfl u l hr hu
          rw [← hn, h2]
          simp
          omega

theorem splitB_len (c : UInt8) : ∀ (l : List UInt8), (splitB c l).length ≤ l.length + 1
  | [] => by simp [splitB]
  | b :: l => by
    have ih := splitB_len c l
    unfold splitB
    split
    · simp; omega
    · split
      · rename_i h
        rw [h] at ih
        simp at ih ⊢
        omega
      · simp
theorem splitB_mem (c : UInt8) : ∀ (l : List UInt8), ∀ x ∈ splitB c l, x.length ≤ l.length
  | [], x, hx => by
    simp [splitB] at hx
    simp [hx]
  | b :: l, x, hx => by
    have ih := splitB_mem c l
    unfold splitB at hx
    split at hx
    · rcases List.mem_cons.1 hx with rfl | q
      · simp
      · have := ih x q
        simp; omega
    · split at hx
      · rename_i h
        rw [h] at ih
        rcases List.mem_cons.1 hx with rfl | q
        · have := ih _ (List.mem_cons_self ..)
          simp
          omega
        · have := ih x (List.mem_cons_of_mem _ q)
          simp; omega
      · simp at hx
        simp [hx]

end Go.Proofs.YtccakklnbhcbdaaGreatDoor

/- Plain: the tokens of a text, where they stand, and what their texts with spaces between them give. -/
set_option linter.unusedVariables false
namespace Go.Proofs.YtccakklnbhcbdaaGreatDoor

/-- The tokens alone. -/
def tokG : Nat → List UInt8 → Int → Int → Option (List Tk)
  | 0, _, line, col => some [⟨5, [], line, col⟩]
  | f + 1, l, line, col =>
    if l = [] then some [⟨5, [], line, col⟩]
    else if (nextL l).1 < 0 then none
    else if (nextL l).1 = 4 then (tokG f (l.drop 1) (line + 1) 1).map (⟨4, [], line, col⟩ :: ·)
    else if (nextL l).1 = 0 then tokG f (l.drop (nextL l).2) line (col + (nextL l).2)
    else (tokG f (l.drop (nextL l).2) line (col + (nextL l).2)).map (⟨(nextL l).1, l.take (nextL l).2, line, col⟩ :: ·)
theorem tokF_G : ∀ (f : Nat) (l : List UInt8) (line col : Int) (acc : List Tk), (∃ ts, tokG f l line col = some ts ∧ tokF f l line col acc = (acc ++ ts, (0, 0), 0)) ∨ (tokG f l line col = none ∧ ∃ p, tokF f l line col acc = ([], p, 7))
  | 0, l, line, col, acc => .inl ⟨_, rfl, rfl⟩
  | f + 1, l, line, col, acc => by
    unfold tokG tokF
    by_cases h0 : l = []
    · rw [if_pos h0, if_pos h0]
      exact .inl ⟨_, rfl, rfl⟩
    rw [if_neg h0, if_neg h0]
    by_cases h1 : (nextL l).1 < 0
    · rw [if_pos h1, if_pos h1]
      exact .inr ⟨rfl, _, rfl⟩
    rw [if_neg h1, if_neg h1]
    by_cases h2 : (nextL l).1 = 4
    · rw [if_pos h2, if_pos h2]
      rcases tokF_G f (l.drop 1) (line + 1) 1 (acc ++ [⟨4, [], line, col⟩]) with ⟨ts, q1, q2⟩ | ⟨q1, p, q2⟩
      · exact .inl ⟨_, by rw [q1]; rfl, by rw [q2]; simp⟩
      · exact .inr ⟨by rw [q1]; rfl, p, q2⟩
    rw [if_neg h2, if_neg h2]
    by_cases h3 : (nextL l).1 = 0
    · rw [if_pos h3, if_pos h3]
      exact tokF_G f _ _ _ acc
    rw [if_neg h3, if_neg h3]
    rcases tokF_G f (l.drop (nextL l).2) line (col + (nextL l).2) (acc ++ [⟨(nextL l).1, l.take (nextL l).2, line, col⟩]) with ⟨ts, q1, q2⟩ | ⟨q1, p, q2⟩
    · exact .inl ⟨_, by rw [q1]; rfl, by rw [q2]; simp⟩
    · exact .inr ⟨by rw [q1]; rfl, p, q2⟩
/-- The text of a token in a line with spaces. -/
def txT (t : Tk) : List UInt8 := if t.kind = 4 then [10] else t.text
def joinT : List Tk → List UInt8
  | [] => []
  | [t] => txT t
  | t :: r => txT t ++ 32 :: joinT r
/-- A token that stands by itself before a space. -/
def GoodT (t : Tk) : Prop := (t.kind = 4 ∧ t.text = []) ∨ (1 ≤ t.kind ∧ t.kind ≤ 3 ∧ t.text ≠ [] ∧ noB 10 t.text ∧ ∀ rest, nextL (t.text ++ 32 :: rest) = (t.kind, t.text.length))
theorem isWrd_32 : isWrd 32 = false := by decide
theorem isDig_32 : isDig 32 = false := by decide
theorem runL_all {p : UInt8 → Bool} {a : List UInt8} (h : a.all p = true) (c : UInt8) (hc : p c = false) (r : List UInt8) : runL p (a ++ c :: r) = a.length := by
  unfold runL
  rw [List.takeWhile_append_of_pos (fun x hx => List.all_eq_true.1 h x hx)]
  simp [hc]
theorem take_run (p : UInt8 → Bool) (l : List UInt8) : l.take (runL p l) = l.takeWhile p := by
  unfold runL
  exact (List.prefix_iff_eq_take.1 (List.takeWhile_prefix p)).symm
theorem all_run (p : UInt8 → Bool) (l : List UInt8) : (l.take (runL p l)).all p = true := by
  rw [take_run]
  exact List.all_takeWhile
theorem len_run (p : UInt8 → Bool) (l : List UInt8) : (l.take (runL p l)).length = runL p l := by
  rw [List.length_take]
  have := runL_le p l
  omega
theorem nextL_kind (l : List UInt8) : (nextL l).1 = -1 ∨ (nextL l).1 = 0 ∨ (nextL l).1 = 1 ∨ (nextL l).1 = 2 ∨ (nextL l).1 = 3 ∨ (nextL l).1 = 4 := by
  unfold nextL
  dsimp only
  split
  · exact .inr (.inl rfl)
  split
  · exact .inr (.inr (.inr (.inr (.inr rfl))))
  split
  · exact .inr (.inl rfl)
  split
  · split
    · exact .inl rfl
    · exact .inr (.inr (.inl rfl))
  split
  · exact .inr (.inr (.inr (.inl rfl)))
  split
  · exact .inl rfl
  · exact .inr (.inr (.inr (.inr (.inl rfl))))
theorem nextL_name {c : UInt8} {r : List UInt8} (c1 : ¬ (c.toNat = 32 ∨ c.toNat = 9)) (c2 : ¬ c.toNat = 10) (c3 : ¬ c.toNat = 35) (c4 : isLet c = true) : nextL (c :: r) = if 20 < runL isWrd (c :: r) then (-1, runL isWrd (c :: r)) else (1, runL isWrd (c :: r)) := by
  unfold nextL
  dsimp only [List.headD_cons]
  rw [if_neg c1, if_neg c2, if_neg c3, if_pos c4]
theorem nextL_num {c : UInt8} {r : List UInt8} (c1 : ¬ (c.toNat = 32 ∨ c.toNat = 9)) (c2 : ¬ c.toNat = 10) (c3 : ¬ c.toNat = 35) (c4 : ¬ isLet c = true) (c5 : isDig c = true) : nextL (c :: r) = (2, numL (c :: r)) := by
  unfold nextL
  dsimp only [List.headD_cons]
  rw [if_neg c1, if_neg c2, if_neg c3, if_neg c4, if_pos c5]
theorem nextL_sym {c : UInt8} {r : List UInt8} (c1 : ¬ (c.toNat = 32 ∨ c.toNat = 9)) (c2 : ¬ c.toNat = 10) (c3 : ¬ c.toNat = 35) (c4 : ¬ isLet c = true) (c5 : ¬ isDig c = true) : nextL (c :: r) = if symL (c :: r) = 0 then (-1, 1) else (3, symL (c :: r)) := by
  unfold nextL
  dsimp only [List.headD_cons]
  rw [if_neg c1, if_neg c2, if_neg c3, if_neg c4, if_neg c5]
theorem nextL_sp (r : List UInt8) : nextL (32 :: r) = (0, 1) := by
  unfold nextL
  dsimp only [List.headD_cons]
  rw [if_pos (by decide)]
theorem nextL_nl (r : List UInt8) : nextL (10 :: r) = (4, 1) := by
  unfold nextL
  dsimp only [List.headD_cons]
  rw [if_neg (by decide), if_pos (by decide)]
theorem getD_mid (a : List UInt8) (c : UInt8) (r : List UInt8) : (a ++ c :: r).getD a.length 0 = c := by
  simp [List.getD]
theorem numL_int {a : List UInt8} (ha : a.all isDig = true) (rest : List UInt8) : numL (a ++ 32 :: rest) = a.length := by
  unfold numL numA
  rw [runA_zero, runL_all ha 32 isDig_32, getD_mid, if_neg (by simp)]
theorem numL_dot {a e : List UInt8} (ha : a.all isDig = true) (he : e.all isDig = true) (hne : e ≠ []) (rest : List UInt8) : numL (a ++ 46 :: (e ++ 32 :: rest)) = a.length + 1 + e.length := by
  obtain ⟨x, e', rfl⟩ := List.exists_cons_of_ne_nil hne
  have hx : isDig x = true := by simp only [List.all_cons, Bool.and_eq_true] at he; exact he.1
  unfold numL numA
  rw [runA_zero, runL_all ha 46 (by decide), getD_mid]
  have e1 : (a ++ 46 :: (x :: e' ++ 32 :: rest)).getD (a.length + 1) 0 = x := by
    simp [List.getD]
  rw [e1, if_pos (by simp [hx])]
  unfold runA
  have e2 : (a ++ 46 :: (x :: e' ++ 32 :: rest)).drop (a.length + 1) = (x :: e') ++ 32 :: rest := by
    have : a ++ 46 :: (x :: e' ++ 32 :: rest) = (a ++ [46]) ++ ((x :: e') ++ 32 :: rest) := by simp
    rw [this, List.drop_left' (by simp)]
  rw [e2, runL_all he 32 isDig_32]
theorem dig_ne {a : List UInt8} (h : a.all isDig = true) : noB 10 a := by
  intro b hb e
  have := List.all_eq_true.1 h b hb
  rw [e] at this
  exact absurd this (by decide)
/-- A number's text: digits, or digits, a dot and digits. -/
theorem num_parts (l : List UInt8) : ∃ t, l.take (numL l) = t ∧ t.length = numL l ∧ noB 10 t ∧ ∀ rest, numL (t ++ 32 :: rest) = t.length := by
  by_cases h : (decide (runA isDig l 0 + 1 < l.length) && decide ((l.getD (runA isDig l 0) 0).toNat = 46) && isDig (l.getD (runA isDig l 0 + 1) 0)) = true
  · have e0 : numL l = runA isDig l (runA isDig l 0 + 1) := by unfold numL numA; rw [if_pos h]
    simp only [Bool.and_eq_true, decide_eq_true_eq] at h
    obtain ⟨⟨h1, h2⟩, h3⟩ := h
    rw [runA_zero] at e0 h1 h2 h3
    obtain ⟨k, hk⟩ : ∃ k, runL isDig l = k := ⟨_, rfl⟩
    have hall := all_run isDig l
    have hlen := len_run isDig l
    rw [hk] at e0 h1 h2 h3 hall hlen
    have hdot : l[k]'(by omega) = 46 := by
      have e : l.getD k 0 = l[k]'(by omega) := by simp [List.getD, show k < l.length by omega]
      rw [e] at h2
      exact UInt8.toNat_inj.1 h2
    have hdig : isDig (l[k + 1]'h1) = true := by
      have e : l.getD (k + 1) 0 = l[k + 1]'h1 := by simp [List.getD, h1]
      rwa [e] at h3
    have hl : l = l.take k ++ 46 :: l.drop (k + 1) := by
      have := List.take_append_drop k l
      rw [List.drop_eq_getElem_cons (show k < l.length by omega), hdot] at this
      exact this.symm
    have hd : l.drop (k + 1) = l[k + 1]'h1 :: l.drop (k + 2) := List.drop_eq_getElem_cons h1
    have he := all_run isDig (l.drop (k + 1))
    have hel := len_run isDig (l.drop (k + 1))
    have hne : (l.drop (k + 1)).take (runL isDig (l.drop (k + 1))) ≠ [] := by
      intro q
      have := congrArg List.length q
      rw [hel, hd, runL_cons, if_pos hdig] at this
      simp at this
    obtain ⟨m, hm⟩ : ∃ m, runL isDig (l.drop (k + 1)) = m := ⟨_, rfl⟩
    have e1 : numL l = k + 1 + m := by rw [e0]; unfold runA; rw [hm]
    rw [hm] at he hel hne
    have e2 : l.take (k + 1 + m) = l.take k ++ 46 :: (l.drop (k + 1)).take m := by
      conv => lhs; rw [hl]
      rw [List.take_append, List.take_of_length_le (by omega), hlen, show k + 1 + m - k = m + 1 by omega, List.take_succ_cons]
    refine ⟨l.take k ++ 46 :: (l.drop (k + 1)).take m, by rw [e1, e2], ?_, ?_, fun rest => ?_⟩
    · rw [List.length_append, List.length_cons, hlen, hel, e1]
      omega
    · rw [noB_app, noB_cons]
      exact ⟨dig_ne hall, by decide, dig_ne he⟩
    · rw [List.append_assoc, List.cons_append, numL_dot hall he hne rest, List.length_append, List.length_cons]
      omega
  · have e0 : numL l = runL isDig l := by unfold numL numA; rw [if_neg h, runA_zero]
    refine ⟨l.take (runL isDig l), by rw [e0], by rw [len_run, e0], dig_ne (all_run _ _), fun rest => numL_int (all_run _ _) rest⟩
theorem symL_cons (c : UInt8) (r : List UInt8) : symL (c :: r) = if ((decide (c.toNat = 62) || decide (c.toNat = 60) || decide (c.toNat = 58)) && decide ((r.headD 0).toNat = 61)) = true then 2 else if symC c = true then 1 else 0 := rfl
theorem symL_take (c : UInt8) (r : List UInt8) (h : symL (c :: r) ≠ 0) : ((c :: r).take (symL (c :: r))).length = symL (c :: r) ∧ noB 10 ((c :: r).take (symL (c :: r))) ∧ (∃ t', (c :: r).take (symL (c :: r)) = c :: t') ∧ ∀ rest, symL ((c :: r).take (symL (c :: r)) ++ 32 :: rest) = symL (c :: r) := by
  have hc10 : symC 10 = false := by decide
  by_cases h2 : ((decide (c.toNat = 62) || decide (c.toNat = 60) || decide (c.toNat = 58)) && decide ((r.headD 0).toNat = 61)) = true
  · have e : symL (c :: r) = 2 := by rw [symL_cons, if_pos h2]
    have h3 := h2
    simp only [Bool.and_eq_true, decide_eq_true_eq] at h3
    cases r with
    | nil => exact absurd h3.2 (by decide)
    | cons x r' =>
      have hx : x = 61 := UInt8.toNat_inj.1 h3.2
      subst hx
      rw [e]
      refine ⟨rfl, ?_, ⟨_, rfl⟩, fun rest => ?_⟩
      · show noB 10 [c, 61]
        rw [noB_cons, noB_cons]
        refine ⟨?_, by decide, noB_nil _⟩
        rintro rfl
        exact absurd h3.1 (by decide)
      · show symL (c :: 61 :: 32 :: rest) = 2
        rw [symL_cons]
        exact if_pos h2
  · have e : symL (c :: r) = if symC c then 1 else 0 := by rw [symL_cons, if_neg h2]
    by_cases hs : symC c = true
    · rw [if_pos hs] at e
      rw [e]
      refine ⟨rfl, ?_, ⟨_, rfl⟩, fun rest => ?_⟩
      · show noB 10 [c]
        rw [noB_cons]
        refine ⟨?_, noB_nil _⟩
        rintro rfl
        rw [hc10] at hs
        cases hs
      · show symL (c :: 32 :: rest) = 1
        rw [symL_cons, if_neg (by simp), if_pos hs]
    · rw [if_neg hs] at e
      exact absurd e h
theorem good_tok {l : List UInt8} (h : l ≠ []) (hk : 1 ≤ (nextL l).1 ∧ (nextL l).1 ≤ 3) (line col : Int) : GoodT ⟨(nextL l).1, l.take (nextL l).2, line, col⟩ ∧ (l.take (nextL l).2).length = (nextL l).2 ∧ noB 10 (l.take (nextL l).2) := by
  obtain ⟨c, r, rfl⟩ := List.exists_cons_of_ne_nil h
  by_cases c1 : c.toNat = 32 ∨ c.toNat = 9
  · have : (nextL (c :: r)).1 = 0 := by unfold nextL; dsimp only [List.headD_cons]; rw [if_pos c1]
    omega
  by_cases c2 : c.toNat = 10
  · have : (nextL (c :: r)).1 = 4 := by unfold nextL; dsimp only [List.headD_cons]; rw [if_neg c1, if_pos c2]
    omega
  by_cases c3 : c.toNat = 35
  · have : (nextL (c :: r)).1 = 0 := by unfold nextL; dsimp only [List.headD_cons]; rw [if_neg c1, if_neg c2, if_pos c3]
    omega
  by_cases c4 : isLet c = true
  · have hn := nextL_name (r := r) c1 c2 c3 c4
    by_cases c5 : 20 < runL isWrd (c :: r)
    · rw [if_pos c5] at hn
      rw [hn] at hk
      simp at hk
    rw [if_neg c5] at hn
    have hw : isWrd c = true := by unfold isWrd; rw [c4]; rfl
    have hall := all_run isWrd (c :: r)
    have hlen := len_run isWrd (c :: r)
    have hn10 : noB 10 ((c :: r).take (runL isWrd (c :: r))) := fun b hb e => by
      have := List.all_eq_true.1 hall b hb
      rw [e] at this
      exact absurd this (by decide)
    obtain ⟨m, hm⟩ : ∃ m, runL isWrd (c :: r) = m + 1 := ⟨runL isWrd r, by rw [runL_cons, if_pos hw]⟩
    rw [hn]
    rw [hm] at hall hlen hn10 c5 ⊢
    refine ⟨.inr ⟨(show (1 : Int) ≤ 1 by decide), (show (1 : Int) ≤ 3 by decide), by simp, hn10, fun rest => ?_⟩, hlen, hn10⟩
    dsimp only
    have e1 : (c :: r).take (m + 1) ++ 32 :: rest = c :: (r.take m ++ 32 :: rest) := rfl
    have e2 := runL_all hall 32 isWrd_32 rest
    rw [e1] at e2 ⊢
    rw [nextL_name c1 c2 c3 c4, e2, hlen, if_neg c5]
  by_cases c5 : isDig c = true
  · have hn := nextL_num (r := r) c1 c2 c3 c4 c5
    obtain ⟨t, ht, htl, ht10, htr⟩ := num_parts (c :: r)
    rw [hn]
    dsimp only
    rw [ht]
    have hne : t ≠ [] := by
      rintro rfl
      have h1 := nextL_pos (l := c :: r) (by simp)
      rw [hn] at h1
      simp at htl
      omega
    obtain ⟨c', t', rfl⟩ := List.exists_cons_of_ne_nil hne
    have hcc : c' = c := by
      have h1 := nextL_pos (l := c :: r) (by simp)
      rw [hn] at h1
      obtain ⟨m, hm⟩ : ∃ m, numL (c :: r) = m + 1 := ⟨numL (c :: r) - 1, by have := h1.1; dsimp only at this; omega⟩
      rw [hm, List.take_succ_cons] at ht
      injection ht with h2
      exact h2.symm
    subst hcc
    refine ⟨.inr ⟨(show (1 : Int) ≤ 2 by decide), (show (2 : Int) ≤ 3 by decide), by simp, ht10, fun rest => ?_⟩, htl, ht10⟩
    · dsimp only
      rw [List.cons_append, nextL_num c1 c2 c3 c4 c5, ← List.cons_append, htr rest]
  · have hn := nextL_sym (r := r) c1 c2 c3 c4 c5
    by_cases hs : symL (c :: r) = 0
    · rw [if_pos hs] at hn
      rw [hn] at hk
      simp at hk
    rw [if_neg hs] at hn
    obtain ⟨s1, s2, ⟨t', ht'⟩, s3⟩ := symL_take c r hs
    rw [hn]
    dsimp only
    refine ⟨.inr ⟨(show (1 : Int) ≤ 3 by decide), (show (3 : Int) ≤ 3 by decide), by rw [ht']; simp, s2, fun rest => ?_⟩, s1, s2⟩
    · dsimp only
      have s4 := s3 rest
      rw [ht'] at s4 s1 ⊢
      rw [List.cons_append] at s4 ⊢
      rw [nextL_sym c1 c2 c3 c4 c5, s4, if_neg hs, s1]
/-- Where the rest l of the text s stands. -/
def Stand (s l : List UInt8) (line col : Int) : Prop := ∃ a u, s = a ++ (u ++ l) ∧ (a = [] ∨ ∃ b, a = b ++ [10]) ∧ noB 10 u ∧ line = 1 + (a.count 10 : Nat) ∧ col = 1 + (u.length : Nat)
theorem Stand.start (s : List UInt8) : Stand s s 1 1 := ⟨[], [], rfl, .inl rfl, noB_nil _, rfl, rfl⟩
theorem Stand.go {s l : List UInt8} {line col : Int} (h : Stand s l line col) (n : Nat) (hl : (l.take n).length = n) (hn : noB 10 (l.take n)) : Stand s (l.drop n) line (col + n) := by
  obtain ⟨a, u, h1, h2, h3, h4, h5⟩ := h
  refine ⟨a, u ++ l.take n, ?_, h2, noB_app.2 ⟨h3, hn⟩, h4, ?_⟩
  · rw [List.append_assoc, List.take_append_drop]
    exact h1
  · rw [List.length_append, hl, h5]
    omega
theorem Stand.nl {s r : List UInt8} {line col : Int} (h : Stand s (10 :: r) line col) : Stand s r (line + 1) 1 := by
  obtain ⟨a, u, h1, h2, h3, h4, h5⟩ := h
  refine ⟨a ++ (u ++ [10]), [], ?_, .inr ⟨a ++ u, by simp⟩, noB_nil _, ?_, rfl⟩
  · rw [h1]; simp
  · have : u.count 10 = 0 := List.count_eq_zero.2 (fun hm => h3 10 hm rfl)
    rw [List.count_append, List.count_append, this, h4]
    simp
    omega
/-- A token stands in its line. -/
def PosT (s : List UInt8) (t : Tk) : Prop := ∃ (i j : Nat) (w : List UInt8), t.line = (i : Int) + 1 ∧ t.col = (j : Int) + 1 ∧ (splitB 10 s)[i]? = some w ∧ j ≤ w.length ∧ t.text <+: w.drop j
theorem Stand.pos {s l : List UInt8} {line col : Int} (h : Stand s l line col) (k : Int) {x : List UInt8} (hx : x <+: l) (hn : noB 10 x) : PosT s ⟨k, x, line, col⟩ := by
  obtain ⟨a, u, h1, h2, h3, h4, h5⟩ := h
  obtain ⟨r, hr⟩ := hx
  refine ⟨a.count 10, u.length, u ++ l.takeWhile (· != 10), by dsimp only; omega, by dsimp only; omega, ?_, by simp, ?_⟩
  · rw [h1]
    exact split_line a u l h2 h3
  · rw [List.drop_left, ← hr, List.takeWhile_append_of_pos (fun y hy => by simpa using hn y hy)]
    exact List.prefix_append _ _
def AscT : Int → Int → List Tk → Prop
  | _, _, [] => True
  | line, col, t :: r => (line < t.line ∨ line = t.line ∧ col ≤ t.col) ∧ AscT t.line (t.col + 1) r
theorem AscT.low {line col line' col' : Int} {ts : List Tk} (h : AscT line col ts) (hl : line' < line ∨ line' = line ∧ col' ≤ col) : AscT line' col' ts := by
  cases ts with
  | nil => trivial
  | cons t r => exact ⟨by have := h.1; omega, h.2⟩
theorem AscT.next : ∀ {ts : List Tk} {line col : Int}, AscT line col ts → ∀ (i : Nat) (hi : i + 1 < ts.length), (ts[i]'(by omega)).line < ts[i + 1].line ∨ (ts[i]'(by omega)).line = ts[i + 1].line ∧ (ts[i]'(by omega)).col < ts[i + 1].col
  | [], _, _, _, i, hi => by simp at hi
  | [t], _, _, _, i, hi => by simp at hi
  | t :: u :: r, line, col, h, 0, hi => by
    have := h.2.1
    show t.line < u.line ∨ t.line = u.line ∧ t.col < u.col
    omega
  | t :: u :: r, line, col, h, i + 1, hi => AscT.next h.2 i (by simpa using hi)
theorem next_blank {l : List UInt8} (h : l ≠ []) (hk : (nextL l).1 = 0) : (l.take (nextL l).2).length = (nextL l).2 ∧ noB 10 (l.take (nextL l).2) := by
  obtain ⟨c, r, rfl⟩ := List.exists_cons_of_ne_nil h
  have hp := nextL_pos (l := c :: r) (by simp)
  refine ⟨by rw [List.length_take]; omega, ?_⟩
  by_cases c1 : c.toNat = 32 ∨ c.toNat = 9
  · have e : nextL (c :: r) = (0, 1) := by unfold nextL; dsimp only [List.headD_cons]; rw [if_pos c1]
    rw [e]
    show noB 10 [c]
    rw [noB_cons]
    refine ⟨?_, noB_nil _⟩
    rintro rfl
    exact absurd c1 (by decide)
  by_cases c2 : c.toNat = 10
  · have e : (nextL (c :: r)).1 = 4 := by unfold nextL; dsimp only [List.headD_cons]; rw [if_neg c1, if_pos c2]
    omega
  by_cases c3 : c.toNat = 35
  · have e : nextL (c :: r) = (0, runL (fun c => decide (c.toNat ≠ 10)) (c :: r)) := by unfold nextL; dsimp only [List.headD_cons]; rw [if_neg c1, if_neg c2, if_pos c3]
    rw [e]
    intro b hb q
    have := List.all_eq_true.1 (all_run _ _) b hb
    rw [q] at this
    exact absurd this (by decide)
  by_cases c4 : isLet c = true
  · have hn := nextL_name (r := r) c1 c2 c3 c4
    rw [hn] at hk
    split at hk <;> simp at hk
  by_cases c5 : isDig c = true
  · rw [nextL_num (r := r) c1 c2 c3 c4 c5] at hk
    simp at hk
  · rw [nextL_sym (r := r) c1 c2 c3 c4 c5] at hk
    split at hk <;> simp at hk
theorem next_four {l : List UInt8} (h : l ≠ []) (hk : (nextL l).1 = 4) : ∃ r, l = 10 :: r := by
  obtain ⟨c, r, rfl⟩ := List.exists_cons_of_ne_nil h
  by_cases c2 : c.toNat = 10
  · exact ⟨r, by rw [show c = 10 from UInt8.toNat_inj.1 c2]⟩
  exfalso
  by_cases c1 : c.toNat = 32 ∨ c.toNat = 9
  · have : (nextL (c :: r)).1 = 0 := by unfold nextL; dsimp only [List.headD_cons]; rw [if_pos c1]
    omega
  by_cases c3 : c.toNat = 35
  · have : (nextL (c :: r)).1 = 0 := by unfold nextL; dsimp only [List.headD_cons]; rw [if_neg c1, if_neg c2, if_pos c3]
    omega
  by_cases c4 : isLet c = true
  · rw [nextL_name (r := r) c1 c2 c3 c4] at hk
    split at hk <;> simp at hk
  by_cases c5 : isDig c = true
  · rw [nextL_num (r := r) c1 c2 c3 c4 c5] at hk
    simp at hk
  · rw [nextL_sym (r := r) c1 c2 c3 c4 c5] at hk
    split at hk <;> simp at hk
theorem joinT_cons (t : Tk) (r : List Tk) (e : Tk) : joinT (t :: (r ++ [e])) = txT t ++ 32 :: joinT (r ++ [e]) := by
  cases r <;> rfl
/-- All that is said of the tokens of a text. -/
def AllT (s l : List UInt8) (line col : Int) (ts : List Tk) : Prop := (∀ t ∈ ts, PosT s t) ∧ AscT line col ts ∧ (∃ r e, ts = r ++ [e] ∧ e.kind = 5 ∧ e.text = [] ∧ ∀ t ∈ r, GoodT t) ∧ (joinT ts).length ≤ 2 * l.length
theorem tok_all (s : List UInt8) : ∀ (f : Nat) (l : List UInt8) (line col : Int) (ts : List Tk), tokG f l line col = some ts → Stand s l line col → l.length ≤ f → AllT s l line col ts := by
  have fin : ∀ (line col : Int), Stand s [] line col → AllT s [] line col [⟨5, [], line, col⟩] := fun line col hs =>
    ⟨fun t ht => by
      rw [List.mem_singleton] at ht
      rw [ht]
      exact hs.pos 5 (List.nil_prefix) (noB_nil _), ⟨.inr ⟨rfl, Int.le_refl _⟩, trivial⟩, ⟨[], _, rfl, rfl, rfl, fun t ht => by cases ht⟩, Nat.le_refl _⟩
  intro f
  induction f with
  | zero =>
    intro l line col ts h hs hl
    obtain rfl := List.length_eq_zero_iff.1 (Nat.le_zero.1 hl)
    unfold tokG at h
    injection h with h
    rw [← h]
    exact fin line col hs
  | succ f ih =>
    intro l line col ts h hs hl
    unfold tokG at h
    by_cases h0 : l = []
    · rw [if_pos h0] at h
      injection h with h
      subst h0
      rw [← h]
      exact fin line col hs
    rw [if_neg h0] at h
    have hp := nextL_pos h0
    by_cases h1 : (nextL l).1 < 0
    · rw [if_pos h1] at h; cases h
    rw [if_neg h1] at h
    by_cases h2 : (nextL l).1 = 4
    · rw [if_pos h2] at h
      obtain ⟨r, rfl⟩ := next_four h0 h2
      rw [Option.map_eq_some_iff] at h
      obtain ⟨ts', hts, rfl⟩ := h
      simp only [List.drop_succ_cons, List.drop_zero] at hts
      obtain ⟨g1, g2, ⟨r', e, rfl, g4, g5, g6⟩, g7⟩ := ih r _ _ ts' hts hs.nl (by simp at hl; omega)
      refine ⟨fun t ht => ?_, ⟨.inr ⟨rfl, Int.le_refl _⟩, g2.low (.inl (by show line < line + 1; omega))⟩, ⟨_ :: r', e, rfl, g4, g5, fun t ht => ?_⟩, ?_⟩
      · rcases List.mem_cons.1 ht with rfl | q
        · exact hs.pos 4 (List.nil_prefix) (noB_nil _)
        · exact g1 t q
      · rcases List.mem_cons.1 ht with rfl | q
        · exact .inl ⟨rfl, rfl⟩
        · exact g6 t q
      · rw [joinT_cons]
        have : (txT ⟨4, [], line, col⟩).length = 1 := rfl
        simp only [List.length_append, List.length_cons] at g7 ⊢
        omega
    rw [if_neg h2] at h
    by_cases h3 : (nextL l).1 = 0
    · rw [if_pos h3] at h
      obtain ⟨b1, b2⟩ := next_blank h0 h3
      obtain ⟨g1, g2, g3, g7⟩ := ih _ _ _ ts h (hs.go _ b1 b2) (by rw [List.length_drop]; omega)
      exact ⟨g1, g2.low (.inr ⟨rfl, by omega⟩), g3, by rw [List.length_drop] at g7; omega⟩
    rw [if_neg h3] at h
    have hk : 1 ≤ (nextL l).1 ∧ (nextL l).1 ≤ 3 := by have := nextL_kind l; omega
    obtain ⟨b0, b1, b2⟩ := good_tok h0 hk line col
    rw [Option.map_eq_some_iff] at h
    obtain ⟨ts', hts, rfl⟩ := h
    obtain ⟨g1, g2, ⟨r', e, rfl, g4, g5, g6⟩, g7⟩ := ih _ _ _ ts' hts (hs.go _ b1 b2) (by rw [List.length_drop]; omega)
    refine ⟨fun t ht => ?_, ⟨.inr ⟨rfl, Int.le_refl _⟩, g2.low (.inr ⟨rfl, by show col + 1 ≤ _; omega⟩)⟩, ⟨_ :: r', e, rfl, g4, g5, fun t ht => ?_⟩, ?_⟩
    · rcases List.mem_cons.1 ht with rfl | q
      · exact hs.pos _ (List.take_prefix _ _) b2
      · exact g1 t q
    · rcases List.mem_cons.1 ht with rfl | q
      · exact b0
      · exact g6 t q
    · rw [joinT_cons]
      have : (txT ⟨(nextL l).1, l.take (nextL l).2, line, col⟩).length = (nextL l).2 := by
        unfold txT
        dsimp only
        rw [if_neg h2, b1]
      rw [List.length_drop] at g7
      simp only [List.length_append, List.length_cons] at g7 ⊢
      omega
/-- The joined texts have the same tokens. -/
theorem tok_join (e : Tk) (he : e.kind = 5) (ht : e.text = []) : ∀ (r : List Tk), (∀ t ∈ r, GoodT t) → ∀ (f : Nat) (line col : Int), (joinT (r ++ [e])).length ≤ f → ∃ ts, tokG f (joinT (r ++ [e])) line col = some ts ∧ ts.map (fun t => (t.kind, t.text)) = (r ++ [e]).map (fun t => (t.kind, t.text))
  | [], _, f, line, col, hf => by
    have e0 : joinT ([] ++ [e]) = [] := by
      show txT e = []
      unfold txT
      rw [if_neg (by omega), ht]
    rw [e0]
    refine ⟨[⟨5, [], line, col⟩], ?_, by simp [he, ht]⟩
    cases f with
    | zero => rfl
    | succ f => unfold tokG; rw [if_pos rfl]
  | t :: r, hg, f, line, col, hf => by
    have hj : joinT (t :: r ++ [e]) = txT t ++ 32 :: joinT (r ++ [e]) := joinT_cons t r e
    have ih := tok_join e he ht r (fun u hu => hg u (by simp [hu]))
    obtain ⟨J, hJ⟩ : ∃ J, joinT (r ++ [e]) = J := ⟨_, rfl⟩
    rw [hJ] at hj ih
    rw [hj] at hf ⊢
    have blank : ∀ (g : Nat) (a b : Int), J.length + 1 ≤ g → ∃ ts, tokG g (32 :: J) a b = some ts ∧ ts.map (fun t => (t.kind, t.text)) = (r ++ [e]).map (fun t => (t.kind, t.text)) := by
      intro g a b hg
      obtain ⟨g', rfl⟩ : ∃ g', g = g' + 1 := ⟨g - 1, by omega⟩
      obtain ⟨ts, q1, q2⟩ := ih g' a (b + 1) (by omega)
      refine ⟨ts, ?_, q2⟩
      unfold tokG
      rw [if_neg (by simp), nextL_sp]
      simp only [List.drop_succ_cons, List.drop_zero]
      rw [if_neg (by decide), if_neg (by decide), if_pos trivial]
      exact q1
    rcases hg t (by simp) with ⟨k4, kt⟩ | ⟨k1, k3, kne, k10, kn⟩
    · have e1 : txT t = [10] := by unfold txT; rw [if_pos k4]
      rw [e1] at hf ⊢
      obtain ⟨g, rfl⟩ : ∃ g, f = g + 1 := ⟨f - 1, by simp at hf; omega⟩
      obtain ⟨ts, q1, q2⟩ := blank g (line + 1) 1 (by simp at hf; omega)
      refine ⟨⟨4, [], line, col⟩ :: ts, ?_, by simp [q2, k4, kt]⟩
      show tokG (g + 1) (10 :: 32 :: J) line col = _
      unfold tokG
      rw [if_neg (by simp), nextL_nl]
      simp only [List.drop_succ_cons, List.drop_zero]
      rw [if_neg (by decide), if_pos trivial, q1]
      rfl
    · have e1 : txT t = t.text := by unfold txT; rw [if_neg (by omega)]
      rw [e1] at hf ⊢
      have hpos := List.length_pos_iff.2 kne
      obtain ⟨g, rfl⟩ : ∃ g, f = g + 1 := ⟨f - 1, by simp at hf; omega⟩
      obtain ⟨ts, q1, q2⟩ := blank g line (col + t.text.length) (by simp at hf; omega)
      refine ⟨⟨t.kind, t.text, line, col⟩ :: ts, ?_, by simp [q2]⟩
      unfold tokG
      rw [if_neg (by simp), kn J]
      dsimp only
      rw [if_neg (by omega), if_neg (by omega), if_neg (by omega), List.drop_left, List.take_left, q1]
      rfl
/-- What is said of a text's tokens. -/
theorem joined {s : List UInt8} (hs : s.length ≤ 1000) : (∃ p er, tokS s = ([], p, er) ∧ er ≠ 0) ∨ (∃ r e ts, tokS s = (r ++ [e], (0, 0), 0) ∧ e.kind = 5 ∧ (∀ t ∈ r, t.kind ≠ 5) ∧ (∀ t ∈ r ++ [e], PosT s t) ∧ AscT 1 1 (r ++ [e]) ∧ (joinT (r ++ [e])).length ≤ 2000 ∧ tokS (joinT (r ++ [e])) = (ts, (0, 0), 0) ∧ ts.map (fun t => (t.kind, t.text)) = (r ++ [e]).map (fun t => (t.kind, t.text))) := by
  have e0 : tokS s = tokF s.length s 1 1 [] := by unfold tokS; rw [if_neg (by omega)]
  rcases tokF_G s.length s 1 1 [] with ⟨ts, q1, q2⟩ | ⟨_, p, q2⟩
  · right
    obtain ⟨g1, g2, ⟨r, e, rfl, g4, g5, g6⟩, g7⟩ := tok_all s _ s 1 1 ts q1 (Stand.start s) (Nat.le_refl _)
    obtain ⟨ts2, h1, h2⟩ := tok_join e g4 g5 r g6 (joinT (r ++ [e])).length 1 1 (Nat.le_refl _)
    refine ⟨r, e, ts2, by rw [e0, q2]; rfl, g4, fun t ht => ?_, g1, g2, by omega, ?_, h2⟩
    · rcases g6 t ht with q | q <;> omega
    · have e3 : tokS (joinT (r ++ [e])) = tokF (joinT (r ++ [e])).length (joinT (r ++ [e])) 1 1 [] := by unfold tokS; rw [if_neg (by omega)]
      rcases tokF_G (joinT (r ++ [e])).length (joinT (r ++ [e])) 1 1 [] with ⟨ts', w1, w2⟩ | ⟨w1, _⟩
      · rw [w1] at h1
        injection h1 with h1
        subst h1
        rw [e3, w2]
        rfl
      · rw [w1] at h1
        cases h1
  · left
    exact ⟨p, 7, by rw [e0, q2], by decide⟩

end Go.Proofs.YtccakklnbhcbdaaGreatDoor
