/- Plain: a text parted at a byte; strings.Split's words are those. -/
import Derived.Test.YtdbgfeeglnpobaaDoorDcW
import Derived.Lib.Bytealg
import Derived.Lib.LaidTab
import Derived.Lib.SplitLaws
set_option linter.unusedVariables false
namespace Go.Proofs.YtdbgfeeglnpobaaDoor
open Go.ChangeShapes Go.WideShapes Go.ChangeAt Go.RowKit

open Go.Lib (indexByte)
def noB (c : UInt8) (l : List UInt8) : Prop := ∀ b ∈ l, b ≠ c
theorem noB_nil (c : UInt8) : noB c [] := fun _ h => by cases h
theorem noB_app {c : UInt8} {a b : List UInt8} : noB c (a ++ b) ↔ noB c a ∧ noB c b := by
  unfold noB
  constructor
  · exact fun h => ⟨fun x hx => h x (List.mem_append_left _ hx), fun x hx => h x (List.mem_append_right _ hx)⟩
  · rintro ⟨h1, h2⟩ x hx
    rcases List.mem_append.1 hx with q | q
    · exact h1 x q
    · exact h2 x q
theorem noB_cons {c b : UInt8} {l : List UInt8} : noB c (b :: l) ↔ b ≠ c ∧ noB c l := by
  unfold noB
  simp
def splitB (c : UInt8) : List UInt8 → List (List UInt8)
  | [] => [[]]
  | b :: l => if b = c then [] :: splitB c l else match splitB c l with | w :: ws => (b :: w) :: ws | [] => [[b]]
theorem splitB_ne (c : UInt8) (l : List UInt8) : splitB c l ≠ [] := by
  cases l with
  | nil => simp [splitB]
  | cons b l => unfold splitB; split; simp; split <;> simp
theorem splitB_no {c : UInt8} : ∀ {l : List UInt8}, noB c l → splitB c l = [l]
  | [], _ => rfl
  | b :: l, h => by
    unfold splitB
    rw [if_neg (noB_cons.1 h).1, splitB_no (noB_cons.1 h).2]
theorem splitB_at {c : UInt8} : ∀ {a : List UInt8} (l : List UInt8), noB c a → splitB c (a ++ c :: l) = a :: splitB c l
  | [], l, _ => by
    show splitB c (c :: l) = _
    rw [splitB, if_pos rfl]
  | b :: a, l, h => by
    show splitB c (b :: (a ++ c :: l)) = _
    rw [splitB.eq_2, if_neg (noB_cons.1 h).1, splitB_at l (noB_cons.1 h).2]
theorem splitB_back {c : UInt8} : ∀ {l a : List UInt8} {ws : List (List UInt8)}, splitB c l = a :: ws → noB c a ∧ ((ws = [] ∧ l = a) ∨ ∃ r, ws = splitB c r ∧ l = a ++ c :: r)
  | [], a, ws, h => by
    simp only [splitB, List.cons.injEq] at h
    obtain ⟨rfl, rfl⟩ := h
    exact ⟨noB_nil _, .inl ⟨rfl, rfl⟩⟩
  | b :: l, a, ws, h => by
    unfold splitB at h
    split at h
    · rename_i hb
      simp only [List.cons.injEq] at h
      obtain ⟨rfl, rfl⟩ := h
      exact ⟨noB_nil _, .inr ⟨l, rfl, by rw [hb]; rfl⟩⟩
    · rename_i hb
      split at h
      · rename_i w ws' hs
        simp only [List.cons.injEq] at h
        obtain ⟨rfl, rfl⟩ := h
        obtain ⟨h1, h2⟩ := splitB_back hs
        refine ⟨noB_cons.2 ⟨hb, h1⟩, ?_⟩
        rcases h2 with ⟨q1, q2⟩ | ⟨r, q1, q2⟩
        · exact .inl ⟨q1, by rw [q2]⟩
        · exact .inr ⟨r, q1, by rw [q2]; rfl⟩
      · rename_i hs
        exact absurd hs (splitB_ne _ _)
theorem noB_all {c : UInt8} {l : List UInt8} (h : noB c l) : (l.all fun b => b != c) = true := by
  rw [List.all_eq_true]
  intro b hb
  simpa using h b hb
theorem idxs_in (c : UInt8) : ∀ (l m : List UInt8), noB c l → indexByte (l ++ c :: m) c = (l.length : Int)
  | [], m, _ => by simp [indexByte]
  | b :: l, m, h => by
    have hb : (b == c) = false := by simpa using (noB_cons.1 h).1
    show indexByte (b :: (l ++ c :: m)) c = _
    unfold indexByte
    rw [hb, idxs_in c l m (noB_cons.1 h).2, if_neg (by simp), if_neg (by simp <;> omega)]
    simp only [List.length_cons]
    omega
theorem idxs_no (c : UInt8) : ∀ (l : List UInt8), noB c l → indexByte l c = -1
  | [], _ => rfl
  | b :: l, h => by
    have hb : (b == c) = false := by simpa using (noB_cons.1 h).1
    unfold indexByte
    rw [hb, idxs_no c l (noB_cons.1 h).2]
    simp
/-- What strings.Split hands back at a separator of one byte. -/
theorem split_by (c : UInt8) : ∀ (k : Nat) (s : ByteArray), Lib.countB s ⟨#[c]⟩ = k → (Lib.splitB ⟨#[c]⟩ 0 k s).map by_ = splitB c (by_ s) := by
  have key : ∀ s : ByteArray, (noB c (by_ s) ∧ Lib.indexB s ⟨#[c]⟩ = -1) ∨ ∃ a r, noB c a ∧ by_ s = a ++ c :: r ∧ Lib.indexB s ⟨#[c]⟩ = (a.length : Int) := by
    intro s
    have e0 : Lib.indexB s ⟨#[c]⟩ = indexByte (by_ s) c := Lib.index_one _ _
    cases hs : splitB c (by_ s) with
    | nil => exact absurd hs (splitB_ne _ _)
    | cons a ws =>
      obtain ⟨ha, ⟨_, h2⟩ | ⟨r, _, h2⟩⟩ := splitB_back hs
      · rw [← h2] at ha
        exact .inl ⟨ha, by rw [e0]; exact idxs_no c _ ha⟩
      · exact .inr ⟨a, r, ha, h2, by rw [e0, h2]; exact idxs_in c a r ha⟩
  have one : (⟨#[c]⟩ : ByteArray).size = 1 := rfl
  intro k
  induction k with
  | zero =>
    intro s hk
    rcases key s with ⟨h1, _⟩ | ⟨a, r, h1, h2, h3⟩
    · rw [Lib.splitB_zero, splitB_no h1]
      rfl
    · have := Lib.countB_hit s ⟨#[c]⟩ a.length (by rw [one]; decide) h3
      omega
  | succ k ih =>
    intro s hk
    rcases key s with ⟨_, h2⟩ | ⟨a, r, h1, h2, h3⟩
    · rw [Lib.countB_miss s ⟨#[c]⟩ h2] at hk
      omega
    · have hc := Lib.countB_hit s ⟨#[c]⟩ a.length (by rw [one]; decide) h3
      have e1 : by_ (s.extract 0 (a.length + 0)) = a := by
        show (s.extract 0 (a.length + 0)).data.toList = a
        rw [Lib.extract_data, show s.data.toList = a ++ c :: r from h2]
        simp
      have e2 : by_ (s.extract (a.length + (⟨#[c]⟩ : ByteArray).size) s.size) = r := by
        show (s.extract (a.length + (⟨#[c]⟩ : ByteArray).size) s.size).data.toList = r
        rw [Lib.extract_data, show s.data.toList = a ++ c :: r from h2, one]
        have hz : s.size = a.length + (r.length + 1) := by
          have := congrArg List.length h2
          rw [by_len] at this
          simpa using this
        have hd : (a ++ c :: r).drop (a.length + 1) = r := by
          rw [show a ++ c :: r = (a ++ [c]) ++ r by simp, List.drop_left' (by simp)]
        rw [hz, hd, List.take_of_length_le (by omega)]
      rw [Lib.splitB_hit ⟨#[c]⟩ 0 k s a.length h3, List.map_cons, e1, ih _ (by omega), e2, h2, splitB_at r h1]
/-- The line in which a place lies. -/
theorem split_line {c : UInt8} : ∀ (a u l : List UInt8), (a = [] ∨ ∃ b, a = b ++ [c]) → noB c u → (splitB c (a ++ (u ++ l)))[a.count c]? = some (u ++ l.takeWhile (· != c)) := by
  have base : ∀ (u l : List UInt8), noB c u → (splitB c (u ++ l))[0]? = some (u ++ l.takeWhile (· != c)) := by
    intro u l hu
    by_cases hl : noB c l
    · rw [splitB_no (noB_app.2 ⟨hu, hl⟩)]
      have : l.takeWhile (· != c) = l := by
        have q := List.takeWhile_append_of_pos (p := (· != c)) (l₁ := l) (l₂ := []) (fun x hx => by simpa using hl x hx)
        simpa using q
      rw [this]
      rfl
    · obtain ⟨p, r, hp, rfl⟩ : ∃ p r, noB c p ∧ l = p ++ c :: r := by
        cases hs : splitB c l with
        | nil => exact absurd hs (splitB_ne _ _)
        | cons p ws =>
          obtain ⟨h1, ⟨_, h2⟩ | ⟨r, _, h2⟩⟩ := splitB_back hs
          · rw [h2] at hl; exact absurd h1 hl
          · exact ⟨p, r, h1, h2⟩
      rw [← List.append_assoc, splitB_at r (noB_app.2 ⟨hu, hp⟩)]
      have : (p ++ c :: r).takeWhile (· != c) = p := by
        rw [List.takeWhile_append_of_pos (fun x hx => by simpa using hp x hx)]
        simp
      rw [this]
      rfl
  intro a
  induction hn : a.length using Nat.strongRecOn generalizing a with
  | _ n ih =>
    intro u l ha hu
    rcases ha with rfl | ⟨b, rfl⟩
    · exact base u l hu
    · cases hs : splitB c (b ++ [c]) with
      | nil => exact absurd hs (splitB_ne _ _)
      | cons p ws =>
        obtain ⟨h1, ⟨_, h2⟩ | ⟨r, _, h2⟩⟩ := splitB_back hs
        · rw [← h2, noB_app, noB_cons] at h1
          exact absurd rfl h1.2.1
        · have hr : r = [] ∨ ∃ d, r = d ++ [c] := by
            rcases List.eq_nil_or_concat r with q | ⟨d, e, q⟩
            · exact .inl q
            · rw [List.concat_eq_append] at q
              subst q
              have h3 : b ++ [c] = (p ++ c :: d) ++ [e] := by rw [h2]; simp
              have := List.append_inj_right' h3 (by simp)
              simp only [List.cons.injEq, and_true] at this
              exact .inr ⟨d, by rw [this]⟩
          rw [h2]
          have e1 : p ++ c :: r ++ (u ++ l) = p ++ c :: (r ++ (u ++ l)) := by simp
          have e2 : (p ++ c :: r).count c = r.count c + 1 := by
            rw [List.count_append, List.count_cons, List.count_eq_zero.2 (fun hm => h1 c hm rfl)]
            simp
          rw [e1, splitB_at _ h1, e2, List.getElem?_cons_succ]
          refine ih r.length ?_ r rfl u l hr hu
          rw [← hn, h2]
          simp
          omega

theorem splitB_len (c : UInt8) : ∀ (l : List UInt8), (splitB c l).length ≤ l.length + 1
  | [] => by simp [splitB]
  | b :: l => by
    have ih := splitB_len c l
    unfold splitB
    split
    · simp; omega
    · split
      · rename_i h
        rw [h] at ih
        simp at ih ⊢
        omega
      · simp
theorem splitB_mem (c : UInt8) : ∀ (l : List UInt8), ∀ x ∈ splitB c l, x.length ≤ l.length
  | [], x, hx => by
    simp [splitB] at hx
    simp [hx]
  | b :: l, x, hx => by
    have ih := splitB_mem c l
    unfold splitB at hx
    split at hx
    · rcases List.mem_cons.1 hx with rfl | q
      · simp
      · have := ih x q
        simp; omega
    · split at hx
      · rename_i h
        rw [h] at ih
        rcases List.mem_cons.1 hx with rfl | q
        · have := ih _ (List.mem_cons_self ..)
          simp
          omega
        · have := ih x (List.mem_cons_of_mem _ q)
          simp; omega
      · simp at hx
        simp [hx]

end Go.Proofs.YtdbgfeeglnpobaaDoor
