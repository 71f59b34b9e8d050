import Derived.Test.YtccakklnbhcbdaaGreatDoorFQa
import Derived.Lib.Bytealg
import Derived.Lib.LaidTab
import Derived.Lib.SplitLaws
import Derived.Test.YtccakklnbhcbdaaGreatDoorFQb
set_option linter.unusedVariables false
namespace Go.Proofs.YtccakklnbhcbdaaGreatDoor
open Go.ChangeShapes Go.WideShapes Go.ChangeAt Go.RowKit
open Go.Lib (indexByte)
def noB (c : UInt8) (l : List UInt8) : Prop := ∀ b ∈ l, b ≠ c
theorem noB_nil (c : UInt8) : noB c [] := fun _ h => by cases h
theorem noB_app {c : UInt8} {a b : List UInt8} : noB c (a ++ b) ↔ noB c a ∧ noB c b := by
 unfold noB
 constructor
 ·exact fun h => ⟨fun x hx => h x (List.mem_append_left _ hx), fun x hx => h x (List.mem_append_right _ hx)⟩
 ·rintro ⟨h1, h2⟩ x hx
  rcases List.mem_append.1 hx with q | q
  ·exact h1 x q
  ·exact h2 x q
end Go.Proofs.YtccakklnbhcbdaaGreatDoor
set_option linter.unusedVariables false
namespace Go.Proofs.YtccakklnbhcbdaaGreatDoor
def tokG : Nat → List UInt8 → Int → Int → Option (List Tk)
 | 0, _, line, col => some [⟨5, [], line, col⟩]
 | f + 1, l, line, col =>
  if l = [] then some [⟨5, [], line, col⟩]
  else if (nextL l).1 < 0 then none
  else if (nextL l).1 = 4 then (tokG f (l.drop 1) (line + 1) 1).map (⟨4, [], line, col⟩ :: ·)
  else if (nextL l).1 = 0 then tokG f (l.drop (nextL l).2) line (col + (nextL l).2)
  else (tokG f (l.drop (nextL l).2) line (col + (nextL l).2)).map (⟨(nextL l).1, l.take (nextL l).2, line, col⟩ :: ·)
theorem tokF_G : ∀ (f : Nat) (l : List UInt8) (line col : Int) (acc : List Tk), (∃ ts, tokG f l line col = some ts ∧ tokF f l line col acc = (acc ++ ts, (0, 0), 0)) ∨ (tokG f l line col = none ∧ ∃ p, tokF f l line col acc = ([], p, 7))
 | 0, l, line, col, acc => .inl ⟨_, rfl, rfl⟩
 | f + 1, l, line, col, acc => by
  unfold tokG tokF
  by_cases h0 : l = []
  ·rw [if_pos h0, if_pos h0]
   exact .inl ⟨_, rfl, rfl⟩
  rw [if_neg h0, if_neg h0]
  by_cases h1 : (nextL l).1 < 0
  ·rw [if_pos h1, if_pos h1]
   exact .inr ⟨rfl, _, rfl⟩
  rw [if_neg h1, if_neg h1]
  by_cases h2 : (nextL l).1 = 4
  ·rw [if_pos h2, if_pos h2]
   rcases tokF_G f (l.drop 1) (line + 1) 1 (acc ++ [⟨4, [], line, col⟩]) with ⟨ts, q1, q2⟩ | ⟨q1, p, q2⟩
   ·exact .inl ⟨_, by rw [q1]; rfl, by rw [q2]; simp⟩
   ·exact .inr ⟨by rw [q1]; rfl, p, q2⟩
  rw [if_neg h2, if_neg h2]
  by_cases h3 : (nextL l).1 = 0
  ·rw [if_pos h3, if_pos h3]
   exact tokF_G f _ _ _ acc
  rw [if_neg h3, if_neg h3]
  rcases tokF_G f (l.drop (nextL l).2) line (col + (nextL l).2) (acc ++ [⟨(nextL l).1, l.take (nextL l).2, line, col⟩]) with ⟨ts, q1, q2⟩ | ⟨q1, p, q2⟩
  ·exact .inl ⟨_, by rw [q1]; rfl, by rw [q2]; simp⟩
  ·exact .inr ⟨by rw [q1]; rfl, p, q2⟩
theorem runL_all {p : UInt8 → Bool} {a : List UInt8} (h : a.all p = true) (c : UInt8) (hc : p c = false) (r : List UInt8) : runL p (a ++ c :: r) = a.length := by
 unfold runL
 rw [List.takeWhile_append_of_pos (fun x hx => List.all_eq_true.1 h x hx)]
 simp [hc]
theorem nextL_kind (l : List UInt8) : (nextL l).1 = -1 ∨ (nextL l).1 = 0 ∨ (nextL l).1 = 1 ∨ (nextL l).1 = 2 ∨ (nextL l).1 = 3 ∨ (nextL l).1 = 4 := by
 unfold nextL
 dsimp only
 split
 ·exact .inr (.inl rfl)
 split
 ·exact .inr (.inr (.inr (.inr (.inr rfl))))
 split
 ·exact .inr (.inl rfl)
 split
 ·split
  ·exact .inl rfl
  ·exact .inr (.inr (.inl rfl))
 split
 ·exact .inr (.inr (.inr (.inl rfl)))
 split
 ·exact .inl rfl
 ·exact .inr (.inr (.inr (.inr (.inl rfl))))
theorem nextL_name {c : UInt8} {r : List UInt8} (c1 : ¬ (c.toNat = 32 ∨ c.toNat = 9)) (c2 : ¬ c.toNat = 10) (c3 : ¬ c.toNat = 35) (c4 : isLet c = true) : nextL (c :: r) = if 20 < runL isWrd (c :: r) then (-1, runL isWrd (c :: r)) else (1, runL isWrd (c :: r)) := by
 unfold nextL
 dsimp only [List.headD_cons]
 rw [if_neg c1, if_neg c2, if_neg c3, if_pos c4]
theorem nextL_num {c : UInt8} {r : List UInt8} (c1 : ¬ (c.toNat = 32 ∨ c.toNat = 9)) (c2 : ¬ c.toNat = 10) (c3 : ¬ c.toNat = 35) (c4 : ¬ isLet c = true) (c5 : isDig c = true) : nextL (c :: r) = (2, numL (c :: r)) := by
 unfold nextL
 dsimp only [List.headD_cons]
 rw [if_neg c1, if_neg c2, if_neg c3, if_neg c4, if_pos c5]
theorem nextL_sym {c : UInt8} {r : List UInt8} (c1 : ¬ (c.toNat = 32 ∨ c.toNat = 9)) (c2 : ¬ c.toNat = 10) (c3 : ¬ c.toNat = 35) (c4 : ¬ isLet c = true) (c5 : ¬ isDig c = true) : nextL (c :: r) = if symL (c :: r) = 0 then (-1, 1) else (3, symL (c :: r)) := by
 unfold nextL
 dsimp only [List.headD_cons]
 rw [if_neg c1, if_neg c2, if_neg c3, if_neg c4, if_neg c5]
theorem nextL_sp (r : List UInt8) : nextL (32 :: r) = (0, 1) := by
 unfold nextL
 dsimp only [List.headD_cons]
 rw [if_pos (by decide)]
theorem nextL_nl (r : List UInt8) : nextL (10 :: r) = (4, 1) := by
 unfold nextL
 dsimp only [List.headD_cons]
 rw [if_neg (by decide), if_pos (by decide)]
theorem getD_mid (a : List UInt8) (c : UInt8) (r : List UInt8) : (a ++ c :: r).getD a.length 0 = c := by
 simp [List.getD]
theorem symL_cons (c : UInt8) (r : List UInt8) : symL (c :: r) = if ((decide (c.toNat = 62) || decide (c.toNat = 60) || decide (c.toNat = 58)) && decide ((r.headD 0).toNat = 61)) = true then 2 else if symC c = true then 1 else 0 := rfl
def Stand (s l : List UInt8) (line col : Int) : Prop := ∃ a u, s = a ++ (u ++ l) ∧ (a = [] ∨ ∃ b, a = b ++ [10]) ∧ noB 10 u ∧ line = 1 + (a.count 10 : Nat) ∧ col = 1 + (u.length : Nat)
theorem Stand.start (s : List UInt8) : Stand s s 1 1 := ⟨[], [], rfl, .inl rfl, noB_nil _, rfl, rfl⟩
theorem Stand.go {s l : List UInt8} {line col : Int} (h : Stand s l line col) (n : Nat) (hl : (l.take n).length = n) (hn : noB 10 (l.take n)) : Stand s (l.drop n) line (col + n) := by
 obtain ⟨a, u, h1, h2, h3, h4, h5⟩ := h
 refine ⟨a, u ++ l.take n, ?_, h2, noB_app.2 ⟨h3, hn⟩, h4, ?_⟩
 ·rw [List.append_assoc, List.take_append_drop]
  exact h1
 ·rw [List.length_append, hl, h5]
  omega
theorem Stand.nl {s r : List UInt8} {line col : Int} (h : Stand s (10 :: r) line col) : Stand s r (line + 1) 1 := by
 obtain ⟨a, u, h1, h2, h3, h4, h5⟩ := h
 refine ⟨a ++ (u ++ [10]), [], ?_, .inr ⟨a ++ u, by simp⟩, noB_nil _, ?_, rfl⟩
 ·rw [h1]; simp
 ·have : u.count 10 = 0 := List.count_eq_zero.2 (fun hm => h3 10 hm rfl)
  rw [List.count_append, List.count_append, this, h4]
  simp
  omega
def AscT : Int → Int → List Tk → Prop
 | _, _, [] => True
 | line, col, t :: r => (line < t.line ∨ line = t.line ∧ col ≤ t.col) ∧ AscT t.line (t.col + 1) r
theorem AscT.next : ∀ {ts : List Tk} {line col : Int}, AscT line col ts → ∀ (i : Nat) (hi : i + 1 < ts.length), (ts[i]'(by omega)).line < ts[i + 1].line ∨ (ts[i]'(by omega)).line = ts[i + 1].line ∧ (ts[i]'(by omega)).col < ts[i + 1].col
 | [], _, _, _, i, hi => by simp at hi
 | [t], _, _, _, i, hi => by simp at hi
 | t :: u :: r, line, col, h, 0, hi => by
  have := h.2.1
  show t.line < u.line ∨ t.line = u.line ∧ t.col < u.col
  omega
 | t :: u :: r, line, col, h, i + 1, hi => AscT.next h.2 i (by simpa using hi)
end Go.Proofs.YtccakklnbhcbdaaGreatDoor
