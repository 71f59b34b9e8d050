/- Plain: the tokens of a text. No program in sight. -/
import Derived.Lib.Mul64
set_option linter.unusedVariables false
namespace Go.Proofs.YtpocmijfkjjboaaGreatDoor

def isLet (c : UInt8) : Bool := (decide (97 ≤ c.toNat) && decide (c.toNat ≤ 122)) || (decide (65 ≤ c.toNat) && decide (c.toNat ≤ 90))
def isDig (c : UInt8) : Bool := decide (48 ≤ c.toNat) && decide (c.toNat ≤ 57)
def isWrd (c : UInt8) : Bool := isLet c || isDig c || decide (c.toNat = 95)
/-- How many bytes at the beginning are of a kind. -/
def runL (p : UInt8 → Bool) (l : List UInt8) : Nat := (l.takeWhile p).length
/-- Behind the bytes of a kind, from a place on. -/
def runA (p : UInt8 → Bool) (l : List UInt8) (k : Nat) : Nat := k + runL p (l.drop k)
/-- Behind the number that begins at a place. -/
def numA (l : List UInt8) (i : Nat) : Nat :=
  if decide (runA isDig l i + 1 < l.length) && decide ((l.getD (runA isDig l i) 0).toNat = 46) && isDig (l.getD (runA isDig l i + 1) 0) then runA isDig l (runA isDig l i + 1) else runA isDig l i
def numL (l : List UInt8) : Nat := numA l 0
def symC (c : UInt8) : Bool := [45, 43, 58, 44, 59, 47, 61, 40, 41, 60, 62, 42].contains c
def symL : List UInt8 → Nat
  | [] => 0
  | c :: l => if (decide (c.toNat = 62) || decide (c.toNat = 60) || decide (c.toNat = 58)) && decide ((l.headD 0).toNat = 61) then 2 else if symC c then 1 else 0
/-- The kind of what begins a text, and its length: 0 blank, -1 wrong. -/
def nextL (l : List UInt8) : Int × Nat :=
  let c := l.headD 0
  if c.toNat = 32 ∨ c.toNat = 9 then (0, 1) else if c.toNat = 10 then (4, 1) else if c.toNat = 35 then (0, runL (fun c => decide (c.toNat ≠ 10)) l)
  else if isLet c then (if 20 < runL isWrd l then (-1, runL isWrd l) else (1, runL isWrd l)) else if isDig c then (2, numL l) else if symL l = 0 then (-1, 1) else (3, symL l)
/-- A token: its kind, its text, its line and column. -/
structure Tk where
  kind : Int
  text : List UInt8
  line : Int
  col : Int
deriving DecidableEq
/-- The tokens of a text from a place on, behind others; the place of a fault; the error. -/
def tokF : Nat → List UInt8 → Int → Int → List Tk → List Tk × (Int × Int) × Int
  | 0, _, line, col, acc => (acc ++ [⟨5, [], line, col⟩], (0, 0), 0)
  | f + 1, l, line, col, acc =>
    if l = [] then (acc ++ [⟨5, [], line, col⟩], (0, 0), 0)
    else if (nextL l).1 < 0 then ([], (line, col), 7)
    else if (nextL l).1 = 4 then tokF f (l.drop 1) (line + 1) 1 (acc ++ [⟨4, [], line, col⟩])
    else if (nextL l).1 = 0 then tokF f (l.drop (nextL l).2) line (col + (nextL l).2) acc
    else tokF f (l.drop (nextL l).2) line (col + (nextL l).2) (acc ++ [⟨(nextL l).1, l.take (nextL l).2, line, col⟩])
def tokS (l : List UInt8) : List Tk × (Int × Int) × Int := if 262144 < l.length then ([], (0, 0), 4) else tokF l.length l 1 1 []
/-! ### loops over the bytes of a kind -/
theorem runL_cons (p : UInt8 → Bool) (c : UInt8) (l : List UInt8) : runL p (c :: l) = if p c then runL p l + 1 else 0 := by
  unfold runL
  rw [List.takeWhile_cons]
  split <;> rfl
theorem runL_le (p : UInt8 → Bool) (l : List UInt8) : runL p l ≤ l.length := by
  induction l with
  | nil => simp [runL]
  | cons c l ih => rw [runL_cons]; split <;> simp <;> omega
theorem runA_yes {p : UInt8 → Bool} {l : List UInt8} {k : Nat} (hk : k < l.length) (h : p l[k] = true) : runA p l (k + 1) = runA p l k := by
  unfold runA
  rw [List.drop_eq_getElem_cons hk, runL_cons, if_pos h]
  omega
theorem runA_no {p : UInt8 → Bool} {l : List UInt8} {k : Nat} (hk : k < l.length) (h : p l[k] = false) : runA p l k = k := by
  unfold runA
  rw [List.drop_eq_getElem_cons hk, runL_cons, if_neg (by simp [h])]
  rfl
theorem runA_end {p : UInt8 → Bool} {l : List UInt8} {k : Nat} (hk : l.length ≤ k) : runA p l k = k := by
  unfold runA
  rw [List.drop_eq_nil_of_le hk]
  rfl
theorem runA_zero (p : UInt8 → Bool) (l : List UInt8) : runA p l 0 = runL p l := by simp [runA]
theorem runA_le {p : UInt8 → Bool} {l : List UInt8} {k : Nat} (hk : k ≤ l.length) : k ≤ runA p l k ∧ runA p l k ≤ l.length := by
  have := runL_le p (l.drop k)
  rw [List.length_drop] at this
  unfold runA
  omega
theorem runA_drop (p : UInt8 → Bool) (l : List UInt8) (i k : Nat) : runA p l (i + k) = i + runA p (l.drop i) k := by
  unfold runA
  rw [List.drop_drop]
  omega
theorem numA_drop (l : List UInt8) (i : Nat) : numA l i = i + numL (l.drop i) := by
  have e0 := runA_drop isDig l i 0
  rw [Nat.add_zero] at e0
  unfold numL numA
  rw [e0]
  generalize hk : runA isDig (l.drop i) 0 = k
  have e1 : l.getD (i + k) 0 = (l.drop i).getD k 0 := by simp [List.getD]
  have e2 : l.getD (i + k + 1) 0 = (l.drop i).getD (k + 1) 0 := by simp [List.getD, Nat.add_assoc]
  have e3 : decide (i + k + 1 < l.length) = decide (k + 1 < (l.drop i).length) := decide_eq_decide.2 (by rw [List.length_drop]; omega)
  rw [e1, e2, e3, Nat.add_assoc i k 1, runA_drop isDig l i (k + 1)]
  split <;> rfl
theorem tok_ex : tokS [115, 101, 116, 32, 103, 49, 32, 58, 61, 32, 48, 32, 35, 32, 111, 102, 102] = ([⟨1, [115, 101, 116], 1, 1⟩, ⟨1, [103, 49], 1, 5⟩, ⟨3, [58, 61], 1, 8⟩, ⟨2, [48], 1, 11⟩, ⟨5, [], 1, 18⟩], (0, 0), 0) := by decide
end Go.Proofs.YtpocmijfkjjboaaGreatDoor
