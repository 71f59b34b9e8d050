/- Plain: reading decimal texts. No program in sight. -/
import Derived.Test.YtdbgfeeglnpobaaDoorMFmt
set_option linter.unusedVariables false
namespace Go.Proofs.YtdbgfeeglnpobaaDoor
open Go.Lib

def allD (l : List UInt8) : Bool := !l.isEmpty && l.all isDig
/-- The number that digits stand for, if it fits. -/
def accP : List UInt8 → Nat → Option Nat
  | [], n => some n
  | c :: r, n => if (1152921504606846976 - (c.toNat - 48)) / 10 < n then none else accP r (10 * n + (c.toNat - 48))
def parV (neg : Bool) (ds : List UInt8) : Int × Int :=
  match accP ds 0 with
  | none => (0, 5)
  | some n => (if neg then -(n : Int) else (n : Int), 0)
/-- Around the first point. -/
def cutD (l : List UInt8) : List UInt8 × List UInt8 × Bool :=
  if indexByte l 46 < 0 then (l, [], false) else (l.take (indexByte l 46).toNat, l.drop ((indexByte l 46).toNat + 1), true)
def badP (wh pt : List UInt8) (po : Bool) (k : Nat) : Bool := !allD wh || (decide (1 < wh.length) && decide ((wh.headD 0).toNat = 48)) || (po && (!allD pt || decide (k < pt.length)))
def parS (l : List UInt8) (k : Nat) : Int × Int :=
  let r := cutD (trimPrefix l [45])
  if badP r.1 r.2.1 r.2.2 k then (0, 7) else parV (hasPrefix l [45]) (r.1 ++ r.2.1 ++ List.replicate (k - r.2.1.length) 48)
theorem accP_le : ∀ (l : List UInt8) (n m : Nat), l.all isDig = true → n ≤ 1152921504606846976 → accP l n = some m → m ≤ 1152921504606846976
  | [], n, m, _, h, e => by simp only [accP, Option.some.injEq] at e; omega
  | c :: r, n, m, hd, h, e => by
    simp only [List.all_cons, Bool.and_eq_true] at hd
    have hc : c.toNat ≤ 57 := by have := hd.1; simp [isDig] at this; omega
    unfold accP at e
    split at e
    · exact absurd e (by simp)
    · exact accP_le r _ m hd.2 (by omega) e
theorem isDig_bd {c : UInt8} (h : isDig c = true) : 48 ≤ c.toNat ∧ c.toNat ≤ 57 := by simpa [isDig] using h
theorem accP_cons {c : UInt8} {r : List UInt8} {n : Nat} : accP (c :: r) n = if (1152921504606846976 - (c.toNat - 48)) / 10 < n then none else accP r (10 * n + (c.toNat - 48)) := rfl
theorem cutD_len (l : List UInt8) : (cutD l).1.length + (cutD l).2.1.length ≤ l.length := by
  unfold cutD
  split
  · simp
  · simp only [List.length_take, List.length_drop]; omega
theorem idx_bd (l : List UInt8) (c : UInt8) : indexByte l c < l.length := by
  induction l with
  | nil => show (-1 : Int) < ((0 : Nat) : Int); omega
  | cons b l ih =>
    unfold indexByte
    simp only [List.length_cons]
    split
    · omega
    · split <;> omega
theorem all_take {l : List UInt8} (p : UInt8 → Bool) (h : l.all p = true) (k : Nat) (hk : k < l.length) : p l[k] = true := List.all_eq_true.1 h _ (List.getElem_mem hk)
end Go.Proofs.YtdbgfeeglnpobaaDoor
