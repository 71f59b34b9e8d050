import Derived.Test.YtccakklnbhcbdaaGreatDoorFsDcT
import Derived.Test.YtccakklnbhcbdaaGreatDoorFQb
import Derived.WalkLawsBesides
import Derived.Defers
import Derived.Recover
import Derived.Deep.LoopGhost
import Derived.Deep.DeepCutAuto
import Derived.Deep.CutBlock
import Derived.Deep.RegionWith
set_option linter.unusedVariables false
namespace Go.Proofs.YtccakklnbhcbdaaGreatDoor
open Go.ChangeShapes Go.WideShapes Go.ChangeAt Go.RowKit
set_option maxRecDepth 100000 in
theorem tokens_long (S : ByteArray) (hS : (262144 : Int) < (S.size : Int)) (w : World) :
  Calls Tryz.prog 88 #[.string S] w fun e w' => tkR ([], (0, 0), 4) w.heap.size e w' ∧ Below w.heap.size w w' := by
 go_enter Tryz.func88, Tryz.ntmps88
 go_wp2_with fail
 generalize hWW : World.alloc _ _ = WW
 have kz : At WW w.heap.size 43 #[.int .i64 0, .int .i64 0] := by rw [← hWW]; repeat (first | (with_reducible apply At.new'; (focus (simp; done))) | with_reducible apply At.al | with_reducible apply At.drw | with_reducible apply At.dr)
 have HB : Below w.heap.size w WW := by rw [← hWW]; repeat (first | with_reducible assumption | with_reducible exact Below.refl _ _ | with_reducible refine below_al ?_ _ | with_reducible refine below_drew ?_ | with_reducible refine below_drewN ?_ _ | with_reducible refine below_set ?_ (by dsimp only; omega) _)
 clear hWW
 have k0 := kz.c0
 have k1 := kz.c1
 exact bodyPost_ret (v := .tuple #[.slice none 0 0, .agg #[.int .i64 0, .int .i64 0], .int .i64 4]) (by simp [results, Tryz.results88, go_sem, k0, k1]) rfl ⟨⟨.slice none 0 0, rfl, World.ownsRow_nil _ _ _ _⟩, HB⟩
theorem tokens_any (S : ByteArray) (w : World) :
  Calls Tryz.prog 88 #[.string S] w fun e w' => tkR (tokS (by_ S)) w.heap.size e w' ∧ Below w.heap.size w w' := by
 unfold tokS
 rw [by_len]
 by_cases h : 262144 < S.size
 ·rw [if_pos h]
  exact tokens_long S (by omega) w
 ·rw [if_neg h]
  exact tokens_core S (by omega) _ (Lib.hid rfl) w
theorem own_shape {w : World} {base : Nat} {e : TypeId} {size : Nat} {v : Value} {n : Nat} {xs : List Value} (h : w.ownsRow base e size v n xs) (hn : 0 < n) : ∃ g cap, v = .slice (some ⟨g, 0, none⟩) n cap ∧ n ≤ cap ∧ base ≤ g ∧ g < w.heap.size := by
 obtain ⟨_, ⟨_, h2⟩ | ⟨g, cap, cur, e1, e2, e3, e4, _⟩⟩ := h
 ·omega
 ·refine ⟨g, cap, e1, e4, e2, ?_⟩
  rcases Nat.lt_or_ge g w.heap.size with h | h
  ·exact h
  ·rw [Array.getElem?_eq_none h] at e3; exact absurd e3 (by simp)
theorem own_slice {w : World} {base : Nat} {e : TypeId} {size : Nat} {v : Value} {n : Nat} {xs : List Value} (h : w.ownsRow base e size v n xs) : ∃ a cap, v = .slice a n cap := by
 obtain ⟨_, ⟨h1, h2⟩ | ⟨g, cap, cur, e1, _⟩⟩ := h
 ·subst h2; exact ⟨none, 0, h1⟩
 ·exact ⟨_, cap, e1⟩
theorem tksC_at : ∀ (l : List Tk) (k : Nat) (hk : k < l.length) (j : Nat), j < 4 → (tksC l)[k * 4 + j]? = (tkC l[k])[j]?
 | t :: l, 0, _, j, hj => by
  rw [show tksC (t :: l) = tkC t ++ tksC l from rfl, List.getElem?_append_left (by show 0 * 4 + j < 4; omega)]
  rw [show 0 * 4 + j = j from by omega]
  rfl
 | t :: l, k + 1, hk, j, hj => by
  rw [show tksC (t :: l) = tkC t ++ tksC l from rfl, List.getElem?_append_right (by show 4 ≤ (k + 1) * 4 + j; omega)]
  rw [show (k + 1) * 4 + j - (tkC t).length = k * 4 + j from by show (k + 1) * 4 + j - 4 = _; omega]
  exact tksC_at l k (by simpa using hk) j hj
def TokAt (w : World) (a : Option Addr) (l : List Tk) : Prop := ∀ (k : Nat) (hk : k < l.length), ∃ g, a = some ⟨g, 0, none⟩ ∧ w.cell? ⟨g, k * 4, none⟩ = some (.int .i64 l[k].kind) ∧ w.cell? ⟨g, k * 4 + 1, none⟩ = some (.string ⟨l[k].text.toArray⟩) ∧ w.cell? ⟨g, k * 4 + 2, none⟩ = some (.int .i64 l[k].line) ∧ w.cell? ⟨g, k * 4 + 3, none⟩ = some (.int .i64 l[k].col)
theorem tokAt_own {w : World} {base : Nat} {e : TypeId} {a : Option Addr} {cap : Nat} {l : List Tk} (h : w.ownsRow base e 4 (.slice a l.length cap) l.length (tksC l)) : TokAt w a l := by
 intro k hk
 obtain ⟨g, cap', e1, _, _, _⟩ := own_shape h (by omega)
 obtain ⟨rfl, _, rfl⟩ : a = some ⟨g, 0, none⟩ ∧ True ∧ cap = cap' := by
  injection e1 with x1 x2 x3
  exact ⟨x1, trivial, x3⟩
 have hc := fun (j : Nat) (hj : j < 4) => (h.cellAt (k * 4 + j) (by omega)).trans (tksC_at l k hk j hj)
 exact ⟨g, rfl, hc 0 (by omega), hc 1 (by omega), hc 2 (by omega), hc 3 (by omega)⟩
theorem own_cap {w : World} {base : Nat} {e : TypeId} {size : Nat} {a : Option Addr} {n m cap : Nat} {xs : List Value} (h : w.ownsRow base e size (.slice a m cap) n xs) : m = n ∧ n ≤ cap ∧ cap ≤ maxLen := by
 obtain ⟨_, ⟨h1, h2⟩ | ⟨g, cap', cur, e1, _, _, e4, e5, _⟩⟩ := h
 ·injection h1 with x1 x2 x3
  subst h2 x2 x3
  exact ⟨rfl, Nat.le_refl _, Nat.zero_le _⟩
 ·injection e1 with x1 x2 x3
  subst x2 x3
  exact ⟨rfl, e4, e5⟩
def nameB (l : List UInt8) : Bool := !l.isEmpty && decide (l.length ≤ 20) && isLet (l.headD 0) && decide (runL isWrd l = l.length)
set_option maxRecDepth 100000 in
set_option maxHeartbeats 1000000 in
theorem isName_any (s : ByteArray) (hs : s.size ≤ 9223372036854775806) (w : World) :
  Calls Tryz.prog 40 #[.string s] w fun e w' => e = .returned (.bool (nameB (by_ s))) ∧ Below w.heap.size w w' := by
 obtain ⟨b, hb⟩ : ∃ b, nameB (by_ s) = b := ⟨_, rfl⟩
 rw [hb]
 unfold nameB at hb
 by_cases h0 : s.size = 0
 ·have hE : Hid (b = false) := Lib.hid (by
   have : by_ s = [] := List.length_eq_zero_iff.1 (by rw [by_len]; exact h0)
   rw [← hb, this]; rfl)
  have em := em_of s h0
  clear hb
  go_enter Tryz.func40, Tryz.ntmps40
  go_wp2_with fail
  go_ret
  exact ⟨by rw [hE.out]; rfl, Below.refl _ _⟩
 have hp : 0 < s.size := Nat.pos_of_ne_zero h0
 have ne := ne_of s hp
 have hl : (by_ s).length = s.size := rfl
 have hne : (by_ s).isEmpty = false := by rw [← ne, Lib.toList_data]
 rw [hne, hl] at hb
 by_cases h1 : s.size ≤ 20
 ·obtain ⟨c, hc⟩ : ∃ c, s[0]'hp = c := ⟨_, rfl⟩
  have hhd := (drop_head s 0 hp c hc).1
  rw [List.drop_zero] at hhd
  rw [hhd] at hb
  have z1 : ((s.size : Int) == 0) = false := by rw [beq_eq_false_iff_ne]; omega
  have z2 : decide ((20 : Int) < (s.size : Int)) = false := by simp; omega
  have HL := Lib.hid (fun w => letter_any c w)
  cases hL : isLet c
  ·have hE : Hid (b = false) := Lib.hid (by rw [← hb, hL]; simp)
   rw [hL] at HL
   clear hb hL hhd hne hl
   go_enter Tryz.func40, Tryz.ntmps40
   go_wp2_with fail
   refine (HL.out _).mono ?_
   rintro e w' ⟨rfl, rfl⟩
   go_wp2_with fail
   go_ret
   exact ⟨by rw [hE.out]; rfl, Below.refl _ _⟩
  ·rw [hL] at HL
   have HW := Lib.hid (fun w => word_any s hs w)
   have hw := runL_le isWrd (by_ s)
   rw [hl] at hw
   by_cases h2 : runL isWrd (by_ s) = s.size
   ·have hE : Hid (b = true) := Lib.hid (by rw [← hb, hL, h2]; simp [h1])
    rw [h2] at HW
    clear hb hL hhd hne hl hw
    go_enter Tryz.func40, Tryz.ntmps40
    go_wp2_with fail
    refine (HL.out _).mono ?_
    rintro e w' ⟨rfl, rfl⟩
    go_wp2_with fail
    refine (HW.out _).mono ?_
    rintro e w' ⟨rfl, rfl⟩
    go_wp2_with fail
    go_ret
    exact ⟨by rw [hE.out]; rfl, Below.refl _ _⟩
   ·have hE : Hid (b = false) := Lib.hid (by rw [← hb]; simp [h2])
    generalize runL isWrd (by_ s) = M at *
    have h3 : ¬ (M : Int) = (s.size : Int) := by omega
    have h4 : ((M : Int) == (s.size : Int)) = false := by simpa using h3
    clear hb hL hhd hne hl hw h2
    go_enter Tryz.func40, Tryz.ntmps40
    go_wp2_with fail
    refine (HL.out _).mono ?_
    rintro e w' ⟨rfl, rfl⟩
    go_wp2_with fail
    refine (HW.out _).mono ?_
    rintro e w' ⟨rfl, rfl⟩
    go_wp2_with fail
    go_ret
    exact ⟨by rw [hE.out]; rfl, Below.refl _ _⟩
 ·have hE : Hid (b = false) := Lib.hid (by rw [← hb]; simp [h1])
  have z1 : ((s.size : Int) == 0) = false := by rw [beq_eq_false_iff_ne]; omega
  have z2 : decide ((20 : Int) < (s.size : Int)) = true := by simp; omega
  clear hb hne hl
  go_enter Tryz.func40, Tryz.ntmps40
  go_wp2_with fail
  go_ret
  exact ⟨by rw [hE.out]; rfl, Below.refl _ _⟩
set_option maxRecDepth 100000 in
set_option maxHeartbeats 1000000 in
theorem refisName_any (s : ByteArray) (hs : s.size ≤ 9223372036854775806) (w : World) :
  Calls Tryz.prog 51 #[.string s] w fun e w' => e = .returned (.bool (nameB (by_ s))) ∧ Below w.heap.size w w' := by
 obtain ⟨b, hb⟩ : ∃ b, nameB (by_ s) = b := ⟨_, rfl⟩
 rw [hb]
 unfold nameB at hb
 by_cases h0 : s.size = 0
 ·have hE : Hid (b = false) := Lib.hid (by
   have : by_ s = [] := List.length_eq_zero_iff.1 (by rw [by_len]; exact h0)
   rw [← hb, this]; rfl)
  have em := em_of s h0
  clear hb
  go_enter Tryz.func51, Tryz.ntmps51
  go_wp2_with fail
  go_ret
  exact ⟨by rw [hE.out]; rfl, Below.refl _ _⟩
 have hp : 0 < s.size := Nat.pos_of_ne_zero h0
 have ne := ne_of s hp
 have hl : (by_ s).length = s.size := rfl
 have hne : (by_ s).isEmpty = false := by rw [← ne, Lib.toList_data]
 rw [hne, hl] at hb
 by_cases h1 : s.size ≤ 20
 ·obtain ⟨c, hc⟩ : ∃ c, s[0]'hp = c := ⟨_, rfl⟩
  have hhd := (drop_head s 0 hp c hc).1
  rw [List.drop_zero] at hhd
  rw [hhd] at hb
  have z1 : ((s.size : Int) == 0) = false := by rw [beq_eq_false_iff_ne]; omega
  have z2 : decide ((20 : Int) < (s.size : Int)) = false := by simp; omega
  have HL := Lib.hid (fun w => refLetter_any c w)
  cases hL : isLet c
  ·have hE : Hid (b = false) := Lib.hid (by rw [← hb, hL]; simp)
   rw [hL] at HL
   clear hb hL hhd hne hl
   go_enter Tryz.func51, Tryz.ntmps51
   go_wp2_with fail
   refine (HL.out _).mono ?_
   rintro e w' ⟨rfl, rfl⟩
   go_wp2_with fail
   go_ret
   exact ⟨by rw [hE.out]; rfl, Below.refl _ _⟩
  ·rw [hL] at HL
   have HW := Lib.hid (fun w => by have := refword_any s 0 (Nat.zero_le _) hs w; rw [runA_zero, Int.natCast_zero] at this; exact this)
   have hw := runL_le isWrd (by_ s)
   rw [hl] at hw
   by_cases h2 : runL isWrd (by_ s) = s.size
   ·have hE : Hid (b = true) := Lib.hid (by rw [← hb, hL, h2]; simp [h1])
    rw [h2] at HW
    clear hb hL hhd hne hl hw
    go_enter Tryz.func51, Tryz.ntmps51
    go_wp2_with fail
    refine (HL.out _).mono ?_
    rintro e w' ⟨rfl, rfl⟩
    go_wp2_with fail
    refine (HW.out _).mono ?_
    rintro e w' ⟨rfl, rfl⟩
    go_wp2_with fail
    go_ret
    exact ⟨by rw [hE.out]; rfl, Below.refl _ _⟩
   ·have hE : Hid (b = false) := Lib.hid (by rw [← hb]; simp [h2])
    generalize runL isWrd (by_ s) = M at *
    have h3 : ¬ (M : Int) = (s.size : Int) := by omega
    have h4 : ((M : Int) == (s.size : Int)) = false := by simpa using h3
    clear hb hL hhd hne hl hw h2
    go_enter Tryz.func51, Tryz.ntmps51
    go_wp2_with fail
    refine (HL.out _).mono ?_
    rintro e w' ⟨rfl, rfl⟩
    go_wp2_with fail
    refine (HW.out _).mono ?_
    rintro e w' ⟨rfl, rfl⟩
    go_wp2_with fail
    go_ret
    exact ⟨by rw [hE.out]; rfl, Below.refl _ _⟩
 ·have hE : Hid (b = false) := Lib.hid (by rw [← hb]; simp [h1])
  have z1 : ((s.size : Int) == 0) = false := by rw [beq_eq_false_iff_ne]; omega
  have z2 : decide ((20 : Int) < (s.size : Int)) = true := by simp; omega
  clear hb hne hl
  go_enter Tryz.func51, Tryz.ntmps51
  go_wp2_with fail
  go_ret
  exact ⟨by rw [hE.out]; rfl, Below.refl _ _⟩
theorem TokAt.bel {w w' : World} {a : Option Addr} {l : List Tk} (h : TokAt w a l) (hb : Below w.heap.size w w') (hlt : ∀ g, a = some ⟨g, 0, none⟩ → g < w.heap.size) : TokAt w' a l := by
 intro k hk
 obtain ⟨g, e, c0, c1, c2, c3⟩ := h k hk
 have hg := hlt g e
 exact ⟨g, e, (hb.cell hg).trans c0, (hb.cell hg).trans c1, (hb.cell hg).trans c2, (hb.cell hg).trans c3⟩
theorem own_tok {w : World} {base : Nat} {e : TypeId} {v : Value} {l : List Tk} (h : w.ownsRow base e 4 v l.length (tksC l)) : ∃ (a : Option Addr) (cap : Nat), v = .slice a l.length cap ∧ l.length ≤ cap ∧ Hid (TokAt w a l ∧ ∀ g, a = some ⟨g, 0, none⟩ → g < w.heap.size) := by
 obtain ⟨a, cap, rfl⟩ := own_slice h
 refine ⟨a, cap, rfl, (own_cap h).2.1, Lib.hid ⟨tokAt_own h, fun g e => ?_⟩⟩
 subst e
 exact (h.lt g rfl).2
end Go.Proofs.YtccakklnbhcbdaaGreatDoor
set_option linter.unusedVariables false
namespace Go.Proofs.YtccakklnbhcbdaaGreatDoor
open Go.Lib (decDigits itoa)
structure Det where
 name : List UInt8
 mem : List Int
 boxes : List (List Int)
 holes : List (List Int)
 rule : List Int
 bars : List (List UInt8 × List Int)
 runs : List (List UInt8 × List Int)
 laps : List (List Int)
 dems : List (List UInt8 × List Int × List (List Int))
deriving DecidableEq
def det0 : Det := ⟨[], [0, 0, 0], [], [], [0, 0, 0, 0, 0, 0, 0, 0, 0], [], [], [], []⟩
def wMember : List UInt8 := [109, 101, 109, 98, 101, 114]
def wBox : List UInt8 := [98, 111, 120]
def wHole : List UInt8 := [104, 111, 108, 101]
def wRule : List UInt8 := [114, 117, 108, 101]
def wBar : List UInt8 := [98, 97, 114]
def wRun : List UInt8 := [114, 117, 110]
def wLap : List UInt8 := [108, 97, 112]
def wDemand : List UInt8 := [100, 101, 109, 97, 110, 100]
def wStep : List UInt8 := [115, 116, 101, 112]
def namedW (w : List UInt8) : Bool := decide (w = wMember) || decide (w = wBar) || decide (w = wRun) || decide (w = wDemand)
def leastW (w : List UInt8) : Nat :=
 if w = wMember then 3 else if w = wBox then 6 else if w = wHole then 6 else if w = wDemand then 6 else if w = wRule then 9 else if w = wRun then 9 else if w = wBar then 4 else if w = wLap then 2 else if w = wStep then 2 else 0
def stepD : List (List UInt8 × List Int × List (List Int)) → List Int → List (List UInt8 × List Int × List (List Int))
 | [], _ => []
 | [(m, z, l)], n => [(m, z, l ++ [n])]
 | d :: r, n => d :: stepD r n
def putD (d : Det) (w nm : List UInt8) (n : List Int) : Det :=
 if w = wMember then { d with name := nm, mem := n } else if w = wBox then { d with boxes := d.boxes ++ [n] } else if w = wHole then { d with holes := d.holes ++ [n] }
 else if w = wRule then { d with rule := n } else if w = wBar then { d with bars := d.bars ++ [(nm, n)] } else if w = wRun then { d with runs := d.runs ++ [(nm, n)] }
 else if w = wLap then { d with laps := d.laps ++ [n] } else if w = wDemand then { d with dems := d.dems ++ [(nm, n, [])] } else { d with dems := stepD d.dems n }
def tk (ts : List Tk) (i : Nat) : Tk := ts.getD i ⟨5, [], 0, 0⟩
def minusT (t : Tk) : Bool := decide (t.kind = 3) && decide (t.text = [45])
def digT (ts : List Tk) (i : Nat) : Nat := if minusT (tk ts i) then i + 1 else i
def wholeT (t : Tk) : Option Nat := if t.kind = 2 then intO t.text else none
def numT (ts : List Tk) (i : Nat) : Except Nat (Int × Nat) :=
 match wholeT (tk ts (digT ts i)) with
 | some n => .ok (if minusT (tk ts i) then -(n : Int) else (n : Int), digT ts i + 1)
 | none => .error (digT ts i)
def numsT (ts : List Tk) : Nat → Nat → Except Nat (List Int × Nat)
 | 0, i => .ok ([], i)
 | k + 1, i => match numT ts i with
  | .error e => .error e
  | .ok (n, j) => match numsT ts k j with
   | .error e => .error e
   | .ok (l, j') => .ok (n :: l, j')
def dimsT (ts : List Tk) : Nat → Nat → Except Nat (List Int × Nat)
 | 0, i => .ok ([], i)
 | f + 1, i => if (tk ts i).kind = 4 then .ok ([], i) else match numT ts i with
  | .error e => .error e
  | .ok (n, j) => match dimsT ts f j with
   | .error e => .error e
   | .ok (l, j') => .ok (n :: l, j')
def nameT (ts : List Tk) (i : Nat) : Except Nat (List UInt8 × Nat) := if (tk ts i).kind = 1 then .ok ((tk ts i).text, i + 1) else .error i
def skipT (ts : List Tk) : Nat → Nat → Nat
 | 0, i => i
 | f + 1, i => if (tk ts i).kind = 4 then skipT ts f (i + 1) else i
def endT (ts : List Tk) (i : Nat) : Except Nat Nat := if (tk ts i).kind = 4 then .ok (skipT ts ts.length i) else .error i
def lineT (ts : List Tk) (w : List UInt8) (i : Nat) : Except Nat (List Int × Nat) :=
 match numsT ts (leastW w) i with
 | .error e => .error e
 | .ok (l, j) => if w = wBar then match dimsT ts ts.length j with | .error e => .error e | .ok (m, j') => .ok (l ++ m, j') else .ok (l, j)
structure Rd where
 i : Nat
 d : Det
 ruled : Bool
def bodyT (ts : List Tk) (w : List UInt8) (s : Rd) : Except Nat Rd :=
 match (if namedW w then nameT ts (s.i + 1) else .ok ([], s.i + 1)) with
 | .error e => .error e
 | .ok (nm, i) => match lineT ts w i with
  | .error e => .error e
  | .ok (n, j) => match endT ts j with
   | .error e => .error e
   | .ok j' => .ok ⟨j', putD s.d w nm n, s.ruled || decide (w = wRule)⟩
def wordOk (t : Tk) (s : Rd) : Bool := decide (t.kind = 1) && decide (0 < leastW t.text) && !decide (t.text = wMember) && !(s.ruled && decide (t.text = wRule)) && !(decide (t.text = wStep) && s.d.dems.isEmpty)
def otherT (ts : List Tk) (s : Rd) : Except Nat Rd := if wordOk (tk ts s.i) s then bodyT ts (tk ts s.i).text s else .error s.i
def linesT (ts : List Tk) : Nat → Rd → Except Nat Rd
 | 0, s => .ok s
 | f + 1, s => if (tk ts s.i).kind = 5 then .ok s else match otherT ts s with
  | .error e => .error e
  | .ok s' => linesT ts f s'
def readT (ts : List Tk) : Except Nat Det :=
 let i := skipT ts ts.length 0
 if (tk ts i).kind = 1 ∧ (tk ts i).text = wMember then match bodyT ts wMember ⟨i, det0, false⟩ with
  | .error e => .error e
  | .ok s => match linesT ts ts.length s with
   | .error e => .error e
   | .ok s' => if s'.ruled then .ok s'.d else .error s'.i
 else .error i
def readS (l : List UInt8) : Det × (Int × Int) × Int :=
 if (tokS l).2.2 ≠ 0 then (det0, (tokS l).2.1, (tokS l).2.2) else match readT (tokS l).1 with
  | .ok d => (d, (0, 0), 0)
  | .error i => (det0, ((tk (tokS l).1 i).line, (tk (tokS l).1 i).col), 7)
def fitB (l : List Int) : Bool := l.all fun n => decide (-999999999999999 ≤ n) && decide (n ≤ 999999999999999)
def barOk (b : List UInt8 × List Int) : Bool := nameB b.1 && decide (4 ≤ b.2.length) && decide (b.2.length ≤ 11) && fitB b.2
def runOk (r : List UInt8 × List Int) : Bool := nameB r.1 && fitB r.2
def demOk (d : List UInt8 × List Int × List (List Int)) : Bool := nameB d.1 && fitB d.2.1 && decide (d.2.2.length ≤ 200) && d.2.2.all fitB
def wrD (d : Det) : Bool :=
 nameB d.name && fitB d.mem && decide (d.boxes.length ≤ 20) && d.boxes.all fitB && decide (d.holes.length ≤ 20) && d.holes.all fitB && fitB d.rule
 && decide (d.bars.length ≤ 60) && d.bars.all barOk && decide (d.runs.length ≤ 60) && d.runs.all runOk && decide (d.laps.length ≤ 1000) && d.laps.all fitB && decide (d.dems.length ≤ 20) && d.dems.all demOk
def srcS (l : List UInt8) : Det × (Int × Int) × Int := if (readS l).2.2 ≠ 0 then readS l else if wrD (readS l).1 then readS l else (det0, (0, 0), 1)
def lnB (w : List UInt8) (l : List Int) : List UInt8 := w ++ (l.flatMap fun n => 32 :: itoa n) ++ [10]
def textD (d : Det) : List UInt8 :=
 lnB (wMember ++ 32 :: d.name) d.mem ++ d.boxes.flatMap (lnB wBox) ++ d.holes.flatMap (lnB wHole) ++ lnB wRule d.rule ++ (d.bars.flatMap fun b => lnB (wBar ++ 32 :: b.1) b.2)
 ++ (d.runs.flatMap fun r => lnB (wRun ++ 32 :: r.1) r.2) ++ d.laps.flatMap (lnB wLap) ++ (d.dems.flatMap fun x => lnB (wDemand ++ 32 :: x.1) x.2.1 ++ x.2.2.flatMap (lnB wStep))
end Go.Proofs.YtccakklnbhcbdaaGreatDoor
set_option linter.unusedVariables false
namespace Go.Proofs.YtccakklnbhcbdaaGreatDoor
open Go.ChangeShapes Go.WideShapes Go.ChangeAt Go.RowKit
theorem cell_up {w w' : World} {a : Addr} {v : Value} (hb : Below w.heap.size w w') (h : w.cell? a = some v) : w'.cell? a = some v := (hb.cell (block_lt_of_cell h)).trans h
structure Wrt (ps : List Addr) (w w' : World) : Prop where
 os : w'.os = w.os
 tape : w'.tape = w.tape
 output : w'.output = w.output
 size : w.heap.size ≤ w'.heap.size
 block : ∀ k, k < w.heap.size → (∀ a ∈ ps, a.block ≠ k) → w'.heap[k]? = w.heap[k]?
 cells : ∀ k cs t, w.heap[k]? = some (.cells cs t (0, 0)) → ∃ cs', w'.heap[k]? = some (.cells cs' t (0, 0)) ∧ cs'.size = cs.size ∧ ∀ j, (⟨k, j, none⟩ : Addr) ∉ ps → cs'[j]? = cs[j]?
section
variable {ps qs : List Addr} {a w w' : World}
theorem Wrt.of_below (h : Below w.heap.size w w') : Wrt ps w w' := ⟨h.os, h.tape, h.output, h.size, fun k hk _ => h.block k hk, fun k cs t hk => ⟨cs, by rw [h.block k (Array.getElem?_eq_some_iff.1 hk).1]; exact hk, rfl, fun _ _ => rfl⟩⟩
theorem Wrt.mono (h : Wrt ps w w') (hs : ∀ x ∈ ps, x ∈ qs) : Wrt qs w w' := ⟨h.os, h.tape, h.output, h.size, fun k hk hq => h.block k hk fun x hx => hq x (hs x hx), fun k cs t hk => by
 obtain ⟨cs', h1, h2, h3⟩ := h.cells k cs t hk
 exact ⟨cs', h1, h2, fun j hj => h3 j fun q => hj (hs _ q)⟩⟩
theorem Wrt.trans (h : Wrt ps a w) (k : Wrt qs w w') (hq : ∀ x ∈ qs, x ∈ ps ∨ a.heap.size ≤ x.block) : Wrt ps a w' :=
 ⟨k.os.trans h.os, k.tape.trans h.tape, k.output.trans h.output, Nat.le_trans h.size k.size, fun i hi hp => (k.block i (Nat.lt_of_lt_of_le hi h.size) (fun x hx e => by
  rcases hq x hx with r | r
  ·exact hp x r e
  ·omega)).trans (h.block i hi hp), fun i cs t hi => by
  have hlt := (Array.getElem?_eq_some_iff.1 hi).1
  obtain ⟨c1, h1, h2, h3⟩ := h.cells i cs t hi
  obtain ⟨c2, k1, k2, k3⟩ := k.cells i c1 t h1
  refine ⟨c2, k1, k2.trans h2, fun j hj => (k3 j fun q => ?_).trans (h3 j hj)⟩
  rcases hq _ q with r | r
  ·exact hj r
  ·have r : a.heap.size ≤ i := r
   omega⟩
theorem Wrt.then (h : Wrt ps a w) (k : Below w.heap.size w w') : Wrt ps a w' := h.trans (Wrt.of_below (ps := []) k) (fun x hx => by cases hx)
theorem Wrt.below {B : Nat} (h : Wrt ps w w') (hB : B ≤ w.heap.size) (hp : ∀ x ∈ ps, B ≤ x.block) : Below B w w' := ⟨h.os, h.tape, h.output, h.size, fun k hk => h.block k (Nat.lt_of_lt_of_le hk hB) fun x hx e => by have := hp x hx; omega⟩
theorem Wrt.set {g j : Nat} {cs : Array Value} {t : TypeId} (h : At w g t cs) (v : Value) : Wrt [⟨g, j, none⟩] w (w.setCell ⟨g, j, none⟩ v) := by
 refine ⟨rfl, rfl, rfl, by simp [World.setCell], fun k _ hk => Below.heap_setCell w _ v k (fun e => hk _ (by simp) e.symm), fun k cs' t' hk => ?_⟩
 by_cases hg : k = g
 ·subst hg
  have e := h.symm.trans hk
  injection e with e
  injection e with e1 e2
  subst e1 e2
  refine ⟨cs.setIfInBounds j v, heap_setCell_same w k j cs t v hk, by simp, fun i hi => ?_⟩
  have hij : j ≠ i := fun e => hi (by simp [e])
  rw [Array.getElem?_setIfInBounds_ne hij]
 ·refine ⟨cs', ?_, rfl, fun _ _ => rfl⟩
  rw [Below.heap_setCell w _ v k hg]
  exact hk
theorem Wrt.at {g : Nat} {cs : Array Value} {t : TypeId} (h : Wrt ps w w') (k : At w g t cs) : ∃ cs', At w' g t cs' ∧ cs'.size = cs.size ∧ ∀ j, (⟨g, j, none⟩ : Addr) ∉ ps → cs'[j]? = cs[j]? := h.cells g cs t k
end
structure TokR (w : World) (R : Nat) (t : TypeId) (cs : Array Value) (ts : List Tk) (i : Nat) : Prop where
 own : At w R t cs
 big : 2 ≤ cs.size
 l : ∃ g c, cs[0]? = some (.slice (some ⟨g, 0, none⟩) ts.length c) ∧ TokAt w (some ⟨g, 0, none⟩) ts ∧ g < R ∧ ts.length ≤ c
 at_ : cs[1]? = some (.int .i64 (i : Int))
def tkV (t : Tk) : Value := .agg #[.int .i64 t.kind, .string ⟨t.text.toArray⟩, .int .i64 t.line, .int .i64 t.col]
theorem tk_get {ts : List Tk} {i : Nat} (hi : i < ts.length) : tk ts i = ts[i] := by simp [tk, List.getD, hi]
set_option maxRecDepth 100000 in
set_option maxHeartbeats 1000000 in
theorem next_any (w : World) (R : Nat) (t : TypeId) (cs : Array Value) (ts : List Tk) (i : Nat) (h : TokR w R t cs ts i) (hi : i < ts.length) :
  Calls Tryz.prog 91 #[.pointer (some ⟨R, 0, none⟩)] w fun e w' => e = .returned (tkV (tk ts i)) ∧ Below w.heap.size w w' := by
 obtain ⟨g, c, h0, ht, hg, hc⟩ := h.l
 obtain ⟨gq, eg, c0, c1, c2, c3⟩ := ht i hi
 obtain rfl : g = gq := by injection eg with eg; injection eg
 have x0 : w.cell? ⟨R, 0, none⟩ = some (.slice (some ⟨g, 0, none⟩) ts.length c) := by rw [h.own.c 0]; exact h0
 have x1 : w.cell? ⟨R, 1, none⟩ = some (.int .i64 (i : Int)) := by rw [h.own.c 1]; exact h.at_
 have hR := h.own.lt
 have hgl := block_lt_of_cell c0
 dsimp only at hgl
 rw [tk_get hi]
 obtain ⟨T, hT⟩ : ∃ T, ts[i] = T := ⟨_, rfl⟩
 rw [hT] at c0 c1 c2 c3 ⊢
 obtain ⟨K, X, L, C⟩ := T
 dsimp only at c0 c1 c2 c3
 unfold tkV
 dsimp only
 generalize (⟨X.toArray⟩ : ByteArray) = XS at *
 obtain ⟨n, hn⟩ : ∃ n, ts.length = n := ⟨_, rfl⟩
 rw [hn] at x0 hi hc
 clear h ht h0 eg hT hn
 go_enter Tryz.func91, Tryz.ntmps91
 go_wp2_with fail
 generalize hWW : World.alloc _ _ = WW
 have kz : ∃ c0 c1 c2 c3, At WW w.heap.size 107 #[c0, c1, c2, c3] := by rw [← hWW]; exact ⟨_, _, _, _, by repeat (first | (with_reducible apply At.new'; (focus (simp; done))) | with_reducible apply At.al | with_reducible apply At.drw | with_reducible apply At.dr)⟩
 have HB : Below w.heap.size w WW := by rw [← hWW]; repeat (first | with_reducible assumption | with_reducible exact Below.refl _ _ | with_reducible refine below_al ?_ _ | with_reducible refine below_drew ?_ | with_reducible refine below_drewN ?_ _ | with_reducible refine below_set ?_ (by dsimp only; omega) _)
 clear hWW
 obtain ⟨z0, z1, z2, z3, kz⟩ := kz
 have y0 := cell_up HB x0
 have y1 := cell_up HB x1
 have d0 := cell_up HB c0
 have d1 := cell_up HB c1
 have d2 := cell_up HB c2
 have d3 := cell_up HB c3
 have f0 := kz.f 0
 have f1 := kz.f 1
 have f2 := kz.f 2
 have f3 := kz.f 3
 have q0 : WW.cell? ⟨w.heap.size, 0, none⟩ = some z0 := kz.c 0
 have q1 : WW.cell? ⟨w.heap.size, 1, none⟩ = some z1 := kz.c 1
 have q2 : WW.cell? ⟨w.heap.size, 2, none⟩ = some z2 := kz.c 2
 have q3 : WW.cell? ⟨w.heap.size, 3, none⟩ = some z3 := kz.c 3
 have kzl := kz.lt
 have hl : (i : Int) < (n : Int) := by omega
 go_region
 have ke := (((kz.put 0 (.int .i64 K)).put 1 (.string XS)).put 2 (.int .i64 L)).put 3 (.int .i64 C)
 have kB : Below w.heap.size w ((((WW.setCell ⟨w.heap.size, 0, none⟩ (.int .i64 K)).setCell ⟨w.heap.size, 1, none⟩ (.string XS)).setCell ⟨w.heap.size, 2, none⟩ (.int .i64 L)).setCell ⟨w.heap.size, 3, none⟩ (.int .i64 C)) := by
  repeat (first | with_reducible assumption | with_reducible refine below_set ?_ (by dsimp only; omega) _)
 generalize hW2 : World.setCell _ _ _ = W2 at *
 clear hW2 q0 q1 q2 q3 f0 f1 f2 f3 d0 d1 d2 d3 y0 y1
 replace kB := below_drew kB
 have e0 : W2.drew.cell? ⟨w.heap.size, 0, none⟩ = some (.int .i64 K) := ke.drw.c 0
 have e1 : W2.drew.cell? ⟨w.heap.size, 1, none⟩ = some (.string XS) := ke.drw.c 1
 have e2 : W2.drew.cell? ⟨w.heap.size, 2, none⟩ = some (.int .i64 L) := ke.drw.c 2
 have e3 : W2.drew.cell? ⟨w.heap.size, 3, none⟩ = some (.int .i64 C) := ke.drw.c 3
 generalize W2.drew = W3 at *
 clear ke kz HB
 go_wp2_with fail
 exact bodyPost_ret (v := .agg #[.int .i64 K, .string XS, .int .i64 L, .int .i64 C]) (by simp [results, Tryz.results91, go_sem, e0, e1, e2, e3]) rfl ⟨rfl, kB⟩
end Go.Proofs.YtccakklnbhcbdaaGreatDoor
set_option linter.unusedVariables false
namespace Go.Proofs.YtccakklnbhcbdaaGreatDoor
open Go.ChangeShapes Go.WideShapes Go.ChangeAt Go.RowKit
def panE (ts : List Tk) (i : Nat) : Ending := .panicked [{ v := .iface 133 (.agg #[.int .i64 (tk ts i).line, .int .i64 (tk ts i).col]), recovered := false }]
section
variable {w w' w1 : World} {R : Nat} {t : TypeId} {cs : Array Value} {ts : List Tk} {i : Nat}
theorem TokAt.wr {a : Option Addr} {l : List Tk} {ps : List Addr} (h : TokAt w a l) (hk : Wrt ps w w') (hp : ∀ g, a = some ⟨g, 0, none⟩ → ∀ x ∈ ps, x.block ≠ g) : TokAt w' a l := by
 intro k hl
 obtain ⟨g, rfl, c0, c1, c2, c3⟩ := h k hl
 have hg := hp g rfl
 have e := hk.block g (block_lt_of_cell c0) hg
 have hc : ∀ j, w'.cell? ⟨g, j, none⟩ = w.cell? ⟨g, j, none⟩ := fun j => by simp only [World.cell?, e]
 exact ⟨g, rfl, (hc _).trans c0, (hc _).trans c1, (hc _).trans c2, (hc _).trans c3⟩
theorem TokR.wr {ps : List Addr} {cs' : Array Value} (h : TokR w R t cs ts i) (k : Wrt ps w w') (hp : ∀ x ∈ ps, R ≤ x.block) (ha : At w' R t cs') (hs : cs'.size = cs.size) (h0 : cs'[0]? = cs[0]?) (j : Nat) (h1 : cs'[1]? = some (.int .i64 (j : Int))) : TokR w' R t cs' ts j := by
 obtain ⟨g, c, e0, e1, e2, e3⟩ := h.l
 refine ⟨ha, by have := h.big; omega, ⟨g, c, h0.trans e0, e1.wr k fun g' hg x hx => ?_, e2, e3⟩, h1⟩
 injection hg with hg
 injection hg with hg
 subst hg
 have := hp x hx
 omega
theorem TokR.bel (h : TokR w R t cs ts i) (hb : Below w.heap.size w w') : TokR w' R t cs ts i :=
 h.wr (Wrt.of_below (ps := []) hb) (fun x hx => by cases hx) (h.own.bel hb) rfl rfl i h.at_
def Adv (ts : List Tk) (R : Nat) (t : TypeId) (cs : Array Value) (w : World) (j : Nat) (w' : World) : Prop := TokR w' R t (cs.setIfInBounds 1 (.int .i64 ((j : Nat) : Int))) ts j ∧ Wrt [⟨R, 1, none⟩] w w'
theorem TokR.cs_self (h : TokR w R t cs ts i) : cs.setIfInBounds 1 (.int .i64 (i : Int)) = cs := by
 apply Array.ext_getElem?
 intro k
 rw [Array.getElem?_setIfInBounds]
 split
 ·rename_i e; subst e; rw [if_pos (by have := h.big; omega), h.at_]
 ·rfl
theorem TokR.stay (h : TokR w R t cs ts i) (hb : Below w.heap.size w w') : Adv ts R t cs w i w' := ⟨by rw [h.cs_self]; exact h.bel hb, (Wrt.of_below (ps := []) hb).mono fun x hx => by cases hx⟩
theorem TokR.step {v : Int} (h : TokR w R t cs ts i) (hb : Below w.heap.size w w1) (j : Nat) (hv : v = (j : Int)) (hc : Below (w1.setCell ⟨R, 1, none⟩ (.int .i64 v)).heap.size (w1.setCell ⟨R, 1, none⟩ (.int .i64 v)) w') : Adv ts R t cs w j w' := by
 subst hv
 have h1 := h.bel hb
 have k1 := Wrt.set (j := 1) h1.own (.int .i64 (j : Int))
 have h2 := h1.wr k1 (fun x hx => by simp at hx; rw [hx]; exact Nat.le_refl _) (h1.own.put 1 _) (by simp) (by rw [Array.getElem?_setIfInBounds_ne (by omega)]) j (by rw [Array.getElem?_setIfInBounds, if_pos rfl, if_pos (by have := h1.big; omega)])
 exact ⟨h2.bel hc, (((Wrt.of_below (ps := []) hb).mono fun x hx => by cases hx).trans k1 fun x hx => .inl hx).then hc⟩
theorem Adv.trans {j k : Nat} (h : Adv ts R t cs w j w1) (g : Adv ts R t (cs.setIfInBounds 1 (.int .i64 ((j : Nat) : Int))) w1 k w') : Adv ts R t cs w k w' := by
 refine ⟨?_, h.2.trans g.2 fun x hx => .inl hx⟩
 have := g.1
 rwa [Array.setIfInBounds_setIfInBounds] at this
theorem Adv.then {j : Nat} (h : Adv ts R t cs w j w1) (hb : Below w1.heap.size w1 w') : Adv ts R t cs w j w' := ⟨h.1.bel hb, h.2.then hb⟩
end
def TwoE {α : Type} (ts : List Tk) (R : Nat) (t : TypeId) (cs : Array Value) (w : World) (val : α → Value) : Except Nat (α × Nat) → Ending → World → Prop
 | .ok (a, j), e, w' => e = .returned (val a) ∧ Adv ts R t cs w j w'
 | .error j, e, w' => e = panE ts j ∧ Wrt [⟨R, 1, none⟩] w w'
structure Ends (ts : List Tk) : Prop where
 len : ts.length ≤ 1000000
 more : ∀ i, i < ts.length → (tk ts i).kind ≠ 5 → i + 1 < ts.length
 txt : ∀ i, i < ts.length → (tk ts i).text.length ≤ 1000000
 dig : ∀ i, i < ts.length → (tk ts i).kind = 2 → (tk ts i).text.head? ≠ some 45
set_option maxRecDepth 100000 in
set_option maxHeartbeats 1000000 in
theorem fail_any (w : World) (R : Nat) (t : TypeId) (cs : Array Value) (ts : List Tk) (i : Nat) (h : TokR w R t cs ts i) (hi : i < ts.length) :
  Calls Tryz.prog 92 #[.pointer (some ⟨R, 0, none⟩)] w fun e w' => e = panE ts i ∧ Below w.heap.size w w' := by
 have HN := next_any w R t cs ts i h hi
 unfold tkV at HN
 unfold panE
 obtain ⟨T, hT⟩ : ∃ T, tk ts i = T := ⟨_, rfl⟩
 rw [hT] at HN ⊢
 obtain ⟨K, X, L, C⟩ := T
 dsimp only at HN ⊢
 generalize (⟨X.toArray⟩ : ByteArray) = XS at *
 clear h hT
 have hfd : ∀ w, (Instr.field 107 (.agg #[.int .i64 K, .string XS, .int .i64 L, .int .i64 C]) 2).run Tryz.prog w = .ok (.agg #[.int .i64 L, .int .i64 C]) w := fun _ => rfl
 go_enter Tryz.func92, Tryz.ntmps92
 go_wp2_with fail
 refine HN.mono ?_
 rintro e w1 ⟨rfl, HB⟩
 go_wp2_with fail
 exact ⟨rfl, rfl, HB⟩
set_option maxRecDepth 100000 in
set_option maxHeartbeats 1000000 in
theorem name_any (w : World) (R : Nat) (t : TypeId) (cs : Array Value) (ts : List Tk) (i : Nat) (h : TokR w R t cs ts i) (hi : i < ts.length) (hE : Ends ts) :
  Calls Tryz.prog 93 #[.pointer (some ⟨R, 0, none⟩)] w (TwoE ts R t cs w (fun l => .string ⟨l.toArray⟩) (nameT ts i)) := by
 have hb := hE.len
 have HN := next_any w R t cs ts i h hi
 unfold tkV at HN
 have HF : Hid (∀ w, TokR w R t cs ts i → Calls Tryz.prog 92 #[.pointer (some ⟨R, 0, none⟩)] w fun e w' => e = panE ts i ∧ Below w.heap.size w w') := Lib.hid fun w h => fail_any w R t cs ts i h hi
 unfold nameT
 by_cases hk : (tk ts i).kind = 1
 ·rw [if_pos hk]
  unfold TwoE
  obtain ⟨T, hT⟩ : ∃ T, tk ts i = T := ⟨_, rfl⟩
  rw [hT] at HN hk ⊢
  obtain ⟨K, X, L, C⟩ := T
  dsimp only at HN hk ⊢
  subst hk
  generalize (⟨X.toArray⟩ : ByteArray) = XS at *
  clear hT HF hE
  go_enter Tryz.func93, Tryz.ntmps93
  go_wp2_with fail
  refine HN.mono ?_
  rintro e w1 ⟨rfl, HB⟩
  clear HN
  have x1 : w1.cell? ⟨R, 1, none⟩ = some (.int .i64 (i : Int)) := by
   have q := (h.own.bel HB).c 1
   rw [q]; exact h.at_
  have fr : w1.frozen? ⟨R, 1, none⟩ = false := (h.own.bel HB).f 1
  have hR1 : R < w1.heap.size := Nat.lt_of_lt_of_le h.own.lt HB.size
  have hR2 : R ≠ w1.heap.size := by omega
  have hR3 : w1.heap.size ≠ R := by omega
  have hw : IntKind.i64.wrap ((i : Int) + 1) = ((i + 1 : Nat) : Int) := wrap_in (by omega)
  go_wp2_with fail
  refine bodyPost_ret (v := .string XS) (by simp [results, Tryz.results93, go_sem]) rfl ⟨rfl, h.step HB (i + 1) (by omega) (below_al (Below.refl _ _) _)⟩
 ·rw [if_neg hk]
  unfold TwoE
  obtain ⟨T, hT⟩ : ∃ T, tk ts i = T := ⟨_, rfl⟩
  rw [hT] at HN hk
  obtain ⟨K, X, L, C⟩ := T
  dsimp only at HN hk
  generalize (⟨X.toArray⟩ : ByteArray) = XS at *
  clear hT hE
  go_enter Tryz.func93, Tryz.ntmps93
  go_wp2_with fail
  refine HN.mono ?_
  rintro e w1 ⟨rfl, HB⟩
  clear HN
  go_wp2_with fail
  refine (HF.out _ (h.bel (below_al HB _))).mono ?_
  rintro e w2 ⟨he, hb2⟩
  replace hb2 := below_then (below_al HB _) hb2
  subst he
  unfold panE
  go_wp2_with fail
  exact ⟨rfl, rfl, Wrt.mono (Wrt.of_below (ps := []) hb2) fun x hx => (by cases hx)⟩
end Go.Proofs.YtccakklnbhcbdaaGreatDoor
set_option linter.unusedVariables false
namespace Go.Proofs.YtccakklnbhcbdaaGreatDoor
open Go.ChangeShapes Go.WideShapes Go.ChangeAt Go.RowKit
theorem nextH {ts : List Tk} {R : Nat} {t : TypeId} (j : Nat) (hj : j < ts.length) : Hid (∀ w cs, TokR w R t cs ts j → Calls Tryz.prog 91 #[.pointer (some ⟨R, 0, none⟩)] w fun e w' => e = .returned (tkV (tk ts j)) ∧ Below w.heap.size w w') := Lib.hid fun w cs h => next_any w R t cs ts j h hj
theorem tkV_mk (t : Tk) : ∃ XS : ByteArray, XS = ⟨t.text.toArray⟩ ∧ tkV t = .agg #[.int .i64 t.kind, .string XS, .int .i64 t.line, .int .i64 t.col] := ⟨_, rfl, rfl⟩
set_option maxRecDepth 100000 in
theorem field0 (K L C : Int) (X : ByteArray) (w : World) : (Instr.field 107 (.agg #[.int .i64 K, .string X, .int .i64 L, .int .i64 C]) 0).run Tryz.prog w = .ok (.int .i64 K) w := rfl
set_option maxRecDepth 100000 in
set_option maxHeartbeats 1000000 in
theorem skip_any (w : World) (R : Nat) (t : TypeId) (cs : Array Value) (ts : List Tk) (i : Nat) (h : TokR w R t cs ts i) (hi : i < ts.length) (hE : Ends ts) :
  Calls Tryz.prog 90 #[.pointer (some ⟨R, 0, none⟩)] w fun e w' => e = .returned (.tuple #[]) ∧ skipT ts ts.length i < ts.length ∧ Adv ts R t cs w (skipT ts ts.length i) w' := by
 obtain ⟨n, hn⟩ : ∃ n, skipT ts ts.length i = n := ⟨_, rfl⟩
 obtain ⟨m, hm⟩ : ∃ m, m = ts.length := ⟨_, rfl⟩
 rw [hn, ← hm]
 have hf := field0
 have h0 : Hid (Adv ts R t cs w i w) := Lib.hid (h.stay (Below.refl _ _))
 have hgo : Hid (∃ f, m ≤ f + i ∧ skipT ts f i = n) := Lib.hid ⟨ts.length, by omega, hn⟩
 clear h hn
 go_enter Tryz.func90, Tryz.ntmps90
 go_wp2_with fail
 go_loopg [] (m - i) (fun g wr => ∃ j : Nat, j < m ∧ Hid (g = m - j) ∧ Hid (∃ f, m ≤ f + j ∧ skipT ts f j = n) ∧ Hid (Adv ts R t cs w j wr))
 case atStart => exact ⟨i, by omega, Lib.hid rfl, hgo, h0⟩
 case round =>
  clear h0 hgo
  obtain ⟨j, hj, hg, hgo, hA⟩ := hrel
  have hjl : j < ts.length := hm ▸ hj
  have HN := nextH (R := R) (t := t) j hjl
  obtain ⟨XS, _, eT⟩ := tkV_mk (tk ts j)
  rw [eT] at HN
  obtain ⟨K, hK⟩ : ∃ K, (tk ts j).kind = K := ⟨_, rfl⟩
  rw [hK] at HN
  generalize (tk ts j).line = L at HN
  generalize (tk ts j).col = C at HN
  clear eT
  by_cases h4 : K = 4
  ·subst h4
   have hj1 : j + 1 < m := hm ▸ hE.more j hjl (by rw [hK]; decide)
   have hgo' : Hid (∃ f, m ≤ f + (j + 1) ∧ skipT ts f (j + 1) = n) := by
    obtain ⟨f, h1, h2⟩ := hgo.out
    cases f with
    | zero => omega
    | succ f => exact Lib.hid ⟨f, by omega, by rw [← h2, skipT, if_pos hK]⟩
   clear hgo hK
   go_wp2_with fail
   refine (HN.out wr _ hA.out.1).mono ?_
   rintro e w1 ⟨rfl, HB⟩
   have hT := hA.out.1.bel HB
   have x1 : w1.cell? ⟨R, 1, none⟩ = some (.int .i64 (j : Int)) := by
    have q := hT.own.c 1
    rw [q]; exact hT.at_
   have fr : w1.frozen? ⟨R, 1, none⟩ = false := hT.own.f 1
   have hw : IntKind.i64.wrap ((j : Int) + 1) = ((j + 1 : Nat) : Int) := wrap_in (by have := hE.len; omega)
   have hA' : Hid (Adv ts R t cs w (j + 1) (w1.setCell ⟨R, 1, none⟩ (.int .i64 ((j : Int) + 1)))) := Lib.hid (hA.out.trans (hA.out.1.step HB (j + 1) (by omega) (Below.refl _ _)))
   clear hA hT HB HN
   go_wp2_with fail
   go_roundg (m - (j + 1))
   case measure => have := hg.out; omega
   case rel => exact ⟨j + 1, hj1, Lib.hid rfl, hgo', hA'⟩
  ·have hnj : n = j := by
    obtain ⟨f, h1, h2⟩ := hgo.out
    cases f with
    | zero => rw [← h2, skipT]
    | succ f => rw [← h2, skipT, if_neg (by rw [hK]; exact h4)]
   clear hgo hK
   go_wp2_with fail
   refine (HN.out wr _ hA.out.1).mono ?_
   rintro e w1 ⟨rfl, HB⟩
   go_wp2_with fail
   go_end0
   rw [hnj]
   exact ⟨rfl, hj, hA.out.then HB⟩
set_option maxRecDepth 100000 in
set_option maxHeartbeats 1000000 in
theorem end_any (w : World) (R : Nat) (t : TypeId) (cs : Array Value) (ts : List Tk) (i : Nat) (h : TokR w R t cs ts i) (hi : i < ts.length) (hE : Ends ts) :
  Calls Tryz.prog 95 #[.pointer (some ⟨R, 0, none⟩)] w (TwoE ts R t cs w (fun _ => .tuple #[]) (match endT ts i with | .ok j => .ok ((), j) | .error j => .error j)) := by
 have HN := nextH (R := R) (t := t) i hi
 have HF : Hid (∀ w, TokR w R t cs ts i → Calls Tryz.prog 92 #[.pointer (some ⟨R, 0, none⟩)] w fun e w' => e = panE ts i ∧ Below w.heap.size w w') := Lib.hid fun w h => fail_any w R t cs ts i h hi
 have HS : Hid (∀ w, TokR w R t cs ts i → Calls Tryz.prog 90 #[.pointer (some ⟨R, 0, none⟩)] w fun e w' => e = .returned (.tuple #[]) ∧ skipT ts ts.length i < ts.length ∧ Adv ts R t cs w (skipT ts ts.length i) w') := Lib.hid fun w h => skip_any w R t cs ts i h hi hE
 have hf := field0
 obtain ⟨XS, _, eT⟩ := tkV_mk (tk ts i)
 rw [eT] at HN
 unfold endT
 obtain ⟨K, hK⟩ : ∃ K, (tk ts i).kind = K := ⟨_, rfl⟩
 rw [hK] at HN ⊢
 generalize (tk ts i).line = L at HN
 generalize (tk ts i).col = C at HN
 clear eT hK hE
 by_cases h4 : K = 4
 ·subst h4
  rw [if_pos rfl]
  unfold TwoE
  dsimp only
  go_enter Tryz.func95, Tryz.ntmps95
  go_wp2_with fail
  refine (HN.out w _ h).mono ?_
  rintro e w1 ⟨rfl, HB⟩
  go_wp2_with fail
  refine (HS.out w1 (h.bel HB)).mono ?_
  rintro e w2 ⟨rfl, _, hA⟩
  go_wp2_with fail
  go_end0
  exact ⟨rfl, (h.stay HB).trans (by rw [h.cs_self]; exact hA)⟩
 ·rw [if_neg h4]
  unfold TwoE
  dsimp only
  go_enter Tryz.func95, Tryz.ntmps95
  go_wp2_with fail
  refine (HN.out w _ h).mono ?_
  rintro e w1 ⟨rfl, HB⟩
  go_wp2_with fail
  refine (HF.out _ (h.bel HB)).mono ?_
  rintro e w2 ⟨he, hb2⟩
  replace hb2 := below_then HB hb2
  subst he
  unfold panE
  go_wp2_with fail
  exact ⟨rfl, rfl, Wrt.mono (Wrt.of_below (ps := []) hb2) fun x hx => (by cases hx)⟩
end Go.Proofs.YtccakklnbhcbdaaGreatDoor
