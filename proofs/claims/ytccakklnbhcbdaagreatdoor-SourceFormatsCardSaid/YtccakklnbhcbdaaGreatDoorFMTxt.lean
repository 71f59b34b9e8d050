import Derived.Test.YtccakklnbhcbdaaGreatDoorFQi
import Derived.Test.YtccakklnbhcbdaaGreatDoorFSwD
set_option linter.unusedVariables false
namespace Go.Proofs.YtccakklnbhcbdaaGreatDoor
theorem flat_le {α β : Type} {f : α → List β} {c : Nat} : ∀ (l : List α), (∀ x ∈ l, (f x).length ≤ c) → (l.flatMap f).length ≤ c * l.length
 | [], _ => by simp
 | a :: l, h => by
  have h1 := h a (by simp)
  have h2 := flat_le l fun x hx => h x (by simp [hx])
  rw [List.flatMap_cons, List.length_append, List.length_cons, Nat.mul_succ]
  omega
theorem flat_take {α β : Type} (f : α → List β) (l : List α) (k : Nat) : ((l.take k).flatMap f).length ≤ (l.flatMap f).length := by
 have : l.flatMap f = (l.take k).flatMap f ++ (l.drop k).flatMap f := by rw [← List.flatMap_append, List.take_append_drop]
 rw [this, List.length_append]
 omega
theorem fit_rng {l : List Int} (h : fitB l = true) : ∀ n ∈ l, -9223372036854775808 ≤ n ∧ n ≤ 9223372036854775807 := fun n hn => by
 have := fit_all h n hn
 omega
theorem lnB_len (w : List UInt8) {l : List Int} (h : fitB l = true) : (lnB w l).length ≤ w.length + 22 * l.length + 1 := by
 have := lnN_len l (fit_rng h)
 unfold lnB
 unfold lnN at this
 simp only [List.length_append, List.length_cons, List.length_nil]
 omega
theorem name_len {l : List UInt8} (h : nameB l = true) : l.length ≤ 20 := by
 unfold nameB at h
 simp only [Bool.and_eq_true, decide_eq_true_eq] at h
 exact h.1.1.2
structure WrD (d : Det) : Prop where
 nm : nameB d.name = true
 mem : fitB d.mem = true
 nb : d.boxes.length ≤ 20
 boxes : ∀ n ∈ d.boxes, fitB n = true
 nh : d.holes.length ≤ 20
 holes : ∀ n ∈ d.holes, fitB n = true
 rule : fitB d.rule = true
 nr : d.bars.length ≤ 60
 bars : ∀ b ∈ d.bars, nameB b.1 = true ∧ 4 ≤ b.2.length ∧ b.2.length ≤ 11 ∧ fitB b.2 = true
 nu : d.runs.length ≤ 60
 runs : ∀ b ∈ d.runs, nameB b.1 = true ∧ fitB b.2 = true
 nl : d.laps.length ≤ 1000
 laps : ∀ n ∈ d.laps, fitB n = true
 nd : d.dems.length ≤ 20
 dems : ∀ x ∈ d.dems, nameB x.1 = true ∧ fitB x.2.1 = true ∧ x.2.2.length ≤ 200 ∧ ∀ n ∈ x.2.2, fitB n = true
theorem wrD_iff (d : Det) : wrD d = true ↔ WrD d := by
 constructor
 ·intro h
  unfold wrD at h
  simp only [Bool.and_eq_true, decide_eq_true_eq, List.all_eq_true] at h
  obtain ⟨⟨⟨⟨⟨⟨⟨⟨⟨⟨⟨⟨⟨⟨h1, h2⟩, h3⟩, h4⟩, h5⟩, h6⟩, h7⟩, h8⟩, h9⟩, h10⟩, h11⟩, h12⟩, h13⟩, h14⟩, h15⟩ := h
  refine ⟨h1, h2, h3, h4, h5, h6, h7, h8, fun b hb => ?_, h10, fun b hb => ?_, h12, h13, h14, fun x hx => ?_⟩
  ·have := h9 b hb
   unfold barOk at this
   simp only [Bool.and_eq_true, decide_eq_true_eq] at this
   exact ⟨this.1.1.1, this.1.1.2, this.1.2, this.2⟩
  ·have := h11 b hb
   unfold runOk at this
   simp only [Bool.and_eq_true] at this
   exact this
  ·have := h15 x hx
   unfold demOk at this
   simp only [Bool.and_eq_true, decide_eq_true_eq, List.all_eq_true] at this
   exact ⟨this.1.1.1, this.1.1.2, this.1.2, this.2⟩
 ·intro h
  unfold wrD
  simp only [Bool.and_eq_true, decide_eq_true_eq, List.all_eq_true]
  refine ⟨⟨⟨⟨⟨⟨⟨⟨⟨⟨⟨⟨⟨⟨h.nm, h.mem⟩, h.nb⟩, h.boxes⟩, h.nh⟩, h.holes⟩, h.rule⟩, h.nr⟩, fun b hb => ?_⟩, h.nu⟩, fun b hb => ?_⟩, h.nl⟩, h.laps⟩, h.nd⟩, fun x hx => ?_⟩
  ·obtain ⟨a, b, c, d⟩ := h.bars b hb
   unfold barOk
   simp only [Bool.and_eq_true, decide_eq_true_eq]
   exact ⟨⟨⟨a, b⟩, c⟩, d⟩
  ·obtain ⟨a, b⟩ := h.runs b hb
   unfold runOk
   simp only [Bool.and_eq_true]
   exact ⟨a, b⟩
  ·obtain ⟨a, b, c, d⟩ := h.dems x hx
   unfold demOk
   simp only [Bool.and_eq_true, decide_eq_true_eq, List.all_eq_true]
   exact ⟨⟨⟨a, b⟩, c⟩, d⟩
theorem textD_len {d : Det} (hs : d.sh) (h : WrD d) : (textD d).length ≤ 1000000 := by
 have h1 := lnB_len (wMember ++ 32 :: d.name) h.mem
 have h2 := flat_le (c := 136) d.boxes (f := lnB wBox) fun n hn => by have := lnB_len wBox (h.boxes n hn); have := hs.boxes n hn; have : wBox.length = 3 := rfl; omega
 have h3 := flat_le (c := 137) d.holes (f := lnB wHole) fun n hn => by have := lnB_len wHole (h.holes n hn); have := hs.holes n hn; have : wHole.length = 4 := rfl; omega
 have h4 := lnB_len wRule h.rule
 have h5 := flat_le (c := 267) d.bars (f := fun b => lnB (wBar ++ 32 :: b.1) b.2) fun b hb => by
  obtain ⟨k1, k2, k3, k4⟩ := h.bars b hb
  have := lnB_len (wBar ++ 32 :: b.1) k4
  have := name_len k1
  rw [List.length_append, List.length_cons] at *
  have : wBar.length = 3 := rfl
  omega
 have h6 := flat_le (c := 223) d.runs (f := fun b => lnB (wRun ++ 32 :: b.1) b.2) fun b hb => by
  obtain ⟨k1, k2⟩ := h.runs b hb
  have := lnB_len (wRun ++ 32 :: b.1) k2
  have := name_len k1
  have := hs.runs b hb
  rw [List.length_append, List.length_cons] at *
  have : wRun.length = 3 := rfl
  omega
 have h7 := flat_le (c := 48) d.laps (f := lnB wLap) fun n hn => by have := lnB_len wLap (h.laps n hn); have := hs.laps n hn; have : wLap.length = 3 := rfl; omega
 have h8 := flat_le (c := 9960) d.dems (f := fun x => lnB (wDemand ++ 32 :: x.1) x.2.1 ++ x.2.2.flatMap (lnB wStep)) fun x hx => by
  obtain ⟨k1, k2, k3, k4⟩ := h.dems x hx
  obtain ⟨s1, s2⟩ := hs.dems x hx
  have a1 := lnB_len (wDemand ++ 32 :: x.1) k2
  have a2 := flat_le (c := 49) x.2.2 (f := lnB wStep) fun n hn => by have := lnB_len wStep (k4 n hn); have := s2 n hn; have : wStep.length = 4 := rfl; omega
  have a3 := name_len k1
  have : wDemand.length = 6 := rfl
  rw [List.length_append, List.length_cons] at a1
  rw [List.length_append]
  omega
 have e1 := hs.mem
 have e2 := hs.rule
 have e3 := name_len h.nm
 have e4 := h.nb
 have e5 := h.nh
 have e6 := h.nr
 have e7 := h.nu
 have e8 := h.nl
 have e9 := h.nd
 have f1 : wMember.length = 6 := rfl
 have f2 : wRule.length = 4 := rfl
 rw [List.length_append, List.length_cons] at h1
 unfold textD
 simp only [List.length_append]
 omega
def textR (d : Det) : List UInt8 × Int := if wrD d then (if 262144 < (textD d).length then ([], 4) else (textD d, 0)) else ([], 1)
end Go.Proofs.YtccakklnbhcbdaaGreatDoor
