/- source: numbers read into the reader itself. -/
import Derived.Test.YtccakklnbhcbdaaGreatDoorQg
set_option linter.unusedVariables false
namespace Go.Proofs.YtccakklnbhcbdaaGreatDoor
open Go.ChangeShapes Go.WideShapes Go.ChangeAt Go.RowKit

/-- The rule's numbers are read. -/
theorem rd_rule {w w' : World} {R : Nat} {ts : List Tk} {s : Rd} {p : PV} (h : RdW w R ts s p) {j : Nat} {l : List Int} {e : Ending} (hl : l.length = 9) (hN : NumsE ts R 139 w p.vt R 12 9 (.ok (l, j)) e w') :
    RdW w' R ts { s with i := j, d := { s.d with rule := l } } p ∧ Below R w w' := by
  obtain ⟨-, ⟨cs2, -, hT⟩, hc, hW⟩ := hN
  obtain ⟨cs', h1, h2, h3⟩ := hW.at h.tok.own
  obtain rfl : cs2 = cs' := by
    have e1 := hT.own.symm.trans h1
    injection e1 with e1
    injection e1
  have hm : ∀ x ∈ nps R R 12 9, x.block = R := fun x hx => by
    rcases nps_mem hx with rfl | ⟨d, _, rfl⟩ <;> rfl
  obtain ⟨a0, a1, a2, a3, a4, a5, a6, a7, a8, rfl⟩ := nine hl
  have e1 := hT.at_
  have e2 : ∀ c (hc2 : c < 9), cs2[12 + c]? = some (.int .i64 [a0, a1, a2, a3, a4, a5, a6, a7, a8][c]) := fun c hc2 => by
    rw [← hT.own.c]
    exact hc c hc2
  have e3 : ∀ m, m ≠ 1 → (m < 12 ∨ 21 ≤ m) → cs2[m]? = (rdC s p)[m]? := fun m hm1 hm2 => h3 m fun hx => by
    rcases nps_mem hx with e | ⟨d, hd, e⟩
    · injection e with _ e; exact hm1 e
    · injection e with _ e; omega
  have hcs : cs2 = rdC { s with i := j, d := { s.d with rule := [a0, a1, a2, a3, a4, a5, a6, a7, a8] } } p := by
    apply Array.ext_getElem?
    intro m
    have hmm : m = 0 ∨ m = 1 ∨ m = 2 ∨ m = 3 ∨ m = 4 ∨ m = 5 ∨ m = 6 ∨ m = 7 ∨ m = 8 ∨ m = 9 ∨ m = 10 ∨ m = 11 ∨ m = 12 ∨ m = 13 ∨ m = 14 ∨ m = 15 ∨ m = 16 ∨ m = 17 ∨ m = 18 ∨ m = 19 ∨ m = 20 ∨ m = 21 ∨ 22 ≤ m := by omega
    rcases hmm with rfl | rfl | rfl | rfl | rfl | rfl | rfl | rfl | rfl | rfl | rfl | rfl | rfl | rfl | rfl | rfl | rfl | rfl | rfl | rfl | rfl | rfl | hm
    · exact (e3 0 (by omega) (by omega)).trans (by simp [rdC, encK, List.range, List.range.loop])
    · exact e1.trans (by simp [rdC])
    · exact (e3 2 (by omega) (by omega)).trans (by simp [rdC, encK, List.range, List.range.loop])
    · exact (e3 3 (by omega) (by omega)).trans (by simp [rdC, encK, List.range, List.range.loop])
    · exact (e3 4 (by omega) (by omega)).trans (by simp [rdC, encK, List.range, List.range.loop])
    · exact (e3 5 (by omega) (by omega)).trans (by simp [rdC, encK, List.range, List.range.loop])
    · exact (e3 6 (by omega) (by omega)).trans (by simp [rdC, encK, List.range, List.range.loop])
    · exact (e3 7 (by omega) (by omega)).trans (by simp [rdC, encK, List.range, List.range.loop])
    · exact (e3 8 (by omega) (by omega)).trans (by simp [rdC, encK, List.range, List.range.loop])
    · exact (e3 9 (by omega) (by omega)).trans (by simp [rdC, encK, List.range, List.range.loop])
    · exact (e3 10 (by omega) (by omega)).trans (by simp [rdC, encK, List.range, List.range.loop])
    · exact (e3 11 (by omega) (by omega)).trans (by simp [rdC, encK, List.range, List.range.loop])
    · exact (e2 0 (by omega)).trans (by simp [rdC, encK, List.range, List.range.loop])
    · exact (e2 1 (by omega)).trans (by simp [rdC, encK, List.range, List.range.loop])
    · exact (e2 2 (by omega)).trans (by simp [rdC, encK, List.range, List.range.loop])
    · exact (e2 3 (by omega)).trans (by simp [rdC, encK, List.range, List.range.loop])
    · exact (e2 4 (by omega)).trans (by simp [rdC, encK, List.range, List.range.loop])
    · exact (e2 5 (by omega)).trans (by simp [rdC, encK, List.range, List.range.loop])
    · exact (e2 6 (by omega)).trans (by simp [rdC, encK, List.range, List.range.loop])
    · exact (e2 7 (by omega)).trans (by simp [rdC, encK, List.range, List.range.loop])
    · exact (e2 8 (by omega)).trans (by simp [rdC, encK, List.range, List.range.loop])
    · exact (e3 21 (by omega) (by omega)).trans (by simp [rdC, encK, List.range, List.range.loop])
    · rw [Array.getElem?_eq_none (by rw [h2, (rdC_get s p).2.2.2.2.2.2.2.2.2.2]; exact hm), Array.getElem?_eq_none (by rw [(rdC_get _ p).2.2.2.2.2.2.2.2.2.2]; exact hm)]
  refine ⟨⟨hcs ▸ hT, ?_, h.young⟩, hW.below (Nat.le_of_lt h.tok.own.lt) fun x hx => by rw [hm x hx]; exact Nat.le_refl _⟩
  have hv : RdV w' s.d p := h.vals.keep fun b hb => hW.block b (h.vals.lt hb) fun x hx => by
    rw [hm x hx]
    have := h.young b hb
    omega
  exact ⟨hv.boxes, hv.holes, hv.bars, hv.runs, hv.laps, hv.dems, hv.nb, hv.ns, hv.dims, hv.steps, hv.sep⟩
/-- The member's numbers are read. -/
theorem rd_mem {w w' : World} {R : Nat} {ts : List Tk} {s : Rd} {p : PV} (h : RdW w R ts s p) {j : Nat} {l : List Int} {e : Ending} (hl : l.length = 3) (hN : NumsE ts R 139 w p.vt R 5 3 (.ok (l, j)) e w') :
    RdW w' R ts { s with i := j, d := { s.d with mem := l } } p ∧ Below R w w' := by
  obtain ⟨-, ⟨cs2, -, hT⟩, hc, hW⟩ := hN
  obtain ⟨cs', h1, h2, h3⟩ := hW.at h.tok.own
  obtain rfl : cs2 = cs' := by
    have e1 := hT.own.symm.trans h1
    injection e1 with e1
    injection e1
  have hm : ∀ x ∈ nps R R 5 3, x.block = R := fun x hx => by
    rcases nps_mem hx with rfl | ⟨d, _, rfl⟩ <;> rfl
  obtain ⟨a0, a1, a2, rfl⟩ := three hl
  have e1 := hT.at_
  have e2 : ∀ c (hc2 : c < 3), cs2[5 + c]? = some (.int .i64 [a0, a1, a2][c]) := fun c hc2 => by
    rw [← hT.own.c]
    exact hc c hc2
  have e3 : ∀ m, m ≠ 1 → (m < 5 ∨ 8 ≤ m) → cs2[m]? = (rdC s p)[m]? := fun m hm1 hm2 => h3 m fun hx => by
    rcases nps_mem hx with e | ⟨d, hd, e⟩
    · injection e with _ e; exact hm1 e
    · injection e with _ e; omega
  have hcs : cs2 = rdC { s with i := j, d := { s.d with mem := [a0, a1, a2] } } p := by
    apply Array.ext_getElem?
    intro m
    have hmm : m = 0 ∨ m = 1 ∨ m = 2 ∨ m = 3 ∨ m = 4 ∨ m = 5 ∨ m = 6 ∨ m = 7 ∨ m = 8 ∨ m = 9 ∨ m = 10 ∨ m = 11 ∨ m = 12 ∨ m = 13 ∨ m = 14 ∨ m = 15 ∨ m = 16 ∨ m = 17 ∨ m = 18 ∨ m = 19 ∨ m = 20 ∨ m = 21 ∨ 22 ≤ m := by omega
    rcases hmm with rfl | rfl | rfl | rfl | rfl | rfl | rfl | rfl | rfl | rfl | rfl | rfl | rfl | rfl | rfl | rfl | rfl | rfl | rfl | rfl | rfl | rfl | hm
    · exact (e3 0 (by omega) (by omega)).trans (by simp [rdC, encK, List.range, List.range.loop])
    · exact e1.trans (by simp [rdC])
    · exact (e3 2 (by omega) (by omega)).trans (by simp [rdC, encK, List.range, List.range.loop])
    · exact (e3 3 (by omega) (by omega)).trans (by simp [rdC, encK, List.range, List.range.loop])
    · exact (e3 4 (by omega) (by omega)).trans (by simp [rdC, encK, List.range, List.range.loop])
    · exact (e2 0 (by omega)).trans (by simp [rdC, encK, List.range, List.range.loop])
    · exact (e2 1 (by omega)).trans (by simp [rdC, encK, List.range, List.range.loop])
    · exact (e2 2 (by omega)).trans (by simp [rdC, encK, List.range, List.range.loop])
    · exact (e3 8 (by omega) (by omega)).trans (by simp [rdC, encK, List.range, List.range.loop])
    · exact (e3 9 (by omega) (by omega)).trans (by simp [rdC, encK, List.range, List.range.loop])
    · exact (e3 10 (by omega) (by omega)).trans (by simp [rdC, encK, List.range, List.range.loop])
    · exact (e3 11 (by omega) (by omega)).trans (by simp [rdC, encK, List.range, List.range.loop])
    · exact (e3 12 (by omega) (by omega)).trans (by simp [rdC, encK, List.range, List.range.loop])
    · exact (e3 13 (by omega) (by omega)).trans (by simp [rdC, encK, List.range, List.range.loop])
    · exact (e3 14 (by omega) (by omega)).trans (by simp [rdC, encK, List.range, List.range.loop])
    · exact (e3 15 (by omega) (by omega)).trans (by simp [rdC, encK, List.range, List.range.loop])
    · exact (e3 16 (by omega) (by omega)).trans (by simp [rdC, encK, List.range, List.range.loop])
    · exact (e3 17 (by omega) (by omega)).trans (by simp [rdC, encK, List.range, List.range.loop])
    · exact (e3 18 (by omega) (by omega)).trans (by simp [rdC, encK, List.range, List.range.loop])
    · exact (e3 19 (by omega) (by omega)).trans (by simp [rdC, encK, List.range, List.range.loop])
    · exact (e3 20 (by omega) (by omega)).trans (by simp [rdC, encK, List.range, List.range.loop])
    · exact (e3 21 (by omega) (by omega)).trans (by simp [rdC, encK, List.range, List.range.loop])
    · rw [Array.getElem?_eq_none (by rw [h2, (rdC_get s p).2.2.2.2.2.2.2.2.2.2]; exact hm), Array.getElem?_eq_none (by rw [(rdC_get _ p).2.2.2.2.2.2.2.2.2.2]; exact hm)]
  refine ⟨⟨hcs ▸ hT, ?_, h.young⟩, hW.below (Nat.le_of_lt h.tok.own.lt) fun x hx => by rw [hm x hx]; exact Nat.le_refl _⟩
  have hv : RdV w' s.d p := h.vals.keep fun b hb => hW.block b (h.vals.lt hb) fun x hx => by
    rw [hm x hx]
    have := h.young b hb
    omega
  exact ⟨hv.boxes, hv.holes, hv.bars, hv.runs, hv.laps, hv.dems, hv.nb, hv.ns, hv.dims, hv.steps, hv.sep⟩

theorem RdW.ruled {w : World} {R : Nat} {ts : List Tk} {s : Rd} {p : PV} (h : RdW w R ts s p) (b : Bool) : RdW (w.setCell ⟨R, 21, none⟩ (.bool b)) R ts { s with ruled := b } p ∧ Below R w (w.setCell ⟨R, 21, none⟩ (.bool b)) := by
  refine ⟨⟨?_, h.vals.keep fun c hc => Below.heap_setCell w ⟨R, 21, none⟩ _ c (by have := h.young c hc; dsimp only; omega), h.young⟩, (Below.refl R w).setCell (Nat.le_refl R) _⟩
  have hs := Wrt.set (j := 21) h.tok.own (.bool b)
  have := h.tok.wr hs (fun x hx => by simp only [List.mem_singleton] at hx; subst hx; exact Nat.le_refl _) (h.tok.own.put 21 _) (by simp) (by rw [Array.getElem?_setIfInBounds_ne (by omega)]) s.i (by rw [Array.getElem?_setIfInBounds_ne (by omega)]; exact h.tok.at_)
  rwa [show (rdC s p).setIfInBounds 21 (.bool b) = rdC { s with ruled := b } p from by simp [rdC, encK, List.range, List.range.loop]] at this
theorem RdW.named {w : World} {R : Nat} {ts : List Tk} {s : Rd} {p : PV} (h : RdW w R ts s p) (nm : List UInt8) : RdW (w.setCell ⟨R, 2, none⟩ (.string ⟨nm.toArray⟩)) R ts { s with d := { s.d with name := nm } } p ∧ Below R w (w.setCell ⟨R, 2, none⟩ (.string ⟨nm.toArray⟩)) := by
  have hv : RdV (w.setCell ⟨R, 2, none⟩ (.string ⟨nm.toArray⟩)) s.d p := h.vals.keep fun c hc => Below.heap_setCell w ⟨R, 2, none⟩ _ c (by have := h.young c hc; dsimp only; omega)
  refine ⟨⟨?_, ⟨hv.boxes, hv.holes, hv.bars, hv.runs, hv.laps, hv.dems, hv.nb, hv.ns, hv.dims, hv.steps, hv.sep⟩, h.young⟩, (Below.refl R w).setCell (Nat.le_refl R) _⟩
  have hs := Wrt.set (j := 2) h.tok.own (.string ⟨nm.toArray⟩)
  have := h.tok.wr hs (fun x hx => by simp only [List.mem_singleton] at hx; subst hx; exact Nat.le_refl _) (h.tok.own.put 2 _) (by simp) (by rw [Array.getElem?_setIfInBounds_ne (by omega)]) s.i (by rw [Array.getElem?_setIfInBounds_ne (by omega)]; exact h.tok.at_)
  rwa [show (rdC s p).setIfInBounds 2 (.string ⟨nm.toArray⟩) = rdC { s with d := { s.d with name := nm } } p from by simp [rdC, encK, List.range, List.range.loop]] at this

end Go.Proofs.YtccakklnbhcbdaaGreatDoor
