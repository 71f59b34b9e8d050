/- source: the reader with a demand, a bar more. -/
import Derived.Test.YtccakklnbhcbdaaGreatDoorQg
set_option linter.unusedVariables false
namespace Go.Proofs.YtccakklnbhcbdaaGreatDoor
open Go.ChangeShapes Go.WideShapes Go.ChangeAt Go.RowKit

theorem fp_pushD (p : PV) (v : Value) : ({ p with vd := v, ds := p.ds ++ [Value.slice none 0 0] } : PV).fp = p.fp.set 5 v.ownBlock ++ [none] := by
  simp only [PV.fp, List.map_append, List.map_cons, List.map_nil]
  rw [List.set_append, if_pos (by simp), List.set_append, if_pos (by simp)]
  simp [Value.ownBlock]
theorem fp_pushR (p : PV) (v dv : Value) (o : Option Nat) : o ∈ ({ p with vr := v, db := p.db ++ [dv] } : PV).fp ↔ o = dv.ownBlock ∨ o ∈ p.fp.set 2 v.ownBlock := by
  have e : ({ p with vr := v, db := p.db ++ [dv] } : PV).fp.Perm (dv.ownBlock :: p.fp.set 2 v.ownBlock) := by
    simp only [PV.fp, List.map_append, List.map_cons, List.map_nil]
    rw [List.set_append, if_pos (by simp), List.set_append, if_pos (by simp)]
    rw [← List.append_assoc, List.append_assoc]
    exact List.perm_middle
  rw [e.mem_iff, List.mem_cons]
section
variable {w w5 : World} {R : Nat} {ts : List Tk} {s : Rd} {p : PV}
theorem RdW.pushD (h : RdW w R ts s p) (hg : w.grownBy w5 p.vd.ownBlock) {v' : Value} {nm : List UInt8} {z : List Int} (ho : w5.ownsRow 0 63 8 v' (s.d.dems.length + 1) ((s.d.dems.zip p.ds).flatMap encD ++ encD ((nm, z, []), .slice none 0 0))) {m : Nat} (hm : w.heap.size ≤ m) (hl : v'.ownBlock = p.vd.ownBlock ∨ v'.ownBlock = some m) :
    At w5 R 139 (rdC s p) ∧ RdW (w5.setCell ⟨R, 11, none⟩ v') R ts { s with d := { s.d with dems := s.d.dems ++ [(nm, z, [])] } } { p with vd := v', ds := p.ds ++ [Value.slice none 0 0] } ∧ Below R w (w5.setCell ⟨R, 11, none⟩ v') := by
  have h6 := fp_six (p := p)
  refine h.store hg (fun b e => h.young b (by simp [PV.fp, e])) (by omega) (h.vals.pushD hg ho hm hl) (fun b hb => ?_) (by simp [rdC, encK, List.range, List.range.loop])
  rw [fp_pushD, List.mem_append] at hb
  rcases hb with hb | hb
  · exact fp_young (p := p) (k := 5) (by omega) h.young hl (by have := h.tok.own.lt; omega) b hb
  · simp at hb
theorem RdW.pushR (h : RdW w R ts s p) (hg : w.grownBy w5 p.vr.ownBlock) {v' dv : Value} {n : List UInt8 × List Int} (ho : w5.ownsRow 0 56 5 v' (s.d.bars.length + 1) ((s.d.bars.zip p.db).flatMap encR ++ encR (n, dv))) {m : Nat} (hm : w.heap.size ≤ m) (hl : v'.ownBlock = p.vr.ownBlock ∨ v'.ownBlock = some m)
    (hd : Row w5 3 1 encZ dv (n.2.drop 3)) (hdj : ∀ b, dv.ownBlock = some b → some b ∉ p.fp ∧ b ≠ m ∧ R < b) :
    At w5 R 139 (rdC s p) ∧ RdW (w5.setCell ⟨R, 8, none⟩ v') R ts { s with d := { s.d with bars := s.d.bars ++ [n] } } { p with vr := v', db := p.db ++ [dv] } ∧ Below R w (w5.setCell ⟨R, 8, none⟩ v') := by
  have h6 := fp_six (p := p)
  refine h.store hg (fun b e => h.young b (by simp [PV.fp, e])) (by omega) (h.vals.pushR hg ho hm hl hd fun b hb => ⟨(hdj b hb).1, (hdj b hb).2.1⟩) (fun b hb => ?_) (by simp [rdC, encK, List.range, List.range.loop])
  rw [fp_pushR] at hb
  rcases hb with hb | hb
  · exact (hdj b hb.symm).2.2
  · exact fp_young (p := p) (k := 2) (by omega) h.young hl (by have := h.tok.own.lt; omega) b hb
end

end Go.Proofs.YtccakklnbhcbdaaGreatDoor
