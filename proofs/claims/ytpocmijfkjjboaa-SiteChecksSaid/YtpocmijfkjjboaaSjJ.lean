/- site: the law's own closure, and slices.DeleteFunc with it. -/
import Derived.Test.YtpocmijfkjjboaaSiP
import Derived.Shelf.SlicesE.DeleteFunc
import Derived.Ground.SlgfProg
import Derived.Shelf.Lay
set_option linter.unusedVariables false
namespace Go.Proofs.Ytpocmijfkjjboaa
open Go.ChangeShapes Go.WideShapes Go.ChangeAt Go.RowKit Go.Shelf Go.Lib Go.Sort Go.RowKit

shelf_lay_g SlLaysH.n10 Slgf 10 at Try 21 as Try.delFn
def eqN (nm : ByteArray) (y : List UInt8) : Bool := y == nm.toList
theorem eqN_by (nm y : ByteArray) : eqN nm (by_ y) = decide (y = nm) := by
  unfold eqN by_
  rw [Lib.toList_data, Bool.eq_iff_iff, decide_eq_true_iff, beq_iff_eq]
  exact ⟨fun h => ByteArray.ext (Array.ext' h), fun h => by rw [h]⟩
theorem closure_gives (nm : ByteArray) (X : Nat) (y : List UInt8) (W : World) (hc : W.cell? ⟨X, 2, none⟩ = some (.string nm)) :
    FnGives Try.prog 22 #[.pointer (some ⟨X, 0, none⟩)] #[encStr y] (.bool (eqN nm y)) W := by
  show Calls Try.prog 22 #[encStr y, .pointer (some ⟨X, 0, none⟩)] W _
  go_enter Try.func22, Try.ntmps22
  go_wp2
  all_goals (go_ret; exact ⟨rfl, 0, rfl⟩)

theorem delf_any (l : List ByteArray) (nm : ByteArray) (X g cap base : Nat) (w : World) (hR : w.ownsRow base 9 1 (.slice (some ⟨g, 0, none⟩) l.length cap) l.length (l.flatMap encS)) (hX : X < w.heap.size) (hg : X ≠ g) (hc : w.cell? ⟨X, 2, none⟩ = some (.string nm)) :
    Calls Try.prog 21 #[.slice (some ⟨g, 0, none⟩) l.length cap, .func (.func 22) #[] #[.pointer (some ⟨X, 0, none⟩)]] w fun e w' => e = .returned (.slice (some ⟨g, 0, none⟩) (l.filter (fun y => !decide (y = nm))).length cap) ∧ w'.ownsRow base 9 1 (.slice (some ⟨g, 0, none⟩) (l.filter (fun y => !decide (y = nm))).length cap) (l.filter (fun y => !decide (y = nm))).length ((l.filter (fun y => !decide (y = nm))).flatMap encS) ∧ w.grownBy w' (some g) := by
  obtain ⟨hl, ⟨h1, h2⟩ | ⟨g', cap', cur, h1, h2, h3, h4, h5, h6, h7⟩⟩ := hR
  · cases h1
  · simp only [Value.slice.injEq, Option.some.injEq, Addr.mk.injEq, and_true] at h1
    obtain ⟨rfl, -, rfl⟩ := h1
    have hzl : (l.map by_).length = l.length := List.length_map ..
    have hH : Go.Sort.Holds encStr w g 0 (l.map by_).toArray := by
      intro j hj
      have hj' : j < l.length := by simpa using hj
      refine ⟨?_, by simp [World.frozen?, h3]⟩
      rw [cell_of_row w g (0 + j) cur 9 (0, 0) h3, Nat.zero_add]
      have h8 : (cur.toList.take (l.length * 1))[j]? = some (encStr (by_ l[j])) := by
        rw [h7, flat_map, List.getElem?_map, List.getElem?_map, List.getElem?_eq_getElem hj']
        rfl
      rw [List.getElem?_take_of_lt (by omega)] at h8
      rw [show (l.map by_).toArray[j]! = by_ l[j] by rw [getElem!_pos _ j (by simpa using hj')]; simp]
      simpa using h8
    have eg : ∀ args w, (callFunc 22 args).run Try.prog w = .ok (.enter 22 args) w := enters_of Try.func22 (by kernel_rfl) rfl
    have hp : PredAt Try.prog 22 #[.pointer (some ⟨X, 0, none⟩)] encStr (eqN nm) w := fun W x hb => closure_gives nm X x W ((hb.cell (p := ⟨X, 2, none⟩) hX).trans hc)
    have hpo : PredOver Try.prog 22 #[.pointer (some ⟨X, 0, none⟩)] encStr (eqN nm) g 0 (l.map by_).toArray.size w := fun n os dk x _ => closure_gives nm X x _ (by
      unfold sortWorld
      rw [cell?_grow _ _ _ (by show X < (putRow _ _ _ _ _).heap.size; rw [size_putRow]; exact hX), cell?_putRow_other _ _ g _ _ _ (Or.inl hg)]
      exact hc)
    have hsz : (l.map by_).toArray.size = l.length := by simp
    have h63 : cap ≤ 2 ^ 63 - 1 := h5
    have := AnyE.slices_DeleteFunc Try.delFn encStr (fun _ => rfl) (eqN nm) 22 #[.pointer (some ⟨X, 0, none⟩)] eg [] Try.zeroValue9 g 0 cap (l.map by_).toArray w hp hpo hH (by rw [hsz]; omega) (by rw [hsz]; exact h4)
    change Calls Try.prog 21 _ _ _ at this
    rw [hsz] at this
    refine this.mono ?_
    rintro e w' ⟨rfl, q, rfl⟩
    have hfl : ((l.map by_).toArray.toList.filter fun x => !eqN nm x) = (l.filter (fun y => !decide (y = nm))).map by_ := by
      rw [List.toList_toArray, List.filter_map]
      congr 1
      refine List.filter_congr fun y _ => ?_
      show (!eqN nm (by_ y)) = _
      rw [eqN_by]
    rw [hfl, List.length_map]
    obtain ⟨r, hr⟩ : ∃ r, l.filter (fun y => !decide (y = nm)) = r := ⟨_, rfl⟩
    have hrl : r.length ≤ l.length := by rw [← hr]; exact List.length_filter_le _ _
    rw [hr]
    obtain ⟨ts, hts⟩ : ∃ ts, r.map by_ ++ List.replicate (l.length - r.length) [] = ts := ⟨_, rfl⟩
    have htl : ts.length = l.length := by rw [← hts]; simp; omega
    rw [hts]
    have hgr := Go.grownBy_sorted (w := w) (g := g) (n := q) (os := #[]) ts.toArray
    rw [Go.Sort.grow_empty] at hgr
    refine ⟨rfl, ⟨by rw [flat_len encS_len], .inr ⟨g, cap, Go.Sort.putCells encStr 0 ts.toArray cur, rfl, h2, ?_, by omega, h5, by simp [Go.Sort.putCells, h6], ?_⟩⟩, hgr⟩
    · simp [Go.Sort.putRow, Go.Sort.mapBlock, Go.Sort.ahead, Array.getElem?_modify, h3, Go.Sort.onCells]
    · have h8 := Go.take_putCells cur ts (by rw [htl, h6]; omega)
      rw [Nat.mul_one, show r.length = min r.length ts.length by omega, ← List.take_take, h8, ← hts, flat_map, ← List.map_take]
      congr 1
      rw [List.take_append_of_le_length (by simp), List.take_of_length_le (by simp)]

end Go.Proofs.Ytpocmijfkjjboaa
