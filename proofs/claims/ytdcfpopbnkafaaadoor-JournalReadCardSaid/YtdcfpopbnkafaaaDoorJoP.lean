/- journal: the reference's Decode. -/
import Derived.Test.YtdcfpopbnkafaaaDoorJoM
set_option linter.unusedVariables false
namespace Go.Proofs.YtdcfpopbnkafaaaDoor
open Go.ChangeShapes Go.WideShapes Go.ChangeAt Go.RowKit

set_option maxRecDepth 100000 in
theorem refdecode_v (b : List UInt8) (v : Value) (hbl : b.length ≤ 1000000 ∨ 1048576 < b.length) (w : World) (hv : IsB b v w) :
    Calls Tryd.prog 21 #[v] w fun e w' => (∃ y, e = .returned (.tuple #[y, .int .i64 (decE b)]) ∧ Hid (w'.ownsRow w.heap.size 24 3 y (decL b).length ((decL b).flatMap encE))) ∧ Below w.heap.size w w' := by
  obtain ⟨a, n, c, rfl, hn0, hnc, hcm⟩ := hv.shape
  by_cases hbig : 1048576 < n
  · have hE : Hid (decE b = 4) := Lib.hid (by unfold decE; rw [if_pos (by omega)])
    have hL : Hid (decL b = []) := Lib.hid (by unfold decL; rw [hE.out]; rfl)
    have hbig' : (decide ((1048576 : Int) < (n : Int))) = true := by simp; omega
    clear hbl hn0 hbig hv
    go_enter Tryd.func21, Tryd.ntmps21
    go_wp2_with fail
    exact bodyPost_ret (v := .tuple #[.slice none 0 0, .int .i64 4]) (by simp [results, Tryd.results21, go_sem]) rfl ⟨⟨_, by rw [hE.out], by rw [hL.out]; exact Lib.hid (World.ownsRow_nil _ _ _ _)⟩, Below.refl _ _⟩
  have hbig' : (decide ((1048576 : Int) < (n : Int))) = false := by simp; omega
  have HG := Lib.hid (refgood_v b _ (by omega) w hv)
  obtain ⟨E, hE0⟩ : ∃ E, (goodJ b).2.2 = E := ⟨_, rfl⟩
  have hE : Hid (decE b = E) := Lib.hid (by unfold decE; rw [if_neg (by omega), hE0])
  rw [hE0] at HG
  obtain ⟨A, hA⟩ : ∃ A, (goodJ b).2.1 = A := ⟨_, rfl⟩
  rw [hA] at HG
  clear hbl hbig hv hn0 hE0 hA
  go_enter Tryd.func21, Tryd.ntmps21
  go_wp2_with fail
  refine HG.out.mono ?_
  rintro e w1 ⟨⟨y, rfl, ho⟩, HB⟩
  clear HG
  by_cases he : E = 0
  · subst he
    have hL : Hid (decL b = (goodJ b).1) := Lib.hid (by unfold decL; rw [if_pos hE.out])
    go_wp2_with fail
    exact bodyPost_ret (v := .tuple #[y, .int .i64 0]) (by simp [results, Tryd.results21, go_sem]) rfl ⟨⟨_, by rw [hE.out], by rw [hL.out]; exact ho⟩, HB⟩
  · have hL : Hid (decL b = []) := Lib.hid (by unfold decL; rw [hE.out, if_neg he])
    have hne : (E != 0) = true := by simp [he]
    clear he
    go_wp2_with fail
    exact bodyPost_ret (v := .tuple #[.slice none 0 0, .int .i64 E]) (by simp [results, Tryd.results21, go_sem]) rfl ⟨⟨_, by rw [hE.out], by rw [hL.out]; exact Lib.hid (World.ownsRow_nil _ _ _ _)⟩, HB⟩

end Go.Proofs.YtdcfpopbnkafaaaDoor
