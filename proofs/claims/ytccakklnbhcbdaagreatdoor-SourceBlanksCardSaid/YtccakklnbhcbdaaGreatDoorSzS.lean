/- slices.Clone and slices.Equal at rows of names. -/
import Derived.Test.YtccakklnbhcbdaaGreatDoorQe
import Derived.Test.YtccakklnbhcbdaaGreatDoorShelf
set_option linter.unusedVariables false
namespace Go.Proofs.YtccakklnbhcbdaaGreatDoor
open Go.ChangeShapes Go.WideShapes Go.ChangeAt Go.RowKit Go.Shelf

theorem flatS (l : List ByteArray) : l.flatMap encS = l.map Value.string := by
  induction l with
  | nil => rfl
  | cons a l ih => rw [List.flatMap_cons, ih, List.map_cons]; rfl
theorem getD_str {l : List ByteArray} {b off : Nat} {B : Nat} {w : World} (h : RowAt encS 1 B w (some ⟨b, off, none⟩) l) : ∀ j, j < l.length → w.cell? ⟨b, off + j, none⟩ = some (.string (l.getD j ByteArray.empty)) := by
  intro j hj
  obtain ⟨b', off', e, hc, _⟩ := h.one (f := fun s => .string s) j hj
  simp only [Option.some.injEq, Addr.mk.injEq, and_true] at e
  obtain ⟨rfl, rfl⟩ := e
  rw [hc]
  simp [List.getD, hj]
theorem cloneS_any (l : List ByteArray) (v : Value) (hl : l.length ≤ 1000001) (w : World) (h : IsS l v w) :
    Calls Tryz.prog 24 #[v] w fun e w' => (∃ v', e = .returned v' ∧ Hid (w'.ownsRow w.heap.size 9 1 v' l.length (l.flatMap encS))) ∧ Below w.heap.size w w' := by
  obtain ⟨ao, cap, rfl, _, _, ha⟩ := h
  by_cases h0 : l.length = 0
  · obtain rfl := List.length_eq_zero_iff.1 h0
    cases ao with
    | none =>
      refine (Tryz.slices_Clone_string_nil 0 cap w).mono ?_
      rintro e w' ⟨rfl, rfl⟩
      exact ⟨⟨_, rfl, Lib.hid (World.ownsRow_nil _ _ _ _)⟩, Below.refl _ _⟩
    | some a =>
      refine (Tryz.slices_Clone_string_zero a cap w).mono ?_
      rintro e w' ⟨v, rfl, h1, _, h3⟩
      exact ⟨⟨v, rfl, Lib.hid h1⟩, h3⟩
  · obtain ⟨b, off, rfl, _⟩ := ha 0 (by omega)
    refine (Tryz.slices_Clone_string b off l.length cap l w (Nat.le_refl _) (by omega) (getD_str ha)).mono ?_
    rintro e w' ⟨v, rfl, h1, h2, h3⟩
    refine ⟨⟨v, rfl, Lib.hid ?_⟩, h3⟩
    rw [flatS]
    rwa [List.take_length] at h1
theorem eqS_any (l1 l2 : List ByteArray) (v1 v2 : Value) (w : World) (h1 : l1.length ≤ 10000000) (h2 : l2.length ≤ 10000000) (r1 : IsS l1 v1 w) (r2 : IsS l2 v2 w) :
    Calls Tryz.prog 22 #[v1, v2] w fun e w' => e = .returned (.bool (decide (l1 = l2))) ∧ Below w.heap.size w w' := by
  obtain ⟨a1, c1, rfl, _, _, r1⟩ := r1
  obtain ⟨a2, c2, rfl, _, _, r2⟩ := r2
  by_cases e1 : l1.length = 0
  · obtain rfl := List.length_eq_zero_iff.1 e1
    refine (Tryz.slices_Equal_string_empty a1 a2 c1 l2.length c2 w (by omega)).mono ?_
    rintro e w' ⟨rfl, rfl⟩
    refine ⟨?_, Below.refl _ _⟩
    rw [show decide (l2.length = 0) = decide ([] = l2) from decide_eq_decide.2 (by rw [List.length_eq_zero_iff]; exact eq_comm)]
  · by_cases e2 : l1.length = l2.length
    · obtain ⟨b, off, rfl, _⟩ := r1 0 (by omega)
      obtain ⟨b', off', rfl, _⟩ := r2 0 (by omega)
      refine (Tryz.slices_Equal_string b off l1.length c1 b' off' l2.length c2 l1 l2 w (Nat.le_refl _) (Nat.le_refl _) (by omega) (by omega) (getD_str r1) (getD_str r2)).mono ?_
      rintro e w' ⟨rfl, q, rfl⟩
      refine ⟨?_, below_drewN (Below.refl _ _) _⟩
      rw [List.take_length, List.take_length]
    · refine (Tryz.slices_Equal_string_lens a1 a2 l1.length c1 l2.length c2 w e2).mono ?_
      rintro e w' ⟨rfl, rfl⟩
      refine ⟨?_, Below.refl _ _⟩
      rw [decide_eq_false (fun h => e2 (by rw [h]))]

end Go.Proofs.YtccakklnbhcbdaaGreatDoor
