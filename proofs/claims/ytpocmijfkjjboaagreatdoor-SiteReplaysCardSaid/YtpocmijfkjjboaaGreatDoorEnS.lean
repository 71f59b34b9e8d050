/- clones and comparisons of rows of names. -/
import Derived.Test.YtpocmijfkjjboaaGreatDoorEnB
import Derived.Test.YtpocmijfkjjboaaGreatDoorShelf
import Derived.Shelf.SlicesE.Clone
import Derived.Ground.SlgnProg
import Derived.Shelf.Lay
set_option linter.unusedVariables false
namespace Go.Proofs.YtpocmijfkjjboaaGreatDoor
open Go.ChangeShapes Go.WideShapes Go.ChangeAt Go.RowKit Go.Shelf

shelf_lay_g SlLaysE0.n41 Slgn 41 at Tryz 39 as Tryz.cloneStr
noncomputable def stI : TypeInfo := (Tryz.prog.info? 9).get (by kernel_rfl)

theorem cloneS_any (l : List ByteArray) (ao : Option Addr) (cap : Nat) (hl : l.length ≤ 100000) (hf : (ao = none ∧ l.length = 0) ∨ ∃ b off, ao = some ⟨b, off, none⟩) (B : Nat) (w : World) (ha : RowAt encS 1 B w ao l) :
    Calls Tryz.prog 39 #[.slice ao l.length cap] w fun e w' => (∃ v, e = .returned v ∧ Hid (w'.ownsRow w.heap.size 9 1 v l.length (l.flatMap encS))) ∧ Below w.heap.size w w' := by
  rcases hf with ⟨rfl, h0⟩ | ⟨b, off, rfl⟩
  · obtain rfl := List.length_eq_zero_iff.1 h0
    refine (AnyE.slices_Clone_nil Tryz.cloneStr 0 cap w).mono ?_
    rintro e w' ⟨rfl, rfl⟩
    exact ⟨⟨_, rfl, Lib.hid (World.ownsRow_nil _ _ _ _)⟩, Below.refl _ _⟩
  · refine (AnyE.slices_Clone Tryz.cloneStr stI (.string ⟨#[]⟩) 1 16 (by kernel_rfl) (by kernel_rfl) (by kernel_rfl) (by kernel_rfl) rfl (by decide) Tryz.sizeOf9 b off l.length cap (l.flatMap encS) w (flat_len encS_len l) (by unfold maxLen; omega) (by omega) (ha.flat encS_len (by decide)) ?_).mono ?_
    · intro u hu
      obtain ⟨x, _, hx⟩ := List.mem_flatMap.1 hu
      simp [encS] at hx
      subst hx; rfl
    · rintro e w' ⟨v, rfl, h1, h2, h3⟩
      exact ⟨⟨v, rfl, Lib.hid h1⟩, h3⟩

theorem getD_str {l : List ByteArray} {b off : Nat} {B : Nat} {w : World} (h : RowAt encS 1 B w (some ⟨b, off, none⟩) l) : ∀ j, j < l.length → w.cell? ⟨b, off + j, none⟩ = some (.string (l.getD j ByteArray.empty)) := by
  intro j hj
  obtain ⟨b', off', e, hc, _⟩ := h.one (f := fun s => .string s) j hj
  simp only [Option.some.injEq, Addr.mk.injEq, and_true] at e
  obtain ⟨rfl, rfl⟩ := e
  rw [hc]
  simp [List.getD, hj]
theorem eqS_any (l1 l2 : List ByteArray) (a1 a2 : Option Addr) (c1 c2 : Nat) (h1 : l1.length ≤ 1000000) (h2 : l2.length ≤ 1000000) (B1 B2 : Nat) (w : World) (r1 : RowAt encS 1 B1 w a1 l1) (r2 : RowAt encS 1 B2 w a2 l2) :
    Calls Tryz.prog 17 #[.slice a1 l1.length c1, .slice a2 l2.length c2] w fun e w' => e = .returned (.bool (decide (l1 = l2))) ∧ Below w.heap.size w w' := by
  by_cases e1 : l1.length = 0
  · obtain rfl := List.length_eq_zero_iff.1 e1
    refine (Tryz.slices_Equal_string_empty a1 a2 c1 l2.length c2 w (by omega)).mono ?_
    rintro e w' ⟨rfl, rfl⟩
    refine ⟨?_, Below.refl _ _⟩
    rw [show decide (l2.length = 0) = decide ([] = l2) from decide_eq_decide.2 (by rw [List.length_eq_zero_iff]; exact eq_comm)]
  · by_cases e2 : l1.length = l2.length
    · obtain ⟨b, off, rfl, _⟩ := r1 0 (by omega)
      obtain ⟨b', off', rfl, _⟩ := r2 0 (by omega)
      refine (Tryz.slices_Equal_string b off l1.length c1 b' off' l2.length c2 l1 l2 w (Nat.le_refl _) (Nat.le_refl _) (by omega) (by omega) (getD_str r1) (getD_str r2)).mono ?_
      rintro e w' ⟨rfl, q, rfl⟩
      refine ⟨?_, below_drewN (Below.refl _ _) _⟩
      rw [List.take_length, List.take_length]
    · refine (Tryz.slices_Equal_string_lens a1 a2 l1.length c1 l2.length c2 w e2).mono ?_
      rintro e w' ⟨rfl, rfl⟩
      refine ⟨?_, Below.refl _ _⟩
      rw [decide_eq_false (fun h => e2 (by rw [h]))]
theorem eqvS_any (l : List ByteArray) (v1 v2 : Value) (w : World) (hl : l.length ≤ 1000000) (h1 : IsS l v1 w) (h2 : IsS l v2 w) :
    Calls Tryz.prog 17 #[v1, v2] w fun e w' => e = .returned (.bool true) ∧ Below w.heap.size w w' := by
  obtain ⟨a, c, rfl, _, _, r1⟩ := h1
  obtain ⟨b, d, rfl, _, _, r2⟩ := h2
  have := eqS_any l l a b c d hl hl _ _ w r1 r2
  rwa [decide_eq_true rfl] at this

end Go.Proofs.YtpocmijfkjjboaaGreatDoor
