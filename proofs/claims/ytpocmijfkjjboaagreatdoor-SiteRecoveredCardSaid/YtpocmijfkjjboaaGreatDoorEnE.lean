/- clones and comparisons of rows of entries. -/
import Derived.Test.YtpocmijfkjjboaaGreatDoorEnB
import Derived.Test.YtpocmijfkjjboaaGreatDoorShelf
import Derived.Shelf.SlicesE.Clone
import Derived.Ground.SlgnProg
import Derived.Shelf.Lay
set_option linter.unusedVariables false
namespace Go.Proofs.YtpocmijfkjjboaaGreatDoor
open Go.ChangeShapes Go.WideShapes Go.ChangeAt Go.RowKit Go.Shelf

shelf_lay_g SlLaysE0.n41 Slgn 41 at Tryz 37 as Tryz.cloneEnt
noncomputable def enI : TypeInfo := (Tryz.prog.info? 39).get (by kernel_rfl)

theorem cloneE_any (l : List Ent) (ao : Option Addr) (cap : Nat) (hl : l.length ≤ 100000) (hf : (ao = none ∧ l.length = 0) ∨ ∃ b off, ao = some ⟨b, off, none⟩) (B : Nat) (w : World) (ha : RowAt encE 3 B w ao l) :
    Calls Tryz.prog 37 #[.slice ao l.length cap] w fun e w' => (∃ v, e = .returned v ∧ Hid (w'.ownsRow w.heap.size 39 3 v l.length (l.flatMap encE))) ∧ Below w.heap.size w w' := by
  rcases hf with ⟨rfl, h0⟩ | ⟨b, off, rfl⟩
  · obtain rfl := List.length_eq_zero_iff.1 h0
    refine (AnyE.slices_Clone_nil Tryz.cloneEnt 0 cap w).mono ?_
    rintro e w' ⟨rfl, rfl⟩
    exact ⟨⟨_, rfl, Lib.hid (World.ownsRow_nil _ _ _ _)⟩, Below.refl _ _⟩
  · refine (AnyE.slices_Clone Tryz.cloneEnt enI (.agg #[.int .i64 0, .int .i64 0, .string ⟨#[]⟩]) 3 32 (by kernel_rfl) (by kernel_rfl) (by kernel_rfl) (by kernel_rfl) rfl (by decide) Tryz.sizeOf39 b off l.length cap (l.flatMap encE) w (flat_len encE_len l) (by unfold maxLen; omega) (by omega) (ha.flat encE_len (by decide)) ?_).mono ?_
    · intro u hu
      obtain ⟨x, _, hx⟩ := List.mem_flatMap.1 hu
      simp [encE] at hx
      rcases hx with rfl | rfl | rfl <;> rfl
    · rintro e w' ⟨v, rfl, h1, h2, h3⟩
      exact ⟨⟨v, rfl, Lib.hid h1⟩, h3⟩

set_option maxRecDepth 100000 in
set_option maxHeartbeats 1000000 in
theorem eqE_any (l : List Ent) (a b : Option Addr) (ca cb : Nat) (hl : l.length ≤ 1000000) (h1 : l.length ≤ ca) (h2 : l.length ≤ cb) (w : World) (ta : Hid (RowAt encE 3 w.heap.size w a l)) (tb : Hid (RowAt encE 3 w.heap.size w b l)) :
    Calls Tryz.prog 16 #[.slice a l.length ca, .slice b l.length cb] w fun e w' => e = .returned (.bool true) ∧ Below w.heap.size w w' := by
  obtain ⟨n, hn⟩ : ∃ n, l.length = n := ⟨_, rfl⟩
  rw [hn] at hl h1 h2 ⊢
  replace hn := Lib.hid hn
  go_enter Tryz.func16, Tryz.ntmps16
  go_wp2_with fail
  go_loopg [13] n (fun g i wr => ∃ k : Nat, k ≤ n ∧ i = .int .i64 (k : Int) ∧ Hid (g = n - k) ∧ Below w.heap.size w wr ∧ Hid (RowAt encE 3 w.heap.size wr a l) ∧ Hid (RowAt encE 3 w.heap.size wr b l))
  case atStart => exact ⟨0, Nat.zero_le _, rfl, Lib.hid rfl, Below.refl _ _, ta, tb⟩
  case round =>
    clear ta tb
    obtain ⟨k, hk, rfl, hg, HB, ta, tb⟩ := hrel
    by_cases hlt : k < n
    · have hkl : Hid (k < l.length) := Lib.hid (by rw [hn.out]; exact hlt)
      obtain ⟨t, ht⟩ : ∃ t, l[k]'hkl.out = t := ⟨_, rfl⟩
      obtain ⟨ga, oa, rfl, a0, a1, a2, la⟩ := ta.out.ent k hkl.out
      obtain ⟨gb, ob, rfl, b0, b1, b2, lb⟩ := tb.out.ent k hkl.out
      rw [ht] at a0 a1 a2 b0 b1 b2
      replace ht := Lib.hid ht
      obtain ⟨td, tk, tn⟩ := t
      dsimp only at a0 a1 a2 b0 b1 b2
      clear la lb
      go_wp2_with fail
      go_quiet (fail)
      go_wp2_with fail
      go_roundg (n - (k + 1))
      case measure => have := hg.out; omega
      case rel => exact ⟨k + 1, by omega, by go_num, Lib.hid rfl, below_drewN HB _, ta, tb⟩
    · have e : k = n := by omega
      subst e
      go_wp2_with fail
      go_ret
      exact ⟨rfl, HB⟩
theorem eqvE_any (l : List Ent) (v1 v2 : Value) (w : World) (hl : l.length ≤ 1000000) (h1 : IsE l v1 w) (h2 : IsE l v2 w) :
    Calls Tryz.prog 16 #[v1, v2] w fun e w' => e = .returned (.bool true) ∧ Below w.heap.size w w' := by
  obtain ⟨a, c, rfl, c1, _, r1⟩ := h1
  obtain ⟨b, d, rfl, c2, _, r2⟩ := h2
  exact eqE_any l a b c d hl c1 c2 w (Lib.hid r1) (Lib.hid r2)

end Go.Proofs.YtpocmijfkjjboaaGreatDoor
