/- site: the law's 'same': a site, and the reference's, answer the same. -/
import Derived.Test.YtpocmijfkjjboaaSiK
import Derived.Deep.RegionHeld3
set_option linter.unusedVariables false
namespace Go.Proofs.Ytpocmijfkjjboaa
open Go.ChangeShapes Go.WideShapes Go.ChangeAt Go.RowKit

/-- A slice of names; of entries. -/
def IsS (l : List ByteArray) (v : Value) (w : World) : Prop := ∃ a c, v = .slice a l.length c ∧ l.length ≤ c ∧ c ≤ 9223372036854775807 ∧ RowAt encS 1 w.heap.size w a l
def IsE (l : List Ent) (v : Value) (w : World) : Prop := ∃ a c, v = .slice a l.length c ∧ l.length ≤ c ∧ c ≤ 9223372036854775807 ∧ RowAt encE 3 w.heap.size w a l
theorem IsS.up {l : List ByteArray} {v : Value} {w w' : World} (hb : Below w.heap.size w w') (h : IsS l v w) : IsS l v w' := by
  obtain ⟨a, c, h1, h2, h3, h4⟩ := h
  exact ⟨a, c, h1, h2, h3, (h4.bel (Nat.le_refl _) hb).mono hb.size⟩
theorem IsE.up {l : List Ent} {v : Value} {w w' : World} (hb : Below w.heap.size w w') (h : IsE l v w) : IsE l v w' := by
  obtain ⟨a, c, h1, h2, h3, h4⟩ := h
  exact ⟨a, c, h1, h2, h3, (h4.bel (Nat.le_refl _) hb).mono hb.size⟩
theorem row_isS {l : List ByteArray} {v : Value} {w : World} {base : Nat} (h : w.ownsRow base 9 1 v l.length (l.flatMap encS)) : IsS l v w := by
  have h2 : Row w 9 1 encS v l := ⟨h.1, h.2.imp id fun ⟨g, cap, cur, h1, _, h3⟩ => ⟨g, cap, cur, h1, Nat.zero_le _, h3⟩⟩
  obtain ⟨a, c, h3, h4, h5, h6, _⟩ := h2.view encS_len
  exact ⟨a, c, h3, h4, h5, h6⟩
theorem row_isE {l : List Ent} {v : Value} {w : World} {base : Nat} (h : w.ownsRow base 35 3 v l.length (l.flatMap encE)) : IsE l v w := by
  have h2 : Row w 35 3 encE v l := ⟨h.1, h.2.imp id fun ⟨g, cap, cur, h1, _, h3⟩ => ⟨g, cap, cur, h1, Nat.zero_le _, h3⟩⟩
  obtain ⟨a, c, h3, h4, h5, h6, _⟩ := h2.view encE_len
  exact ⟨a, c, h3, h4, h5, h6⟩
theorem eqvS_any (l : List ByteArray) (v1 v2 : Value) (w : World) (hl : l.length ≤ 1000000) (h1 : IsS l v1 w) (h2 : IsS l v2 w) :
    Calls Try.prog 20 #[v1, v2] w fun e w' => e = .returned (.bool true) ∧ Below w.heap.size w w' := by
  obtain ⟨a, c, rfl, _, _, r1⟩ := h1
  obtain ⟨b, d, rfl, _, _, r2⟩ := h2
  have := eqS_any l l a b c d hl hl _ _ w r1 r2
  rwa [decide_eq_true rfl] at this
theorem eqvE_any (l : List Ent) (v1 v2 : Value) (w : World) (hl : l.length ≤ 1000000) (h1 : IsE l v1 w) (h2 : IsE l v2 w) :
    Calls Try.prog 19 #[v1, v2] w fun e w' => e = .returned (.bool true) ∧ Below w.heap.size w w' := by
  obtain ⟨a, c, rfl, c1, _, r1⟩ := h1
  obtain ⟨b, d, rfl, c2, _, r2⟩ := h2
  exact eqE_any l a b c d hl c1 c2 w (Lib.hid r1) (Lib.hid r2)
theorem cell_up {w w' : World} {a : Addr} {v : Value} (hb : Below w.heap.size w w') (h : w.cell? a = some v) : w'.cell? a = some v := (hb.cell (block_lt_of_cell h)).trans h
theorem drew_bel (w : World) : Below w.heap.size w w.drew := below_drew (Below.refl _ _)
theorem drewN_bel (w : World) (n : Nat) : Below w.heap.size w (w.drewN n) := below_drewN (Below.refl _ _) n

set_option maxRecDepth 100000 in
set_option maxHeartbeats 2000000 in
theorem same_core (g h : Nat) (a0 a1 a2 : Int) (m o : List ByteArray) (k : List Ent) (rd : Bool) (vc vk : Value) (hml : m.length ≤ 1000000) (hol : o.length ≤ 1000000) (hkl : k.length ≤ 1000000) (w : World) (z3 : w.cell? ⟨h, 3, none⟩ = some vc) (z4 : w.cell? ⟨h, 4, none⟩ = some vk) (hvc : IsS o vc w) (hvk : IsE k vk w)
    (HA : Hid (∀ u, Below w.heap.size w u → Calls Try.prog 14 #[.pointer (some ⟨g, 0, none⟩)] u fun e w' => e = .returned (.tuple #[.int .i64 a0, .int .i64 a1, .int .i64 a2]) ∧ Below u.heap.size u w'))
    (HRA : Hid (∀ u, Below w.heap.size w u → Calls Try.prog 32 #[.pointer (some ⟨h, 0, none⟩)] u fun e w' => e = .returned (.tuple #[.int .i64 a0, .int .i64 a1, .int .i64 a2]) ∧ Below u.heap.size u w'))
    (HM : Hid (∀ u, Below w.heap.size w u → Calls Try.prog 15 #[.pointer (some ⟨g, 0, none⟩)] u fun e w' => (∃ v, e = .returned v ∧ IsS m v w') ∧ Below u.heap.size u w'))
    (HRM : Hid (∀ u, Below w.heap.size w u → Calls Try.prog 33 #[.pointer (some ⟨h, 0, none⟩)] u fun e w' => (∃ v, e = .returned v ∧ IsS m v w') ∧ Below u.heap.size u w'))
    (HO : Hid (∀ u, Below w.heap.size w u → Calls Try.prog 16 #[.pointer (some ⟨g, 0, none⟩)] u fun e w' => (∃ v, e = .returned v ∧ IsS o v w') ∧ Below u.heap.size u w'))
    (HR : Hid (∀ u, Below w.heap.size w u → Calls Try.prog 17 #[.pointer (some ⟨g, 0, none⟩)] u fun e w' => e = .returned (.bool rd) ∧ Below u.heap.size u w'))
    (HRR : Hid (∀ u, Below w.heap.size w u → Calls Try.prog 34 #[.pointer (some ⟨h, 0, none⟩)] u fun e w' => e = .returned (.bool rd) ∧ Below u.heap.size u w'))
    (HE : Hid (∀ u, Below w.heap.size w u → Calls Try.prog 18 #[.pointer (some ⟨g, 0, none⟩)] u fun e w' => (∃ v, e = .returned v ∧ IsE k v w') ∧ Below u.heap.size u w')) :
    Calls Try.prog 11 #[.pointer (some ⟨g, 0, none⟩), .pointer (some ⟨h, 0, none⟩)] w fun e w' => e = .returned (.bool true) ∧ Below w.heap.size w w' := by
  go_enter Try.func11, Try.ntmps11
  go_wp2_with fail
  refine (HA.out _ (Below.refl _ _)).mono ?_
  rintro e w1 ⟨rfl, hb1⟩
  go_wp2_with fail
  refine (HRA.out _ hb1).mono ?_
  rintro e w2 ⟨rfl, hb2⟩
  have HB := below_then hb1 hb2
  have y3 := cell_up HB z3
  have y4 := cell_up HB z4
  replace hvc := hvc.up HB
  replace hvk := hvk.up HB
  clear hb1 hb2 z3 z4
  go_wp2_with fail
  go_region_held3 (fun w' => Below w.heap.size w w' ∧ w'.cell? ⟨h, 3, none⟩ = some vc ∧ w'.cell? ⟨h, 4, none⟩ = some vk) ((first | ((try go_split_ands); refine ⟨?_, ?_, ?_⟩ <;> (first | ((repeat (first | with_reducible assumption | with_reducible exact Below.refl _ _ | with_reducible refine below_drew ?_ | with_reducible refine below_drewN ?_ _ | with_reducible refine below_then ?_ (by with_reducible assumption))); done) | ((repeat (first | with_reducible assumption | with_reducible refine cell_up (by with_reducible assumption) ?_ | with_reducible refine cell_up (drew_bel _) ?_)); done))) | go_keep))
    (first
      | (go_at_call 15; refine (HM.out _ ?_).mono ?_; (focus ((repeat (first | with_reducible assumption | with_reducible exact Below.refl _ _ | with_reducible refine below_drew ?_ | with_reducible refine below_drewN ?_ _ | with_reducible refine below_then ?_ (by with_reducible assumption))); done)); rintro e w' ⟨⟨v, rfl, hv⟩, hb⟩)
      | (go_at_call 33; refine (HRM.out _ ?_).mono ?_; (focus ((repeat (first | with_reducible assumption | with_reducible exact Below.refl _ _ | with_reducible refine below_drew ?_ | with_reducible refine below_drewN ?_ _ | with_reducible refine below_then ?_ (by with_reducible assumption))); done)); rintro e w' ⟨⟨v, rfl, hv⟩, hb⟩)
      | (go_at_call 16; refine (HO.out _ ?_).mono ?_; (focus ((repeat (first | with_reducible assumption | with_reducible exact Below.refl _ _ | with_reducible refine below_drew ?_ | with_reducible refine below_drewN ?_ _ | with_reducible refine below_then ?_ (by with_reducible assumption))); done)); rintro e w' ⟨⟨v, rfl, hv⟩, hb⟩)
      | (go_at_call 18; refine (HE.out _ ?_).mono ?_; (focus ((repeat (first | with_reducible assumption | with_reducible exact Below.refl _ _ | with_reducible refine below_drew ?_ | with_reducible refine below_drewN ?_ _ | with_reducible refine below_then ?_ (by with_reducible assumption))); done)); rintro e w' ⟨⟨v, rfl, hv⟩, hb⟩)
      | (go_at_call 17; refine (HR.out _ ?_).mono ?_; (focus ((repeat (first | with_reducible assumption | with_reducible exact Below.refl _ _ | with_reducible refine below_drew ?_ | with_reducible refine below_drewN ?_ _ | with_reducible refine below_then ?_ (by with_reducible assumption))); done)); rintro e w' ⟨rfl, hb⟩)
      | (go_at_call 34; refine (HRR.out _ ?_).mono ?_; (focus ((repeat (first | with_reducible assumption | with_reducible exact Below.refl _ _ | with_reducible refine below_drew ?_ | with_reducible refine below_drewN ?_ _ | with_reducible refine below_then ?_ (by with_reducible assumption))); done)); rintro e w' ⟨rfl, hb⟩)
      | (go_at_call 20; first | (refine (eqvS_any m _ _ _ hml ?_ ?_).mono ?_; (focus ((repeat (first | with_reducible assumption | with_reducible refine IsS.up (by with_reducible assumption) ?_ | with_reducible refine IsS.up (drew_bel _) ?_ | with_reducible refine IsS.up (drewN_bel _ _) ?_)); done)); (focus ((repeat (first | with_reducible assumption | with_reducible refine IsS.up (by with_reducible assumption) ?_ | with_reducible refine IsS.up (drew_bel _) ?_ | with_reducible refine IsS.up (drewN_bel _ _) ?_)); done)); rintro e w' ⟨rfl, hb⟩) | (refine (eqvS_any o _ _ _ hol ?_ ?_).mono ?_; (focus ((repeat (first | with_reducible assumption | with_reducible refine IsS.up (by with_reducible assumption) ?_ | with_reducible refine IsS.up (drew_bel _) ?_ | with_reducible refine IsS.up (drewN_bel _ _) ?_)); done)); (focus ((repeat (first | with_reducible assumption | with_reducible refine IsS.up (by with_reducible assumption) ?_ | with_reducible refine IsS.up (drew_bel _) ?_ | with_reducible refine IsS.up (drewN_bel _ _) ?_)); done)); rintro e w' ⟨rfl, hb⟩))
      | (go_at_call 19; refine (eqvE_any k _ _ _ hkl ?_ ?_).mono ?_; (focus ((repeat (first | with_reducible assumption | with_reducible refine IsE.up (by with_reducible assumption) ?_ | with_reducible refine IsE.up (drew_bel _) ?_ | with_reducible refine IsE.up (drewN_bel _ _) ?_)); done)); (focus ((repeat (first | with_reducible assumption | with_reducible refine IsE.up (by with_reducible assumption) ?_ | with_reducible refine IsE.up (drew_bel _) ?_ | with_reducible refine IsE.up (drewN_bel _ _) ?_)); done)); rintro e w' ⟨rfl, hb⟩))
  all_goals go_wp2_with fail
  all_goals go_ret
  all_goals exact ⟨rfl, by repeat (first | with_reducible assumption | with_reducible exact Below.refl _ _ | with_reducible refine below_drew ?_ | with_reducible refine below_drewN ?_ _ | with_reducible refine below_then ?_ (by with_reducible assumption))⟩

end Go.Proofs.Ytpocmijfkjjboaa
