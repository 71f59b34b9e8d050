/- site: the law's 'same': a site, and the reference's, answer the same. -/
import Derived.Test.YtpocmijfkjjboaaGreatDoorSiK
import Derived.Deep.RegionHeld3
set_option linter.unusedVariables false
namespace Go.Proofs.YtpocmijfkjjboaaGreatDoor
open Go.ChangeShapes Go.WideShapes Go.ChangeAt Go.RowKit

set_option maxRecDepth 100000 in
set_option maxHeartbeats 2000000 in
theorem same_core (g h : Nat) (a0 a1 a2 : Int) (m o : List ByteArray) (k : List Ent) (rd : Bool) (vc vk : Value) (hml : m.length ≤ 1000000) (hol : o.length ≤ 1000000) (hkl : k.length ≤ 1000000) (w : World) (z3 : w.cell? ⟨h, 3, none⟩ = some vc) (z4 : w.cell? ⟨h, 4, none⟩ = some vk) (hvc : IsS o vc w) (hvk : IsE k vk w)
    (HA : Hid (∀ u, Below w.heap.size w u → Calls Tryz.prog 15 #[.pointer (some ⟨g, 0, none⟩)] u fun e w' => e = .returned (.tuple #[.int .i64 a0, .int .i64 a1, .int .i64 a2]) ∧ Below u.heap.size u w'))
    (HRA : Hid (∀ u, Below w.heap.size w u → Calls Tryz.prog 29 #[.pointer (some ⟨h, 0, none⟩)] u fun e w' => e = .returned (.tuple #[.int .i64 a0, .int .i64 a1, .int .i64 a2]) ∧ Below u.heap.size u w'))
    (HM : Hid (∀ u, Below w.heap.size w u → Calls Tryz.prog 18 #[.pointer (some ⟨g, 0, none⟩)] u fun e w' => (∃ v, e = .returned v ∧ IsS m v w') ∧ Below u.heap.size u w'))
    (HRM : Hid (∀ u, Below w.heap.size w u → Calls Tryz.prog 30 #[.pointer (some ⟨h, 0, none⟩)] u fun e w' => (∃ v, e = .returned v ∧ IsS m v w') ∧ Below u.heap.size u w'))
    (HO : Hid (∀ u, Below w.heap.size w u → Calls Tryz.prog 19 #[.pointer (some ⟨g, 0, none⟩)] u fun e w' => (∃ v, e = .returned v ∧ IsS o v w') ∧ Below u.heap.size u w'))
    (HR : Hid (∀ u, Below w.heap.size w u → Calls Tryz.prog 31 #[.pointer (some ⟨g, 0, none⟩)] u fun e w' => e = .returned (.bool rd) ∧ Below u.heap.size u w'))
    (HRR : Hid (∀ u, Below w.heap.size w u → Calls Tryz.prog 32 #[.pointer (some ⟨h, 0, none⟩)] u fun e w' => e = .returned (.bool rd) ∧ Below u.heap.size u w'))
    (HE : Hid (∀ u, Below w.heap.size w u → Calls Tryz.prog 12 #[.pointer (some ⟨g, 0, none⟩)] u fun e w' => (∃ v, e = .returned v ∧ IsE k v w') ∧ Below u.heap.size u w')) :
    Calls Tryz.prog 9 #[.pointer (some ⟨g, 0, none⟩), .pointer (some ⟨h, 0, none⟩)] w fun e w' => e = .returned (.bool true) ∧ Below w.heap.size w w' := by
  go_enter Tryz.func9, Tryz.ntmps9
  go_wp2_with fail
  refine (HA.out _ (Below.refl _ _)).mono ?_
  rintro e w1 ⟨rfl, hb1⟩
  go_wp2_with fail
  refine (HRA.out _ hb1).mono ?_
  rintro e w2 ⟨rfl, hb2⟩
  have HB := below_then hb1 hb2
  have y3 := cell_up HB z3
  have y4 := cell_up HB z4
  replace hvc := hvc.up HB
  replace hvk := hvk.up HB
  clear hb1 hb2 z3 z4
  go_wp2_with fail
  go_region_held3 (fun w' => Below w.heap.size w w' ∧ w'.cell? ⟨h, 3, none⟩ = some vc ∧ w'.cell? ⟨h, 4, none⟩ = some vk) ((first | ((try go_split_ands); refine ⟨?_, ?_, ?_⟩ <;> (first | ((repeat (first | with_reducible assumption | with_reducible exact Below.refl _ _ | with_reducible refine below_drew ?_ | with_reducible refine below_drewN ?_ _ | with_reducible refine below_then ?_ (by with_reducible assumption))); done) | ((repeat (first | with_reducible assumption | with_reducible refine cell_up (by with_reducible assumption) ?_ | with_reducible refine cell_up (drew_bel _) ?_)); done))) | go_keep))
    (first
      | (go_at_call 18; refine (HM.out _ ?_).mono ?_; (focus ((repeat (first | with_reducible assumption | with_reducible exact Below.refl _ _ | with_reducible refine below_drew ?_ | with_reducible refine below_drewN ?_ _ | with_reducible refine below_then ?_ (by with_reducible assumption))); done)); rintro e w' ⟨⟨v, rfl, hv⟩, hb⟩)
      | (go_at_call 30; refine (HRM.out _ ?_).mono ?_; (focus ((repeat (first | with_reducible assumption | with_reducible exact Below.refl _ _ | with_reducible refine below_drew ?_ | with_reducible refine below_drewN ?_ _ | with_reducible refine below_then ?_ (by with_reducible assumption))); done)); rintro e w' ⟨⟨v, rfl, hv⟩, hb⟩)
      | (go_at_call 19; refine (HO.out _ ?_).mono ?_; (focus ((repeat (first | with_reducible assumption | with_reducible exact Below.refl _ _ | with_reducible refine below_drew ?_ | with_reducible refine below_drewN ?_ _ | with_reducible refine below_then ?_ (by with_reducible assumption))); done)); rintro e w' ⟨⟨v, rfl, hv⟩, hb⟩)
      | (go_at_call 12; refine (HE.out _ ?_).mono ?_; (focus ((repeat (first | with_reducible assumption | with_reducible exact Below.refl _ _ | with_reducible refine below_drew ?_ | with_reducible refine below_drewN ?_ _ | with_reducible refine below_then ?_ (by with_reducible assumption))); done)); rintro e w' ⟨⟨v, rfl, hv⟩, hb⟩)
      | (go_at_call 31; refine (HR.out _ ?_).mono ?_; (focus ((repeat (first | with_reducible assumption | with_reducible exact Below.refl _ _ | with_reducible refine below_drew ?_ | with_reducible refine below_drewN ?_ _ | with_reducible refine below_then ?_ (by with_reducible assumption))); done)); rintro e w' ⟨rfl, hb⟩)
      | (go_at_call 32; refine (HRR.out _ ?_).mono ?_; (focus ((repeat (first | with_reducible assumption | with_reducible exact Below.refl _ _ | with_reducible refine below_drew ?_ | with_reducible refine below_drewN ?_ _ | with_reducible refine below_then ?_ (by with_reducible assumption))); done)); rintro e w' ⟨rfl, hb⟩)
      | (go_at_call 17; first | (refine (eqvS_any m _ _ _ hml ?_ ?_).mono ?_; (focus ((repeat (first | with_reducible assumption | with_reducible refine IsS.up (by with_reducible assumption) ?_ | with_reducible refine IsS.up (drew_bel _) ?_ | with_reducible refine IsS.up (drewN_bel _ _) ?_)); done)); (focus ((repeat (first | with_reducible assumption | with_reducible refine IsS.up (by with_reducible assumption) ?_ | with_reducible refine IsS.up (drew_bel _) ?_ | with_reducible refine IsS.up (drewN_bel _ _) ?_)); done)); rintro e w' ⟨rfl, hb⟩) | (refine (eqvS_any o _ _ _ hol ?_ ?_).mono ?_; (focus ((repeat (first | with_reducible assumption | with_reducible refine IsS.up (by with_reducible assumption) ?_ | with_reducible refine IsS.up (drew_bel _) ?_ | with_reducible refine IsS.up (drewN_bel _ _) ?_)); done)); (focus ((repeat (first | with_reducible assumption | with_reducible refine IsS.up (by with_reducible assumption) ?_ | with_reducible refine IsS.up (drew_bel _) ?_ | with_reducible refine IsS.up (drewN_bel _ _) ?_)); done)); rintro e w' ⟨rfl, hb⟩))
      | (go_at_call 16; refine (eqvE_any k _ _ _ hkl ?_ ?_).mono ?_; (focus ((repeat (first | with_reducible assumption | with_reducible refine IsE.up (by with_reducible assumption) ?_ | with_reducible refine IsE.up (drew_bel _) ?_ | with_reducible refine IsE.up (drewN_bel _ _) ?_)); done)); (focus ((repeat (first | with_reducible assumption | with_reducible refine IsE.up (by with_reducible assumption) ?_ | with_reducible refine IsE.up (drew_bel _) ?_ | with_reducible refine IsE.up (drewN_bel _ _) ?_)); done)); rintro e w' ⟨rfl, hb⟩))
  all_goals go_wp2_with fail
  all_goals go_ret
  all_goals exact ⟨rfl, by repeat (first | with_reducible assumption | with_reducible exact Below.refl _ _ | with_reducible refine below_drew ?_ | with_reducible refine below_drewN ?_ _ | with_reducible refine below_then ?_ (by with_reducible assumption))⟩

end Go.Proofs.YtpocmijfkjjboaaGreatDoor
