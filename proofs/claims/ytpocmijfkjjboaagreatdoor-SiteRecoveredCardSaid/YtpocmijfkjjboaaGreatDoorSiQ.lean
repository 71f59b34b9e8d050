/- site: act. -/
import Derived.Test.YtpocmijfkjjboaaGreatDoorSiP
set_option linter.unusedVariables false
namespace Go.Proofs.YtpocmijfkjjboaaGreatDoor
open Go.ChangeShapes Go.WideShapes Go.ChangeAt Go.RowKit

set_option maxRecDepth 100000 in
theorem act_1 (xd xk : Int) (xn : ByteArray) (hk : xk = 1) (g : Nat) (r : Int) (D : World → Prop) (w : World)
    (H : Hid (∀ u, Below w.heap.size w u → Calls Tryz.prog 55 #[.pointer (some ⟨g, 0, none⟩), .string xn, .int .i64 0, .int .i64 1] u fun e w' => e = .returned (.int .i64 r) ∧ D w')) :
    Calls Tryz.prog 36 #[.pointer (some ⟨g, 0, none⟩), .agg #[.int .i64 xd, .int .i64 xk, .string xn]] w fun e w' => e = .returned (.int .i64 r) ∧ D w' := by
  subst hk
  go_enter Tryz.func36, Tryz.ntmps36
  go_wp2_with fail
  refine (H.out _ (by repeat (first | with_reducible assumption | with_reducible exact Below.refl _ _ | with_reducible refine below_al ?_ _ | with_reducible refine below_drew ?_ | with_reducible refine below_drewN ?_ _ | with_reducible refine below_set ?_ (by dsimp only; omega) _))).mono ?_
  rintro e w1 ⟨rfl, hd⟩
  go_wp2_with fail
  go_ret
  exact ⟨rfl, hd⟩

set_option maxRecDepth 100000 in
theorem act_2 (xd xk : Int) (xn : ByteArray) (hk : xk = 2) (g : Nat) (r : Int) (D : World → Prop) (w : World)
    (H : Hid (∀ u, Below w.heap.size w u → Calls Tryz.prog 55 #[.pointer (some ⟨g, 0, none⟩), .string xn, .int .i64 1, .int .i64 2] u fun e w' => e = .returned (.int .i64 r) ∧ D w')) :
    Calls Tryz.prog 36 #[.pointer (some ⟨g, 0, none⟩), .agg #[.int .i64 xd, .int .i64 xk, .string xn]] w fun e w' => e = .returned (.int .i64 r) ∧ D w' := by
  subst hk
  go_enter Tryz.func36, Tryz.ntmps36
  go_wp2_with fail
  refine (H.out _ (by repeat (first | with_reducible assumption | with_reducible exact Below.refl _ _ | with_reducible refine below_al ?_ _ | with_reducible refine below_drew ?_ | with_reducible refine below_drewN ?_ _ | with_reducible refine below_set ?_ (by dsimp only; omega) _))).mono ?_
  rintro e w1 ⟨rfl, hd⟩
  go_wp2_with fail
  go_ret
  exact ⟨rfl, hd⟩

set_option maxRecDepth 100000 in
theorem act_6 (xd xk : Int) (xn : ByteArray) (hk : xk = 6) (g : Nat) (r : Int) (D : World → Prop) (w : World)
    (H : Hid (∀ u, Below w.heap.size w u → Calls Tryz.prog 55 #[.pointer (some ⟨g, 0, none⟩), .string xn, .int .i64 1, .int .i64 0] u fun e w' => e = .returned (.int .i64 r) ∧ D w')) :
    Calls Tryz.prog 36 #[.pointer (some ⟨g, 0, none⟩), .agg #[.int .i64 xd, .int .i64 xk, .string xn]] w fun e w' => e = .returned (.int .i64 r) ∧ D w' := by
  subst hk
  go_enter Tryz.func36, Tryz.ntmps36
  go_wp2_with fail
  refine (H.out _ (by repeat (first | with_reducible assumption | with_reducible exact Below.refl _ _ | with_reducible refine below_al ?_ _ | with_reducible refine below_drew ?_ | with_reducible refine below_drewN ?_ _ | with_reducible refine below_set ?_ (by dsimp only; omega) _))).mono ?_
  rintro e w1 ⟨rfl, hd⟩
  go_wp2_with fail
  go_ret
  exact ⟨rfl, hd⟩

set_option maxRecDepth 100000 in
theorem act_3 (xd xk : Int) (xn : ByteArray) (hk : xk = 3) (g : Nat) (r : Int) (D : World → Prop) (w : World)
    (H : Hid (∀ u, Below w.heap.size w u → Calls Tryz.prog 56 #[.pointer (some ⟨g, 0, none⟩), .string xn] u fun e w' => e = .returned (.int .i64 r) ∧ D w')) :
    Calls Tryz.prog 36 #[.pointer (some ⟨g, 0, none⟩), .agg #[.int .i64 xd, .int .i64 xk, .string xn]] w fun e w' => e = .returned (.int .i64 r) ∧ D w' := by
  subst hk
  go_enter Tryz.func36, Tryz.ntmps36
  go_wp2_with fail
  refine (H.out _ (by repeat (first | with_reducible assumption | with_reducible exact Below.refl _ _ | with_reducible refine below_al ?_ _ | with_reducible refine below_drew ?_ | with_reducible refine below_drewN ?_ _ | with_reducible refine below_set ?_ (by dsimp only; omega) _))).mono ?_
  rintro e w1 ⟨rfl, hd⟩
  go_wp2_with fail
  go_ret
  exact ⟨rfl, hd⟩

set_option maxRecDepth 100000 in
theorem act_4 (xd xk : Int) (xn : ByteArray) (hk : xk = 4) (g : Nat) (r : Int) (D : World → Prop) (w : World)
    (H : Hid (∀ u, Below w.heap.size w u → Calls Tryz.prog 57 #[.pointer (some ⟨g, 0, none⟩), .string xn] u fun e w' => e = .returned (.int .i64 r) ∧ D w')) :
    Calls Tryz.prog 36 #[.pointer (some ⟨g, 0, none⟩), .agg #[.int .i64 xd, .int .i64 xk, .string xn]] w fun e w' => e = .returned (.int .i64 r) ∧ D w' := by
  subst hk
  go_enter Tryz.func36, Tryz.ntmps36
  go_wp2_with fail
  refine (H.out _ (by repeat (first | with_reducible assumption | with_reducible exact Below.refl _ _ | with_reducible refine below_al ?_ _ | with_reducible refine below_drew ?_ | with_reducible refine below_drewN ?_ _ | with_reducible refine below_set ?_ (by dsimp only; omega) _))).mono ?_
  rintro e w1 ⟨rfl, hd⟩
  go_wp2_with fail
  go_ret
  exact ⟨rfl, hd⟩

set_option maxRecDepth 100000 in
theorem act_5 (xd xk : Int) (xn : ByteArray) (hk : ¬ xk = 1 ∧ ¬ xk = 2 ∧ ¬ xk = 6 ∧ ¬ xk = 3 ∧ ¬ xk = 4) (g : Nat) (r : Int) (D : World → Prop) (w : World)
    (H : Hid (∀ u, Below w.heap.size w u → Calls Tryz.prog 58 #[.pointer (some ⟨g, 0, none⟩), .string xn] u fun e w' => e = .returned (.int .i64 r) ∧ D w')) :
    Calls Tryz.prog 36 #[.pointer (some ⟨g, 0, none⟩), .agg #[.int .i64 xd, .int .i64 xk, .string xn]] w fun e w' => e = .returned (.int .i64 r) ∧ D w' := by
  obtain ⟨n1, n2, n6, n3, n4⟩ := hk
  have e1 : (xk == 1) = false := by simpa using n1
  have e2 : (xk == 2) = false := by simpa using n2
  have e6 : (xk == 6) = false := by simpa using n6
  have e3 : (xk == 3) = false := by simpa using n3
  have e4 : (xk == 4) = false := by simpa using n4
  clear n1 n2 n3 n4 n6
  go_enter Tryz.func36, Tryz.ntmps36
  go_wp2_with fail
  refine (H.out _ (by repeat (first | with_reducible assumption | with_reducible exact Below.refl _ _ | with_reducible refine below_al ?_ _ | with_reducible refine below_drew ?_ | with_reducible refine below_drewN ?_ _ | with_reducible refine below_set ?_ (by dsimp only; omega) _))).mono ?_
  rintro e w1 ⟨rfl, hd⟩
  go_wp2_with fail
  go_ret
  exact ⟨rfl, hd⟩

theorem act_any (s : St) (hok : s.ok) (xd xk : Int) (xn : ByteArray) (hz : xn.size ≤ 60) (g : Nat) (p : SV) (w : World) (hs : SiteW w g s p) :
    Calls Tryz.prog 36 #[.pointer (some ⟨g, 0, none⟩), .agg #[.int .i64 xd, .int .i64 xk, .string xn]] w fun e w' => e = .returned (.int .i64 (actS s ⟨xd, xk, xn⟩).1) ∧ SDone w w' g (actS s ⟨xd, xk, xn⟩).2 p := by
  unfold actS
  dsimp only
  by_cases h1 : xk = 1
  · rw [if_pos h1]
    exact act_1 xd xk xn h1 g _ _ w (Lib.hid fun u hb => (move_any s hok xn hz 0 1 g p u (hs.bel hb)).mono fun e w' h => ⟨h.1, SDone.then (Frm.of_below hb) (fun _ h => .inl h) h.2⟩)
  rw [if_neg h1]
  by_cases h2 : xk = 2
  · rw [if_pos h2]
    exact act_2 xd xk xn h2 g _ _ w (Lib.hid fun u hb => (move_any s hok xn hz 1 2 g p u (hs.bel hb)).mono fun e w' h => ⟨h.1, SDone.then (Frm.of_below hb) (fun _ h => .inl h) h.2⟩)
  rw [if_neg h2]
  by_cases h6 : xk = 6
  · rw [if_pos h6]
    exact act_6 xd xk xn h6 g _ _ w (Lib.hid fun u hb => (move_any s hok xn hz 1 0 g p u (hs.bel hb)).mono fun e w' h => ⟨h.1, SDone.then (Frm.of_below hb) (fun _ h => .inl h) h.2⟩)
  rw [if_neg h6]
  by_cases h3 : xk = 3
  · rw [if_pos h3]
    exact act_3 xd xk xn h3 g _ _ w (Lib.hid fun u hb => (check_any s hok xn g p u (hs.bel hb)).mono fun e w' h => ⟨h.1, SDone.then (Frm.of_below hb) (fun _ h => .inl h) h.2⟩)
  rw [if_neg h3]
  by_cases h4 : xk = 4
  · rw [if_pos h4]
    exact act_4 xd xk xn h4 g _ _ w (Lib.hid fun u hb => (done_any s hok xn g p u (hs.bel hb)).mono fun e w' h => ⟨h.1, SDone.then (Frm.of_below hb) (fun _ h => .inl h) h.2⟩)
  rw [if_neg h4]
  exact act_5 xd xk xn ⟨h1, h2, h6, h3, h4⟩ g _ _ w (Lib.hid fun u hb => (pour_any s hok xn g p u (hs.bel hb)).mono fun e w' h => ⟨h.1, SDone.then (Frm.of_below hb) (fun _ h => .inl h) h.2⟩)

end Go.Proofs.YtpocmijfkjjboaaGreatDoor
