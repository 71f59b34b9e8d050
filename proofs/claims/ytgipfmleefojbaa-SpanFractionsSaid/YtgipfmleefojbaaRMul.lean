/- The reference's product of spans. -/
import Derived.Test.YtgipfmleefojbaaRt
import Derived.Test.YtgipfmleefojbaaIns
import Derived.Test.YtgipfmleefojbaaLst
import Derived.Test.YtgipfmleefojbaaMu
import Derived.WalkKit
import Derived.RangeFuncBox
set_option linter.unusedVariables false
namespace Go.Proofs.Ytgipfmleefojbaa
open Go.ChangeShapes Go.WideShapes Go.ChangeAt Go.RowKit

theorem infoInt : (Try.prog.info? 3).map (fun i => (i.zero, i.size, i.bytes)) = some (some (.int .i64 0), 1, 8) := by kernel_rfl
theorem own_bel {w w' : World} {base : Nat} {e : TypeId} {size : Nat} {v : Value} {n : Nat} {xs : List Value} (h : w.ownsRow base e size v n xs) (hb : Below w.heap.size w w') : w'.ownsRow base e size v n xs := by
  obtain ⟨h1, h2 | ⟨g, cap, cur, e1, e2, e3, e4⟩⟩ := h
  · exact ⟨h1, .inl h2⟩
  · refine ⟨h1, .inr ⟨g, cap, cur, e1, e2, (hb.block g ?_).trans e3, e4⟩⟩
    rcases Nat.lt_or_ge g w.heap.size with h | h
    · exact h
    · rw [Array.getElem?_eq_none h] at e3; exact absurd e3 (by simp)
/-- A block that is not the row's is left as it was. -/
theorem At.grown {w w' : World} {row : Option Nat} {g : Nat} {t : TypeId} {cs : Array Value} (h : At w g t cs) (hg : w.grownBy w' row) (hne : some g ≠ row) : At w' g t cs := (hg.block g h.lt hne).trans h
theorem own_ne {w : World} {base : Nat} {e : TypeId} {size : Nat} {v : Value} {n : Nat} {xs : List Value} (h : w.ownsRow base e size v n xs) {g : Nat} (hg : g < base) : some g ≠ v.ownBlock := fun e => by have := (h.lt g e.symm).1; omega

def prods (al ah bl bh : Int) : List Int := [al * bl, ah * bl, al * bh, ah * bh]
theorem mulS_ok {al ah bl bh : Int} (h1 : validB al ah = true) (h2 : validB bl bh = true) (h : (prods al ah bl bh).all withinB = true) :
    mulS al ah bl bh = (minI (minI (minI (al * bl) (ah * bl)) (al * bh)) (ah * bh), maxI (maxI (maxI (al * bl) (ah * bl)) (al * bh)) (ah * bh), 0) := by
  simp only [prods, List.all_cons, List.all_nil, Bool.and_true, Bool.and_eq_true] at h
  obtain ⟨k1, k2, k3, k4⟩ := h
  have e0 : hullOk (mulL al ah bl bh) = true := by
    simp [hullOk, mulL, okS, (by_one al bl).1, (by_one al bl).2, (by_one al bh).1, (by_one al bh).2, (by_one ah bl).1, (by_one ah bl).2, (by_one ah bh).1, (by_one ah bh).2, k1, k2, k3, k4]
  rw [withinB_iff] at k1 k2 k3 k4
  simp only [mulS, h1, h2, Bool.and_self, if_true, hullS, e0]
  simp only [hullLo, hullHi, mulL, List.foldl_cons, List.foldl_nil, (by_one al bl).1, (by_one al bl).2, (by_one al bh).1, (by_one al bh).2, (by_one ah bl).1, (by_one ah bl).2, (by_one ah bh).1, (by_one ah bh).2]
  generalize al * bl = p at *
  generalize al * bh = q at *
  generalize ah * bl = r at *
  generalize ah * bh = s at *
  simp only [Prod.mk.injEq, and_true]
  constructor
  · simp only [minI_eq]; omega
  · simp only [maxI_eq]; omega
theorem mulS_no {al ah bl bh : Int} (h1 : validB al ah = true) (h2 : validB bl bh = true) {x : Int} (hx : x ∈ prods al ah bl bh) (hn : withinB x = false) : mulS al ah bl bh = (0, 0, 5) := by
  have e0 : hullOk (mulL al ah bl bh) = false := by
    simp only [prods, List.mem_cons, List.not_mem_nil, or_false] at hx
    simp only [hullOk, mulL, List.all_cons, List.all_nil, okS, (by_one al bl).1, (by_one al bl).2, (by_one al bh).1, (by_one al bh).2, (by_one ah bl).1, (by_one ah bl).2, (by_one ah bh).1, (by_one ah bh).2]
    rcases hx with rfl | rfl | rfl | rfl <;> simp [hn]
  simp only [mulS, h1, h2, Bool.and_self, if_true, hullS, e0]
  rfl
theorem part_of (x y : Int) (hx : -1152921504606846976 ≤ x ∧ x ≤ 1152921504606846976) (hy : -1152921504606846976 ≤ y ∧ y ≤ 1152921504606846976) (w : World) :
    Calls Try.prog 29 #[.int .i64 x, .int .i64 y, .int .i64 1, .bool false] w fun e w' => e = .returned (partV (x * y)) ∧ Below w.heap.size w w' := by
  have := refpart_any x y 1 false hx hy (by omega) (by omega) w
  rw [show partS x y 1 false = x * y from (by_one x y).1] at this
  exact this
theorem row_cells {w : World} {base : Nat} {e : TypeId} {g cap n : Nat} {l : List Int} (h : w.ownsRow base e 1 (.slice (some ⟨g, 0, none⟩) n cap) n (l.map (.int .i64))) :
    ∀ k (hk : k < l.length), w.cell? ⟨g, k, none⟩ = some (.int .i64 (l[k])) := by
  intro k hk
  have hn : (l.map (Value.int .i64)).length = n * 1 := h.1
  rw [List.length_map] at hn
  rw [h.cellAt k (by omega), List.getElem?_map, List.getElem?_eq_getElem hk]
  rfl

set_option maxRecDepth 100000 in
set_option maxHeartbeats 4000000 in
theorem refmul_span (al ah bl bh : Int) (h1' : validB al ah = true) (h2' : validB bl bh = true) (w : World) :
    Calls Try.prog 16 #[sp al ah, sp bl bh] w fun e w' => e = .returned (spv (mulS al ah bl bh)) ∧ Below w.heap.size w w' := by
  have h1 := Lib.hid h1'
  have h2 := Lib.hid h2'
  rw [validB_iff] at h1' h2'
  have hb : Hid ((-1152921504606846976 ≤ al ∧ al ≤ 1152921504606846976) ∧ (-1152921504606846976 ≤ ah ∧ ah ≤ 1152921504606846976) ∧ (-1152921504606846976 ≤ bl ∧ bl ≤ 1152921504606846976) ∧ (-1152921504606846976 ≤ bh ∧ bh ≤ 1152921504606846976)) := Lib.hid (by omega)
  clear h1' h2'
  obtain ⟨i0, hi, hz0, hz1, hz2⟩ := info_parts infoInt
  go_enter Try.func16, Try.ntmps16
  go_wp2
  go_loopw [6, 7] (fun l i wr => ∃ k : Nat, k ≤ 4 ∧ i = .int .i64 (k : Int) ∧ Hid (((prods al ah bl bh).take k).all withinB = true) ∧ Below w.heap.size w wr ∧ At wr w.heap.size 23 #[.int .i64 al, .int .i64 ah] ∧
      At wr (w.heap.size + 1) 23 #[.int .i64 bl, .int .i64 bh] ∧ At wr (w.heap.size + 2) 23 #[.int .i64 0, .int .i64 0] ∧
      wr.ownsRow (w.heap.size + 3) 3 1 l k (((prods al ah bl bh).take k).map (.int .i64))) (fun _ i _ => 4 - (intOf i).toNat)
  case atStart => exact ⟨0, by omega, rfl, Lib.hid rfl, (by repeat (first | with_reducible exact Below.refl _ _ | with_reducible refine below_al ?_ _ | with_reducible refine below_drew ?_ | with_reducible refine below_drewN ?_ _)), by (repeat (first | (with_reducible apply At.new'; (focus (simp; done))) | with_reducible apply At.al | with_reducible apply At.drw | with_reducible apply At.dr)), by (repeat (first | (with_reducible apply At.new'; (focus (simp; done))) | with_reducible apply At.al | with_reducible apply At.drw | with_reducible apply At.dr)), by (repeat (first | (with_reducible apply At.new'; (focus (simp; done))) | with_reducible apply At.al | with_reducible apply At.drw | with_reducible apply At.dr)), World.ownsRow_nil _ _ _ _⟩
  case round =>
    obtain ⟨k, hk, rfl, hall, hbel, a0, a1, a2, hown⟩ := hrel
    have l0 := a0.lt
    have l1 := a1.lt
    obtain ⟨c0, c1, c2, c3⟩ := a0.two
    obtain ⟨d0, d1, d2, d3⟩ := a1.two
    obtain rfl | rfl | rfl | rfl | rfl : k = 0 ∨ k = 1 ∨ k = 2 ∨ k = 3 ∨ k = 4 := by omega
    · cases hp : withinB (al * bl)
      · have E : Hid (mulS al ah bl bh = (0, 0, 5)) := Lib.hid (mulS_no h1.out h2.out (x := al * bl) (by simp [prods]) hp)
        have HP : Hid (∀ w, Calls Try.prog 29 #[.int .i64 al, .int .i64 bl, .int .i64 1, .bool false] w fun e w' => e = .returned (.tuple #[.int .i64 0, .bool false]) ∧ Below w.heap.size w w') := Lib.hid (fun w => by
          have := part_of al bl (by have := hb.out; omega) (by have := hb.out; omega) w
          rw [show partV (al * bl) = .tuple #[.int .i64 0, .bool false] from by simp [partV, hp]] at this
          exact this)
        clear hp
        go_wp2_with fail
        go_quiet (fail)
        go_wp2_with fail
        refine (HP.out _).mono ?_
        rintro e w1 ⟨rfl, hb1⟩
        have b2 := At.bel (At.dr a2 _) hb1
        have hB : Below w.heap.size w w1 := below_then (by repeat (first | with_reducible assumption | with_reducible exact Below.refl _ _ | with_reducible refine below_al ?_ _ | with_reducible refine below_drew ?_ | with_reducible refine below_drewN ?_ _ | with_reducible refine below_set ?_ (by dsimp only; omega) _)) hb1
        clear hb1 a0 a1 a2 c0 c1 c2 c3 d0 d1 d2 d3 l0 l1
        have l2 := b2.lt
        obtain ⟨f0, f1, f2, f3⟩ := b2.two
        go_wp2_with fail
        exact bodyPost_ret (v := spv (0, 0, 5)) (by simp [results, Try.results16, go_sem, f0, f1]) rfl ⟨by rw [E.out], (by repeat (first | with_reducible assumption | with_reducible exact Below.refl _ _ | with_reducible refine below_al ?_ _ | with_reducible refine below_drew ?_ | with_reducible refine below_drewN ?_ _ | with_reducible refine below_set ?_ (by dsimp only; omega) _))⟩
      · have HP : Hid (∀ w, Calls Try.prog 29 #[.int .i64 al, .int .i64 bl, .int .i64 1, .bool false] w fun e w' => e = .returned (.tuple #[.int .i64 (al * bl), .bool true]) ∧ Below w.heap.size w w') := Lib.hid (fun w => by
          have := part_of al bl (by have := hb.out; omega) (by have := hb.out; omega) w
          rw [show partV (al * bl) = .tuple #[.int .i64 (al * bl), .bool true] from by simp [partV, hp]] at this
          exact this)
        have hall' : Hid (((prods al ah bl bh).take 1).all withinB = true) := Lib.hid (by simp [prods]; simp [hp])
        clear hp hall
        have htk : Hid (((prods al ah bl bh).take 0).map (Value.int .i64) ++ [.int .i64 (al * bl)] = ((prods al ah bl bh).take 1).map (Value.int .i64)) := Lib.hid rfl
        generalize al * bl = p at *
        generalize ((prods al ah bl bh).take 0).map (Value.int .i64) = xs at hown htk
        go_wp2_with fail
        go_quiet (fail)
        go_wp2_with fail
        refine (HP.out _).mono ?_
        rintro e w1 ⟨rfl, hb1⟩
        replace a0 := At.bel (At.dr a0 _) hb1
        replace a1 := At.bel (At.dr a1 _) hb1
        replace a2 := At.bel (At.dr a2 _) hb1
        have hown1 := own_bel (w := World.drewN wr _) hown hb1
        have hB : Below w.heap.size w w1 := below_then (by repeat (first | with_reducible assumption | with_reducible exact Below.refl _ _ | with_reducible refine below_al ?_ _ | with_reducible refine below_drew ?_ | with_reducible refine below_drewN ?_ _ | with_reducible refine below_set ?_ (by dsimp only; omega) _)) hb1
        clear hb1 hown hbel c0 c1 c2 c3 d0 d1 d2 d3 l0 l1
        go_wp2_with (at_builtin; refine wpList_append_own _ rfl _ _ 61 rfl (w.heap.size + 3) 3 i0 (.int .i64 0) 1 8 Try.underlying61 hi hz0 hz1 hz2 rfl (by decide) _ 0 _ rfl (hown1.alloc _) ⟨w1.heap.size, 0, none⟩ 1 1 [.int .i64 p] rfl rfl ?c1 ?c2 (by unfold maxLen; omega) (by omega) ?c5 ?_)
        case c1 =>
          intro j u hj
          match j, hj with
          | 0, hj => simp at hj; subst hj; simp [Addr.add]
        case c2 => intro u hu; simp at hu; subst hu; rfl
        case c5 => have := a2.lt; simp; omega
        intro v' w2 hown' hgrow _
        have b0 := At.grown (At.al a0 _) hgrow (own_ne hown1 (by omega))
        have b1 := At.grown (At.al a1 _) hgrow (own_ne hown1 (by omega))
        have b2 := At.grown (At.al a2 _) hgrow (own_ne hown1 (by omega))
        have hB2 : Below w.heap.size w w2 := (below_al hB _).grown hgrow (by have := a2.lt; simp; omega) (fun j hj => by have := (hown1.lt j hj).1; omega)
        rw [htk.out] at hown'
        clear hgrow hown1 hB a0 a1 a2
        go_wp2_with fail
        go_roundw
        case rel => exact ⟨1, by omega, by go_num, hall', hB2, b0, b1, b2, hown'⟩
        case measure => simp [intOf]
    · cases hp : withinB (ah * bl)
      · have E : Hid (mulS al ah bl bh = (0, 0, 5)) := Lib.hid (mulS_no h1.out h2.out (x := ah * bl) (by simp [prods]) hp)
        have HP : Hid (∀ w, Calls Try.prog 29 #[.int .i64 ah, .int .i64 bl, .int .i64 1, .bool false] w fun e w' => e = .returned (.tuple #[.int .i64 0, .bool false]) ∧ Below w.heap.size w w') := Lib.hid (fun w => by
          have := part_of ah bl (by have := hb.out; omega) (by have := hb.out; omega) w
          rw [show partV (ah * bl) = .tuple #[.int .i64 0, .bool false] from by simp [partV, hp]] at this
          exact this)
        clear hp
        go_wp2_with fail
        go_quiet (fail)
        go_wp2_with fail
        refine (HP.out _).mono ?_
        rintro e w1 ⟨rfl, hb1⟩
        have b2 := At.bel (At.dr a2 _) hb1
        have hB : Below w.heap.size w w1 := below_then (by repeat (first | with_reducible assumption | with_reducible exact Below.refl _ _ | with_reducible refine below_al ?_ _ | with_reducible refine below_drew ?_ | with_reducible refine below_drewN ?_ _ | with_reducible refine below_set ?_ (by dsimp only; omega) _)) hb1
        clear hb1 a0 a1 a2 c0 c1 c2 c3 d0 d1 d2 d3 l0 l1
        have l2 := b2.lt
        obtain ⟨f0, f1, f2, f3⟩ := b2.two
        go_wp2_with fail
        exact bodyPost_ret (v := spv (0, 0, 5)) (by simp [results, Try.results16, go_sem, f0, f1]) rfl ⟨by rw [E.out], (by repeat (first | with_reducible assumption | with_reducible exact Below.refl _ _ | with_reducible refine below_al ?_ _ | with_reducible refine below_drew ?_ | with_reducible refine below_drewN ?_ _ | with_reducible refine below_set ?_ (by dsimp only; omega) _))⟩
      · have HP : Hid (∀ w, Calls Try.prog 29 #[.int .i64 ah, .int .i64 bl, .int .i64 1, .bool false] w fun e w' => e = .returned (.tuple #[.int .i64 (ah * bl), .bool true]) ∧ Below w.heap.size w w') := Lib.hid (fun w => by
          have := part_of ah bl (by have := hb.out; omega) (by have := hb.out; omega) w
          rw [show partV (ah * bl) = .tuple #[.int .i64 (ah * bl), .bool true] from by simp [partV, hp]] at this
          exact this)
        have hall' : Hid (((prods al ah bl bh).take 2).all withinB = true) := Lib.hid (by have := hall.out; simp [prods] at this ⊢; simp [this, hp])
        clear hp hall
        have htk : Hid (((prods al ah bl bh).take 1).map (Value.int .i64) ++ [.int .i64 (ah * bl)] = ((prods al ah bl bh).take 2).map (Value.int .i64)) := Lib.hid rfl
        generalize ah * bl = p at *
        generalize ((prods al ah bl bh).take 1).map (Value.int .i64) = xs at hown htk
        go_wp2_with fail
        go_quiet (fail)
        go_wp2_with fail
        refine (HP.out _).mono ?_
        rintro e w1 ⟨rfl, hb1⟩
        replace a0 := At.bel (At.dr a0 _) hb1
        replace a1 := At.bel (At.dr a1 _) hb1
        replace a2 := At.bel (At.dr a2 _) hb1
        have hown1 := own_bel (w := World.drewN wr _) hown hb1
        have hB : Below w.heap.size w w1 := below_then (by repeat (first | with_reducible assumption | with_reducible exact Below.refl _ _ | with_reducible refine below_al ?_ _ | with_reducible refine below_drew ?_ | with_reducible refine below_drewN ?_ _ | with_reducible refine below_set ?_ (by dsimp only; omega) _)) hb1
        clear hb1 hown hbel c0 c1 c2 c3 d0 d1 d2 d3 l0 l1
        go_wp2_with (at_builtin; refine wpList_append_own _ rfl _ _ 61 rfl (w.heap.size + 3) 3 i0 (.int .i64 0) 1 8 Try.underlying61 hi hz0 hz1 hz2 rfl (by decide) _ 1 _ rfl (hown1.alloc _) ⟨w1.heap.size, 0, none⟩ 1 1 [.int .i64 p] rfl rfl ?c1 ?c2 (by unfold maxLen; omega) (by omega) ?c5 ?_)
        case c1 =>
          intro j u hj
          match j, hj with
          | 0, hj => simp at hj; subst hj; simp [Addr.add]
        case c2 => intro u hu; simp at hu; subst hu; rfl
        case c5 => have := a2.lt; simp; omega
        intro v' w2 hown' hgrow _
        have b0 := At.grown (At.al a0 _) hgrow (own_ne hown1 (by omega))
        have b1 := At.grown (At.al a1 _) hgrow (own_ne hown1 (by omega))
        have b2 := At.grown (At.al a2 _) hgrow (own_ne hown1 (by omega))
        have hB2 : Below w.heap.size w w2 := (below_al hB _).grown hgrow (by have := a2.lt; simp; omega) (fun j hj => by have := (hown1.lt j hj).1; omega)
        rw [htk.out] at hown'
        clear hgrow hown1 hB a0 a1 a2
        go_wp2_with fail
        go_roundw
        case rel => exact ⟨2, by omega, by go_num, hall', hB2, b0, b1, b2, hown'⟩
        case measure => simp [intOf]
    · cases hp : withinB (al * bh)
      · have E : Hid (mulS al ah bl bh = (0, 0, 5)) := Lib.hid (mulS_no h1.out h2.out (x := al * bh) (by simp [prods]) hp)
        have HP : Hid (∀ w, Calls Try.prog 29 #[.int .i64 al, .int .i64 bh, .int .i64 1, .bool false] w fun e w' => e = .returned (.tuple #[.int .i64 0, .bool false]) ∧ Below w.heap.size w w') := Lib.hid (fun w => by
          have := part_of al bh (by have := hb.out; omega) (by have := hb.out; omega) w
          rw [show partV (al * bh) = .tuple #[.int .i64 0, .bool false] from by simp [partV, hp]] at this
          exact this)
        clear hp
        go_wp2_with fail
        go_quiet (fail)
        go_wp2_with fail
        refine (HP.out _).mono ?_
        rintro e w1 ⟨rfl, hb1⟩
        have b2 := At.bel (At.dr a2 _) hb1
        have hB : Below w.heap.size w w1 := below_then (by repeat (first | with_reducible assumption | with_reducible exact Below.refl _ _ | with_reducible refine below_al ?_ _ | with_reducible refine below_drew ?_ | with_reducible refine below_drewN ?_ _ | with_reducible refine below_set ?_ (by dsimp only; omega) _)) hb1
        clear hb1 a0 a1 a2 c0 c1 c2 c3 d0 d1 d2 d3 l0 l1
        have l2 := b2.lt
        obtain ⟨f0, f1, f2, f3⟩ := b2.two
        go_wp2_with fail
        exact bodyPost_ret (v := spv (0, 0, 5)) (by simp [results, Try.results16, go_sem, f0, f1]) rfl ⟨by rw [E.out], (by repeat (first | with_reducible assumption | with_reducible exact Below.refl _ _ | with_reducible refine below_al ?_ _ | with_reducible refine below_drew ?_ | with_reducible refine below_drewN ?_ _ | with_reducible refine below_set ?_ (by dsimp only; omega) _))⟩
      · have HP : Hid (∀ w, Calls Try.prog 29 #[.int .i64 al, .int .i64 bh, .int .i64 1, .bool false] w fun e w' => e = .returned (.tuple #[.int .i64 (al * bh), .bool true]) ∧ Below w.heap.size w w') := Lib.hid (fun w => by
          have := part_of al bh (by have := hb.out; omega) (by have := hb.out; omega) w
          rw [show partV (al * bh) = .tuple #[.int .i64 (al * bh), .bool true] from by simp [partV, hp]] at this
          exact this)
        have hall' : Hid (((prods al ah bl bh).take 3).all withinB = true) := Lib.hid (by have := hall.out; simp [prods] at this ⊢; simp [this, hp])
        clear hp hall
        have htk : Hid (((prods al ah bl bh).take 2).map (Value.int .i64) ++ [.int .i64 (al * bh)] = ((prods al ah bl bh).take 3).map (Value.int .i64)) := Lib.hid rfl
        generalize al * bh = p at *
        generalize ((prods al ah bl bh).take 2).map (Value.int .i64) = xs at hown htk
        go_wp2_with fail
        go_quiet (fail)
        go_wp2_with fail
        refine (HP.out _).mono ?_
        rintro e w1 ⟨rfl, hb1⟩
        replace a0 := At.bel (At.dr a0 _) hb1
        replace a1 := At.bel (At.dr a1 _) hb1
        replace a2 := At.bel (At.dr a2 _) hb1
        have hown1 := own_bel (w := World.drewN wr _) hown hb1
        have hB : Below w.heap.size w w1 := below_then (by repeat (first | with_reducible assumption | with_reducible exact Below.refl _ _ | with_reducible refine below_al ?_ _ | with_reducible refine below_drew ?_ | with_reducible refine below_drewN ?_ _ | with_reducible refine below_set ?_ (by dsimp only; omega) _)) hb1
        clear hb1 hown hbel c0 c1 c2 c3 d0 d1 d2 d3 l0 l1
        go_wp2_with (at_builtin; refine wpList_append_own _ rfl _ _ 61 rfl (w.heap.size + 3) 3 i0 (.int .i64 0) 1 8 Try.underlying61 hi hz0 hz1 hz2 rfl (by decide) _ 2 _ rfl (hown1.alloc _) ⟨w1.heap.size, 0, none⟩ 1 1 [.int .i64 p] rfl rfl ?c1 ?c2 (by unfold maxLen; omega) (by omega) ?c5 ?_)
        case c1 =>
          intro j u hj
          match j, hj with
          | 0, hj => simp at hj; subst hj; simp [Addr.add]
        case c2 => intro u hu; simp at hu; subst hu; rfl
        case c5 => have := a2.lt; simp; omega
        intro v' w2 hown' hgrow _
        have b0 := At.grown (At.al a0 _) hgrow (own_ne hown1 (by omega))
        have b1 := At.grown (At.al a1 _) hgrow (own_ne hown1 (by omega))
        have b2 := At.grown (At.al a2 _) hgrow (own_ne hown1 (by omega))
        have hB2 : Below w.heap.size w w2 := (below_al hB _).grown hgrow (by have := a2.lt; simp; omega) (fun j hj => by have := (hown1.lt j hj).1; omega)
        rw [htk.out] at hown'
        clear hgrow hown1 hB a0 a1 a2
        go_wp2_with fail
        go_roundw
        case rel => exact ⟨3, by omega, by go_num, hall', hB2, b0, b1, b2, hown'⟩
        case measure => simp [intOf]
    · cases hp : withinB (ah * bh)
      · have E : Hid (mulS al ah bl bh = (0, 0, 5)) := Lib.hid (mulS_no h1.out h2.out (x := ah * bh) (by simp [prods]) hp)
        have HP : Hid (∀ w, Calls Try.prog 29 #[.int .i64 ah, .int .i64 bh, .int .i64 1, .bool false] w fun e w' => e = .returned (.tuple #[.int .i64 0, .bool false]) ∧ Below w.heap.size w w') := Lib.hid (fun w => by
          have := part_of ah bh (by have := hb.out; omega) (by have := hb.out; omega) w
          rw [show partV (ah * bh) = .tuple #[.int .i64 0, .bool false] from by simp [partV, hp]] at this
          exact this)
        clear hp
        go_wp2_with fail
        go_quiet (fail)
        go_wp2_with fail
        refine (HP.out _).mono ?_
        rintro e w1 ⟨rfl, hb1⟩
        have b2 := At.bel (At.dr a2 _) hb1
        have hB : Below w.heap.size w w1 := below_then (by repeat (first | with_reducible assumption | with_reducible exact Below.refl _ _ | with_reducible refine below_al ?_ _ | with_reducible refine below_drew ?_ | with_reducible refine below_drewN ?_ _ | with_reducible refine below_set ?_ (by dsimp only; omega) _)) hb1
        clear hb1 a0 a1 a2 c0 c1 c2 c3 d0 d1 d2 d3 l0 l1
        have l2 := b2.lt
        obtain ⟨f0, f1, f2, f3⟩ := b2.two
        go_wp2_with fail
        exact bodyPost_ret (v := spv (0, 0, 5)) (by simp [results, Try.results16, go_sem, f0, f1]) rfl ⟨by rw [E.out], (by repeat (first | with_reducible assumption | with_reducible exact Below.refl _ _ | with_reducible refine below_al ?_ _ | with_reducible refine below_drew ?_ | with_reducible refine below_drewN ?_ _ | with_reducible refine below_set ?_ (by dsimp only; omega) _))⟩
      · have HP : Hid (∀ w, Calls Try.prog 29 #[.int .i64 ah, .int .i64 bh, .int .i64 1, .bool false] w fun e w' => e = .returned (.tuple #[.int .i64 (ah * bh), .bool true]) ∧ Below w.heap.size w w') := Lib.hid (fun w => by
          have := part_of ah bh (by have := hb.out; omega) (by have := hb.out; omega) w
          rw [show partV (ah * bh) = .tuple #[.int .i64 (ah * bh), .bool true] from by simp [partV, hp]] at this
          exact this)
        have hall' : Hid (((prods al ah bl bh).take 4).all withinB = true) := Lib.hid (by have := hall.out; simp [prods] at this ⊢; simp [this, hp])
        clear hp hall
        have htk : Hid (((prods al ah bl bh).take 3).map (Value.int .i64) ++ [.int .i64 (ah * bh)] = ((prods al ah bl bh).take 4).map (Value.int .i64)) := Lib.hid rfl
        generalize ah * bh = p at *
        generalize ((prods al ah bl bh).take 3).map (Value.int .i64) = xs at hown htk
        go_wp2_with fail
        go_quiet (fail)
        go_wp2_with fail
        refine (HP.out _).mono ?_
        rintro e w1 ⟨rfl, hb1⟩
        replace a0 := At.bel (At.dr a0 _) hb1
        replace a1 := At.bel (At.dr a1 _) hb1
        replace a2 := At.bel (At.dr a2 _) hb1
        have hown1 := own_bel (w := World.drewN wr _) hown hb1
        have hB : Below w.heap.size w w1 := below_then (by repeat (first | with_reducible assumption | with_reducible exact Below.refl _ _ | with_reducible refine below_al ?_ _ | with_reducible refine below_drew ?_ | with_reducible refine below_drewN ?_ _ | with_reducible refine below_set ?_ (by dsimp only; omega) _)) hb1
        clear hb1 hown hbel c0 c1 c2 c3 d0 d1 d2 d3 l0 l1
        go_wp2_with (at_builtin; refine wpList_append_own _ rfl _ _ 61 rfl (w.heap.size + 3) 3 i0 (.int .i64 0) 1 8 Try.underlying61 hi hz0 hz1 hz2 rfl (by decide) _ 3 _ rfl (hown1.alloc _) ⟨w1.heap.size, 0, none⟩ 1 1 [.int .i64 p] rfl rfl ?c1 ?c2 (by unfold maxLen; omega) (by omega) ?c5 ?_)
        case c1 =>
          intro j u hj
          match j, hj with
          | 0, hj => simp at hj; subst hj; simp [Addr.add]
        case c2 => intro u hu; simp at hu; subst hu; rfl
        case c5 => have := a2.lt; simp; omega
        intro v' w2 hown' hgrow _
        have b0 := At.grown (At.al a0 _) hgrow (own_ne hown1 (by omega))
        have b1 := At.grown (At.al a1 _) hgrow (own_ne hown1 (by omega))
        have b2 := At.grown (At.al a2 _) hgrow (own_ne hown1 (by omega))
        have hB2 : Below w.heap.size w w2 := (below_al hB _).grown hgrow (by have := a2.lt; simp; omega) (fun j hj => by have := (hown1.lt j hj).1; omega)
        rw [htk.out] at hown'
        clear hgrow hown1 hB a0 a1 a2
        go_wp2_with fail
        go_roundw
        case rel => exact ⟨4, by omega, by go_num, hall', hB2, b0, b1, b2, hown'⟩
        case measure => simp [intOf]
    · have E := Lib.hid (mulS_ok h1.out h2.out hall.out)
      have hle : minI (minI (minI (al * bl) (ah * bl)) (al * bh)) (ah * bh) ≤ maxI (maxI (maxI (al * bl) (ah * bl)) (al * bh)) (ah * bh) := by
        generalize al * bl = p
        generalize al * bh = q
        generalize ah * bl = r
        generalize ah * bh = s
        simp only [minI_eq, maxI_eq]; omega
      have hfit : fitS (minI (minI (minI (al * bl) (ah * bl)) (al * bh)) (ah * bh)) (maxI (maxI (maxI (al * bl) (ah * bl)) (al * bh)) (ah * bh)) = mulS al ah bl bh := by
        rw [E.out]
        have hq := hall.out
        simp only [prods, List.take, List.all_cons, List.all_nil, Bool.and_true, Bool.and_eq_true, withinB_iff] at hq
        refine fitS_yes (withinB_iff.2 ?_) (withinB_iff.2 ?_)
        all_goals
          generalize al * bl = p at *
          generalize al * bh = q at *
          generalize ah * bl = r at *
          generalize ah * bh = s at *
          simp only [minI_eq, maxI_eq]; omega
      obtain ⟨g, cap, rfl⟩ := ownsRow_succ hown
      have hrow := row_cells (l := prods al ah bl bh) hown
      have HL := Lib.hid (fun (w : World) hc => least_row (al * bl) [ah * bl, al * bh, ah * bh] g 4 cap rfl (by simp) w hc)
      have HG := Lib.hid (fun (w : World) hc => greatest_row (al * bl) [ah * bl, al * bh, ah * bh] g 4 cap rfl (by simp) w hc)
      have HF := Lib.hid (fun w => reffits_any _ _ hle w)
      rw [hfit] at HF
      clear hfit hle E
      simp only [List.foldl_cons, List.foldl_nil] at HL HG
      have HR := Lib.hid hrow
      clear hrow
      generalize minI (minI (minI (al * bl) (ah * bl)) (al * bh)) (ah * bh) = lo at *
      generalize maxI (maxI (maxI (al * bl) (ah * bl)) (al * bh)) (ah * bh) = hi' at *
      generalize hr : mulS al ah bl bh = r at HF
      go_wp2_with fail
      refine (HL.out _ (fun k hk => HR.out k hk)).mono ?_
      rintro e w1 ⟨rfl, rfl⟩
      go_wp2_with fail
      refine (HG.out _ (fun k hk => HR.out k hk)).mono ?_
      rintro e w1 ⟨rfl, rfl⟩
      go_wp2_with fail
      refine (HF.out _).mono ?_
      rintro e w1 ⟨rfl, hb1⟩
      have b2 := At.bel a2 hb1
      have hB : Below w.heap.size w w1 := below_then (by repeat (first | with_reducible assumption | with_reducible exact Below.refl _ _ | with_reducible refine below_al ?_ _ | with_reducible refine below_drew ?_ | with_reducible refine below_drewN ?_ _ | with_reducible refine below_set ?_ (by dsimp only; omega) _)) hb1
      clear hb1 a0 a1 a2 c0 c1 c2 c3 d0 d1 d2 d3 l0 l1 hown
      have l2 := b2.lt
      obtain ⟨f0, f1, f2, f3⟩ := b2.two
      go_wp2_with fail
      exact bodyPost_ret (v := spv r) (by simp [results, Try.results16, go_sem, f0, f1]) rfl ⟨by rw [hr], (by repeat (first | with_reducible assumption | with_reducible exact Below.refl _ _ | with_reducible refine below_al ?_ _ | with_reducible refine below_drew ?_ | with_reducible refine below_drewN ?_ _ | with_reducible refine below_set ?_ (by dsimp only; omega) _))⟩

#print axioms refmul_span

end Go.Proofs.Ytgipfmleefojbaa
