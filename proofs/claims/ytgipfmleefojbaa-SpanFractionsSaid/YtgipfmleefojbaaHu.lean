/- span.hull: the span from the least to the greatest of some quotients. -/
import Derived.Test.YtgipfmleefojbaaSc2
set_option linter.unusedVariables false
namespace Go.Proofs.Ytgipfmleefojbaa
open Go.ChangeShapes Go.WideShapes Go.ChangeAt Go.RowKit

def Rows3 (w : World) (g : Nat) (l : List (Int × Int × Int)) : Prop :=
  ∀ k (hk : k < l.length), w.cell? ⟨g, k * 3, none⟩ = some (.int .i64 l[k].1) ∧ w.cell? ⟨g, k * 3 + 1, none⟩ = some (.int .i64 l[k].2.1) ∧ w.cell? ⟨g, k * 3 + 2, none⟩ = some (.int .i64 l[k].2.2)
def Fit3 (l : List (Int × Int × Int)) : Prop := ∀ x ∈ l, (-1152921504606846976 ≤ x.1 ∧ x.1 ≤ 1152921504606846976) ∧ (-1152921504606846976 ≤ x.2.1 ∧ x.2.1 ≤ 1152921504606846976) ∧ (-1152921504606846976 ≤ x.2.2 ∧ x.2.2 ≤ 1152921504606846976) ∧ x.2.2 ≠ 0
/-- What span.hull gives. -/
def hullS (l : List (Int × Int × Int)) : Int × Int × Int := if hullOk l then (hullLo l, hullHi l, 0) else (0, 0, 5)

theorem minI_eq (a b : Int) : minI a b = min a b := by unfold minI; omega
theorem maxI_eq (a b : Int) : maxI a b = max a b := by unfold maxI; omega
theorem take_one {α : Type} {l : List α} {k : Nat} {x : α} (h : l[k]? = some x) : l.take (k + 1) = l.take k ++ [x] := by
  obtain ⟨hk, e⟩ := List.getElem?_eq_some_iff.1 h
  rw [List.take_succ_eq_append_getElem hk, e]
theorem hullLo_one {l : List (Int × Int × Int)} {k : Nat} {x y z : Int} (h : l[k]? = some (x, y, z)) : min (hullLo (l.take k)) (dnS x y z) = hullLo (l.take (k + 1)) := by
  rw [take_one h]; unfold hullLo; rw [List.foldl_append, ← minI_eq]; rfl
theorem hullHi_one {l : List (Int × Int × Int)} {k : Nat} {x y z : Int} (h : l[k]? = some (x, y, z)) : max (hullHi (l.take k)) (upS x y z) = hullHi (l.take (k + 1)) := by
  rw [take_one h]; unfold hullHi; rw [List.foldl_append, ← maxI_eq]; rfl
theorem hullOk_one {l : List (Int × Int × Int)} {k : Nat} {x y z : Int} (h : l[k]? = some (x, y, z)) (h1 : hullOk (l.take k) = true) (h2 : okS x y z = true) : hullOk (l.take (k + 1)) = true := by
  rw [take_one h]; unfold hullOk at *; rw [List.all_append, h1, Bool.true_and]; simp [h2]
theorem hullOk_not {l : List (Int × Int × Int)} {k : Nat} {x y z : Int} (h : l[k]? = some (x, y, z)) (h2 : okS x y z = false) : hullOk l = false := by
  unfold hullOk
  rw [List.all_eq_false]
  exact ⟨(x, y, z), List.mem_of_getElem? h, by simp [h2]⟩

set_option maxRecDepth 100000 in
set_option maxHeartbeats 1000000 in
theorem hull_any (l : List (Int × Int × Int)) (g n : Nat) (hn' : n = l.length) (hlen : n ≤ 100) (w : World) (hrows' : Rows3 w g l) (hg : g < w.heap.size) (hfit' : Fit3 l) :
    Calls Try.prog 45 #[.slice (some ⟨g, 0, none⟩) n n] w fun e w' => e = .returned (spv (hullS l)) ∧ Below w.heap.size w w' := by
  have hn := Lib.hid hn'
  have hrows := Lib.hid hrows'
  have hfit := Lib.hid hfit'
  clear hn' hrows' hfit'
  go_enter Try.func45, Try.ntmps45
  go_wp2
  go_loopw [13] (fun i wr => ∃ k : Nat, k ≤ n ∧ i = .int .i64 (k : Int) ∧ Hid (hullOk (l.take k) = true) ∧ Below w.heap.size w wr ∧ At wr w.heap.size 23 #[.int .i64 0, .int .i64 0] ∧
      At wr (w.heap.size + 1) 23 #[.int .i64 (hullLo (l.take k)), .int .i64 (hullHi (l.take k))]) (fun i _ => n - (intOf i).toNat)
  case atStart => exact ⟨0, by omega, rfl, rfl, (by repeat (first | with_reducible exact Below.refl _ _ | with_reducible refine below_al ?_ _ | with_reducible refine below_drew ?_ | with_reducible refine below_drewN ?_ _)), by (repeat (first | (with_reducible apply At.new'; (focus (simp; done))) | with_reducible apply At.al | with_reducible apply At.drw | with_reducible apply At.dr)), by show At _ _ _ #[.int .i64 1152921504606846976, .int .i64 (-1152921504606846976)]; (repeat (first | (with_reducible apply At.new'; (focus (simp; done))) | with_reducible apply At.al | with_reducible apply At.drw | with_reducible apply At.dr))⟩
  case round =>
    obtain ⟨k, hk, rfl, hpre, hbel, a0, a1⟩ := hrel
    have l0 := a0.lt
    have l1 := a1.lt
    by_cases hlt : k < n
    · obtain ⟨x, y, z, hx, h1, h2, h3⟩ : ∃ x y z : Int, Hid (l[k]? = some (x, y, z)) ∧ wr.cell? ⟨g, k * 3, none⟩ = some (.int .i64 x) ∧ wr.cell? ⟨g, k * 3 + 1, none⟩ = some (.int .i64 y) ∧ wr.cell? ⟨g, k * 3 + 2, none⟩ = some (.int .i64 z) := by
        have hkl : k < l.length := by rw [← hn.out]; exact hlt
        obtain ⟨r1, r2, r3⟩ := hrows.out k hkl
        exact ⟨l[k].1, l[k].2.1, l[k].2.2, List.getElem?_eq_getElem hkl, (hbel.cell (p := ⟨g, k * 3, none⟩) hg).trans r1, (hbel.cell (p := ⟨g, k * 3 + 1, none⟩) hg).trans r2, (hbel.cell (p := ⟨g, k * 3 + 2, none⟩) hg).trans r3⟩
      obtain ⟨f1, f2, f3, f4⟩ := hfit.out (x, y, z) (List.mem_of_getElem? hx.out)
      cases hc : okS x y z
      · have HC := Lib.hid (fun w => scaled_no x y z f1 f2 f3 f4 hc w)
        have E := Lib.hid (hullOk_not hx.out hc)
        have E5 : Hid (hullS l = (0, 0, 5)) := if_neg (by rw [E.out]; decide)
        clear f1 f2 f3 f4 hc
        go_wp2_with fail
        refine (HC.out _).mono ?_
        rintro e w1 ⟨d, u, rfl, hb⟩
        have b0 := At.bel (At.al a0 _) hb
        have hB : Below w.heap.size w w1 := below_then (by repeat (first | with_reducible assumption | with_reducible exact Below.refl _ _ | with_reducible refine below_al ?_ _ | with_reducible refine below_drew ?_ | with_reducible refine below_drewN ?_ _ | with_reducible refine below_set ?_ (by dsimp only; omega) _)) hb
        clear hb h1 h2 h3 a0 a1
        have l0 := b0.lt
        obtain ⟨c0, c1, c2, c3⟩ := b0.two
        go_wp2_with fail
        exact bodyPost_ret (v := spv (0, 0, 5)) (by simp [results, Try.results45, go_sem, c0, c1]) rfl ⟨by rw [E5.out], (by repeat (first | with_reducible assumption | with_reducible exact Below.refl _ _ | with_reducible refine below_al ?_ _ | with_reducible refine below_drew ?_ | with_reducible refine below_drewN ?_ _ | with_reducible refine below_set ?_ (by dsimp only; omega) _))⟩
      · have HC := Lib.hid (fun w => scaled_ok x y z f1 f2 f3 f4 hc w)
        have E1 := Lib.hid (hullLo_one hx.out)
        have E2 := Lib.hid (hullHi_one hx.out)
        have E3 := Lib.hid (hullOk_one hx.out hpre.out hc)
        clear f1 f2 f3 f4 hc
        go_wp2_with fail
        refine (HC.out _).mono ?_
        rintro e w1 ⟨rfl, hb⟩
        have b0 := At.bel (At.al a0 _) hb
        have b1 := At.bel (At.al a1 _) hb
        have hB : Below w.heap.size w w1 := below_then (by repeat (first | with_reducible assumption | with_reducible exact Below.refl _ _ | with_reducible refine below_al ?_ _ | with_reducible refine below_drew ?_ | with_reducible refine below_drewN ?_ _ | with_reducible refine below_set ?_ (by dsimp only; omega) _)) hb
        clear hb h1 h2 h3 a0 a1
        have l0 := b0.lt
        have l1 := b1.lt
        obtain ⟨c0, c1, c2, c3⟩ := b0.two
        obtain ⟨d0, d1, d2, d3⟩ := b1.two
        go_wp2_with fail
        go_roundw
        case rel => exact ⟨k + 1, by omega, by go_num, E3, (by repeat (first | with_reducible assumption | with_reducible exact Below.refl _ _ | with_reducible refine below_al ?_ _ | with_reducible refine below_drew ?_ | with_reducible refine below_drewN ?_ _ | with_reducible refine below_set ?_ (by dsimp only; omega) _)), (by repeat (first | with_reducible assumption | with_reducible apply At.put0 | with_reducible apply At.put1 | with_reducible refine At.far ?_ (by dsimp only; omega) _ | with_reducible apply At.al | with_reducible apply At.drw | with_reducible apply At.dr)), by rw [← E1.out, ← E2.out]; repeat (first | with_reducible assumption | with_reducible apply At.put0 | with_reducible apply At.put1 | with_reducible refine At.far ?_ (by dsimp only; omega) _ | with_reducible apply At.al | with_reducible apply At.drw | with_reducible apply At.dr)⟩
        case measure => simp [intOf]; omega
    · have hkn : k = n := by omega
      have E : Hid (hullS l = (hullLo (l.take k), hullHi (l.take k), 0)) := by
        have e1 : l.take k = l := List.take_of_length_le (by have := hn.out; omega)
        have := hpre.out
        rw [e1] at this
        exact (if_pos this).trans (by rw [e1])
      generalize hullLo (l.take k) = lo at *
      generalize hullHi (l.take k) = hi at *
      clear hkn
      obtain ⟨c0, c1, c2, c3⟩ := a0.two
      obtain ⟨d0, d1, d2, d3⟩ := a1.two
      go_wp2_with fail
      exact bodyPost_ret (v := spv (lo, hi, 0)) (by simp [results, Try.results45, go_sem, c0, c1]) rfl ⟨by rw [E.out], (by repeat (first | with_reducible assumption | with_reducible exact Below.refl _ _ | with_reducible refine below_al ?_ _ | with_reducible refine below_drew ?_ | with_reducible refine below_drewN ?_ _ | with_reducible refine below_set ?_ (by dsimp only; omega) _))⟩

#print axioms hull_any

end Go.Proofs.Ytgipfmleefojbaa
