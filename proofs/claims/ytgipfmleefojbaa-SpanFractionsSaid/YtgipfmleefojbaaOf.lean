/- span.Of, and the statements' examples. -/
import Derived.Test.YtgipfmleefojbaaMu
import Derived.Test.YtgipfmleefojbaaFr
import Derived.Test.YtgipfmleefojbaaRo
set_option linter.unusedVariables false
namespace Go.Proofs.Ytgipfmleefojbaa
open Go.ChangeShapes Go.WideShapes Go.ChangeAt Go.RowKit

def ofL (num den unit : Int) : List (Int × Int × Int) := [(num, unit, den)]
def ofS (num den unit : Int) : Int × Int × Int := if fracB num den then (if decide (1 ≤ unit) && decide (unit ≤ 1099511627776) then hullS (ofL num den unit) else (0, 0, 2)) else (0, 0, 1)
theorem fit_of {num den unit : Int} (h1 : fracB num den = true) (h2 : 1 ≤ unit) (h3 : unit ≤ 1099511627776) : Fit3 (ofL num den unit) := by
  rw [fracB_iff] at h1
  intro x hx
  simp only [ofL, List.mem_cons, List.not_mem_nil, or_false] at hx
  rcases hx with rfl
  dsimp only
  omega

set_option maxHeartbeats 1000000 in
theorem of_span_any (num den unit : Int) (w : World) :
    Calls Try.prog 20 #[.agg #[.int .i64 num, .int .i64 den], .int .i64 unit] w fun e w' => e = .returned (spv (ofS num den unit)) ∧ Below w.heap.size w w' := by
  cases h1 : fracB num den
  · rw [show ofS num den unit = (0, 0, 1) from by simp [ofS, h1]]
    go_enter Try.func20, Try.ntmps20
    go_wp2_with fail
    refine (fvalid_any _ _ _).mono ?_
    rintro e w1 ⟨rfl, hb⟩
    have oc := oldc hb
    have of := oldf hb
    have hz : w.heap.size + 1 + 1 ≤ w1.heap.size := by have := hb.size; simp at this; omega
    go_wp2_with fail
    exact bodyPost_ret (v := .tuple #[.agg #[.int .i64 (0), .int .i64 (0)], .int .i64 1]) (by simp [results, Try.results20, go_sem, oc]) rfl ⟨rfl, (by repeat (first | with_reducible exact Below.refl _ _ | with_reducible refine below_al ?_ _ | with_reducible refine below_drew ?_ | with_reducible refine below_drewN ?_ _ | with_reducible refine below_set ?_ (by dsimp only; omega) _ | with_reducible refine below_then ?_ hb))⟩
  · by_cases h2 : 1 ≤ unit
    · by_cases h3 : unit ≤ 1099511627776
      · have hf := fit_of h1 h2 h3
        rw [show ofS num den unit = hullS (ofL num den unit) from by simp [ofS, h1, h2, h3]]
        have HH := Lib.hid (fun (g : Nat) (w : World) (hr : Rows3 w g (ofL num den unit)) (hg : g < w.heap.size) => hull_any (ofL num den unit) g 1 rfl (by omega) w hr hg hf)
        clear hf
        generalize hullS (ofL num den unit) = r at *
        go_enter Try.func20, Try.ntmps20
        go_wp2_with fail
        refine (fvalid_any _ _ _).mono ?_
        rintro e w1 ⟨rfl, hb⟩
        have oc := oldc hb
        have of := oldf hb
        have hz : w.heap.size + 1 + 1 ≤ w1.heap.size := by have := hb.size; simp at this; omega
        go_wp2_with fail
        refine (HH.out _ _ ?_ ?_).mono ?_
        focus
          refine rows3_1 (t := 60) ?_
          (repeat (first | (with_reducible apply At.new'; (focus (simp; done))) | with_reducible apply At.al | with_reducible apply At.drw | with_reducible apply At.dr))
        focus
          simp
        rintro e w2 ⟨rfl, hb2⟩
        have a1 : At w1 (w.heap.size + 1) 23 #[.int .i64 0, .int .i64 0] := At.bel (by (repeat (first | (with_reducible apply At.new'; (focus (simp; done))) | with_reducible apply At.al | with_reducible apply At.drw | with_reducible apply At.dr))) hb
        have a2 := At.bel (At.al a1 _) hb2
        obtain ⟨c0, c1, f0, f1⟩ := a2.two
        clear oc of
        go_wp2_with fail
        exact bodyPost_ret (v := spv r) (by simp [results, Try.results20, go_sem, c0, c1]) rfl ⟨rfl, (by repeat (first | with_reducible exact Below.refl _ _ | with_reducible refine below_al ?_ _ | with_reducible refine below_drew ?_ | with_reducible refine below_drewN ?_ _ | with_reducible refine below_set ?_ (by dsimp only; omega) _ | with_reducible refine below_then ?_ hb2 | with_reducible refine below_then ?_ hb))⟩
      · have h3' : decide (unit ≤ 1099511627776) = false := decide_eq_false h3
        rw [show ofS num den unit = (0, 0, 2) from by simp [ofS, h1, h3]]
        go_enter Try.func20, Try.ntmps20
        go_wp2_with fail
        refine (fvalid_any _ _ _).mono ?_
        rintro e w1 ⟨rfl, hb⟩
        have oc := oldc hb
        have of := oldf hb
        have hz : w.heap.size + 1 + 1 ≤ w1.heap.size := by have := hb.size; simp at this; omega
        go_wp2_with fail
        exact bodyPost_ret (v := .tuple #[.agg #[.int .i64 (0), .int .i64 (0)], .int .i64 2]) (by simp [results, Try.results20, go_sem, oc]) rfl ⟨rfl, (by repeat (first | with_reducible exact Below.refl _ _ | with_reducible refine below_al ?_ _ | with_reducible refine below_drew ?_ | with_reducible refine below_drewN ?_ _ | with_reducible refine below_set ?_ (by dsimp only; omega) _ | with_reducible refine below_then ?_ hb))⟩
    · have h2' : decide (1 ≤ unit) = false := decide_eq_false h2
      rw [show ofS num den unit = (0, 0, 2) from by simp [ofS, h1, h2]]
      go_enter Try.func20, Try.ntmps20
      go_wp2_with fail
      refine (fvalid_any _ _ _).mono ?_
      rintro e w1 ⟨rfl, hb⟩
      have oc := oldc hb
      have of := oldf hb
      have hz : w.heap.size + 1 + 1 ≤ w1.heap.size := by have := hb.size; simp at this; omega
      go_wp2_with fail
      exact bodyPost_ret (v := .tuple #[.agg #[.int .i64 (0), .int .i64 (0)], .int .i64 2]) (by simp [results, Try.results20, go_sem, oc]) rfl ⟨rfl, (by repeat (first | with_reducible exact Below.refl _ _ | with_reducible refine below_al ?_ _ | with_reducible refine below_drew ?_ | with_reducible refine below_drewN ?_ _ | with_reducible refine below_set ?_ (by dsimp only; omega) _ | with_reducible refine below_then ?_ hb))⟩

#print axioms of_span_any

end Go.Proofs.Ytgipfmleefojbaa
