/- decimal: the examples of the chapter hold. -/
import Derived.Test.YtdbgfeeglnpobaaDoorDcR
set_option linter.unusedVariables false
namespace Go.Proofs.YtdbgfeeglnpobaaDoor
open Go.ChangeShapes Go.WideShapes Go.ChangeAt Go.RowKit

theorem own_shape {w : World} {base : Nat} {e : TypeId} {size : Nat} {v : Value} {n : Nat} {xs : List Value} (h : w.ownsRow base e size v n xs) (hn : 0 < n) : ∃ g cap, v = .slice (some ⟨g, 0, none⟩) n cap ∧ n ≤ cap ∧ base ≤ g ∧ g < w.heap.size := by
  obtain ⟨_, ⟨_, h2⟩ | ⟨g, cap, cur, e1, e2, e3, e4, _⟩⟩ := h
  · omega
  · refine ⟨g, cap, e1, e4, e2, ?_⟩
    rcases Nat.lt_or_ge g w.heap.size with h | h
    · exact h
    · rw [Array.getElem?_eq_none h] at e3; exact absurd e3 (by simp)
theorem fmt_ex : fmtL (-1234) 2 = [45, 49, 50, 46, 51, 52] := by decide +kernel
theorem par_ex : parS [49, 50, 46, 51] 2 = (1230, 0) := by decide
theorem rnd_ex : rndV (-15) 10 = (-1, 0) := by decide
set_option maxRecDepth 100000 in
set_option maxHeartbeats 1000000 in
theorem awake_any (w : World) (ht : Tab w) : Calls Tryd.prog 11 #[] w fun e w' => e = .returned (.bool true) ∧ Below w.heap.size w w' := by
  have H1 := Lib.hid (fun w ht => by have := fmt_ok (-1234) 2 (by decide) (by decide) w ht; rw [fmt_ex] at this; exact this)
  have H2 := Lib.hid (fun w => by have := parse_any ⟨#[49, 50, 46, 51]⟩ (by decide) 2 (by decide) w; rw [show by_ (⟨#[49, 50, 46, 51]⟩ : ByteArray) = [49, 50, 46, 51] from rfl, par_ex] at this; exact this)
  have H3 := Lib.hid (fun w => by have := round_any (-15) 10 w; rw [rnd_ex] at this; exact this)
  have H4 := Lib.hid (fun w => by have := tokens_any ⟨#[115, 101, 116, 32, 103, 49, 32, 58, 61, 32, 48, 32, 35, 32, 111, 102, 102]⟩ w; rw [show by_ (⟨#[115, 101, 116, 32, 103, 49, 32, 58, 61, 32, 48, 32, 35, 32, 111, 102, 102]⟩ : ByteArray) = [115, 101, 116, 32, 103, 49, 32, 58, 61, 32, 48, 32, 35, 32, 111, 102, 102] from rfl, tok_ex] at this; exact this)
  replace ht := Lib.hid ht
  go_enter Tryd.func11, Tryd.ntmps11
  go_wp2_with fail
  refine (H1.out _ ht.out).mono ?_
  rintro e w1 ⟨rfl, HB⟩
  go_wp2_with fail
  refine (H2.out _).mono ?_
  rintro e w2 ⟨rfl, hb⟩
  replace HB := below_then HB hb
  clear hb
  go_wp2_with fail
  refine (H3.out _).mono ?_
  rintro e w3 ⟨rfl, hb⟩
  replace HB := below_then HB hb
  clear hb
  go_wp2_with fail
  refine (H4.out _).mono ?_
  rintro e w4 ⟨⟨v, rfl, hown⟩, hb⟩
  replace HB := below_then HB hb
  clear hb
  obtain ⟨g, cap, rfl, hc5, hg, hgl⟩ := own_shape hown (by decide)
  replace hc5 : 5 ≤ cap := hc5
  have c9 : w4.cell? ⟨g, 9, none⟩ = some (.string ⟨#[58, 61]⟩) := hown.cellAt 9 (by decide)
  have c18 : w4.cell? ⟨g, 18, none⟩ = some (.int .i64 1) := hown.cellAt 18 (by decide)
  have c19 : w4.cell? ⟨g, 19, none⟩ = some (.int .i64 18) := hown.cellAt 19 (by decide)
  clear hown
  go_wp2_with fail
  go_ret
  exact ⟨rfl, (by repeat (first | with_reducible assumption | with_reducible exact Below.refl _ _ | with_reducible refine below_al ?_ _ | with_reducible refine below_drew ?_ | with_reducible refine below_drewN ?_ _ | with_reducible refine below_set ?_ (by dsimp only; omega) _))⟩

end Go.Proofs.YtdbgfeeglnpobaaDoor
