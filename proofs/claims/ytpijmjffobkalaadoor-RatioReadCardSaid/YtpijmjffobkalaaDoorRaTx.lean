/- ratio.Text; the examples of the chapter hold. -/
import Derived.Test.YtpijmjffobkalaaDoorRaCmp
import Derived.Lib.LaidTab
set_option linter.unusedVariables false
namespace Go.Proofs.YtpijmjffobkalaaDoor
open Go.ChangeShapes Go.WideShapes Go.ChangeAt Go.RowKit

/-- The library's table of powers of ten. -/
abbrev Tab (w : World) : Prop := Lib.TabIs Tryd.prog w "internal/strconv.uint64pow10" .u64 Lib.pow10Tab
theorem Tab.bel {w w' : World} (h : Tab w) (hb : Below w.heap.size w w') : Tab w' := by
  unfold Tab Lib.TabIs World.var? at *
  cases hg : Tryd.prog.globalNamed "internal/strconv.uint64pow10" with
  | none => rw [hg] at h; simp at h
  | some g =>
    simp only [hg, Option.bind_some] at h ⊢
    have hlt : g < w.heap.size := by
      rcases Nat.lt_or_ge g w.heap.size with k | k
      · exact k
      · rw [Array.getElem?_eq_none k] at h; simp at h
    rw [hb.block g hlt]
    exact h
theorem hb_grow (w : World) (k : Nat) (os : Array Obj) : Below w.heap.size w (Go.Sort.grow (w.drewN k) os) := by
  have := below_regrown w (w.drewN k).drawn os
  exact this
theorem itoa_tab (n : Int) (h : -9223372036854775808 ≤ n ∧ n ≤ 9223372036854775807) (w : World) (ht : Tab w) :
    Calls Tryd.prog 72 #[.int .i64 n] w fun e w' => e = .returned (.string ⟨(Lib.itoa n).toArray⟩) ∧ Below w.heap.size w w' :=
  (Tryd.strconv_Itoa n h.1 h.2 w ht).mono fun _ _ ⟨he, k, os, hw⟩ => ⟨he, by rw [hw]; exact hb_grow w k os⟩
theorem regrown_tab {f : FuncId} {args : Array Value} {w : World} {d : Nat} {os : Array Obj} {v : Value} (ht : Tab w)
    (h : ∀ W : World, Tab W → Calls Tryd.prog f args W fun e w' => e = .returned v ∧ Below W.heap.size W w') : Calls Tryd.prog f args (Go.Sort.grow (redrawn w d) os) fun e w'' => e = .returned v ∧ ∃ p : Regrown, w'' = Go.Sort.grow (redrawn w p.d) p.os :=
  Calls.regrown_of (h _ (ht.bel (below_regrown _ _ _)))

set_option maxRecDepth 100000 in
set_option maxHeartbeats 1000000 in
theorem text_core (n d : Int) (sA sD : ByteArray) (hd : ((d : Int) == 1) = false) (bA : sA.size ≤ 100) (bD : sD.size ≤ 100)
    (HA : Hid (∀ w, Tab w → Calls Tryd.prog 72 #[.int .i64 n] w fun e w' => e = .returned (.string sA) ∧ Below w.heap.size w w'))
    (HD : Hid (∀ w, Tab w → Calls Tryd.prog 72 #[.int .i64 d] w fun e w' => e = .returned (.string sD) ∧ Below w.heap.size w w')) (w : World) (ht : Hid (Tab w)) :
    Calls Tryd.prog 60 #[.agg #[.int .i64 n, .int .i64 d]] w fun e w' => e = .returned (.string (sA ++ ⟨#[47]⟩ ++ sD)) ∧ Below w.heap.size w w' := by
  go_enter Tryd.func60, Tryd.ntmps60
  go_wp2_with fail
  have HB : Below w.heap.size w w := Below.refl _ _
  have ht' : Tab w := ht.out
  generalize hWW : World.alloc _ _ = WW
  have k_a : At WW (w.heap.size) 23 #[.int .i64 n, .int .i64 d] := by rw [← hWW]; (repeat (first | (with_reducible apply At.new'; (focus (simp; done))) | with_reducible apply At.al | with_reducible apply At.drw | with_reducible apply At.dr))
  replace HB : Below w.heap.size w WW := by rw [← hWW]; repeat (first | with_reducible assumption | with_reducible exact Below.refl _ _ | with_reducible refine below_al ?_ _ | with_reducible refine below_drew ?_ | with_reducible refine below_drewN ?_ _ | with_reducible refine below_set ?_ (by dsimp only; omega) _)
  have tWW : Tab WW := ht'.bel HB
  have tWW := Lib.hid tWW
  clear hWW ht'
  have Kk_a0 := cell_regrown k_a.c0
  have Kk_a1 := cell_regrown k_a.c1
  refine wp_region_quiet_below (by kernel_rfl) (by kernel_rfl) ?_
  repeat (go_big_quiet_step ((first | with_reducible exact regrown_tab tWW.out HA.out | with_reducible exact regrown_tab tWW.out HD.out)))
  refine wpQuiet_nil ?_
  intro v1 hb1'
  have hb1 := below_of_regrown hb1'
  clear hb1' Kk_a0 Kk_a1
  replace k_a : At v1 (w.heap.size) 23 #[.int .i64 n, .int .i64 d] := At.bel (by repeat (first | with_reducible assumption | with_reducible apply At.put0 | with_reducible apply At.put1 | with_reducible refine At.far ?_ (by dsimp only; omega) _ | with_reducible apply At.al | with_reducible apply At.drw | with_reducible apply At.dr)) hb1
  replace HB : Below w.heap.size w v1 := below_then (by repeat (first | with_reducible assumption | with_reducible exact Below.refl _ _ | with_reducible refine below_al ?_ _ | with_reducible refine below_drew ?_ | with_reducible refine below_drewN ?_ _ | with_reducible refine below_set ?_ (by dsimp only; omega) _)) hb1
  clear hb1
  go_wp2_with fail
  go_ret
  exact ⟨rfl, (by repeat (first | with_reducible assumption | with_reducible exact Below.refl _ _ | with_reducible refine below_al ?_ _ | with_reducible refine below_drew ?_ | with_reducible refine below_drewN ?_ _ | with_reducible refine below_set ?_ (by dsimp only; omega) _))⟩

set_option maxRecDepth 100000 in
theorem Text_core (n d : Int) (s : ByteArray)
    (HV : Hid (∀ w, Calls Tryd.prog 15 #[.agg #[.int .i64 n, .int .i64 d]] w fun e w' => e = .returned (.bool true) ∧ Below w.heap.size w w'))
    (HT : Hid (∀ w, Tab w → Calls Tryd.prog 60 #[.agg #[.int .i64 n, .int .i64 d]] w fun e w' => e = .returned (.string s) ∧ Below w.heap.size w w')) (w : World) (ht : Hid (Tab w)) :
    Calls Tryd.prog 34 #[.agg #[.int .i64 n, .int .i64 d]] w fun e w' => e = .returned (.tuple #[.string s, .int .i64 0]) ∧ Below w.heap.size w w' := by
  go_enter Tryd.func34, Tryd.ntmps34
  go_wp2_with fail
  refine (HV.out _).mono ?_
  rintro e v1 ⟨rfl, hb1⟩
  have k_a : At v1 (w.heap.size) 23 #[.int .i64 n, .int .i64 d] := At.bel (by (repeat (first | (with_reducible apply At.new'; (focus (simp; done))) | with_reducible apply At.al | with_reducible apply At.drw | with_reducible apply At.dr))) hb1
  have HB : Below w.heap.size w v1 := below_then (by repeat (first | with_reducible assumption | with_reducible exact Below.refl _ _ | with_reducible refine below_al ?_ _ | with_reducible refine below_drew ?_ | with_reducible refine below_drewN ?_ _ | with_reducible refine below_set ?_ (by dsimp only; omega) _)) hb1
  clear hb1
  have Lk_a := k_a.lt
  obtain ⟨k_a0, k_a1, k_a2, k_a3⟩ := k_a.two
  have tv := ht.out.bel HB
  replace tv := Lib.hid tv
  go_wp2_with fail
  refine (HT.out _ tv.out).mono ?_
  rintro e v2 ⟨rfl, hb2⟩
  go_wp2_with fail
  go_ret2
  exact ⟨rfl, below_then HB hb2⟩
/-- The text of the chapter's example. -/
theorem text_ex (w : World) (ht : Tab w) : Calls Tryd.prog 34 #[.agg #[.int .i64 (-3), .int .i64 2]] w fun e w' => e = .returned (.tuple #[.string ⟨#[45, 51, 47, 50]⟩, .int .i64 0]) ∧ Below w.heap.size w w' := by
  refine Text_core (-3) 2 ⟨#[45, 51, 47, 50]⟩ (Lib.hid fun w => ?_) (Lib.hid fun w hw => ?_) w (Lib.hid ht)
  · have := fvalid_any (-3) 2 w
    rw [show fracB (-3) 2 = true from by decide] at this
    exact this
  · have e1 : Lib.itoa (-3) = [45, 51] := by decide +kernel
    have e2 : Lib.itoa 2 = [50] := by decide +kernel
    have h1 := fun w hw => itoa_tab (-3) (by decide) w hw
    have h2 := fun w hw => itoa_tab 2 (by decide) w hw
    rw [e1] at h1
    rw [e2] at h2
    exact text_core (-3) 2 ⟨#[45, 51]⟩ ⟨#[50]⟩ (by decide) (by decide) (by decide) (Lib.hid h1) (Lib.hid h2) w (Lib.hid hw)

set_option maxRecDepth 100000 in
set_option maxHeartbeats 2000000 in
theorem awake_any (w : World) (ht' : Tab w) : Calls Tryd.prog 11 #[] w fun e w' => e = .returned (.bool true) ∧ Below w.heap.size w w' := by
  have ht := Lib.hid ht'
  clear ht'
  have A := Lib.hid (fun w => radd_any 1 6 1 10 w)
  rw [show raddS 1 6 1 10 = (4, 15, 0) from by decide +kernel] at A
  have M := Lib.hid (fun w => ratiomul_any 1152921504606846976 1 1 1152921504606846976 w)
  rw [show rmulS 1152921504606846976 1 1 1152921504606846976 = (1, 1, 0) from by decide +kernel] at M
  have K := Lib.hid (fun w => rmake_any (-6) 4 (by decide) (by decide) w)
  rw [show rmakeS (-6) 4 = (-3, 2, 0) from by decide +kernel] at K
  have X := Lib.hid (fun w ht => text_ex w ht)
  have V := Lib.hid (fun w => fvalid_any 4 15 w)
  rw [show fracB 4 15 = true from by decide +kernel] at V
  go_enter Tryd.func11, Tryd.ntmps11
  go_wp2_with fail
  refine (A.out _).mono ?_
  rintro e v1 ⟨rfl, hb1⟩
  have HB : Below w.heap.size w v1 := below_then (by repeat (first | with_reducible assumption | with_reducible exact Below.refl _ _ | with_reducible refine below_al ?_ _ | with_reducible refine below_drew ?_ | with_reducible refine below_drewN ?_ _ | with_reducible refine below_set ?_ (by dsimp only; omega) _)) hb1
  clear hb1
  go_wp2_with fail
  refine (M.out _).mono ?_
  rintro e v2 ⟨rfl, hb2⟩
  have k_a : At v2 (v1.heap.size) 23 #[.int .i64 4, .int .i64 15] := At.bel (by (repeat (first | (with_reducible apply At.new'; (focus (simp; done))) | with_reducible apply At.al | with_reducible apply At.drw | with_reducible apply At.dr))) hb2
  replace HB : Below w.heap.size w v2 := below_then (by repeat (first | with_reducible assumption | with_reducible exact Below.refl _ _ | with_reducible refine below_al ?_ _ | with_reducible refine below_drew ?_ | with_reducible refine below_drewN ?_ _ | with_reducible refine below_set ?_ (by dsimp only; omega) _)) hb2
  clear hb2
  go_wp2_with fail
  refine (K.out _).mono ?_
  rintro e v3 ⟨rfl, hb3⟩
  replace k_a : At v3 (v1.heap.size) 23 #[.int .i64 4, .int .i64 15] := At.bel (by repeat (first | with_reducible assumption | with_reducible apply At.put0 | with_reducible apply At.put1 | with_reducible refine At.far ?_ (by dsimp only; omega) _ | with_reducible apply At.al | with_reducible apply At.drw | with_reducible apply At.dr)) hb3
  have k_b : At v3 (v2.heap.size) 23 #[.int .i64 1, .int .i64 1] := At.bel (by (repeat (first | (with_reducible apply At.new'; (focus (simp; done))) | with_reducible apply At.al | with_reducible apply At.drw | with_reducible apply At.dr))) hb3
  replace HB : Below w.heap.size w v3 := below_then (by repeat (first | with_reducible assumption | with_reducible exact Below.refl _ _ | with_reducible refine below_al ?_ _ | with_reducible refine below_drew ?_ | with_reducible refine below_drewN ?_ _ | with_reducible refine below_set ?_ (by dsimp only; omega) _)) hb3
  clear hb3
  go_wp2_with fail
  have tv : Tab v3 := ht.out.bel HB
  generalize hWW : World.alloc _ _ = WW
  replace k_a : At WW (v1.heap.size) 23 #[.int .i64 4, .int .i64 15] := by rw [← hWW]; repeat (first | with_reducible assumption | with_reducible apply At.put0 | with_reducible apply At.put1 | with_reducible refine At.far ?_ (by dsimp only; omega) _ | with_reducible apply At.al | with_reducible apply At.drw | with_reducible apply At.dr)
  replace k_b : At WW (v2.heap.size) 23 #[.int .i64 1, .int .i64 1] := by rw [← hWW]; repeat (first | with_reducible assumption | with_reducible apply At.put0 | with_reducible apply At.put1 | with_reducible refine At.far ?_ (by dsimp only; omega) _ | with_reducible apply At.al | with_reducible apply At.drw | with_reducible apply At.dr)
  have k_c : At WW (v3.heap.size) 23 #[.int .i64 (-3), .int .i64 2] := by rw [← hWW]; (repeat (first | (with_reducible apply At.new'; (focus (simp; done))) | with_reducible apply At.al | with_reducible apply At.drw | with_reducible apply At.dr))
  have tw : Tab WW := by rw [← hWW]; exact tv.bel (below_al (Below.refl _ _) _)
  replace tw := Lib.hid tw
  replace HB : Below w.heap.size w WW := by rw [← hWW]; repeat (first | with_reducible assumption | with_reducible exact Below.refl _ _ | with_reducible refine below_al ?_ _ | with_reducible refine below_drew ?_ | with_reducible refine below_drewN ?_ _ | with_reducible refine below_set ?_ (by dsimp only; omega) _)
  clear hWW tv
  have Lk_c := k_c.lt
  obtain ⟨k_c0, k_c1, k_c2, k_c3⟩ := k_c.two
  refine (X.out _ tw.out).mono ?_
  rintro e v4 ⟨rfl, hb4⟩
  clear k_c0 k_c1 k_c2 k_c3 Lk_c
  replace k_a : At v4 (v1.heap.size) 23 #[.int .i64 4, .int .i64 15] := At.bel (by repeat (first | with_reducible assumption | with_reducible apply At.put0 | with_reducible apply At.put1 | with_reducible refine At.far ?_ (by dsimp only; omega) _ | with_reducible apply At.al | with_reducible apply At.drw | with_reducible apply At.dr)) hb4
  replace k_b : At v4 (v2.heap.size) 23 #[.int .i64 1, .int .i64 1] := At.bel (by repeat (first | with_reducible assumption | with_reducible apply At.put0 | with_reducible apply At.put1 | with_reducible refine At.far ?_ (by dsimp only; omega) _ | with_reducible apply At.al | with_reducible apply At.drw | with_reducible apply At.dr)) hb4
  replace k_c : At v4 (v3.heap.size) 23 #[.int .i64 (-3), .int .i64 2] := At.bel (by repeat (first | with_reducible assumption | with_reducible apply At.put0 | with_reducible apply At.put1 | with_reducible refine At.far ?_ (by dsimp only; omega) _ | with_reducible apply At.al | with_reducible apply At.drw | with_reducible apply At.dr)) hb4
  replace HB : Below w.heap.size w v4 := below_then (by repeat (first | with_reducible assumption | with_reducible exact Below.refl _ _ | with_reducible refine below_al ?_ _ | with_reducible refine below_drew ?_ | with_reducible refine below_drewN ?_ _ | with_reducible refine below_set ?_ (by dsimp only; omega) _)) hb4
  clear hb4
  have Lk_a := k_a.lt
  obtain ⟨k_a0, k_a1, k_a2, k_a3⟩ := k_a.two
  have Lk_b := k_b.lt
  obtain ⟨k_b0, k_b1, k_b2, k_b3⟩ := k_b.two
  have Lk_c := k_c.lt
  obtain ⟨k_c0, k_c1, k_c2, k_c3⟩ := k_c.two
  go_wp2_with fail
  refine (V.out _).mono ?_
  rintro e v5 ⟨rfl, hb5⟩
  clear k_a0 k_a1 k_a2 k_a3 Lk_a k_b0 k_b1 k_b2 k_b3 Lk_b k_c0 k_c1 k_c2 k_c3 Lk_c
  replace k_a : At v5 (v1.heap.size) 23 #[.int .i64 4, .int .i64 15] := At.bel (by repeat (first | with_reducible assumption | with_reducible apply At.put0 | with_reducible apply At.put1 | with_reducible refine At.far ?_ (by dsimp only; omega) _ | with_reducible apply At.al | with_reducible apply At.drw | with_reducible apply At.dr)) hb5
  replace k_b : At v5 (v2.heap.size) 23 #[.int .i64 1, .int .i64 1] := At.bel (by repeat (first | with_reducible assumption | with_reducible apply At.put0 | with_reducible apply At.put1 | with_reducible refine At.far ?_ (by dsimp only; omega) _ | with_reducible apply At.al | with_reducible apply At.drw | with_reducible apply At.dr)) hb5
  replace k_c : At v5 (v3.heap.size) 23 #[.int .i64 (-3), .int .i64 2] := At.bel (by repeat (first | with_reducible assumption | with_reducible apply At.put0 | with_reducible apply At.put1 | with_reducible refine At.far ?_ (by dsimp only; omega) _ | with_reducible apply At.al | with_reducible apply At.drw | with_reducible apply At.dr)) hb5
  replace HB : Below w.heap.size w v5 := below_then (by repeat (first | with_reducible assumption | with_reducible exact Below.refl _ _ | with_reducible refine below_al ?_ _ | with_reducible refine below_drew ?_ | with_reducible refine below_drewN ?_ _ | with_reducible refine below_set ?_ (by dsimp only; omega) _)) hb5
  clear hb5
  have Lk_a := k_a.lt
  obtain ⟨k_a0, k_a1, k_a2, k_a3⟩ := k_a.two
  have Lk_b := k_b.lt
  obtain ⟨k_b0, k_b1, k_b2, k_b3⟩ := k_b.two
  have Lk_c := k_c.lt
  obtain ⟨k_c0, k_c1, k_c2, k_c3⟩ := k_c.two
  go_wp2_with fail
  go_ret
  exact ⟨rfl, HB⟩
#print axioms awake_any

end Go.Proofs.YtpijmjffobkalaaDoor
