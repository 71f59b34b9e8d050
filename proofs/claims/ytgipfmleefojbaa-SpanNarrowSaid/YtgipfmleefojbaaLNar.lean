/- SpanNarrow's walk: it returns true. -/
import Derived.Test.YtgipfmleefojbaaAw
import Derived.Test.YtgipfmleefojbaaAtt
import Derived.Test.YtgipfmleefojbaaOrs
import Derived.Test.YtgipfmleefojbaaIns
import Derived.Test.YtgipfmleefojbaaReg
import Derived.Test.YtgipfmleefojbaaSpD
set_option linter.unusedVariables false
namespace Go.Proofs.Ytgipfmleefojbaa
open Go.ChangeShapes Go.WideShapes Go.ChangeAt Go.RowKit

set_option maxRecDepth 100000 in
theorem narrow_fit (s1 s2 t1 t2 : Int) (h1 : t1 ≤ s1) (h2 : s2 ≤ t2) (w : World) :
    Calls Try.prog 33 #[sp s1 s2, .int .i64 0, sp t1 t2, .int .i64 0] w fun e w' => e = .returned (.bool true) ∧ Below w.heap.size w w' := by
  have HI := Lib.hid (fun w => inside_yes s1 s2 t1 t2 h1 h2 w)
  clear h1 h2
  go_enter Try.func33, Try.ntmps33
  go_wp2_with fail
  refine (HI.out _).mono ?_
  rintro e v ⟨rfl, hb⟩
  go_wp2_with fail
  go_ret
  exact ⟨rfl, below_then (by repeat (first | with_reducible assumption | with_reducible exact Below.refl _ _ | with_reducible refine below_al ?_ _ | with_reducible refine below_drew ?_ | with_reducible refine below_drewN ?_ _ | with_reducible refine below_set ?_ (by dsimp only; omega) _)) hb⟩
set_option maxRecDepth 100000 in
theorem narrow_err (s1 s2 t1 t2 e f : Int) (hf : f ≠ 0) (w : World) :
    Calls Try.prog 33 #[sp s1 s2, .int .i64 e, sp t1 t2, .int .i64 f] w fun e w' => e = .returned (.bool true) ∧ Below w.heap.size w w' := by
  have hf' : (f == 0) = false := by simpa using hf
  go_enter Try.func33, Try.ntmps33
  go_wp2
  go_ret
  exact ⟨rfl, (by repeat (first | with_reducible assumption | with_reducible exact Below.refl _ _ | with_reducible refine below_al ?_ _ | with_reducible refine below_drew ?_ | with_reducible refine below_drewN ?_ _ | with_reducible refine below_set ?_ (by dsimp only; omega) _))⟩
/-- A result of the inner spans lies in that of the outer ones, if that fits. -/
def NarOk (r t : Int × Int × Int) : Prop := t.2.2 ≠ 0 ∨ t.2.2 = 0 ∧ r.2.2 = 0 ∧ t.1 ≤ r.1 ∧ r.2.1 ≤ t.2.1
theorem narrow_any {r t : Int × Int × Int} (h : NarOk r t) (w : World) :
    Calls Try.prog 33 #[sp r.1 r.2.1, .int .i64 r.2.2, sp t.1 t.2.1, .int .i64 t.2.2] w fun e w' => e = .returned (.bool true) ∧ Below w.heap.size w w' := by
  rcases h with h | ⟨h1, h2, h3, h4⟩
  · exact narrow_err _ _ _ _ _ _ h w
  · rw [h1, h2]
    exact narrow_fit _ _ _ _ h3 h4 w

set_option maxRecDepth 100000 in
set_option maxHeartbeats 8000000 in
theorem narrow_core (al ah bl bh i j k l x1 x2 x3 x4 cl ch dl dh : Int) (sA tA sS tS sM tM sD tD sR tR : Int × Int × Int)
    (HW1 : Hid (∀ w, Calls Try.prog 14 #[sp al ah] w fun e w' => e = .returned (.bool true) ∧ Below w.heap.size w w'))
    (HW2 : Hid (∀ w, Calls Try.prog 14 #[sp bl bh] w fun e w' => e = .returned (.bool true) ∧ Below w.heap.size w w'))
    (HX1 : Hid (∀ w, Calls Try.prog 25 #[sp al ah, .int .u64 i] w fun e w' => e = .returned (.int .i64 x1) ∧ Below w.heap.size w w'))
    (HX2 : Hid (∀ w, Calls Try.prog 25 #[sp al ah, .int .u64 j] w fun e w' => e = .returned (.int .i64 x2) ∧ Below w.heap.size w w'))
    (HX3 : Hid (∀ w, Calls Try.prog 25 #[sp bl bh, .int .u64 k] w fun e w' => e = .returned (.int .i64 x3) ∧ Below w.heap.size w w'))
    (HX4 : Hid (∀ w, Calls Try.prog 25 #[sp bl bh, .int .u64 l] w fun e w' => e = .returned (.int .i64 x4) ∧ Below w.heap.size w w'))
    (HO1 : Hid (∀ w, Calls Try.prog 32 #[.int .i64 x1, .int .i64 x2] w fun e w' => e = .returned (sp cl ch) ∧ Below w.heap.size w w'))
    (HO2 : Hid (∀ w, Calls Try.prog 32 #[.int .i64 x3, .int .i64 x4] w fun e w' => e = .returned (sp dl dh) ∧ Below w.heap.size w w'))
    (HA1 : Hid (∀ w, Calls Try.prog 26 #[sp cl ch, sp dl dh] w fun e w' => e = .returned (spv sA) ∧ Below w.heap.size w w'))
    (HA2 : Hid (∀ w, Calls Try.prog 26 #[sp al ah, sp bl bh] w fun e w' => e = .returned (spv tA) ∧ Below w.heap.size w w'))
    (HNA : Hid (∀ w, Calls Try.prog 33 #[sp sA.1 sA.2.1, .int .i64 sA.2.2, sp tA.1 tA.2.1, .int .i64 tA.2.2] w fun e w' => e = .returned (.bool true) ∧ Below w.heap.size w w'))
    (HS1 : Hid (∀ w, Calls Try.prog 27 #[sp cl ch, sp dl dh] w fun e w' => e = .returned (spv sS) ∧ Below w.heap.size w w'))
    (HS2 : Hid (∀ w, Calls Try.prog 27 #[sp al ah, sp bl bh] w fun e w' => e = .returned (spv tS) ∧ Below w.heap.size w w'))
    (HNS : Hid (∀ w, Calls Try.prog 33 #[sp sS.1 sS.2.1, .int .i64 sS.2.2, sp tS.1 tS.2.1, .int .i64 tS.2.2] w fun e w' => e = .returned (.bool true) ∧ Below w.heap.size w w'))
    (HM1 : Hid (∀ w, Calls Try.prog 12 #[sp cl ch, sp dl dh] w fun e w' => e = .returned (spv sM) ∧ Below w.heap.size w w'))
    (HM2 : Hid (∀ w, Calls Try.prog 12 #[sp al ah, sp bl bh] w fun e w' => e = .returned (spv tM) ∧ Below w.heap.size w w'))
    (HNM : Hid (∀ w, Calls Try.prog 33 #[sp sM.1 sM.2.1, .int .i64 sM.2.2, sp tM.1 tM.2.1, .int .i64 tM.2.2] w fun e w' => e = .returned (.bool true) ∧ Below w.heap.size w w'))
    (HD1 : Hid (∀ w, Calls Try.prog 13 #[sp cl ch, sp dl dh] w fun e w' => e = .returned (spv sD) ∧ Below w.heap.size w w'))
    (HD2 : Hid (∀ w, Calls Try.prog 13 #[sp al ah, sp bl bh] w fun e w' => e = .returned (spv tD) ∧ Below w.heap.size w w'))
    (HND : Hid (∀ w, Calls Try.prog 33 #[sp sD.1 sD.2.1, .int .i64 sD.2.2, sp tD.1 tD.2.1, .int .i64 tD.2.2] w fun e w' => e = .returned (.bool true) ∧ Below w.heap.size w w'))
    (HR1 : Hid (∀ w, Calls Try.prog 19 #[sp cl ch] w fun e w' => e = .returned (spv sR) ∧ Below w.heap.size w w'))
    (HR2 : Hid (∀ w, Calls Try.prog 19 #[sp al ah] w fun e w' => e = .returned (spv tR) ∧ Below w.heap.size w w'))
    (HNR : Hid (∀ w, Calls Try.prog 33 #[sp sR.1 sR.2.1, .int .i64 sR.2.2, sp tR.1 tR.2.1, .int .i64 tR.2.2] w fun e w' => e = .returned (.bool true) ∧ Below w.heap.size w w')) (w : World) :
    Calls Try.prog 7 #[sp al ah, sp bl bh, .int .u64 i, .int .u64 j, .int .u64 k, .int .u64 l] w fun e w' => e = .returned (.bool true) ∧ Below w.heap.size w w' := by
  go_enter Try.func7, Try.ntmps7
  go_wp2_with fail
  refine (awake_any _).mono ?_
  rintro e v1 ⟨rfl, hb1⟩
  have k_a : At v1 (w.heap.size) 23 #[.int .i64 al, .int .i64 ah] := At.bel (by (repeat (first | (with_reducible apply At.new'; (focus (simp; done))) | with_reducible apply At.al | with_reducible apply At.drw | with_reducible apply At.dr))) hb1
  have k_b : At v1 (w.heap.size + 1) 23 #[.int .i64 bl, .int .i64 bh] := At.bel (by (repeat (first | (with_reducible apply At.new'; (focus (simp; done))) | with_reducible apply At.al | with_reducible apply At.drw | with_reducible apply At.dr))) hb1
  have HB : Below w.heap.size w v1 := below_then (by repeat (first | with_reducible assumption | with_reducible exact Below.refl _ _ | with_reducible refine below_al ?_ _ | with_reducible refine below_drew ?_ | with_reducible refine below_drewN ?_ _ | with_reducible refine below_set ?_ (by dsimp only; omega) _)) hb1
  clear hb1
  have Lk_a := k_a.lt
  obtain ⟨k_a0, k_a1, k_a2, k_a3⟩ := k_a.two
  have Lk_b := k_b.lt
  obtain ⟨k_b0, k_b1, k_b2, k_b3⟩ := k_b.two
  go_wp2_with fail
  refine (HW1.out _).mono ?_
  rintro e v2 ⟨rfl, hb2⟩
  clear k_a0 k_a1 k_a2 k_a3 Lk_a k_b0 k_b1 k_b2 k_b3 Lk_b
  replace k_a : At v2 (w.heap.size) 23 #[.int .i64 al, .int .i64 ah] := At.bel (by repeat (first | with_reducible assumption | with_reducible apply At.put0 | with_reducible apply At.put1 | with_reducible refine At.far ?_ (by dsimp only; omega) _ | with_reducible apply At.al | with_reducible apply At.drw | with_reducible apply At.dr)) hb2
  replace k_b : At v2 (w.heap.size + 1) 23 #[.int .i64 bl, .int .i64 bh] := At.bel (by repeat (first | with_reducible assumption | with_reducible apply At.put0 | with_reducible apply At.put1 | with_reducible refine At.far ?_ (by dsimp only; omega) _ | with_reducible apply At.al | with_reducible apply At.drw | with_reducible apply At.dr)) hb2
  replace HB : Below w.heap.size w v2 := below_then (by repeat (first | with_reducible assumption | with_reducible exact Below.refl _ _ | with_reducible refine below_al ?_ _ | with_reducible refine below_drew ?_ | with_reducible refine below_drewN ?_ _ | with_reducible refine below_set ?_ (by dsimp only; omega) _)) hb2
  clear hb2
  have Lk_a := k_a.lt
  obtain ⟨k_a0, k_a1, k_a2, k_a3⟩ := k_a.two
  have Lk_b := k_b.lt
  obtain ⟨k_b0, k_b1, k_b2, k_b3⟩ := k_b.two
  go_wp2_with fail
  refine (HW2.out _).mono ?_
  rintro e v3 ⟨rfl, hb3⟩
  clear k_a0 k_a1 k_a2 k_a3 Lk_a k_b0 k_b1 k_b2 k_b3 Lk_b
  replace k_a : At v3 (w.heap.size) 23 #[.int .i64 al, .int .i64 ah] := At.bel (by repeat (first | with_reducible assumption | with_reducible apply At.put0 | with_reducible apply At.put1 | with_reducible refine At.far ?_ (by dsimp only; omega) _ | with_reducible apply At.al | with_reducible apply At.drw | with_reducible apply At.dr)) hb3
  replace k_b : At v3 (w.heap.size + 1) 23 #[.int .i64 bl, .int .i64 bh] := At.bel (by repeat (first | with_reducible assumption | with_reducible apply At.put0 | with_reducible apply At.put1 | with_reducible refine At.far ?_ (by dsimp only; omega) _ | with_reducible apply At.al | with_reducible apply At.drw | with_reducible apply At.dr)) hb3
  replace HB : Below w.heap.size w v3 := below_then (by repeat (first | with_reducible assumption | with_reducible exact Below.refl _ _ | with_reducible refine below_al ?_ _ | with_reducible refine below_drew ?_ | with_reducible refine below_drewN ?_ _ | with_reducible refine below_set ?_ (by dsimp only; omega) _)) hb3
  clear hb3
  have Lk_a := k_a.lt
  obtain ⟨k_a0, k_a1, k_a2, k_a3⟩ := k_a.two
  have Lk_b := k_b.lt
  obtain ⟨k_b0, k_b1, k_b2, k_b3⟩ := k_b.two
  go_wp2_with fail
  clear k_a0 k_a1 k_a2 k_a3 Lk_a k_b0 k_b1 k_b2 k_b3 Lk_b
  refine wp_only ?_
  refine wp_region_grow2 14 (by kernel_rfl) (o1 := _) (o2 := _) (d1 := 13) (d2 := 14) (t1 := 23) (t2 := 23) (z1 := #[.int .i64 0, .int .i64 0]) (z2 := #[.int .i64 0, .int .i64 0]) rfl rfl ⟨rfl, rfl, fun _ _ => by rfl⟩ ⟨rfl, rfl, fun _ _ => by rfl⟩ (by decide) (by kernel_rfl) only_panic ?_
  apply Exists.intro
  refine And.intro (fun W' hW' => ?_) ?_
  focus
    have Kk_a := At.bel (show At _ (w.heap.size) 23 #[.int .i64 al, .int .i64 ah] from (by repeat (first | with_reducible assumption | with_reducible apply At.put0 | with_reducible apply At.put1 | with_reducible refine At.far ?_ (by dsimp only; omega) _ | with_reducible apply At.al | with_reducible apply At.drw | with_reducible apply At.dr))) hW'
    have Kk_a0 := cell_regrown Kk_a.c0
    have Kk_a1 := cell_regrown Kk_a.c1
    have Kk_b := At.bel (show At _ (w.heap.size + 1) 23 #[.int .i64 bl, .int .i64 bh] from (by repeat (first | with_reducible assumption | with_reducible apply At.put0 | with_reducible apply At.put1 | with_reducible refine At.far ?_ (by dsimp only; omega) _ | with_reducible apply At.al | with_reducible apply At.drw | with_reducible apply At.dr))) hW'
    have Kk_b0 := cell_regrown Kk_b.c0
    have Kk_b1 := cell_regrown Kk_b.c1
    simp only [List.take_succ_cons, List.take_zero]
    repeat (go_big_quiet_step ((first | with_reducible exact regrown_call HX1.out | with_reducible exact regrown_call HX2.out | with_reducible exact regrown_call HO1.out | with_reducible exact regrown_call HX3.out | with_reducible exact regrown_call HX4.out | with_reducible exact regrown_call HO2.out)))
    exact wpQuiet_nil rfl
  intro g_c g_d v4 hb4 lb_c lb_d ne_cd k_c k_d
  have Mk_a := k_a.lt
  have Mk_b := k_b.lt
  replace k_a : At v4 (w.heap.size) 23 #[.int .i64 al, .int .i64 ah] := At.bel (by repeat (first | with_reducible assumption | with_reducible apply At.put0 | with_reducible apply At.put1 | with_reducible refine At.far ?_ (by dsimp only; omega) _ | with_reducible apply At.al | with_reducible apply At.drw | with_reducible apply At.dr)) hb4
  replace k_b : At v4 (w.heap.size + 1) 23 #[.int .i64 bl, .int .i64 bh] := At.bel (by repeat (first | with_reducible assumption | with_reducible apply At.put0 | with_reducible apply At.put1 | with_reducible refine At.far ?_ (by dsimp only; omega) _ | with_reducible apply At.al | with_reducible apply At.drw | with_reducible apply At.dr)) hb4
  replace HB : Below w.heap.size w v4 := below_then (by repeat (first | with_reducible assumption | with_reducible exact Below.refl _ _ | with_reducible refine below_al ?_ _ | with_reducible refine below_drew ?_ | with_reducible refine below_drewN ?_ _ | with_reducible refine below_set ?_ (by dsimp only; omega) _)) hb4
  clear hb4
  have Lk_a := k_a.lt
  obtain ⟨k_a0, k_a1, k_a2, k_a3⟩ := k_a.two
  have Lk_b := k_b.lt
  obtain ⟨k_b0, k_b1, k_b2, k_b3⟩ := k_b.two
  simp only [List.drop_succ_cons, List.drop_zero]
  have Lk_c := k_c.lt
  obtain ⟨k_c0, k_c1, k_c2, k_c3⟩ := k_c.two
  have Lk_d := k_d.lt
  obtain ⟨k_d0, k_d1, k_d2, k_d3⟩ := k_d.two
  go_wp2_with fail
  refine (HA1.out _).mono ?_
  rintro e v5 ⟨rfl, hb5⟩
  clear k_a0 k_a1 k_a2 k_a3 Lk_a k_b0 k_b1 k_b2 k_b3 Lk_b k_c0 k_c1 k_c2 k_c3 Lk_c k_d0 k_d1 k_d2 k_d3 Lk_d
  replace k_a : At v5 (w.heap.size) 23 #[.int .i64 al, .int .i64 ah] := At.bel (by repeat (first | with_reducible assumption | with_reducible apply At.put0 | with_reducible apply At.put1 | with_reducible refine At.far ?_ (by dsimp only; omega) _ | with_reducible apply At.al | with_reducible apply At.drw | with_reducible apply At.dr)) hb5
  replace k_b : At v5 (w.heap.size + 1) 23 #[.int .i64 bl, .int .i64 bh] := At.bel (by repeat (first | with_reducible assumption | with_reducible apply At.put0 | with_reducible apply At.put1 | with_reducible refine At.far ?_ (by dsimp only; omega) _ | with_reducible apply At.al | with_reducible apply At.drw | with_reducible apply At.dr)) hb5
  replace k_c : At v5 (g_c) 23 #[.int .i64 cl, .int .i64 ch] := At.bel (by repeat (first | with_reducible assumption | with_reducible apply At.put0 | with_reducible apply At.put1 | with_reducible refine At.far ?_ (by dsimp only; omega) _ | with_reducible apply At.al | with_reducible apply At.drw | with_reducible apply At.dr)) hb5
  replace k_d : At v5 (g_d) 23 #[.int .i64 dl, .int .i64 dh] := At.bel (by repeat (first | with_reducible assumption | with_reducible apply At.put0 | with_reducible apply At.put1 | with_reducible refine At.far ?_ (by dsimp only; omega) _ | with_reducible apply At.al | with_reducible apply At.drw | with_reducible apply At.dr)) hb5
  replace HB : Below w.heap.size w v5 := below_then (by repeat (first | with_reducible assumption | with_reducible exact Below.refl _ _ | with_reducible refine below_al ?_ _ | with_reducible refine below_drew ?_ | with_reducible refine below_drewN ?_ _ | with_reducible refine below_set ?_ (by dsimp only; omega) _)) hb5
  clear hb5
  have Lk_a := k_a.lt
  obtain ⟨k_a0, k_a1, k_a2, k_a3⟩ := k_a.two
  have Lk_b := k_b.lt
  obtain ⟨k_b0, k_b1, k_b2, k_b3⟩ := k_b.two
  have Lk_c := k_c.lt
  obtain ⟨k_c0, k_c1, k_c2, k_c3⟩ := k_c.two
  have Lk_d := k_d.lt
  obtain ⟨k_d0, k_d1, k_d2, k_d3⟩ := k_d.two
  have O5k_a := k_a.lt
  have O5k_b := k_b.lt
  have O5k_c := k_c.lt
  have O5k_d := k_d.lt
  go_wp2_with fail
  refine (HA2.out _).mono ?_
  rintro e v6 ⟨rfl, hb6⟩
  clear k_a0 k_a1 k_a2 k_a3 Lk_a k_b0 k_b1 k_b2 k_b3 Lk_b k_c0 k_c1 k_c2 k_c3 Lk_c k_d0 k_d1 k_d2 k_d3 Lk_d
  replace k_a : At v6 (w.heap.size) 23 #[.int .i64 al, .int .i64 ah] := At.bel (by repeat (first | with_reducible assumption | with_reducible apply At.put0 | with_reducible apply At.put1 | with_reducible refine At.far ?_ (by dsimp only; omega) _ | with_reducible apply At.al | with_reducible apply At.drw | with_reducible apply At.dr)) hb6
  replace k_b : At v6 (w.heap.size + 1) 23 #[.int .i64 bl, .int .i64 bh] := At.bel (by repeat (first | with_reducible assumption | with_reducible apply At.put0 | with_reducible apply At.put1 | with_reducible refine At.far ?_ (by dsimp only; omega) _ | with_reducible apply At.al | with_reducible apply At.drw | with_reducible apply At.dr)) hb6
  replace k_c : At v6 (g_c) 23 #[.int .i64 cl, .int .i64 ch] := At.bel (by repeat (first | with_reducible assumption | with_reducible apply At.put0 | with_reducible apply At.put1 | with_reducible refine At.far ?_ (by dsimp only; omega) _ | with_reducible apply At.al | with_reducible apply At.drw | with_reducible apply At.dr)) hb6
  replace k_d : At v6 (g_d) 23 #[.int .i64 dl, .int .i64 dh] := At.bel (by repeat (first | with_reducible assumption | with_reducible apply At.put0 | with_reducible apply At.put1 | with_reducible refine At.far ?_ (by dsimp only; omega) _ | with_reducible apply At.al | with_reducible apply At.drw | with_reducible apply At.dr)) hb6
  have k_s : At v6 (v5.heap.size) 23 #[.int .i64 sA.1, .int .i64 sA.2.1] := At.bel (by (repeat (first | (with_reducible apply At.new'; (focus (simp; done))) | with_reducible apply At.al | with_reducible apply At.drw | with_reducible apply At.dr))) hb6
  replace HB : Below w.heap.size w v6 := below_then (by repeat (first | with_reducible assumption | with_reducible exact Below.refl _ _ | with_reducible refine below_al ?_ _ | with_reducible refine below_drew ?_ | with_reducible refine below_drewN ?_ _ | with_reducible refine below_set ?_ (by dsimp only; omega) _)) hb6
  clear hb6
  have Lk_a := k_a.lt
  obtain ⟨k_a0, k_a1, k_a2, k_a3⟩ := k_a.two
  have Lk_b := k_b.lt
  obtain ⟨k_b0, k_b1, k_b2, k_b3⟩ := k_b.two
  have Lk_c := k_c.lt
  obtain ⟨k_c0, k_c1, k_c2, k_c3⟩ := k_c.two
  have Lk_d := k_d.lt
  obtain ⟨k_d0, k_d1, k_d2, k_d3⟩ := k_d.two
  have O6k_a := k_a.lt
  have O6k_b := k_b.lt
  have O6k_c := k_c.lt
  have O6k_d := k_d.lt
  have O6k_s := k_s.lt
  have Lk_s := k_s.lt
  obtain ⟨k_s0, k_s1, k_s2, k_s3⟩ := k_s.two
  go_wp2_with fail
  refine (HNA.out _).mono ?_
  rintro e v7 ⟨rfl, hb7⟩
  clear k_a0 k_a1 k_a2 k_a3 Lk_a k_b0 k_b1 k_b2 k_b3 Lk_b k_c0 k_c1 k_c2 k_c3 Lk_c k_d0 k_d1 k_d2 k_d3 Lk_d k_s0 k_s1 k_s2 k_s3 Lk_s
  replace k_a : At v7 (w.heap.size) 23 #[.int .i64 al, .int .i64 ah] := At.bel (by repeat (first | with_reducible assumption | with_reducible apply At.put0 | with_reducible apply At.put1 | with_reducible refine At.far ?_ (by dsimp only; omega) _ | with_reducible apply At.al | with_reducible apply At.drw | with_reducible apply At.dr)) hb7
  replace k_b : At v7 (w.heap.size + 1) 23 #[.int .i64 bl, .int .i64 bh] := At.bel (by repeat (first | with_reducible assumption | with_reducible apply At.put0 | with_reducible apply At.put1 | with_reducible refine At.far ?_ (by dsimp only; omega) _ | with_reducible apply At.al | with_reducible apply At.drw | with_reducible apply At.dr)) hb7
  replace k_c : At v7 (g_c) 23 #[.int .i64 cl, .int .i64 ch] := At.bel (by repeat (first | with_reducible assumption | with_reducible apply At.put0 | with_reducible apply At.put1 | with_reducible refine At.far ?_ (by dsimp only; omega) _ | with_reducible apply At.al | with_reducible apply At.drw | with_reducible apply At.dr)) hb7
  replace k_d : At v7 (g_d) 23 #[.int .i64 dl, .int .i64 dh] := At.bel (by repeat (first | with_reducible assumption | with_reducible apply At.put0 | with_reducible apply At.put1 | with_reducible refine At.far ?_ (by dsimp only; omega) _ | with_reducible apply At.al | with_reducible apply At.drw | with_reducible apply At.dr)) hb7
  replace k_s : At v7 (v5.heap.size) 23 #[.int .i64 sA.1, .int .i64 sA.2.1] := At.bel (by repeat (first | with_reducible assumption | with_reducible apply At.put0 | with_reducible apply At.put1 | with_reducible refine At.far ?_ (by dsimp only; omega) _ | with_reducible apply At.al | with_reducible apply At.drw | with_reducible apply At.dr)) hb7
  have k_t : At v7 (v6.heap.size) 23 #[.int .i64 tA.1, .int .i64 tA.2.1] := At.bel (by (repeat (first | (with_reducible apply At.new'; (focus (simp; done))) | with_reducible apply At.al | with_reducible apply At.drw | with_reducible apply At.dr))) hb7
  replace HB : Below w.heap.size w v7 := below_then (by repeat (first | with_reducible assumption | with_reducible exact Below.refl _ _ | with_reducible refine below_al ?_ _ | with_reducible refine below_drew ?_ | with_reducible refine below_drewN ?_ _ | with_reducible refine below_set ?_ (by dsimp only; omega) _)) hb7
  clear hb7
  have Lk_a := k_a.lt
  obtain ⟨k_a0, k_a1, k_a2, k_a3⟩ := k_a.two
  have Lk_b := k_b.lt
  obtain ⟨k_b0, k_b1, k_b2, k_b3⟩ := k_b.two
  have Lk_c := k_c.lt
  obtain ⟨k_c0, k_c1, k_c2, k_c3⟩ := k_c.two
  have Lk_d := k_d.lt
  obtain ⟨k_d0, k_d1, k_d2, k_d3⟩ := k_d.two
  go_wp2_with fail
  refine (HS1.out _).mono ?_
  rintro e v8 ⟨rfl, hb8⟩
  clear k_a0 k_a1 k_a2 k_a3 Lk_a k_b0 k_b1 k_b2 k_b3 Lk_b k_c0 k_c1 k_c2 k_c3 Lk_c k_d0 k_d1 k_d2 k_d3 Lk_d
  replace k_a : At v8 (w.heap.size) 23 #[.int .i64 al, .int .i64 ah] := At.bel (by repeat (first | with_reducible assumption | with_reducible apply At.put0 | with_reducible apply At.put1 | with_reducible refine At.far ?_ (by dsimp only; omega) _ | with_reducible apply At.al | with_reducible apply At.drw | with_reducible apply At.dr)) hb8
  replace k_b : At v8 (w.heap.size + 1) 23 #[.int .i64 bl, .int .i64 bh] := At.bel (by repeat (first | with_reducible assumption | with_reducible apply At.put0 | with_reducible apply At.put1 | with_reducible refine At.far ?_ (by dsimp only; omega) _ | with_reducible apply At.al | with_reducible apply At.drw | with_reducible apply At.dr)) hb8
  replace k_c : At v8 (g_c) 23 #[.int .i64 cl, .int .i64 ch] := At.bel (by repeat (first | with_reducible assumption | with_reducible apply At.put0 | with_reducible apply At.put1 | with_reducible refine At.far ?_ (by dsimp only; omega) _ | with_reducible apply At.al | with_reducible apply At.drw | with_reducible apply At.dr)) hb8
  replace k_d : At v8 (g_d) 23 #[.int .i64 dl, .int .i64 dh] := At.bel (by repeat (first | with_reducible assumption | with_reducible apply At.put0 | with_reducible apply At.put1 | with_reducible refine At.far ?_ (by dsimp only; omega) _ | with_reducible apply At.al | with_reducible apply At.drw | with_reducible apply At.dr)) hb8
  replace k_s : At v8 (v5.heap.size) 23 #[.int .i64 sA.1, .int .i64 sA.2.1] := At.bel (by repeat (first | with_reducible assumption | with_reducible apply At.put0 | with_reducible apply At.put1 | with_reducible refine At.far ?_ (by dsimp only; omega) _ | with_reducible apply At.al | with_reducible apply At.drw | with_reducible apply At.dr)) hb8
  replace k_t : At v8 (v6.heap.size) 23 #[.int .i64 tA.1, .int .i64 tA.2.1] := At.bel (by repeat (first | with_reducible assumption | with_reducible apply At.put0 | with_reducible apply At.put1 | with_reducible refine At.far ?_ (by dsimp only; omega) _ | with_reducible apply At.al | with_reducible apply At.drw | with_reducible apply At.dr)) hb8
  replace HB : Below w.heap.size w v8 := below_then (by repeat (first | with_reducible assumption | with_reducible exact Below.refl _ _ | with_reducible refine below_al ?_ _ | with_reducible refine below_drew ?_ | with_reducible refine below_drewN ?_ _ | with_reducible refine below_set ?_ (by dsimp only; omega) _)) hb8
  clear hb8
  have Lk_a := k_a.lt
  obtain ⟨k_a0, k_a1, k_a2, k_a3⟩ := k_a.two
  have Lk_b := k_b.lt
  obtain ⟨k_b0, k_b1, k_b2, k_b3⟩ := k_b.two
  have Lk_c := k_c.lt
  obtain ⟨k_c0, k_c1, k_c2, k_c3⟩ := k_c.two
  have Lk_d := k_d.lt
  obtain ⟨k_d0, k_d1, k_d2, k_d3⟩ := k_d.two
  have Lk_s := k_s.lt
  obtain ⟨k_s0, k_s1, k_s2, k_s3⟩ := k_s.two
  go_wp2_with fail
  refine (HS2.out _).mono ?_
  rintro e v9 ⟨rfl, hb9⟩
  clear k_a0 k_a1 k_a2 k_a3 Lk_a k_b0 k_b1 k_b2 k_b3 Lk_b k_c0 k_c1 k_c2 k_c3 Lk_c k_d0 k_d1 k_d2 k_d3 Lk_d k_s0 k_s1 k_s2 k_s3 Lk_s
  replace k_a : At v9 (w.heap.size) 23 #[.int .i64 al, .int .i64 ah] := At.bel (by repeat (first | with_reducible assumption | with_reducible apply At.put0 | with_reducible apply At.put1 | with_reducible refine At.far ?_ (by dsimp only; omega) _ | with_reducible apply At.al | with_reducible apply At.drw | with_reducible apply At.dr)) hb9
  replace k_b : At v9 (w.heap.size + 1) 23 #[.int .i64 bl, .int .i64 bh] := At.bel (by repeat (first | with_reducible assumption | with_reducible apply At.put0 | with_reducible apply At.put1 | with_reducible refine At.far ?_ (by dsimp only; omega) _ | with_reducible apply At.al | with_reducible apply At.drw | with_reducible apply At.dr)) hb9
  replace k_c : At v9 (g_c) 23 #[.int .i64 cl, .int .i64 ch] := At.bel (by repeat (first | with_reducible assumption | with_reducible apply At.put0 | with_reducible apply At.put1 | with_reducible refine At.far ?_ (by dsimp only; omega) _ | with_reducible apply At.al | with_reducible apply At.drw | with_reducible apply At.dr)) hb9
  replace k_d : At v9 (g_d) 23 #[.int .i64 dl, .int .i64 dh] := At.bel (by repeat (first | with_reducible assumption | with_reducible apply At.put0 | with_reducible apply At.put1 | with_reducible refine At.far ?_ (by dsimp only; omega) _ | with_reducible apply At.al | with_reducible apply At.drw | with_reducible apply At.dr)) hb9
  replace k_s : At v9 (v5.heap.size) 23 #[.int .i64 sS.1, .int .i64 sS.2.1] := At.bel (by repeat (first | with_reducible assumption | with_reducible apply At.put0 | with_reducible apply At.put1 | with_reducible refine At.far ?_ (by dsimp only; omega) _ | with_reducible apply At.al | with_reducible apply At.drw | with_reducible apply At.dr)) hb9
  replace k_t : At v9 (v6.heap.size) 23 #[.int .i64 tA.1, .int .i64 tA.2.1] := At.bel (by repeat (first | with_reducible assumption | with_reducible apply At.put0 | with_reducible apply At.put1 | with_reducible refine At.far ?_ (by dsimp only; omega) _ | with_reducible apply At.al | with_reducible apply At.drw | with_reducible apply At.dr)) hb9
  replace HB : Below w.heap.size w v9 := below_then (by repeat (first | with_reducible assumption | with_reducible exact Below.refl _ _ | with_reducible refine below_al ?_ _ | with_reducible refine below_drew ?_ | with_reducible refine below_drewN ?_ _ | with_reducible refine below_set ?_ (by dsimp only; omega) _)) hb9
  clear hb9
  have Lk_a := k_a.lt
  obtain ⟨k_a0, k_a1, k_a2, k_a3⟩ := k_a.two
  have Lk_b := k_b.lt
  obtain ⟨k_b0, k_b1, k_b2, k_b3⟩ := k_b.two
  have Lk_c := k_c.lt
  obtain ⟨k_c0, k_c1, k_c2, k_c3⟩ := k_c.two
  have Lk_d := k_d.lt
  obtain ⟨k_d0, k_d1, k_d2, k_d3⟩ := k_d.two
  have Lk_t := k_t.lt
  obtain ⟨k_t0, k_t1, k_t2, k_t3⟩ := k_t.two
  have Lk_s := k_s.lt
  obtain ⟨k_s0, k_s1, k_s2, k_s3⟩ := k_s.two
  go_wp2_with fail
  refine (HNS.out _).mono ?_
  rintro e v10 ⟨rfl, hb10⟩
  clear k_a0 k_a1 k_a2 k_a3 Lk_a k_b0 k_b1 k_b2 k_b3 Lk_b k_c0 k_c1 k_c2 k_c3 Lk_c k_d0 k_d1 k_d2 k_d3 Lk_d k_t0 k_t1 k_t2 k_t3 Lk_t k_s0 k_s1 k_s2 k_s3 Lk_s
  replace k_a : At v10 (w.heap.size) 23 #[.int .i64 al, .int .i64 ah] := At.bel (by repeat (first | with_reducible assumption | with_reducible apply At.put0 | with_reducible apply At.put1 | with_reducible refine At.far ?_ (by dsimp only; omega) _ | with_reducible apply At.al | with_reducible apply At.drw | with_reducible apply At.dr)) hb10
  replace k_b : At v10 (w.heap.size + 1) 23 #[.int .i64 bl, .int .i64 bh] := At.bel (by repeat (first | with_reducible assumption | with_reducible apply At.put0 | with_reducible apply At.put1 | with_reducible refine At.far ?_ (by dsimp only; omega) _ | with_reducible apply At.al | with_reducible apply At.drw | with_reducible apply At.dr)) hb10
  replace k_c : At v10 (g_c) 23 #[.int .i64 cl, .int .i64 ch] := At.bel (by repeat (first | with_reducible assumption | with_reducible apply At.put0 | with_reducible apply At.put1 | with_reducible refine At.far ?_ (by dsimp only; omega) _ | with_reducible apply At.al | with_reducible apply At.drw | with_reducible apply At.dr)) hb10
  replace k_d : At v10 (g_d) 23 #[.int .i64 dl, .int .i64 dh] := At.bel (by repeat (first | with_reducible assumption | with_reducible apply At.put0 | with_reducible apply At.put1 | with_reducible refine At.far ?_ (by dsimp only; omega) _ | with_reducible apply At.al | with_reducible apply At.drw | with_reducible apply At.dr)) hb10
  replace k_s : At v10 (v5.heap.size) 23 #[.int .i64 sS.1, .int .i64 sS.2.1] := At.bel (by repeat (first | with_reducible assumption | with_reducible apply At.put0 | with_reducible apply At.put1 | with_reducible refine At.far ?_ (by dsimp only; omega) _ | with_reducible apply At.al | with_reducible apply At.drw | with_reducible apply At.dr)) hb10
  replace k_t : At v10 (v6.heap.size) 23 #[.int .i64 tS.1, .int .i64 tS.2.1] := At.bel (by repeat (first | with_reducible assumption | with_reducible apply At.put0 | with_reducible apply At.put1 | with_reducible refine At.far ?_ (by dsimp only; omega) _ | with_reducible apply At.al | with_reducible apply At.drw | with_reducible apply At.dr)) hb10
  replace HB : Below w.heap.size w v10 := below_then (by repeat (first | with_reducible assumption | with_reducible exact Below.refl _ _ | with_reducible refine below_al ?_ _ | with_reducible refine below_drew ?_ | with_reducible refine below_drewN ?_ _ | with_reducible refine below_set ?_ (by dsimp only; omega) _)) hb10
  clear hb10
  have Lk_a := k_a.lt
  obtain ⟨k_a0, k_a1, k_a2, k_a3⟩ := k_a.two
  have Lk_b := k_b.lt
  obtain ⟨k_b0, k_b1, k_b2, k_b3⟩ := k_b.two
  have Lk_c := k_c.lt
  obtain ⟨k_c0, k_c1, k_c2, k_c3⟩ := k_c.two
  have Lk_d := k_d.lt
  obtain ⟨k_d0, k_d1, k_d2, k_d3⟩ := k_d.two
  go_wp2_with fail
  refine (HM1.out _).mono ?_
  rintro e v11 ⟨rfl, hb11⟩
  clear k_a0 k_a1 k_a2 k_a3 Lk_a k_b0 k_b1 k_b2 k_b3 Lk_b k_c0 k_c1 k_c2 k_c3 Lk_c k_d0 k_d1 k_d2 k_d3 Lk_d
  replace k_a : At v11 (w.heap.size) 23 #[.int .i64 al, .int .i64 ah] := At.bel (by repeat (first | with_reducible assumption | with_reducible apply At.put0 | with_reducible apply At.put1 | with_reducible refine At.far ?_ (by dsimp only; omega) _ | with_reducible apply At.al | with_reducible apply At.drw | with_reducible apply At.dr)) hb11
  replace k_b : At v11 (w.heap.size + 1) 23 #[.int .i64 bl, .int .i64 bh] := At.bel (by repeat (first | with_reducible assumption | with_reducible apply At.put0 | with_reducible apply At.put1 | with_reducible refine At.far ?_ (by dsimp only; omega) _ | with_reducible apply At.al | with_reducible apply At.drw | with_reducible apply At.dr)) hb11
  replace k_c : At v11 (g_c) 23 #[.int .i64 cl, .int .i64 ch] := At.bel (by repeat (first | with_reducible assumption | with_reducible apply At.put0 | with_reducible apply At.put1 | with_reducible refine At.far ?_ (by dsimp only; omega) _ | with_reducible apply At.al | with_reducible apply At.drw | with_reducible apply At.dr)) hb11
  replace k_d : At v11 (g_d) 23 #[.int .i64 dl, .int .i64 dh] := At.bel (by repeat (first | with_reducible assumption | with_reducible apply At.put0 | with_reducible apply At.put1 | with_reducible refine At.far ?_ (by dsimp only; omega) _ | with_reducible apply At.al | with_reducible apply At.drw | with_reducible apply At.dr)) hb11
  replace k_s : At v11 (v5.heap.size) 23 #[.int .i64 sS.1, .int .i64 sS.2.1] := At.bel (by repeat (first | with_reducible assumption | with_reducible apply At.put0 | with_reducible apply At.put1 | with_reducible refine At.far ?_ (by dsimp only; omega) _ | with_reducible apply At.al | with_reducible apply At.drw | with_reducible apply At.dr)) hb11
  replace k_t : At v11 (v6.heap.size) 23 #[.int .i64 tS.1, .int .i64 tS.2.1] := At.bel (by repeat (first | with_reducible assumption | with_reducible apply At.put0 | with_reducible apply At.put1 | with_reducible refine At.far ?_ (by dsimp only; omega) _ | with_reducible apply At.al | with_reducible apply At.drw | with_reducible apply At.dr)) hb11
  replace HB : Below w.heap.size w v11 := below_then (by repeat (first | with_reducible assumption | with_reducible exact Below.refl _ _ | with_reducible refine below_al ?_ _ | with_reducible refine below_drew ?_ | with_reducible refine below_drewN ?_ _ | with_reducible refine below_set ?_ (by dsimp only; omega) _)) hb11
  clear hb11
  have Lk_a := k_a.lt
  obtain ⟨k_a0, k_a1, k_a2, k_a3⟩ := k_a.two
  have Lk_b := k_b.lt
  obtain ⟨k_b0, k_b1, k_b2, k_b3⟩ := k_b.two
  have Lk_c := k_c.lt
  obtain ⟨k_c0, k_c1, k_c2, k_c3⟩ := k_c.two
  have Lk_d := k_d.lt
  obtain ⟨k_d0, k_d1, k_d2, k_d3⟩ := k_d.two
  have Lk_s := k_s.lt
  obtain ⟨k_s0, k_s1, k_s2, k_s3⟩ := k_s.two
  go_wp2_with fail
  refine (HM2.out _).mono ?_
  rintro e v12 ⟨rfl, hb12⟩
  clear k_a0 k_a1 k_a2 k_a3 Lk_a k_b0 k_b1 k_b2 k_b3 Lk_b k_c0 k_c1 k_c2 k_c3 Lk_c k_d0 k_d1 k_d2 k_d3 Lk_d k_s0 k_s1 k_s2 k_s3 Lk_s
  replace k_a : At v12 (w.heap.size) 23 #[.int .i64 al, .int .i64 ah] := At.bel (by repeat (first | with_reducible assumption | with_reducible apply At.put0 | with_reducible apply At.put1 | with_reducible refine At.far ?_ (by dsimp only; omega) _ | with_reducible apply At.al | with_reducible apply At.drw | with_reducible apply At.dr)) hb12
  replace k_b : At v12 (w.heap.size + 1) 23 #[.int .i64 bl, .int .i64 bh] := At.bel (by repeat (first | with_reducible assumption | with_reducible apply At.put0 | with_reducible apply At.put1 | with_reducible refine At.far ?_ (by dsimp only; omega) _ | with_reducible apply At.al | with_reducible apply At.drw | with_reducible apply At.dr)) hb12
  replace k_c : At v12 (g_c) 23 #[.int .i64 cl, .int .i64 ch] := At.bel (by repeat (first | with_reducible assumption | with_reducible apply At.put0 | with_reducible apply At.put1 | with_reducible refine At.far ?_ (by dsimp only; omega) _ | with_reducible apply At.al | with_reducible apply At.drw | with_reducible apply At.dr)) hb12
  replace k_d : At v12 (g_d) 23 #[.int .i64 dl, .int .i64 dh] := At.bel (by repeat (first | with_reducible assumption | with_reducible apply At.put0 | with_reducible apply At.put1 | with_reducible refine At.far ?_ (by dsimp only; omega) _ | with_reducible apply At.al | with_reducible apply At.drw | with_reducible apply At.dr)) hb12
  replace k_s : At v12 (v5.heap.size) 23 #[.int .i64 sM.1, .int .i64 sM.2.1] := At.bel (by repeat (first | with_reducible assumption | with_reducible apply At.put0 | with_reducible apply At.put1 | with_reducible refine At.far ?_ (by dsimp only; omega) _ | with_reducible apply At.al | with_reducible apply At.drw | with_reducible apply At.dr)) hb12
  replace k_t : At v12 (v6.heap.size) 23 #[.int .i64 tS.1, .int .i64 tS.2.1] := At.bel (by repeat (first | with_reducible assumption | with_reducible apply At.put0 | with_reducible apply At.put1 | with_reducible refine At.far ?_ (by dsimp only; omega) _ | with_reducible apply At.al | with_reducible apply At.drw | with_reducible apply At.dr)) hb12
  replace HB : Below w.heap.size w v12 := below_then (by repeat (first | with_reducible assumption | with_reducible exact Below.refl _ _ | with_reducible refine below_al ?_ _ | with_reducible refine below_drew ?_ | with_reducible refine below_drewN ?_ _ | with_reducible refine below_set ?_ (by dsimp only; omega) _)) hb12
  clear hb12
  have Lk_a := k_a.lt
  obtain ⟨k_a0, k_a1, k_a2, k_a3⟩ := k_a.two
  have Lk_b := k_b.lt
  obtain ⟨k_b0, k_b1, k_b2, k_b3⟩ := k_b.two
  have Lk_c := k_c.lt
  obtain ⟨k_c0, k_c1, k_c2, k_c3⟩ := k_c.two
  have Lk_d := k_d.lt
  obtain ⟨k_d0, k_d1, k_d2, k_d3⟩ := k_d.two
  have Lk_t := k_t.lt
  obtain ⟨k_t0, k_t1, k_t2, k_t3⟩ := k_t.two
  have Lk_s := k_s.lt
  obtain ⟨k_s0, k_s1, k_s2, k_s3⟩ := k_s.two
  go_wp2_with fail
  refine (HNM.out _).mono ?_
  rintro e v13 ⟨rfl, hb13⟩
  clear k_a0 k_a1 k_a2 k_a3 Lk_a k_b0 k_b1 k_b2 k_b3 Lk_b k_c0 k_c1 k_c2 k_c3 Lk_c k_d0 k_d1 k_d2 k_d3 Lk_d k_t0 k_t1 k_t2 k_t3 Lk_t k_s0 k_s1 k_s2 k_s3 Lk_s
  replace k_a : At v13 (w.heap.size) 23 #[.int .i64 al, .int .i64 ah] := At.bel (by repeat (first | with_reducible assumption | with_reducible apply At.put0 | with_reducible apply At.put1 | with_reducible refine At.far ?_ (by dsimp only; omega) _ | with_reducible apply At.al | with_reducible apply At.drw | with_reducible apply At.dr)) hb13
  replace k_b : At v13 (w.heap.size + 1) 23 #[.int .i64 bl, .int .i64 bh] := At.bel (by repeat (first | with_reducible assumption | with_reducible apply At.put0 | with_reducible apply At.put1 | with_reducible refine At.far ?_ (by dsimp only; omega) _ | with_reducible apply At.al | with_reducible apply At.drw | with_reducible apply At.dr)) hb13
  replace k_c : At v13 (g_c) 23 #[.int .i64 cl, .int .i64 ch] := At.bel (by repeat (first | with_reducible assumption | with_reducible apply At.put0 | with_reducible apply At.put1 | with_reducible refine At.far ?_ (by dsimp only; omega) _ | with_reducible apply At.al | with_reducible apply At.drw | with_reducible apply At.dr)) hb13
  replace k_d : At v13 (g_d) 23 #[.int .i64 dl, .int .i64 dh] := At.bel (by repeat (first | with_reducible assumption | with_reducible apply At.put0 | with_reducible apply At.put1 | with_reducible refine At.far ?_ (by dsimp only; omega) _ | with_reducible apply At.al | with_reducible apply At.drw | with_reducible apply At.dr)) hb13
  replace k_s : At v13 (v5.heap.size) 23 #[.int .i64 sM.1, .int .i64 sM.2.1] := At.bel (by repeat (first | with_reducible assumption | with_reducible apply At.put0 | with_reducible apply At.put1 | with_reducible refine At.far ?_ (by dsimp only; omega) _ | with_reducible apply At.al | with_reducible apply At.drw | with_reducible apply At.dr)) hb13
  replace k_t : At v13 (v6.heap.size) 23 #[.int .i64 tM.1, .int .i64 tM.2.1] := At.bel (by repeat (first | with_reducible assumption | with_reducible apply At.put0 | with_reducible apply At.put1 | with_reducible refine At.far ?_ (by dsimp only; omega) _ | with_reducible apply At.al | with_reducible apply At.drw | with_reducible apply At.dr)) hb13
  replace HB : Below w.heap.size w v13 := below_then (by repeat (first | with_reducible assumption | with_reducible exact Below.refl _ _ | with_reducible refine below_al ?_ _ | with_reducible refine below_drew ?_ | with_reducible refine below_drewN ?_ _ | with_reducible refine below_set ?_ (by dsimp only; omega) _)) hb13
  clear hb13
  have Lk_a := k_a.lt
  obtain ⟨k_a0, k_a1, k_a2, k_a3⟩ := k_a.two
  have Lk_b := k_b.lt
  obtain ⟨k_b0, k_b1, k_b2, k_b3⟩ := k_b.two
  have Lk_c := k_c.lt
  obtain ⟨k_c0, k_c1, k_c2, k_c3⟩ := k_c.two
  have Lk_d := k_d.lt
  obtain ⟨k_d0, k_d1, k_d2, k_d3⟩ := k_d.two
  go_wp2_with fail
  refine (HD1.out _).mono ?_
  rintro e v14 ⟨rfl, hb14⟩
  clear k_a0 k_a1 k_a2 k_a3 Lk_a k_b0 k_b1 k_b2 k_b3 Lk_b k_c0 k_c1 k_c2 k_c3 Lk_c k_d0 k_d1 k_d2 k_d3 Lk_d
  replace k_a : At v14 (w.heap.size) 23 #[.int .i64 al, .int .i64 ah] := At.bel (by repeat (first | with_reducible assumption | with_reducible apply At.put0 | with_reducible apply At.put1 | with_reducible refine At.far ?_ (by dsimp only; omega) _ | with_reducible apply At.al | with_reducible apply At.drw | with_reducible apply At.dr)) hb14
  replace k_b : At v14 (w.heap.size + 1) 23 #[.int .i64 bl, .int .i64 bh] := At.bel (by repeat (first | with_reducible assumption | with_reducible apply At.put0 | with_reducible apply At.put1 | with_reducible refine At.far ?_ (by dsimp only; omega) _ | with_reducible apply At.al | with_reducible apply At.drw | with_reducible apply At.dr)) hb14
  replace k_c : At v14 (g_c) 23 #[.int .i64 cl, .int .i64 ch] := At.bel (by repeat (first | with_reducible assumption | with_reducible apply At.put0 | with_reducible apply At.put1 | with_reducible refine At.far ?_ (by dsimp only; omega) _ | with_reducible apply At.al | with_reducible apply At.drw | with_reducible apply At.dr)) hb14
  replace k_d : At v14 (g_d) 23 #[.int .i64 dl, .int .i64 dh] := At.bel (by repeat (first | with_reducible assumption | with_reducible apply At.put0 | with_reducible apply At.put1 | with_reducible refine At.far ?_ (by dsimp only; omega) _ | with_reducible apply At.al | with_reducible apply At.drw | with_reducible apply At.dr)) hb14
  replace k_s : At v14 (v5.heap.size) 23 #[.int .i64 sM.1, .int .i64 sM.2.1] := At.bel (by repeat (first | with_reducible assumption | with_reducible apply At.put0 | with_reducible apply At.put1 | with_reducible refine At.far ?_ (by dsimp only; omega) _ | with_reducible apply At.al | with_reducible apply At.drw | with_reducible apply At.dr)) hb14
  replace k_t : At v14 (v6.heap.size) 23 #[.int .i64 tM.1, .int .i64 tM.2.1] := At.bel (by repeat (first | with_reducible assumption | with_reducible apply At.put0 | with_reducible apply At.put1 | with_reducible refine At.far ?_ (by dsimp only; omega) _ | with_reducible apply At.al | with_reducible apply At.drw | with_reducible apply At.dr)) hb14
  replace HB : Below w.heap.size w v14 := below_then (by repeat (first | with_reducible assumption | with_reducible exact Below.refl _ _ | with_reducible refine below_al ?_ _ | with_reducible refine below_drew ?_ | with_reducible refine below_drewN ?_ _ | with_reducible refine below_set ?_ (by dsimp only; omega) _)) hb14
  clear hb14
  have Lk_a := k_a.lt
  obtain ⟨k_a0, k_a1, k_a2, k_a3⟩ := k_a.two
  have Lk_b := k_b.lt
  obtain ⟨k_b0, k_b1, k_b2, k_b3⟩ := k_b.two
  have Lk_c := k_c.lt
  obtain ⟨k_c0, k_c1, k_c2, k_c3⟩ := k_c.two
  have Lk_d := k_d.lt
  obtain ⟨k_d0, k_d1, k_d2, k_d3⟩ := k_d.two
  have Lk_s := k_s.lt
  obtain ⟨k_s0, k_s1, k_s2, k_s3⟩ := k_s.two
  go_wp2_with fail
  refine (HD2.out _).mono ?_
  rintro e v15 ⟨rfl, hb15⟩
  clear k_a0 k_a1 k_a2 k_a3 Lk_a k_b0 k_b1 k_b2 k_b3 Lk_b k_c0 k_c1 k_c2 k_c3 Lk_c k_d0 k_d1 k_d2 k_d3 Lk_d k_s0 k_s1 k_s2 k_s3 Lk_s
  replace k_a : At v15 (w.heap.size) 23 #[.int .i64 al, .int .i64 ah] := At.bel (by repeat (first | with_reducible assumption | with_reducible apply At.put0 | with_reducible apply At.put1 | with_reducible refine At.far ?_ (by dsimp only; omega) _ | with_reducible apply At.al | with_reducible apply At.drw | with_reducible apply At.dr)) hb15
  replace k_b : At v15 (w.heap.size + 1) 23 #[.int .i64 bl, .int .i64 bh] := At.bel (by repeat (first | with_reducible assumption | with_reducible apply At.put0 | with_reducible apply At.put1 | with_reducible refine At.far ?_ (by dsimp only; omega) _ | with_reducible apply At.al | with_reducible apply At.drw | with_reducible apply At.dr)) hb15
  replace k_c : At v15 (g_c) 23 #[.int .i64 cl, .int .i64 ch] := At.bel (by repeat (first | with_reducible assumption | with_reducible apply At.put0 | with_reducible apply At.put1 | with_reducible refine At.far ?_ (by dsimp only; omega) _ | with_reducible apply At.al | with_reducible apply At.drw | with_reducible apply At.dr)) hb15
  replace k_d : At v15 (g_d) 23 #[.int .i64 dl, .int .i64 dh] := At.bel (by repeat (first | with_reducible assumption | with_reducible apply At.put0 | with_reducible apply At.put1 | with_reducible refine At.far ?_ (by dsimp only; omega) _ | with_reducible apply At.al | with_reducible apply At.drw | with_reducible apply At.dr)) hb15
  replace k_s : At v15 (v5.heap.size) 23 #[.int .i64 sD.1, .int .i64 sD.2.1] := At.bel (by repeat (first | with_reducible assumption | with_reducible apply At.put0 | with_reducible apply At.put1 | with_reducible refine At.far ?_ (by dsimp only; omega) _ | with_reducible apply At.al | with_reducible apply At.drw | with_reducible apply At.dr)) hb15
  replace k_t : At v15 (v6.heap.size) 23 #[.int .i64 tM.1, .int .i64 tM.2.1] := At.bel (by repeat (first | with_reducible assumption | with_reducible apply At.put0 | with_reducible apply At.put1 | with_reducible refine At.far ?_ (by dsimp only; omega) _ | with_reducible apply At.al | with_reducible apply At.drw | with_reducible apply At.dr)) hb15
  replace HB : Below w.heap.size w v15 := below_then (by repeat (first | with_reducible assumption | with_reducible exact Below.refl _ _ | with_reducible refine below_al ?_ _ | with_reducible refine below_drew ?_ | with_reducible refine below_drewN ?_ _ | with_reducible refine below_set ?_ (by dsimp only; omega) _)) hb15
  clear hb15
  have Lk_a := k_a.lt
  obtain ⟨k_a0, k_a1, k_a2, k_a3⟩ := k_a.two
  have Lk_b := k_b.lt
  obtain ⟨k_b0, k_b1, k_b2, k_b3⟩ := k_b.two
  have Lk_c := k_c.lt
  obtain ⟨k_c0, k_c1, k_c2, k_c3⟩ := k_c.two
  have Lk_d := k_d.lt
  obtain ⟨k_d0, k_d1, k_d2, k_d3⟩ := k_d.two
  have Lk_t := k_t.lt
  obtain ⟨k_t0, k_t1, k_t2, k_t3⟩ := k_t.two
  have Lk_s := k_s.lt
  obtain ⟨k_s0, k_s1, k_s2, k_s3⟩ := k_s.two
  go_wp2_with fail
  refine (HND.out _).mono ?_
  rintro e v16 ⟨rfl, hb16⟩
  clear k_a0 k_a1 k_a2 k_a3 Lk_a k_b0 k_b1 k_b2 k_b3 Lk_b k_c0 k_c1 k_c2 k_c3 Lk_c k_d0 k_d1 k_d2 k_d3 Lk_d k_t0 k_t1 k_t2 k_t3 Lk_t k_s0 k_s1 k_s2 k_s3 Lk_s
  replace k_a : At v16 (w.heap.size) 23 #[.int .i64 al, .int .i64 ah] := At.bel (by repeat (first | with_reducible assumption | with_reducible apply At.put0 | with_reducible apply At.put1 | with_reducible refine At.far ?_ (by dsimp only; omega) _ | with_reducible apply At.al | with_reducible apply At.drw | with_reducible apply At.dr)) hb16
  replace k_b : At v16 (w.heap.size + 1) 23 #[.int .i64 bl, .int .i64 bh] := At.bel (by repeat (first | with_reducible assumption | with_reducible apply At.put0 | with_reducible apply At.put1 | with_reducible refine At.far ?_ (by dsimp only; omega) _ | with_reducible apply At.al | with_reducible apply At.drw | with_reducible apply At.dr)) hb16
  replace k_c : At v16 (g_c) 23 #[.int .i64 cl, .int .i64 ch] := At.bel (by repeat (first | with_reducible assumption | with_reducible apply At.put0 | with_reducible apply At.put1 | with_reducible refine At.far ?_ (by dsimp only; omega) _ | with_reducible apply At.al | with_reducible apply At.drw | with_reducible apply At.dr)) hb16
  replace k_d : At v16 (g_d) 23 #[.int .i64 dl, .int .i64 dh] := At.bel (by repeat (first | with_reducible assumption | with_reducible apply At.put0 | with_reducible apply At.put1 | with_reducible refine At.far ?_ (by dsimp only; omega) _ | with_reducible apply At.al | with_reducible apply At.drw | with_reducible apply At.dr)) hb16
  replace k_s : At v16 (v5.heap.size) 23 #[.int .i64 sD.1, .int .i64 sD.2.1] := At.bel (by repeat (first | with_reducible assumption | with_reducible apply At.put0 | with_reducible apply At.put1 | with_reducible refine At.far ?_ (by dsimp only; omega) _ | with_reducible apply At.al | with_reducible apply At.drw | with_reducible apply At.dr)) hb16
  replace k_t : At v16 (v6.heap.size) 23 #[.int .i64 tD.1, .int .i64 tD.2.1] := At.bel (by repeat (first | with_reducible assumption | with_reducible apply At.put0 | with_reducible apply At.put1 | with_reducible refine At.far ?_ (by dsimp only; omega) _ | with_reducible apply At.al | with_reducible apply At.drw | with_reducible apply At.dr)) hb16
  replace HB : Below w.heap.size w v16 := below_then (by repeat (first | with_reducible assumption | with_reducible exact Below.refl _ _ | with_reducible refine below_al ?_ _ | with_reducible refine below_drew ?_ | with_reducible refine below_drewN ?_ _ | with_reducible refine below_set ?_ (by dsimp only; omega) _)) hb16
  clear hb16
  have Lk_a := k_a.lt
  obtain ⟨k_a0, k_a1, k_a2, k_a3⟩ := k_a.two
  have Lk_b := k_b.lt
  obtain ⟨k_b0, k_b1, k_b2, k_b3⟩ := k_b.two
  have Lk_c := k_c.lt
  obtain ⟨k_c0, k_c1, k_c2, k_c3⟩ := k_c.two
  have Lk_d := k_d.lt
  obtain ⟨k_d0, k_d1, k_d2, k_d3⟩ := k_d.two
  go_wp2_with fail
  refine (HR1.out _).mono ?_
  rintro e v17 ⟨rfl, hb17⟩
  clear k_a0 k_a1 k_a2 k_a3 Lk_a k_b0 k_b1 k_b2 k_b3 Lk_b k_c0 k_c1 k_c2 k_c3 Lk_c k_d0 k_d1 k_d2 k_d3 Lk_d
  replace k_a : At v17 (w.heap.size) 23 #[.int .i64 al, .int .i64 ah] := At.bel (by repeat (first | with_reducible assumption | with_reducible apply At.put0 | with_reducible apply At.put1 | with_reducible refine At.far ?_ (by dsimp only; omega) _ | with_reducible apply At.al | with_reducible apply At.drw | with_reducible apply At.dr)) hb17
  replace k_b : At v17 (w.heap.size + 1) 23 #[.int .i64 bl, .int .i64 bh] := At.bel (by repeat (first | with_reducible assumption | with_reducible apply At.put0 | with_reducible apply At.put1 | with_reducible refine At.far ?_ (by dsimp only; omega) _ | with_reducible apply At.al | with_reducible apply At.drw | with_reducible apply At.dr)) hb17
  replace k_c : At v17 (g_c) 23 #[.int .i64 cl, .int .i64 ch] := At.bel (by repeat (first | with_reducible assumption | with_reducible apply At.put0 | with_reducible apply At.put1 | with_reducible refine At.far ?_ (by dsimp only; omega) _ | with_reducible apply At.al | with_reducible apply At.drw | with_reducible apply At.dr)) hb17
  replace k_d : At v17 (g_d) 23 #[.int .i64 dl, .int .i64 dh] := At.bel (by repeat (first | with_reducible assumption | with_reducible apply At.put0 | with_reducible apply At.put1 | with_reducible refine At.far ?_ (by dsimp only; omega) _ | with_reducible apply At.al | with_reducible apply At.drw | with_reducible apply At.dr)) hb17
  replace k_s : At v17 (v5.heap.size) 23 #[.int .i64 sD.1, .int .i64 sD.2.1] := At.bel (by repeat (first | with_reducible assumption | with_reducible apply At.put0 | with_reducible apply At.put1 | with_reducible refine At.far ?_ (by dsimp only; omega) _ | with_reducible apply At.al | with_reducible apply At.drw | with_reducible apply At.dr)) hb17
  replace k_t : At v17 (v6.heap.size) 23 #[.int .i64 tD.1, .int .i64 tD.2.1] := At.bel (by repeat (first | with_reducible assumption | with_reducible apply At.put0 | with_reducible apply At.put1 | with_reducible refine At.far ?_ (by dsimp only; omega) _ | with_reducible apply At.al | with_reducible apply At.drw | with_reducible apply At.dr)) hb17
  replace HB : Below w.heap.size w v17 := below_then (by repeat (first | with_reducible assumption | with_reducible exact Below.refl _ _ | with_reducible refine below_al ?_ _ | with_reducible refine below_drew ?_ | with_reducible refine below_drewN ?_ _ | with_reducible refine below_set ?_ (by dsimp only; omega) _)) hb17
  clear hb17
  have Lk_a := k_a.lt
  obtain ⟨k_a0, k_a1, k_a2, k_a3⟩ := k_a.two
  have Lk_b := k_b.lt
  obtain ⟨k_b0, k_b1, k_b2, k_b3⟩ := k_b.two
  have Lk_c := k_c.lt
  obtain ⟨k_c0, k_c1, k_c2, k_c3⟩ := k_c.two
  have Lk_d := k_d.lt
  obtain ⟨k_d0, k_d1, k_d2, k_d3⟩ := k_d.two
  have Lk_s := k_s.lt
  obtain ⟨k_s0, k_s1, k_s2, k_s3⟩ := k_s.two
  go_wp2_with fail
  refine (HR2.out _).mono ?_
  rintro e v18 ⟨rfl, hb18⟩
  clear k_a0 k_a1 k_a2 k_a3 Lk_a k_b0 k_b1 k_b2 k_b3 Lk_b k_c0 k_c1 k_c2 k_c3 Lk_c k_d0 k_d1 k_d2 k_d3 Lk_d k_s0 k_s1 k_s2 k_s3 Lk_s
  replace k_a : At v18 (w.heap.size) 23 #[.int .i64 al, .int .i64 ah] := At.bel (by repeat (first | with_reducible assumption | with_reducible apply At.put0 | with_reducible apply At.put1 | with_reducible refine At.far ?_ (by dsimp only; omega) _ | with_reducible apply At.al | with_reducible apply At.drw | with_reducible apply At.dr)) hb18
  replace k_b : At v18 (w.heap.size + 1) 23 #[.int .i64 bl, .int .i64 bh] := At.bel (by repeat (first | with_reducible assumption | with_reducible apply At.put0 | with_reducible apply At.put1 | with_reducible refine At.far ?_ (by dsimp only; omega) _ | with_reducible apply At.al | with_reducible apply At.drw | with_reducible apply At.dr)) hb18
  replace k_c : At v18 (g_c) 23 #[.int .i64 cl, .int .i64 ch] := At.bel (by repeat (first | with_reducible assumption | with_reducible apply At.put0 | with_reducible apply At.put1 | with_reducible refine At.far ?_ (by dsimp only; omega) _ | with_reducible apply At.al | with_reducible apply At.drw | with_reducible apply At.dr)) hb18
  replace k_d : At v18 (g_d) 23 #[.int .i64 dl, .int .i64 dh] := At.bel (by repeat (first | with_reducible assumption | with_reducible apply At.put0 | with_reducible apply At.put1 | with_reducible refine At.far ?_ (by dsimp only; omega) _ | with_reducible apply At.al | with_reducible apply At.drw | with_reducible apply At.dr)) hb18
  replace k_s : At v18 (v5.heap.size) 23 #[.int .i64 sR.1, .int .i64 sR.2.1] := At.bel (by repeat (first | with_reducible assumption | with_reducible apply At.put0 | with_reducible apply At.put1 | with_reducible refine At.far ?_ (by dsimp only; omega) _ | with_reducible apply At.al | with_reducible apply At.drw | with_reducible apply At.dr)) hb18
  replace k_t : At v18 (v6.heap.size) 23 #[.int .i64 tD.1, .int .i64 tD.2.1] := At.bel (by repeat (first | with_reducible assumption | with_reducible apply At.put0 | with_reducible apply At.put1 | with_reducible refine At.far ?_ (by dsimp only; omega) _ | with_reducible apply At.al | with_reducible apply At.drw | with_reducible apply At.dr)) hb18
  replace HB : Below w.heap.size w v18 := below_then (by repeat (first | with_reducible assumption | with_reducible exact Below.refl _ _ | with_reducible refine below_al ?_ _ | with_reducible refine below_drew ?_ | with_reducible refine below_drewN ?_ _ | with_reducible refine below_set ?_ (by dsimp only; omega) _)) hb18
  clear hb18
  have Lk_a := k_a.lt
  obtain ⟨k_a0, k_a1, k_a2, k_a3⟩ := k_a.two
  have Lk_b := k_b.lt
  obtain ⟨k_b0, k_b1, k_b2, k_b3⟩ := k_b.two
  have Lk_c := k_c.lt
  obtain ⟨k_c0, k_c1, k_c2, k_c3⟩ := k_c.two
  have Lk_d := k_d.lt
  obtain ⟨k_d0, k_d1, k_d2, k_d3⟩ := k_d.two
  have Lk_t := k_t.lt
  obtain ⟨k_t0, k_t1, k_t2, k_t3⟩ := k_t.two
  have Lk_s := k_s.lt
  obtain ⟨k_s0, k_s1, k_s2, k_s3⟩ := k_s.two
  go_wp2_with fail
  refine (HNR.out _).mono ?_
  rintro e v19 ⟨rfl, hb19⟩
  clear k_a0 k_a1 k_a2 k_a3 Lk_a k_b0 k_b1 k_b2 k_b3 Lk_b k_c0 k_c1 k_c2 k_c3 Lk_c k_d0 k_d1 k_d2 k_d3 Lk_d k_t0 k_t1 k_t2 k_t3 Lk_t k_s0 k_s1 k_s2 k_s3 Lk_s
  replace k_a : At v19 (w.heap.size) 23 #[.int .i64 al, .int .i64 ah] := At.bel (by repeat (first | with_reducible assumption | with_reducible apply At.put0 | with_reducible apply At.put1 | with_reducible refine At.far ?_ (by dsimp only; omega) _ | with_reducible apply At.al | with_reducible apply At.drw | with_reducible apply At.dr)) hb19
  replace k_b : At v19 (w.heap.size + 1) 23 #[.int .i64 bl, .int .i64 bh] := At.bel (by repeat (first | with_reducible assumption | with_reducible apply At.put0 | with_reducible apply At.put1 | with_reducible refine At.far ?_ (by dsimp only; omega) _ | with_reducible apply At.al | with_reducible apply At.drw | with_reducible apply At.dr)) hb19
  replace k_c : At v19 (g_c) 23 #[.int .i64 cl, .int .i64 ch] := At.bel (by repeat (first | with_reducible assumption | with_reducible apply At.put0 | with_reducible apply At.put1 | with_reducible refine At.far ?_ (by dsimp only; omega) _ | with_reducible apply At.al | with_reducible apply At.drw | with_reducible apply At.dr)) hb19
  replace k_d : At v19 (g_d) 23 #[.int .i64 dl, .int .i64 dh] := At.bel (by repeat (first | with_reducible assumption | with_reducible apply At.put0 | with_reducible apply At.put1 | with_reducible refine At.far ?_ (by dsimp only; omega) _ | with_reducible apply At.al | with_reducible apply At.drw | with_reducible apply At.dr)) hb19
  replace k_s : At v19 (v5.heap.size) 23 #[.int .i64 sR.1, .int .i64 sR.2.1] := At.bel (by repeat (first | with_reducible assumption | with_reducible apply At.put0 | with_reducible apply At.put1 | with_reducible refine At.far ?_ (by dsimp only; omega) _ | with_reducible apply At.al | with_reducible apply At.drw | with_reducible apply At.dr)) hb19
  replace k_t : At v19 (v6.heap.size) 23 #[.int .i64 tR.1, .int .i64 tR.2.1] := At.bel (by repeat (first | with_reducible assumption | with_reducible apply At.put0 | with_reducible apply At.put1 | with_reducible refine At.far ?_ (by dsimp only; omega) _ | with_reducible apply At.al | with_reducible apply At.drw | with_reducible apply At.dr)) hb19
  replace HB : Below w.heap.size w v19 := below_then (by repeat (first | with_reducible assumption | with_reducible exact Below.refl _ _ | with_reducible refine below_al ?_ _ | with_reducible refine below_drew ?_ | with_reducible refine below_drewN ?_ _ | with_reducible refine below_set ?_ (by dsimp only; omega) _)) hb19
  clear hb19
  have Lk_a := k_a.lt
  obtain ⟨k_a0, k_a1, k_a2, k_a3⟩ := k_a.two
  have Lk_b := k_b.lt
  obtain ⟨k_b0, k_b1, k_b2, k_b3⟩ := k_b.two
  have Lk_c := k_c.lt
  obtain ⟨k_c0, k_c1, k_c2, k_c3⟩ := k_c.two
  have Lk_d := k_d.lt
  obtain ⟨k_d0, k_d1, k_d2, k_d3⟩ := k_d.two
  go_wp2_with fail
  go_ret
  exact ⟨rfl, (by repeat (first | with_reducible assumption | with_reducible exact Below.refl _ _ | with_reducible refine below_al ?_ _ | with_reducible refine below_drew ?_ | with_reducible refine below_drewN ?_ _ | with_reducible refine below_set ?_ (by dsimp only; omega) _))⟩

end Go.Proofs.Ytgipfmleefojbaa
