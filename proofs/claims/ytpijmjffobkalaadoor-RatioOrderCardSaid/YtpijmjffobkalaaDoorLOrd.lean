/- RatioOrder's walk: it returns true. -/
import Derived.Test.YtpijmjffobkalaaDoorLOrdlt
import Derived.Test.YtpijmjffobkalaaDoorLOrdeq
import Derived.Test.YtpijmjffobkalaaDoorLOrdgt
set_option linter.unusedVariables false
namespace Go.Proofs.YtpijmjffobkalaaDoor
open Go.ChangeShapes Go.WideShapes Go.ChangeAt Go.RowKit

set_option maxRecDepth 100000 in
set_option maxHeartbeats 8000000 in
theorem order_bad (an ad bn bd cn cd : Int) (w : World)
    (HW : Hid (∀ u, Below w.heap.size w u → Calls Tryd.prog 11 #[] u fun e w' => e = .returned (.bool true) ∧ Below u.heap.size u w'))
    (HK : Hid (∀ w, Calls Tryd.prog 25 #[.agg #[.int .i64 an, .int .i64 ad], .agg #[.int .i64 bn, .int .i64 bd]] w fun e w' => e = .returned (cmv (0, 1)) ∧ Below w.heap.size w w'))
    (HL : Hid (∀ w, Calls Tryd.prog 25 #[.agg #[.int .i64 bn, .int .i64 bd], .agg #[.int .i64 an, .int .i64 ad]] w fun e w' => e = .returned (cmv (0, 1)) ∧ Below w.heap.size w w')) :
    Calls Tryd.prog 6 #[.agg #[.int .i64 an, .int .i64 ad], .agg #[.int .i64 bn, .int .i64 bd], .agg #[.int .i64 cn, .int .i64 cd]] w fun e w' => e = .returned (.bool true) ∧ Below w.heap.size w w' := by
  go_enter Tryd.func6, Tryd.ntmps6
  go_wp2_with fail
  refine (HW.out _ (by repeat (first | with_reducible assumption | with_reducible exact Below.refl _ _ | with_reducible refine below_al ?_ _ | with_reducible refine below_drew ?_ | with_reducible refine below_drewN ?_ _ | with_reducible refine below_set ?_ (by dsimp only; omega) _))).mono ?_
  rintro e v1 ⟨rfl, hb1⟩
  have k_a : At v1 (w.heap.size) 23 #[.int .i64 an, .int .i64 ad] := At.bel (by (repeat (first | (with_reducible apply At.new'; (focus (simp; done))) | with_reducible apply At.al | with_reducible apply At.drw | with_reducible apply At.dr))) hb1
  have k_b : At v1 (w.heap.size + 1) 23 #[.int .i64 bn, .int .i64 bd] := At.bel (by (repeat (first | (with_reducible apply At.new'; (focus (simp; done))) | with_reducible apply At.al | with_reducible apply At.drw | with_reducible apply At.dr))) hb1
  have k_c : At v1 (w.heap.size + 1 + 1) 23 #[.int .i64 cn, .int .i64 cd] := At.bel (by (repeat (first | (with_reducible apply At.new'; (focus (simp; done))) | with_reducible apply At.al | with_reducible apply At.drw | with_reducible apply At.dr))) hb1
  have HB : Below w.heap.size w v1 := below_then (by repeat (first | with_reducible assumption | with_reducible exact Below.refl _ _ | with_reducible refine below_al ?_ _ | with_reducible refine below_drew ?_ | with_reducible refine below_drewN ?_ _ | with_reducible refine below_set ?_ (by dsimp only; omega) _)) hb1
  clear hb1
  have Lk_a := k_a.lt
  obtain ⟨k_a0, k_a1, k_a2, k_a3⟩ := k_a.two
  have Lk_b := k_b.lt
  obtain ⟨k_b0, k_b1, k_b2, k_b3⟩ := k_b.two
  have Lk_c := k_c.lt
  obtain ⟨k_c0, k_c1, k_c2, k_c3⟩ := k_c.two
  go_wp2_with fail
  refine (HK.out _).mono ?_
  rintro e v2 ⟨rfl, hb2⟩
  clear k_a0 k_a1 k_a2 k_a3 Lk_a k_b0 k_b1 k_b2 k_b3 Lk_b k_c0 k_c1 k_c2 k_c3 Lk_c
  replace k_a : At v2 (w.heap.size) 23 #[.int .i64 an, .int .i64 ad] := At.bel (by repeat (first | with_reducible assumption | with_reducible apply At.put0 | with_reducible apply At.put1 | with_reducible refine At.far ?_ (by dsimp only; omega) _ | with_reducible apply At.al | with_reducible apply At.drw | with_reducible apply At.dr)) hb2
  replace k_b : At v2 (w.heap.size + 1) 23 #[.int .i64 bn, .int .i64 bd] := At.bel (by repeat (first | with_reducible assumption | with_reducible apply At.put0 | with_reducible apply At.put1 | with_reducible refine At.far ?_ (by dsimp only; omega) _ | with_reducible apply At.al | with_reducible apply At.drw | with_reducible apply At.dr)) hb2
  replace k_c : At v2 (w.heap.size + 1 + 1) 23 #[.int .i64 cn, .int .i64 cd] := At.bel (by repeat (first | with_reducible assumption | with_reducible apply At.put0 | with_reducible apply At.put1 | with_reducible refine At.far ?_ (by dsimp only; omega) _ | with_reducible apply At.al | with_reducible apply At.drw | with_reducible apply At.dr)) hb2
  replace HB : Below w.heap.size w v2 := below_then (by repeat (first | with_reducible assumption | with_reducible exact Below.refl _ _ | with_reducible refine below_al ?_ _ | with_reducible refine below_drew ?_ | with_reducible refine below_drewN ?_ _ | with_reducible refine below_set ?_ (by dsimp only; omega) _)) hb2
  clear hb2
  have Lk_a := k_a.lt
  obtain ⟨k_a0, k_a1, k_a2, k_a3⟩ := k_a.two
  have Lk_b := k_b.lt
  obtain ⟨k_b0, k_b1, k_b2, k_b3⟩ := k_b.two
  have Lk_c := k_c.lt
  obtain ⟨k_c0, k_c1, k_c2, k_c3⟩ := k_c.two
  go_wp2_with fail
  refine (HL.out _).mono ?_
  rintro e v3 ⟨rfl, hb3⟩
  clear k_a0 k_a1 k_a2 k_a3 Lk_a k_b0 k_b1 k_b2 k_b3 Lk_b k_c0 k_c1 k_c2 k_c3 Lk_c
  replace k_a : At v3 (w.heap.size) 23 #[.int .i64 an, .int .i64 ad] := At.bel (by repeat (first | with_reducible assumption | with_reducible apply At.put0 | with_reducible apply At.put1 | with_reducible refine At.far ?_ (by dsimp only; omega) _ | with_reducible apply At.al | with_reducible apply At.drw | with_reducible apply At.dr)) hb3
  replace k_b : At v3 (w.heap.size + 1) 23 #[.int .i64 bn, .int .i64 bd] := At.bel (by repeat (first | with_reducible assumption | with_reducible apply At.put0 | with_reducible apply At.put1 | with_reducible refine At.far ?_ (by dsimp only; omega) _ | with_reducible apply At.al | with_reducible apply At.drw | with_reducible apply At.dr)) hb3
  replace k_c : At v3 (w.heap.size + 1 + 1) 23 #[.int .i64 cn, .int .i64 cd] := At.bel (by repeat (first | with_reducible assumption | with_reducible apply At.put0 | with_reducible apply At.put1 | with_reducible refine At.far ?_ (by dsimp only; omega) _ | with_reducible apply At.al | with_reducible apply At.drw | with_reducible apply At.dr)) hb3
  replace HB : Below w.heap.size w v3 := below_then (by repeat (first | with_reducible assumption | with_reducible exact Below.refl _ _ | with_reducible refine below_al ?_ _ | with_reducible refine below_drew ?_ | with_reducible refine below_drewN ?_ _ | with_reducible refine below_set ?_ (by dsimp only; omega) _)) hb3
  clear hb3
  have Lk_a := k_a.lt
  obtain ⟨k_a0, k_a1, k_a2, k_a3⟩ := k_a.two
  have Lk_b := k_b.lt
  obtain ⟨k_b0, k_b1, k_b2, k_b3⟩ := k_b.two
  have Lk_c := k_c.lt
  obtain ⟨k_c0, k_c1, k_c2, k_c3⟩ := k_c.two
  go_wp2_with fail
  go_ret
  exact ⟨rfl, (by repeat (first | with_reducible assumption | with_reducible exact Below.refl _ _ | with_reducible refine below_al ?_ _ | with_reducible refine below_drew ?_ | with_reducible refine below_drewN ?_ _ | with_reducible refine below_set ?_ (by dsimp only; omega) _))⟩

section
variable {an ad bn bd cn cd : Int}
theorem ord_nz (e : Int) (h : e = 1 ∨ e = 5) : (e == 0) = false := by rcases h with rfl | rfl <;> rfl
theorem ord_sub {d1 d2 de : Int} (h1 : fracB an ad = true) (h2 : fracB bn bd = true) (hs : rsubS an ad bn bd = (d1, d2, de)) : (de == 0) = false ∨ de = 0 ∧ cmpI d1 0 = cmpI (an * bd) (bn * ad) := by
  rw [rsubZ h1 h2] at hs
  rcases redZ_or (an * bd - bn * ad) (ad * bd) (dpos2 h1 h2) with ⟨p, q, k1, k2, k3⟩ | k
  · rw [k1] at hs
    simp only [Prod.mk.injEq] at hs
    obtain ⟨rfl, rfl, rfl⟩ := hs
    refine .inr ⟨rfl, cmpI_scale (dpos2 h1 h2) (show 0 < q by have := k2.1; omega) ?_⟩
    rw [Int.sub_zero]
    exact k3
  · rw [k] at hs
    simp only [Prod.mk.injEq] at hs
    obtain ⟨rfl, rfl, rfl⟩ := hs
    exact .inl rfl
theorem ord_add {x1 x2 xe y1 y2 ye : Int} (hx : raddS an ad cn cd = (x1, x2, xe)) (hy : raddS bn bd cn cd = (y1, y2, ye)) :
    (xe == 0) = false ∨ xe = 0 ∧ (ye == 0) = false ∨ xe = 0 ∧ ye = 0 ∧ rcmpS x1 x2 y1 y2 = (cmpI (an * bd) (bn * ad), 0) := by
  have o1 := raddS_or (an := an) (ad := ad) (bn := cn) (bd := cd)
  have o2 := raddS_or (an := bn) (ad := bd) (bn := cn) (bd := cd)
  rw [hx] at o1
  rw [hy] at o2
  simp only [Prod.mk.injEq] at o1 o2
  rcases o1 with ⟨_, _, ⟨rfl, rfl, e0⟩, a1, a2, a3, a4⟩ | ⟨e, ⟨_, _, e0⟩, k⟩
  · rcases o2 with ⟨_, _, ⟨rfl, rfl, e1⟩, b1, b2, b3, b4⟩ | ⟨e, ⟨_, _, e1⟩, k⟩
    · refine .inr (.inr ⟨e0, e1, ?_⟩)
      simp only [rcmpS, a3, b3, Bool.and_self, if_true]
      congr 1
      have p1 := dpos a1
      have p2 := dpos b1
      have p3 := dpos a2
      have p4 := dpos a3
      have p5 := dpos b3
      refine cmpI_scale (k := ad * bd * cd) (m := x2 * y2 * cd) (Int.mul_pos (Int.mul_pos p1 p2) p3) (Int.mul_pos (Int.mul_pos p4 p5) p3) ?_
      clear hx hy a1 a2 a3 b1 b2 b3 p1 p2 p3 p4 p5
      grind
    · exact .inr (.inl ⟨e0, by rw [e1]; exact ord_nz e k⟩)
  · exact .inl (by rw [e0]; exact ord_nz e k)
theorem ord_mul {x1 x2 xe y1 y2 ye : Int} (hx : rmulS an ad cn cd = (x1, x2, xe)) (hy : rmulS bn bd cn cd = (y1, y2, ye)) :
    (xe == 0) = false ∨ xe = 0 ∧ (ye == 0) = false ∨ xe = 0 ∧ ye = 0 ∧ ((0 < cn ∧ rcmpS x1 x2 y1 y2 = (cmpI (an * bd) (bn * ad), 0)) ∨ ((¬ 0 < cn ∧ ¬ cn < 0) ∧ rcmpS x1 x2 y1 y2 = (0, 0)) ∨ ((¬ 0 < cn ∧ cn < 0) ∧ rcmpS x1 x2 y1 y2 = (-cmpI (an * bd) (bn * ad), 0))) := by
  have o1 := rmulS_or (an := an) (ad := ad) (bn := cn) (bd := cd)
  have o2 := rmulS_or (an := bn) (ad := bd) (bn := cn) (bd := cd)
  rw [hx] at o1
  rw [hy] at o2
  simp only [Prod.mk.injEq] at o1 o2
  rcases o1 with ⟨_, _, ⟨rfl, rfl, e0⟩, a1, a2, a3, a4⟩ | ⟨e, ⟨_, _, e0⟩, k⟩
  · rcases o2 with ⟨_, _, ⟨rfl, rfl, e1⟩, b1, b2, b3, b4⟩ | ⟨e, ⟨_, _, e1⟩, k⟩
    · refine .inr (.inr ⟨e0, e1, ?_⟩)
      simp only [rcmpS, a3, b3, Bool.and_self, if_true]
      have p1 := dpos a1
      have p2 := dpos b1
      have p3 := dpos a2
      have p4 := dpos a3
      have p5 := dpos b3
      have e : (x1 * y2 - y1 * x2) * (ad * bd * cd) = (an * bd - bn * ad) * (x2 * y2 * cn) := by
        clear hx hy a1 a2 a3 b1 b2 b3 p1 p2 p3 p4 p5
        grind
      have p0 := Int.mul_pos (Int.mul_pos p1 p2) p3
      have p6 := Int.mul_pos p4 p5
      rcases Int.lt_trichotomy cn 0 with c | c | c
      · refine .inr (.inr ⟨⟨by omega, c⟩, ?_⟩)
        congr 1
        rw [← cmpI_neg]
        refine cmpI_scale p0 (Int.mul_pos p6 (show 0 < -cn by omega)) ?_
        rw [e]
        clear e p0 p6 hx hy a1 a2 a3 b1 b2 b3 p1 p2 p3 p4 p5 a4 b4
        grind
      · refine .inr (.inl ⟨⟨by omega, by omega⟩, ?_⟩)
        congr 1
        rw [c, Int.mul_zero, Int.mul_zero] at e
        have : x1 * y2 - y1 * x2 = 0 := by
          rcases Int.mul_eq_zero.1 e with h | h
          · exact h
          · omega
        unfold cmpI
        split
        · omega
        · split <;> omega
      · refine .inl ⟨c, ?_⟩
        congr 1
        exact cmpI_scale p0 (Int.mul_pos p6 c) e
    · exact .inr (.inl ⟨e0, by rw [e1]; exact ord_nz e k⟩)
  · exact .inl (by rw [e0]; exact ord_nz e k)
end

theorem order_lt' (an ad bn bd cn cd : Int) (w : World) (h1 : fracB an ad = true) (h2 : fracB bn bd = true) (hk : cmpI (an * bd) (bn * ad) = (-1))
    (HW : Hid (∀ u, Below w.heap.size w u → Calls Tryd.prog 11 #[] u fun e w' => e = .returned (.bool true) ∧ Below u.heap.size u w'))
    (HK : (∀ w, Calls Tryd.prog 25 #[.agg #[.int .i64 an, .int .i64 ad], .agg #[.int .i64 bn, .int .i64 bd]] w fun e w' => e = .returned (cmv ((-1), 0)) ∧ Below w.heap.size w w')) (HL : (∀ w, Calls Tryd.prog 25 #[.agg #[.int .i64 bn, .int .i64 bd], .agg #[.int .i64 an, .int .i64 ad]] w fun e w' => e = .returned (cmv (1, 0)) ∧ Below w.heap.size w w')) :
    Calls Tryd.prog 6 #[.agg #[.int .i64 an, .int .i64 ad], .agg #[.int .i64 bn, .int .i64 bd], .agg #[.int .i64 cn, .int .i64 cd]] w fun e w' => e = .returned (.bool true) ∧ Below w.heap.size w w' := by
  rcases hd : rsubS an ad bn bd with ⟨d1, d2, de⟩
  rcases hx : raddS an ad cn cd with ⟨x1, x2, xe⟩
  rcases hy : raddS bn bd cn cd with ⟨y1, y2, ye⟩
  rcases hu : rmulS an ad cn cd with ⟨u1, u2, ue⟩
  rcases hv : rmulS bn bd cn cd with ⟨n1, n2, ve⟩
  have HD := fun w => rsub_any an ad bn bd w
  have HX := fun w => radd_any an ad cn cd w
  have HY := fun w => radd_any bn bd cn cd w
  have HM := fun w => ratiomul_any an ad cn cd w
  have HN := fun w => ratiomul_any bn bd cn cd w
  rw [hd] at HD
  rw [hx] at HX
  rw [hy] at HY
  rw [hu] at HM
  rw [hv] at HN
  refine order_lt an ad bn bd cn cd d1 d2 de x1 x2 xe y1 y2 ye u1 u2 ue n1 n2 ve (xe == 0 && ye == 0) w HW (Lib.hid HK) (Lib.hid HL) (Lib.hid (by
      by_cases q0 : an = bn
      · refine .inr ⟨q0, fun q1 => ?_⟩
        subst q0 q1
        unfold cmpI at hk
        split at hk <;> (try split at hk) <;> omega
      · exact .inl q0)) (Lib.hid HD) (Lib.hid ?_) (Lib.hid HX) (Lib.hid HY) (Lib.hid ?_) (Lib.hid ?_) (Lib.hid HM) (Lib.hid HN) (Lib.hid ?_)
  · rcases ord_sub h1 h2 hd with h | ⟨e, h⟩
    · exact .inl h
    · exact .inr ⟨e, by rw [hk] at h; unfold cmpI at h; split at h <;> (try split at h) <;> first | omega | (constructor <;> simp <;> omega)⟩
  · rcases ord_add hx hy with h | ⟨h1, h⟩ | ⟨e0, e1, h⟩
    · exact .inl ⟨h, by rw [h]; rfl⟩
    · exact .inr (.inl ⟨h1, h, by rw [h, h1]; rfl⟩)
    · exact .inr (.inr ⟨e0, e1, by rw [e0, e1]; rfl⟩)
  · rcases ord_add hx hy with h | ⟨h1, h⟩ | ⟨e0, e1, h⟩
    · exact .inl (by rw [h]; rfl)
    · exact .inl (by rw [h, h1]; rfl)
    · refine .inr ⟨by rw [e0, e1]; rfl, fun w => ?_⟩
      have := rcmp_any x1 x2 y1 y2 w
      rw [h, hk] at this
      exact this
  · rcases ord_mul hu hv with h | h | ⟨e0, e1, h⟩
    · exact .inl h
    · exact .inr (.inl h)
    · refine .inr (.inr ⟨e0, e1, ?_⟩)
      rcases h with ⟨g, h⟩ | ⟨g, h⟩ | ⟨g, h⟩
      · refine .inl ⟨by simpa using g, fun w => ?_⟩
        have := rcmp_any u1 u2 n1 n2 w
        rw [h, hk] at this
        exact this
      · refine .inr (.inl ⟨by simpa using g, fun w => ?_⟩)
        have := rcmp_any u1 u2 n1 n2 w
        rw [h] at this
        exact this
      · refine .inr (.inr ⟨by simpa using g, fun w => ?_⟩)
        have := rcmp_any u1 u2 n1 n2 w
        rw [h, hk] at this
        exact this

theorem order_eq' (an ad cn cd : Int) (w : World) (h1 : fracB an ad = true) (h2 : fracB an ad = true) (hk : cmpI (an * ad) (an * ad) = 0)
    (HW : Hid (∀ u, Below w.heap.size w u → Calls Tryd.prog 11 #[] u fun e w' => e = .returned (.bool true) ∧ Below u.heap.size u w'))
    (HK : (∀ w, Calls Tryd.prog 25 #[.agg #[.int .i64 an, .int .i64 ad], .agg #[.int .i64 an, .int .i64 ad]] w fun e w' => e = .returned (cmv (0, 0)) ∧ Below w.heap.size w w')) (HL : (∀ w, Calls Tryd.prog 25 #[.agg #[.int .i64 an, .int .i64 ad], .agg #[.int .i64 an, .int .i64 ad]] w fun e w' => e = .returned (cmv (0, 0)) ∧ Below w.heap.size w w')) :
    Calls Tryd.prog 6 #[.agg #[.int .i64 an, .int .i64 ad], .agg #[.int .i64 an, .int .i64 ad], .agg #[.int .i64 cn, .int .i64 cd]] w fun e w' => e = .returned (.bool true) ∧ Below w.heap.size w w' := by
  rcases hd : rsubS an ad an ad with ⟨d1, d2, de⟩
  rcases hx : raddS an ad cn cd with ⟨x1, x2, xe⟩
  rcases hy : raddS an ad cn cd with ⟨y1, y2, ye⟩
  rcases hu : rmulS an ad cn cd with ⟨u1, u2, ue⟩
  rcases hv : rmulS an ad cn cd with ⟨n1, n2, ve⟩
  have HD := fun w => rsub_any an ad an ad w
  have HX := fun w => radd_any an ad cn cd w
  have HY := fun w => radd_any an ad cn cd w
  have HM := fun w => ratiomul_any an ad cn cd w
  have HN := fun w => ratiomul_any an ad cn cd w
  rw [hd] at HD
  rw [hx] at HX
  rw [hy] at HY
  rw [hu] at HM
  rw [hv] at HN
  refine order_eq an ad cn cd d1 d2 de x1 x2 xe y1 y2 ye u1 u2 ue n1 n2 ve (xe == 0 && ye == 0) w HW (Lib.hid HK) (Lib.hid HL) (Lib.hid HD) (Lib.hid ?_) (Lib.hid HX) (Lib.hid HY) (Lib.hid ?_) (Lib.hid ?_) (Lib.hid HM) (Lib.hid HN) (Lib.hid ?_)
  · rcases ord_sub h1 h2 hd with h | ⟨e, h⟩
    · exact .inl h
    · exact .inr ⟨e, by rw [hk] at h; unfold cmpI at h; split at h <;> (try split at h) <;> first | omega | (constructor <;> simp <;> omega)⟩
  · rcases ord_add hx hy with h | ⟨h1, h⟩ | ⟨e0, e1, h⟩
    · exact .inl ⟨h, by rw [h]; rfl⟩
    · exact .inr (.inl ⟨h1, h, by rw [h, h1]; rfl⟩)
    · exact .inr (.inr ⟨e0, e1, by rw [e0, e1]; rfl⟩)
  · rcases ord_add hx hy with h | ⟨h1, h⟩ | ⟨e0, e1, h⟩
    · exact .inl (by rw [h]; rfl)
    · exact .inl (by rw [h, h1]; rfl)
    · refine .inr ⟨by rw [e0, e1]; rfl, fun w => ?_⟩
      have := rcmp_any x1 x2 y1 y2 w
      rw [h, hk] at this
      exact this
  · rcases ord_mul hu hv with h | h | ⟨e0, e1, h⟩
    · exact .inl h
    · exact .inr (.inl h)
    · refine .inr (.inr ⟨e0, e1, ?_⟩)
      rcases h with ⟨g, h⟩ | ⟨g, h⟩ | ⟨g, h⟩
      · refine .inl ⟨by simpa using g, fun w => ?_⟩
        have := rcmp_any u1 u2 n1 n2 w
        rw [h, hk] at this
        exact this
      · refine .inr (.inl ⟨by simpa using g, fun w => ?_⟩)
        have := rcmp_any u1 u2 n1 n2 w
        rw [h] at this
        exact this
      · refine .inr (.inr ⟨by simpa using g, fun w => ?_⟩)
        have := rcmp_any u1 u2 n1 n2 w
        rw [h, hk] at this
        exact this

theorem order_gt' (an ad bn bd cn cd : Int) (w : World) (h1 : fracB an ad = true) (h2 : fracB bn bd = true) (hk : cmpI (an * bd) (bn * ad) = 1)
    (HW : Hid (∀ u, Below w.heap.size w u → Calls Tryd.prog 11 #[] u fun e w' => e = .returned (.bool true) ∧ Below u.heap.size u w'))
    (HK : (∀ w, Calls Tryd.prog 25 #[.agg #[.int .i64 an, .int .i64 ad], .agg #[.int .i64 bn, .int .i64 bd]] w fun e w' => e = .returned (cmv (1, 0)) ∧ Below w.heap.size w w')) (HL : (∀ w, Calls Tryd.prog 25 #[.agg #[.int .i64 bn, .int .i64 bd], .agg #[.int .i64 an, .int .i64 ad]] w fun e w' => e = .returned (cmv ((-1), 0)) ∧ Below w.heap.size w w')) :
    Calls Tryd.prog 6 #[.agg #[.int .i64 an, .int .i64 ad], .agg #[.int .i64 bn, .int .i64 bd], .agg #[.int .i64 cn, .int .i64 cd]] w fun e w' => e = .returned (.bool true) ∧ Below w.heap.size w w' := by
  rcases hd : rsubS an ad bn bd with ⟨d1, d2, de⟩
  rcases hx : raddS an ad cn cd with ⟨x1, x2, xe⟩
  rcases hy : raddS bn bd cn cd with ⟨y1, y2, ye⟩
  rcases hu : rmulS an ad cn cd with ⟨u1, u2, ue⟩
  rcases hv : rmulS bn bd cn cd with ⟨n1, n2, ve⟩
  have HD := fun w => rsub_any an ad bn bd w
  have HX := fun w => radd_any an ad cn cd w
  have HY := fun w => radd_any bn bd cn cd w
  have HM := fun w => ratiomul_any an ad cn cd w
  have HN := fun w => ratiomul_any bn bd cn cd w
  rw [hd] at HD
  rw [hx] at HX
  rw [hy] at HY
  rw [hu] at HM
  rw [hv] at HN
  refine order_gt an ad bn bd cn cd d1 d2 de x1 x2 xe y1 y2 ye u1 u2 ue n1 n2 ve (xe == 0 && ye == 0) w HW (Lib.hid HK) (Lib.hid HL) (Lib.hid (by
      by_cases q0 : an = bn
      · refine .inr ⟨q0, fun q1 => ?_⟩
        subst q0 q1
        unfold cmpI at hk
        split at hk <;> (try split at hk) <;> omega
      · exact .inl q0)) (Lib.hid HD) (Lib.hid ?_) (Lib.hid HX) (Lib.hid HY) (Lib.hid ?_) (Lib.hid ?_) (Lib.hid HM) (Lib.hid HN) (Lib.hid ?_)
  · rcases ord_sub h1 h2 hd with h | ⟨e, h⟩
    · exact .inl h
    · exact .inr ⟨e, by rw [hk] at h; unfold cmpI at h; split at h <;> (try split at h) <;> first | omega | (constructor <;> simp <;> omega)⟩
  · rcases ord_add hx hy with h | ⟨h1, h⟩ | ⟨e0, e1, h⟩
    · exact .inl ⟨h, by rw [h]; rfl⟩
    · exact .inr (.inl ⟨h1, h, by rw [h, h1]; rfl⟩)
    · exact .inr (.inr ⟨e0, e1, by rw [e0, e1]; rfl⟩)
  · rcases ord_add hx hy with h | ⟨h1, h⟩ | ⟨e0, e1, h⟩
    · exact .inl (by rw [h]; rfl)
    · exact .inl (by rw [h, h1]; rfl)
    · refine .inr ⟨by rw [e0, e1]; rfl, fun w => ?_⟩
      have := rcmp_any x1 x2 y1 y2 w
      rw [h, hk] at this
      exact this
  · rcases ord_mul hu hv with h | h | ⟨e0, e1, h⟩
    · exact .inl h
    · exact .inr (.inl h)
    · refine .inr (.inr ⟨e0, e1, ?_⟩)
      rcases h with ⟨g, h⟩ | ⟨g, h⟩ | ⟨g, h⟩
      · refine .inl ⟨by simpa using g, fun w => ?_⟩
        have := rcmp_any u1 u2 n1 n2 w
        rw [h, hk] at this
        exact this
      · refine .inr (.inl ⟨by simpa using g, fun w => ?_⟩)
        have := rcmp_any u1 u2 n1 n2 w
        rw [h] at this
        exact this
      · refine .inr (.inr ⟨by simpa using g, fun w => ?_⟩)
        have := rcmp_any u1 u2 n1 n2 w
        rw [h, hk] at this
        exact this

theorem ratioOrder_walk (an ad bn bd cn cd : Int) (w : World) (ht : Tab w) :
    Calls Tryd.prog 6 #[.agg #[.int .i64 an, .int .i64 ad], .agg #[.int .i64 bn, .int .i64 bd], .agg #[.int .i64 cn, .int .i64 cd]] w fun e w' => e = .returned (.bool true) ∧ Below w.heap.size w w' := by
  have HW := Lib.hid (fun u (hb : Below w.heap.size w u) => awake_any u (ht.bel hb))
  have HK := fun w => rcmp_any an ad bn bd w
  have HL := fun w => rcmp_any bn bd an ad w
  cases h : fracB an ad && fracB bn bd
  · rw [show rcmpS an ad bn bd = (0, 1) from by simp only [rcmpS, h]; rfl] at HK
    rw [show rcmpS bn bd an ad = (0, 1) from by rw [Bool.and_comm] at h; simp only [rcmpS, h]; rfl] at HL
    exact order_bad an ad bn bd cn cd w HW (Lib.hid HK) (Lib.hid HL)
  obtain ⟨h1, h2⟩ := Bool.and_eq_true_iff.1 h
  rw [show rcmpS an ad bn bd = (cmpI (an * bd) (bn * ad), 0) from by simp [rcmpS, h1, h2]] at HK
  rw [show rcmpS bn bd an ad = (-cmpI (an * bd) (bn * ad), 0) from by rw [← cmpI_neg]; simp [rcmpS, h1, h2]] at HL
  rcases Int.lt_trichotomy (an * bd) (bn * ad) with q | q | q
  · have hk : cmpI (an * bd) (bn * ad) = -1 := if_pos q
    rw [hk] at HK HL
    exact order_lt' an ad bn bd cn cd w h1 h2 hk HW HK HL
  · obtain ⟨rfl, rfl⟩ := frc_uniq (fracB_iff.1 h1) (fracB_iff.1 h2) q
    have hk : cmpI (an * ad) (an * ad) = 0 := by simp [cmpI]
    rw [hk] at HK HL
    exact order_eq' an ad cn cd w h1 h2 hk HW HK HL
  · have hk : cmpI (an * bd) (bn * ad) = 1 := by unfold cmpI; rw [if_neg (by omega), if_pos q]
    rw [hk] at HK HL
    exact order_gt' an ad bn bd cn cd w h1 h2 hk HW HK HL

end Go.Proofs.YtpijmjffobkalaaDoor
