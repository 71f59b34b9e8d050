/- The reference's fractions: Made, Make, Neg, Times, Over. -/
import Derived.Test.YtpijmjffobkalaaDoorRaCmp
import Derived.Test.YtpijmjffobkalaaDoorGd
import Derived.Test.YtpijmjffobkalaaDoorFv
set_option linter.unusedVariables false
namespace Go.Proofs.YtpijmjffobkalaaDoor
open Go.ChangeShapes Go.WideShapes Go.ChangeAt Go.RowKit

set_option maxRecDepth 100000 in
set_option maxHeartbeats 4000000 in
theorem made_core (neg : Bool) (N D G nh nl dh dl : Nat) (r : Int × Int × Int)
    (HG : Hid (∀ w, Calls Tryd.prog 51 #[uv N, uv D] w fun e w' => e = .returned (uv G) ∧ Below w.heap.size w w'))
    (HD1 : Hid (∀ w, Calls Tryd.prog 69 #[uv N, uv G] w fun e w' => e = .returned (.tuple #[.agg #[.int .u64 (nh : Int), .int .u64 (nl : Int)], uv (N % G)]) ∧ Below w.heap.size w w'))
    (HD2 : Hid (∀ w, Calls Tryd.prog 69 #[uv D, uv G] w fun e w' => e = .returned (.tuple #[.agg #[.int .u64 (dh : Int), .int .u64 (dl : Int)], uv (D % G)]) ∧ Below w.heap.size w w'))
    (ne : Hid (((hiN D : Int) == 0) = false ∨ ((hiN D : Int) == 0) = true ∧ ((loN D : Int) == 0) = false))
    (HR : Hid ((0 : Int) < (nh : Int) ∧ r = (0, 0, 5) ∨ ¬ (0 : Int) < (nh : Int) ∧ decide ((1152921504606846976 : Int) < (nl : Int)) = true ∧ r = (0, 0, 5) ∨ ¬ (0 : Int) < (nh : Int) ∧ decide ((1152921504606846976 : Int) < (nl : Int)) = false ∧ (0 : Int) < (dh : Int) ∧ r = (0, 0, 5) ∨ ¬ (0 : Int) < (nh : Int) ∧ decide ((1152921504606846976 : Int) < (nl : Int)) = false ∧ ¬ (0 : Int) < (dh : Int) ∧ decide ((1152921504606846976 : Int) < (dl : Int)) = true ∧ r = (0, 0, 5) ∨ ¬ (0 : Int) < (nh : Int) ∧ decide ((1152921504606846976 : Int) < (nl : Int)) = false ∧ ¬ (0 : Int) < (dh : Int) ∧ decide ((1152921504606846976 : Int) < (dl : Int)) = false ∧ neg = true ∧ IntKind.i64.wrap (nl : Int) = (nl : Int) ∧ IntKind.i64.wrap (dl : Int) = (dl : Int) ∧ IntKind.i64.wrap (-(nl : Int)) = -(nl : Int) ∧ r = (-(nl : Int), (dl : Int), 0) ∨ ¬ (0 : Int) < (nh : Int) ∧ decide ((1152921504606846976 : Int) < (nl : Int)) = false ∧ ¬ (0 : Int) < (dh : Int) ∧ decide ((1152921504606846976 : Int) < (dl : Int)) = false ∧ neg = false ∧ IntKind.i64.wrap (nl : Int) = (nl : Int) ∧ IntKind.i64.wrap (dl : Int) = (dl : Int) ∧ IntKind.i64.wrap (-(nl : Int)) = -(nl : Int) ∧ r = ((nl : Int), (dl : Int), 0))) (w : World) :
    Calls Tryd.prog 48 #[uv N, .bool neg, uv D] w fun e w' => e = .returned (frv r) ∧ Below w.heap.size w w' := by
  go_enter Tryd.func48, Tryd.ntmps48
  go_upto_region 1 with fail
  go_upto_region 1 with fail
  go_cut [15] (fun s15 wd => s15 = .bool false ∧ Below w.heap.size w wd ∧ At wd (w.heap.size) 69 #[.int .u64 (hiN N : Int), .int .u64 (loN N : Int)] ∧ At wd (w.heap.size + 1) 69 #[.int .u64 (hiN D : Int), .int .u64 (loN D : Int)] ∧ At wd (w.heap.size + 1 + 1) 23 #[.int .i64 0, .int .i64 0])
  case first =>
    rcases ne.out with ne | ⟨ne, ne'⟩
    · go_wp2_with fail
      go_meet
      exact ⟨rfl, (by repeat (first | with_reducible assumption | with_reducible exact Below.refl _ _ | with_reducible refine below_al ?_ _ | with_reducible refine below_drew ?_ | with_reducible refine below_drewN ?_ _ | with_reducible refine below_set ?_ (by dsimp only; omega) _)), (by (repeat (first | (with_reducible apply At.new'; (focus (simp; done))) | with_reducible apply At.al | with_reducible apply At.drw | with_reducible apply At.dr))), (by (repeat (first | (with_reducible apply At.new'; (focus (simp; done))) | with_reducible apply At.al | with_reducible apply At.drw | with_reducible apply At.dr))), (by (repeat (first | (with_reducible apply At.new'; (focus (simp; done))) | with_reducible apply At.al | with_reducible apply At.drw | with_reducible apply At.dr)))⟩
    · go_wp2_with fail
      go_meet
      exact ⟨rfl, (by repeat (first | with_reducible assumption | with_reducible exact Below.refl _ _ | with_reducible refine below_al ?_ _ | with_reducible refine below_drew ?_ | with_reducible refine below_drewN ?_ _ | with_reducible refine below_set ?_ (by dsimp only; omega) _)), (by (repeat (first | (with_reducible apply At.new'; (focus (simp; done))) | with_reducible apply At.al | with_reducible apply At.drw | with_reducible apply At.dr))), (by (repeat (first | (with_reducible apply At.new'; (focus (simp; done))) | with_reducible apply At.al | with_reducible apply At.drw | with_reducible apply At.dr))), (by (repeat (first | (with_reducible apply At.new'; (focus (simp; done))) | with_reducible apply At.al | with_reducible apply At.drw | with_reducible apply At.dr)))⟩
  case rest =>
    obtain ⟨rfl, HB, k_n, k_d, k_o⟩ := hcut
    have Lk_n := k_n.lt
    obtain ⟨k_n0, k_n1, k_n2, k_n3⟩ := k_n.two
    have Lk_d := k_d.lt
    obtain ⟨k_d0, k_d1, k_d2, k_d3⟩ := k_d.two
    have Lk_o := k_o.lt
    obtain ⟨k_o0, k_o1, k_o2, k_o3⟩ := k_o.two
    go_wp2_with fail
    refine (HG.out _).mono ?_
    rintro e v1 ⟨rfl, hb1⟩
    clear k_n0 k_n1 k_n2 k_n3 Lk_n k_d0 k_d1 k_d2 k_d3 Lk_d k_o0 k_o1 k_o2 k_o3 Lk_o
    replace k_n : At v1 (w.heap.size) 69 #[.int .u64 (hiN N : Int), .int .u64 (loN N : Int)] := At.bel (by repeat (first | with_reducible assumption | with_reducible apply At.put0 | with_reducible apply At.put1 | with_reducible refine At.far ?_ (by dsimp only; omega) _ | with_reducible apply At.al | with_reducible apply At.drw | with_reducible apply At.dr)) hb1
    replace k_d : At v1 (w.heap.size + 1) 69 #[.int .u64 (hiN D : Int), .int .u64 (loN D : Int)] := At.bel (by repeat (first | with_reducible assumption | with_reducible apply At.put0 | with_reducible apply At.put1 | with_reducible refine At.far ?_ (by dsimp only; omega) _ | with_reducible apply At.al | with_reducible apply At.drw | with_reducible apply At.dr)) hb1
    replace k_o : At v1 (w.heap.size + 1 + 1) 23 #[.int .i64 0, .int .i64 0] := At.bel (by repeat (first | with_reducible assumption | with_reducible apply At.put0 | with_reducible apply At.put1 | with_reducible refine At.far ?_ (by dsimp only; omega) _ | with_reducible apply At.al | with_reducible apply At.drw | with_reducible apply At.dr)) hb1
    replace HB : Below w.heap.size w v1 := below_then (by repeat (first | with_reducible assumption | with_reducible exact Below.refl _ _ | with_reducible refine below_al ?_ _ | with_reducible refine below_drew ?_ | with_reducible refine below_drewN ?_ _ | with_reducible refine below_set ?_ (by dsimp only; omega) _)) hb1
    clear hb1
    have Lk_n := k_n.lt
    obtain ⟨k_n0, k_n1, k_n2, k_n3⟩ := k_n.two
    have Lk_d := k_d.lt
    obtain ⟨k_d0, k_d1, k_d2, k_d3⟩ := k_d.two
    have Lk_o := k_o.lt
    obtain ⟨k_o0, k_o1, k_o2, k_o3⟩ := k_o.two
    have O1k_n := k_n.lt
    have O1k_d := k_d.lt
    have O1k_o := k_o.lt
    go_wp2_with fail
    refine (HD1.out _).mono ?_
    rintro e v2 ⟨rfl, hb2⟩
    clear k_n0 k_n1 k_n2 k_n3 Lk_n k_d0 k_d1 k_d2 k_d3 Lk_d k_o0 k_o1 k_o2 k_o3 Lk_o
    replace k_n : At v2 (w.heap.size) 69 #[.int .u64 (hiN N : Int), .int .u64 (loN N : Int)] := At.bel (by repeat (first | with_reducible assumption | with_reducible apply At.put0 | with_reducible apply At.put1 | with_reducible refine At.far ?_ (by dsimp only; omega) _ | with_reducible apply At.al | with_reducible apply At.drw | with_reducible apply At.dr)) hb2
    replace k_d : At v2 (w.heap.size + 1) 69 #[.int .u64 (hiN D : Int), .int .u64 (loN D : Int)] := At.bel (by repeat (first | with_reducible assumption | with_reducible apply At.put0 | with_reducible apply At.put1 | with_reducible refine At.far ?_ (by dsimp only; omega) _ | with_reducible apply At.al | with_reducible apply At.drw | with_reducible apply At.dr)) hb2
    replace k_o : At v2 (w.heap.size + 1 + 1) 23 #[.int .i64 0, .int .i64 0] := At.bel (by repeat (first | with_reducible assumption | with_reducible apply At.put0 | with_reducible apply At.put1 | with_reducible refine At.far ?_ (by dsimp only; omega) _ | with_reducible apply At.al | with_reducible apply At.drw | with_reducible apply At.dr)) hb2
    have k_g : At v2 (v1.heap.size) 69 #[.int .u64 (hiN G : Int), .int .u64 (loN G : Int)] := At.bel (by (repeat (first | (with_reducible apply At.new'; (focus (simp; done))) | with_reducible apply At.al | with_reducible apply At.drw | with_reducible apply At.dr))) hb2
    replace HB : Below w.heap.size w v2 := below_then (by repeat (first | with_reducible assumption | with_reducible exact Below.refl _ _ | with_reducible refine below_al ?_ _ | with_reducible refine below_drew ?_ | with_reducible refine below_drewN ?_ _ | with_reducible refine below_set ?_ (by dsimp only; omega) _)) hb2
    clear hb2
    have Lk_n := k_n.lt
    obtain ⟨k_n0, k_n1, k_n2, k_n3⟩ := k_n.two
    have Lk_d := k_d.lt
    obtain ⟨k_d0, k_d1, k_d2, k_d3⟩ := k_d.two
    have Lk_o := k_o.lt
    obtain ⟨k_o0, k_o1, k_o2, k_o3⟩ := k_o.two
    have Lk_g := k_g.lt
    obtain ⟨k_g0, k_g1, k_g2, k_g3⟩ := k_g.two
    have O2k_n := k_n.lt
    have O2k_d := k_d.lt
    have O2k_o := k_o.lt
    have O2k_g := k_g.lt
    go_wp2_with fail
    refine (HD2.out _).mono ?_
    rintro e v3 ⟨rfl, hb3⟩
    clear k_n0 k_n1 k_n2 k_n3 Lk_n k_d0 k_d1 k_d2 k_d3 Lk_d k_o0 k_o1 k_o2 k_o3 Lk_o k_g0 k_g1 k_g2 k_g3 Lk_g
    replace k_n : At v3 (w.heap.size) 69 #[.int .u64 (hiN N : Int), .int .u64 (loN N : Int)] := At.bel (by repeat (first | with_reducible assumption | with_reducible apply At.put0 | with_reducible apply At.put1 | with_reducible refine At.far ?_ (by dsimp only; omega) _ | with_reducible apply At.al | with_reducible apply At.drw | with_reducible apply At.dr)) hb3
    replace k_d : At v3 (w.heap.size + 1) 69 #[.int .u64 (hiN D : Int), .int .u64 (loN D : Int)] := At.bel (by repeat (first | with_reducible assumption | with_reducible apply At.put0 | with_reducible apply At.put1 | with_reducible refine At.far ?_ (by dsimp only; omega) _ | with_reducible apply At.al | with_reducible apply At.drw | with_reducible apply At.dr)) hb3
    replace k_o : At v3 (w.heap.size + 1 + 1) 23 #[.int .i64 0, .int .i64 0] := At.bel (by repeat (first | with_reducible assumption | with_reducible apply At.put0 | with_reducible apply At.put1 | with_reducible refine At.far ?_ (by dsimp only; omega) _ | with_reducible apply At.al | with_reducible apply At.drw | with_reducible apply At.dr)) hb3
    replace k_g : At v3 (v1.heap.size) 69 #[.int .u64 (hiN G : Int), .int .u64 (loN G : Int)] := At.bel (by repeat (first | with_reducible assumption | with_reducible apply At.put0 | with_reducible apply At.put1 | with_reducible refine At.far ?_ (by dsimp only; omega) _ | with_reducible apply At.al | with_reducible apply At.drw | with_reducible apply At.dr)) hb3
    have k_x : At v3 (v2.heap.size) 69 #[.int .u64 (nh : Int), .int .u64 (nl : Int)] := At.bel (by (repeat (first | (with_reducible apply At.new'; (focus (simp; done))) | with_reducible apply At.al | with_reducible apply At.drw | with_reducible apply At.dr))) hb3
    have k_xr : At v3 (v2.heap.size + 1) 69 #[.int .u64 (hiN (N % G) : Int), .int .u64 (loN (N % G) : Int)] := At.bel (by (repeat (first | (with_reducible apply At.new'; (focus (simp; done))) | with_reducible apply At.al | with_reducible apply At.drw | with_reducible apply At.dr))) hb3
    replace HB : Below w.heap.size w v3 := below_then (by repeat (first | with_reducible assumption | with_reducible exact Below.refl _ _ | with_reducible refine below_al ?_ _ | with_reducible refine below_drew ?_ | with_reducible refine below_drewN ?_ _ | with_reducible refine below_set ?_ (by dsimp only; omega) _)) hb3
    clear hb3
    have Lk_n := k_n.lt
    obtain ⟨k_n0, k_n1, k_n2, k_n3⟩ := k_n.two
    have Lk_d := k_d.lt
    obtain ⟨k_d0, k_d1, k_d2, k_d3⟩ := k_d.two
    have Lk_o := k_o.lt
    obtain ⟨k_o0, k_o1, k_o2, k_o3⟩ := k_o.two
    have Lk_g := k_g.lt
    obtain ⟨k_g0, k_g1, k_g2, k_g3⟩ := k_g.two
    have O3k_n := k_n.lt
    have O3k_d := k_d.lt
    have O3k_o := k_o.lt
    have O3k_g := k_g.lt
    have O3k_x := k_x.lt
    have O3k_xr := k_xr.lt
    go_upto_region 6 with fail
    generalize hWW : World.alloc _ _ = WW
    replace k_n : At WW (w.heap.size) 69 #[.int .u64 (hiN N : Int), .int .u64 (loN N : Int)] := by rw [← hWW]; repeat (first | with_reducible assumption | with_reducible apply At.put0 | with_reducible apply At.put1 | with_reducible refine At.far ?_ (by dsimp only; omega) _ | with_reducible apply At.al | with_reducible apply At.drw | with_reducible apply At.dr)
    replace k_d : At WW (w.heap.size + 1) 69 #[.int .u64 (hiN D : Int), .int .u64 (loN D : Int)] := by rw [← hWW]; repeat (first | with_reducible assumption | with_reducible apply At.put0 | with_reducible apply At.put1 | with_reducible refine At.far ?_ (by dsimp only; omega) _ | with_reducible apply At.al | with_reducible apply At.drw | with_reducible apply At.dr)
    replace k_o : At WW (w.heap.size + 1 + 1) 23 #[.int .i64 0, .int .i64 0] := by rw [← hWW]; repeat (first | with_reducible assumption | with_reducible apply At.put0 | with_reducible apply At.put1 | with_reducible refine At.far ?_ (by dsimp only; omega) _ | with_reducible apply At.al | with_reducible apply At.drw | with_reducible apply At.dr)
    replace k_g : At WW (v1.heap.size) 69 #[.int .u64 (hiN G : Int), .int .u64 (loN G : Int)] := by rw [← hWW]; repeat (first | with_reducible assumption | with_reducible apply At.put0 | with_reducible apply At.put1 | with_reducible refine At.far ?_ (by dsimp only; omega) _ | with_reducible apply At.al | with_reducible apply At.drw | with_reducible apply At.dr)
    replace k_x : At WW (v2.heap.size) 69 #[.int .u64 (nh : Int), .int .u64 (nl : Int)] := by rw [← hWW]; repeat (first | with_reducible assumption | with_reducible apply At.put0 | with_reducible apply At.put1 | with_reducible refine At.far ?_ (by dsimp only; omega) _ | with_reducible apply At.al | with_reducible apply At.drw | with_reducible apply At.dr)
    replace k_xr : At WW (v2.heap.size + 1) 69 #[.int .u64 (hiN (N % G) : Int), .int .u64 (loN (N % G) : Int)] := by rw [← hWW]; repeat (first | with_reducible assumption | with_reducible apply At.put0 | with_reducible apply At.put1 | with_reducible refine At.far ?_ (by dsimp only; omega) _ | with_reducible apply At.al | with_reducible apply At.drw | with_reducible apply At.dr)
    have k_y : At WW (v3.heap.size) 69 #[.int .u64 (dh : Int), .int .u64 (dl : Int)] := by rw [← hWW]; (repeat (first | (with_reducible apply At.new'; (focus (simp; done))) | with_reducible apply At.al | with_reducible apply At.drw | with_reducible apply At.dr))
    have k_yr : At WW (v3.heap.size + 1) 69 #[.int .u64 (hiN (D % G) : Int), .int .u64 (loN (D % G) : Int)] := by rw [← hWW]; (repeat (first | (with_reducible apply At.new'; (focus (simp; done))) | with_reducible apply At.al | with_reducible apply At.drw | with_reducible apply At.dr))
    replace HB : Below w.heap.size w WW := by rw [← hWW]; repeat (first | with_reducible assumption | with_reducible exact Below.refl _ _ | with_reducible refine below_al ?_ _ | with_reducible refine below_drew ?_ | with_reducible refine below_drewN ?_ _ | with_reducible refine below_set ?_ (by dsimp only; omega) _)
    clear k_n0 k_n1 k_n2 k_n3 Lk_n k_d0 k_d1 k_d2 k_d3 Lk_d k_o0 k_o1 k_o2 k_o3 Lk_o k_g0 k_g1 k_g2 k_g3 Lk_g
    clear hWW
    have Lk_o := k_o.lt
    obtain ⟨k_o0, k_o1, k_o2, k_o3⟩ := k_o.two
    have Lk_x := k_x.lt
    obtain ⟨k_x0, k_x1, k_x2, k_x3⟩ := k_x.two
    have Lk_y := k_y.lt
    obtain ⟨k_y0, k_y1, k_y2, k_y3⟩ := k_y.two
    rcases HR.out with ⟨c1, hr⟩ | ⟨c1, c2, hr⟩ | ⟨c1, c2, c3, hr⟩ | ⟨c1, c2, c3, c4, hr⟩ | ⟨c1, c2, c3, c4, hn, e1, e2, e3, hr⟩ | ⟨c1, c2, c3, c4, hn, e1, e2, e3, hr⟩
    · replace hr := Lib.hid hr
      go_wp2_with fail
      exact bodyPost_ret (v := frv (0, 0, 5)) (by simp [results, Tryd.results48, go_sem, *]) rfl ⟨by rw [hr.out], (by repeat (first | with_reducible assumption | with_reducible exact Below.refl _ _ | with_reducible refine below_al ?_ _ | with_reducible refine below_drew ?_ | with_reducible refine below_drewN ?_ _ | with_reducible refine below_set ?_ (by dsimp only; omega) _))⟩
    · replace hr := Lib.hid hr
      go_wp2_with fail
      exact bodyPost_ret (v := frv (0, 0, 5)) (by simp [results, Tryd.results48, go_sem, *]) rfl ⟨by rw [hr.out], (by repeat (first | with_reducible assumption | with_reducible exact Below.refl _ _ | with_reducible refine below_al ?_ _ | with_reducible refine below_drew ?_ | with_reducible refine below_drewN ?_ _ | with_reducible refine below_set ?_ (by dsimp only; omega) _))⟩
    · replace hr := Lib.hid hr
      go_wp2_with fail
      exact bodyPost_ret (v := frv (0, 0, 5)) (by simp [results, Tryd.results48, go_sem, *]) rfl ⟨by rw [hr.out], (by repeat (first | with_reducible assumption | with_reducible exact Below.refl _ _ | with_reducible refine below_al ?_ _ | with_reducible refine below_drew ?_ | with_reducible refine below_drewN ?_ _ | with_reducible refine below_set ?_ (by dsimp only; omega) _))⟩
    · replace hr := Lib.hid hr
      go_wp2_with fail
      exact bodyPost_ret (v := frv (0, 0, 5)) (by simp [results, Tryd.results48, go_sem, *]) rfl ⟨by rw [hr.out], (by repeat (first | with_reducible assumption | with_reducible exact Below.refl _ _ | with_reducible refine below_al ?_ _ | with_reducible refine below_drew ?_ | with_reducible refine below_drewN ?_ _ | with_reducible refine below_set ?_ (by dsimp only; omega) _))⟩
    · replace hr := Lib.hid hr
      subst hn
      go_wp2_with fail
      exact bodyPost_ret (v := frv (-(nl : Int), (dl : Int), 0)) (by simp [results, Tryd.results48, go_sem, *]) rfl ⟨by rw [hr.out], (by repeat (first | with_reducible assumption | with_reducible exact Below.refl _ _ | with_reducible refine below_al ?_ _ | with_reducible refine below_drew ?_ | with_reducible refine below_drewN ?_ _ | with_reducible refine below_set ?_ (by dsimp only; omega) _))⟩
    · replace hr := Lib.hid hr
      subst hn
      go_wp2_with fail
      exact bodyPost_ret (v := frv ((nl : Int), (dl : Int), 0)) (by simp [results, Tryd.results48, go_sem, *]) rfl ⟨by rw [hr.out], (by repeat (first | with_reducible assumption | with_reducible exact Below.refl _ _ | with_reducible refine below_al ?_ _ | with_reducible refine below_drew ?_ | with_reducible refine below_drewN ?_ _ | with_reducible refine below_set ?_ (by dsimp only; omega) _))⟩
set_option maxRecDepth 100000 in
theorem made_zero (neg : Bool) (N : Nat) (w : World) :
    Calls Tryd.prog 48 #[uv N, .bool neg, .agg #[.int .u64 0, .int .u64 0]] w fun e w' => e = .returned (frv (0, 0, 16)) ∧ Below w.heap.size w w' := by
  go_enter Tryd.func48, Tryd.ntmps48
  go_wp2
  exact bodyPost_ret (v := frv (0, 0, 16)) (by simp [results, Tryd.results48, go_sem]) rfl ⟨rfl, (by repeat (first | with_reducible assumption | with_reducible exact Below.refl _ _ | with_reducible refine below_al ?_ _ | with_reducible refine below_drew ?_ | with_reducible refine below_drewN ?_ _ | with_reducible refine below_set ?_ (by dsimp only; omega) _))⟩
theorem made_any (neg : Bool) (N D : Nat) (hN : N < 340282366920938463463374607431768211456) (hD : D < 340282366920938463463374607431768211456) (h0 : 0 < D) (w : World) :
    Calls Tryd.prog 48 #[uv N, .bool neg, uv D] w fun e w' => e = .returned (frv (redS neg N D)) ∧ Below w.heap.size w w' := by
  have hg : 0 < Nat.gcd N D := Nat.gcd_pos_of_pos_right _ h0
  have hg2 : Nat.gcd N D ≤ D := Nat.gcd_le_right _ h0
  have HG := Lib.hid (fun w => gcd_all N D hN hD h0 w)
  have HD1 := Lib.hid (fun w => div_u N (Nat.gcd N D) hN (by omega) hg w)
  have HD2 := Lib.hid (fun w => div_u D (Nat.gcd N D) hD (by omega) hg w)
  have ne := Lib.hid (ne_parts h0)
  have a1 := hilo (N / Nat.gcd N D); have a2 := loN_lt (N / Nat.gcd N D)
  have b1 := hilo (D / Nat.gcd N D); have b2 := loN_lt (D / Nat.gcd N D)
  refine made_core neg N D (Nat.gcd N D) _ _ _ _ _ HG HD1 HD2 ne (Lib.hid ?_) w
  unfold redS sgnS
  generalize N / Nat.gcd N D = n at *
  generalize D / Nat.gcd N D = d at *
  generalize hiN n = nh at *
  generalize loN n = nl at *
  generalize hiN d = dh at *
  generalize loN d = dl at *
  clear HG HD1 HD2 ne
  by_cases c1 : 0 < nh
  · left
    exact ⟨by omega, by rw [if_neg (by omega)]⟩
  by_cases c2 : 1152921504606846976 < nl
  · right; left
    exact ⟨by omega, by simp; omega, by rw [if_neg (by omega)]⟩
  by_cases c3 : 0 < dh
  · right; right; left
    exact ⟨by omega, by simp; omega, by omega, by rw [if_neg (by omega)]⟩
  by_cases c4 : 1152921504606846976 < dl
  · right; right; right; left
    exact ⟨by omega, by simp; omega, by omega, by simp; omega, by rw [if_neg (by omega)]⟩
  right; right; right; right
  have e1 : n = nl := by omega
  have e2 : d = dl := by omega
  cases neg
  · right
    refine ⟨by omega, by simp; omega, by omega, by simp; omega, rfl, IntWalk.i64_in _ (by omega), IntWalk.i64_in _ (by omega), IntWalk.i64_in _ (by omega), ?_⟩
    rw [if_pos (by omega), e1, e2]
    rfl
  · left
    refine ⟨by omega, by simp; omega, by omega, by simp; omega, rfl, IntWalk.i64_in _ (by omega), IntWalk.i64_in _ (by omega), IntWalk.i64_in _ (by omega), ?_⟩
    rw [if_pos (by omega), e1, e2]
    rfl
#print axioms made_any

end Go.Proofs.YtpijmjffobkalaaDoor
