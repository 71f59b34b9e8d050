import Derived.Test.YtccakklnbhcbdaaGreatDoorRSzE
import Derived.Test.YtccakklnbhcbdaaGreatDoorRSzF
import Derived.Test.YtccakklnbhcbdaaGreatDoorRSzG
import Derived.Test.YtccakklnbhcbdaaGreatDoorRA
set_option linter.unusedVariables false
set_option linter.unusedSimpArgs false
namespace Go.Proofs.YtccakklnbhcbdaaGreatDoor
open Go.ChangeShapes Go.WideShapes Go.ChangeAt Go.RowKit
set_option maxRecDepth 100000 in
set_option maxHeartbeats 8000000 in
theorem same25_any (d d2 : Det) (p p2 : PV) (hs : d.sh) (hs2 : d2.sh) (w : World) (hv : DetV w d p) (hv2 : DetV w d2 p2) : Calls Tryz.prog 59 #[.agg (detC d p), .agg (detC d2 p2)] w fun e w' => e = .returned (.bool (decide (d = d2))) ∧ Below w.heap.size w w' := by
 have H17 := Lib.hid fun (W : World) (hb : Below w.heap.size w W) => same17_any d.boxes d.holes d2.boxes d2.holes p.vb p.vh p2.vb p2.vh W hs.boxes hs.holes hs2.boxes hs2.holes (hv.boxes.up hb) (hv.holes.up hb) (hv2.boxes.up hb) (hv2.holes.up hb)
 have H14 := Lib.hid fun (W : World) (hb : Below w.heap.size w W) => same14_any d.bars d2.bars p.vr p2.vr W hs.bars hs2.bars ⟨p.db, hv.bars.up hb, hv.nb, fun k h1 h2 => (hv.dims k h1 h2).up hb⟩ ⟨p2.db, hv2.bars.up hb, hv2.nb, fun k h1 h2 => (hv2.dims k h1 h2).up hb⟩
 have H16 := Lib.hid fun (W : World) (hb : Below w.heap.size w W) => same16_any d.runs d2.runs p.vn p2.vn W hs.runs hs2.runs (hv.runs.up hb) (hv2.runs.up hb)
 have H23 := Lib.hid fun (W : World) (hb : Below w.heap.size w W) => same23_any d.dems d2.dems p.vd p2.vd W hs.dems hs2.dems ⟨p.ds, hv.dems.up hb, hv.ns, fun k h1 h2 => (hv.steps k h1 h2).up hb⟩ ⟨p2.ds, hv2.dems.up hb, hv2.ns, fun k h1 h2 => (hv2.steps k h1 h2).up hb⟩
 obtain ⟨R, hR⟩ : ∃ R, decide (d = d2) = R := ⟨_, rfl⟩
 rw [hR]
 have hfail : Hid (d ≠ d2 → R = false) := Lib.hid fun h => by rw [← hR]; exact decide_eq_false h
 have hok : Hid (d = d2 → R = true) := Lib.hid fun h => by rw [← hR]; exact decide_eq_true h
 clear hR
 obtain ⟨a1, ac1, e1, -⟩ := hv.boxes
 obtain ⟨a2, ac2, e2, -⟩ := hv.holes
 obtain ⟨a3, ac3, e3, -⟩ := hv.bars
 obtain ⟨a4, ac4, e4, -⟩ := hv.runs
 obtain ⟨a5, ac5, e5, l5, l6, q_lp⟩ := hv.laps
 obtain ⟨a6, ac6, e6, -⟩ := hv.dems
 obtain ⟨b1, bc1, f1, -⟩ := hv2.boxes
 obtain ⟨b2, bc2, f2, -⟩ := hv2.holes
 obtain ⟨b3, bc3, f3, -⟩ := hv2.bars
 obtain ⟨b4, bc4, f4, -⟩ := hv2.runs
 obtain ⟨b5, bc5, f5, -, -, q_lp2⟩ := hv2.laps
 obtain ⟨b6, bc6, f6, -⟩ := hv2.dems
 have h_lp := Lib.hid hs.laps
 have h_lp2 := Lib.hid hs2.laps
 have g1 := hs.mem
 have g2 := hs.rule
 have g3 := hs2.mem
 have g4 := hs2.rule
 clear hs hs2 hv hv2
 obtain ⟨nm, me, bx, hl, ru, br, rn, lp, dm⟩ := d
 obtain ⟨nm2, me2, bx2, hl2, ru2, br2, rn2, lp2, dm2⟩ := d2
 obtain ⟨vt, vb, vh, vr, vn, vl, vd, db, ds⟩ := p
 obtain ⟨vt2, vb2, vh2, vr2, vn2, vl2, vd2, db2, ds2⟩ := p2
 dsimp only at *
 obtain ⟨m0, m1, m2, rfl⟩ := three g1
 obtain ⟨r0, r1, r2, r3, r4, r5, r6, r7, r8, rfl⟩ := nine g2
 obtain ⟨n0, n1, n2, rfl⟩ := three g3
 obtain ⟨s0, s1, s2, s3, s4, s5, s6, s7, s8, rfl⟩ := nine g4
 obtain ⟨M, rfl⟩ := by_ex nm
 obtain ⟨N, rfl⟩ := by_ex nm2
 obtain ⟨nl, n_lp⟩ : ∃ n, lp.length = n := ⟨_, rfl⟩
 obtain ⟨nl2, n_lp2⟩ : ∃ n, lp2.length = n := ⟨_, rfl⟩
 rw [n_lp] at e5 l5
 rw [n_lp2] at f5
 have hn9 : nl ≤ 9223372036854775807 := by omega
 generalize (br.zip db).length = nr at e3
 generalize (br2.zip db2).length = nr2 at f3
 generalize (dm.zip ds).length = nd at e6
 generalize (dm2.zip ds2).length = nd2 at f6
 subst e1 e2 e3 e4 e5 e6 f1 f2 f3 f4 f5 f6
 have hA : detC ⟨by_ M, [m0, m1, m2], bx, hl, [r0, r1, r2, r3, r4, r5, r6, r7, r8], br, rn, lp, dm⟩ ⟨vt, .slice a1 bx.length ac1, .slice a2 hl.length ac2, .slice a3 nr ac3, .slice a4 rn.length ac4, .slice a5 nl ac5, .slice a6 nd ac6, db, ds⟩ = #[.string M, .slice a1 bx.length ac1, .slice a2 hl.length ac2, .int .i64 m0, .int .i64 m1, .int .i64 m2, .slice a3 nr ac3, .slice a4 rn.length ac4, .slice a5 nl ac5, .slice a6 nd ac6, .int .i64 r0, .int .i64 r1, .int .i64 r2, .int .i64 r3, .int .i64 r4, .int .i64 r5, .int .i64 r6, .int .i64 r7, .int .i64 r8] := by
  simp [detC, encK, List.range, List.range.loop, str_mk]
 have hB : detC ⟨by_ N, [n0, n1, n2], bx2, hl2, [s0, s1, s2, s3, s4, s5, s6, s7, s8], br2, rn2, lp2, dm2⟩ ⟨vt2, .slice b1 bx2.length bc1, .slice b2 hl2.length bc2, .slice b3 nr2 bc3, .slice b4 rn2.length bc4, .slice b5 nl2 bc5, .slice b6 nd2 bc6, db2, ds2⟩ = #[.string N, .slice b1 bx2.length bc1, .slice b2 hl2.length bc2, .int .i64 n0, .int .i64 n1, .int .i64 n2, .slice b3 nr2 bc3, .slice b4 rn2.length bc4, .slice b5 nl2 bc5, .slice b6 nd2 bc6, .int .i64 s0, .int .i64 s1, .int .i64 s2, .int .i64 s3, .int .i64 s4, .int .i64 s5, .int .i64 s6, .int .i64 s7, .int .i64 s8] := by
  simp [detC, encK, List.range, List.range.loop, str_mk]
 rw [hA, hB]
 clear hA hB g1 g2 g3 g4 l5 l6
 replace n_lp := Lib.hid n_lp
 replace n_lp2 := Lib.hid n_lp2
 replace q_lp := Lib.hid q_lp
 replace q_lp2 := Lib.hid q_lp2
 go_enter Tryz.func59, Tryz.ntmps59
 go_upto_region 1 with fail
 generalize hWW : World.alloc (World.alloc w _) _ = W
 have ka : At W w.heap.size 34 #[.string M, .slice a1 bx.length ac1, .slice a2 hl.length ac2, .int .i64 m0, .int .i64 m1, .int .i64 m2, .slice a3 nr ac3, .slice a4 rn.length ac4, .slice a5 nl ac5, .slice a6 nd ac6, .int .i64 r0, .int .i64 r1, .int .i64 r2, .int .i64 r3, .int .i64 r4, .int .i64 r5, .int .i64 r6, .int .i64 r7, .int .i64 r8] := by rw [← hWW]; exact (At.new' rfl).al _
 have kb : At W (w.heap.size + 1) 34 #[.string N, .slice b1 bx2.length bc1, .slice b2 hl2.length bc2, .int .i64 n0, .int .i64 n1, .int .i64 n2, .slice b3 nr2 bc3, .slice b4 rn2.length bc4, .slice b5 nl2 bc5, .slice b6 nd2 bc6, .int .i64 s0, .int .i64 s1, .int .i64 s2, .int .i64 s3, .int .i64 s4, .int .i64 s5, .int .i64 s6, .int .i64 s7, .int .i64 s8] := by rw [← hWW]; exact At.new' (by simp)
 have HB : Hid (Below w.heap.size w W) := Lib.hid (by rw [← hWW]; exact below_al (below_al (Below.refl _ _) _) _)
 clear hWW
 refine wp_region_noPanic ?_
 refine wp_region_held_drew (S := (fun W' => Below W.heap.size W W')) (by kernel_rfl) ?_ (fun hHeld => ?_)
 ·(try dsimp only); (repeat (first | with_reducible assumption | with_reducible exact Below.refl _ _ | with_reducible refine below_al ?_ _ | with_reducible refine below_drew ?_))
 refine tak (i := 0) (v := ?_) (gt rfl) ?_ ?_
 rotate_left
 focus (intro w_ hSw; (try dsimp only at hSw); have Ka := ka.bel hSw; have Kb := kb.bel hSw; have za0 : w_.cell? ⟨w.heap.size, 0, none⟩ = some (.string M) := Ka.c 0; have za1 : w_.cell? ⟨w.heap.size, 1, none⟩ = some (.slice a1 bx.length ac1) := Ka.c 1; have za2 : w_.cell? ⟨w.heap.size, 2, none⟩ = some (.slice a2 hl.length ac2) := Ka.c 2; have za3 : w_.cell? ⟨w.heap.size, 3, none⟩ = some (.int .i64 m0) := Ka.c 3; have za4 : w_.cell? ⟨w.heap.size, 4, none⟩ = some (.int .i64 m1) := Ka.c 4; have za5 : w_.cell? ⟨w.heap.size, 5, none⟩ = some (.int .i64 m2) := Ka.c 5; have zb0 : w_.cell? ⟨w.heap.size + 1, 0, none⟩ = some (.string N) := Kb.c 0; have zb1 : w_.cell? ⟨w.heap.size + 1, 1, none⟩ = some (.slice b1 bx2.length bc1) := Kb.c 1; have zb2 : w_.cell? ⟨w.heap.size + 1, 2, none⟩ = some (.slice b2 hl2.length bc2) := Kb.c 2; have zb3 : w_.cell? ⟨w.heap.size + 1, 3, none⟩ = some (.int .i64 n0) := Kb.c 3; have zb4 : w_.cell? ⟨w.heap.size + 1, 4, none⟩ = some (.int .i64 n1) := Kb.c 4; have zb5 : w_.cell? ⟨w.heap.size + 1, 5, none⟩ = some (.int .i64 n2) := Kb.c 5; go_simp; first | done | with_reducible rfl)
 (try simp only [Act.put, List.setIfInBounds_toArray, List.set_cons_zero, List.set_cons_succ])
 refine tak (i := 1) (v := ?_) (gt rfl) ?_ ?_
 rotate_left
 focus (intro w_ hSw; (try dsimp only at hSw); have Ka := ka.bel hSw; have Kb := kb.bel hSw; have za0 : w_.cell? ⟨w.heap.size, 0, none⟩ = some (.string M) := Ka.c 0; have za1 : w_.cell? ⟨w.heap.size, 1, none⟩ = some (.slice a1 bx.length ac1) := Ka.c 1; have za2 : w_.cell? ⟨w.heap.size, 2, none⟩ = some (.slice a2 hl.length ac2) := Ka.c 2; have za3 : w_.cell? ⟨w.heap.size, 3, none⟩ = some (.int .i64 m0) := Ka.c 3; have za4 : w_.cell? ⟨w.heap.size, 4, none⟩ = some (.int .i64 m1) := Ka.c 4; have za5 : w_.cell? ⟨w.heap.size, 5, none⟩ = some (.int .i64 m2) := Ka.c 5; have zb0 : w_.cell? ⟨w.heap.size + 1, 0, none⟩ = some (.string N) := Kb.c 0; have zb1 : w_.cell? ⟨w.heap.size + 1, 1, none⟩ = some (.slice b1 bx2.length bc1) := Kb.c 1; have zb2 : w_.cell? ⟨w.heap.size + 1, 2, none⟩ = some (.slice b2 hl2.length bc2) := Kb.c 2; have zb3 : w_.cell? ⟨w.heap.size + 1, 3, none⟩ = some (.int .i64 n0) := Kb.c 3; have zb4 : w_.cell? ⟨w.heap.size + 1, 4, none⟩ = some (.int .i64 n1) := Kb.c 4; have zb5 : w_.cell? ⟨w.heap.size + 1, 5, none⟩ = some (.int .i64 n2) := Kb.c 5; go_simp; first | done | with_reducible rfl)
 (try simp only [Act.put, List.setIfInBounds_toArray, List.set_cons_zero, List.set_cons_succ])
 refine tak (i := 2) (v := ?_) (gt rfl) ?_ ?_
 rotate_left
 focus (intro w_ hSw; (try dsimp only at hSw); have Ka := ka.bel hSw; have Kb := kb.bel hSw; have za0 : w_.cell? ⟨w.heap.size, 0, none⟩ = some (.string M) := Ka.c 0; have za1 : w_.cell? ⟨w.heap.size, 1, none⟩ = some (.slice a1 bx.length ac1) := Ka.c 1; have za2 : w_.cell? ⟨w.heap.size, 2, none⟩ = some (.slice a2 hl.length ac2) := Ka.c 2; have za3 : w_.cell? ⟨w.heap.size, 3, none⟩ = some (.int .i64 m0) := Ka.c 3; have za4 : w_.cell? ⟨w.heap.size, 4, none⟩ = some (.int .i64 m1) := Ka.c 4; have za5 : w_.cell? ⟨w.heap.size, 5, none⟩ = some (.int .i64 m2) := Ka.c 5; have zb0 : w_.cell? ⟨w.heap.size + 1, 0, none⟩ = some (.string N) := Kb.c 0; have zb1 : w_.cell? ⟨w.heap.size + 1, 1, none⟩ = some (.slice b1 bx2.length bc1) := Kb.c 1; have zb2 : w_.cell? ⟨w.heap.size + 1, 2, none⟩ = some (.slice b2 hl2.length bc2) := Kb.c 2; have zb3 : w_.cell? ⟨w.heap.size + 1, 3, none⟩ = some (.int .i64 n0) := Kb.c 3; have zb4 : w_.cell? ⟨w.heap.size + 1, 4, none⟩ = some (.int .i64 n1) := Kb.c 4; have zb5 : w_.cell? ⟨w.heap.size + 1, 5, none⟩ = some (.int .i64 n2) := Kb.c 5; go_simp; first | done | with_reducible rfl)
 (try simp only [Act.put, List.setIfInBounds_toArray, List.set_cons_zero, List.set_cons_succ])
 refine tak (i := 3) (v := ?_) (gt rfl) ?_ ?_
 rotate_left
 focus (intro w_ hSw; (try dsimp only at hSw); have Ka := ka.bel hSw; have Kb := kb.bel hSw; have za0 : w_.cell? ⟨w.heap.size, 0, none⟩ = some (.string M) := Ka.c 0; have za1 : w_.cell? ⟨w.heap.size, 1, none⟩ = some (.slice a1 bx.length ac1) := Ka.c 1; have za2 : w_.cell? ⟨w.heap.size, 2, none⟩ = some (.slice a2 hl.length ac2) := Ka.c 2; have za3 : w_.cell? ⟨w.heap.size, 3, none⟩ = some (.int .i64 m0) := Ka.c 3; have za4 : w_.cell? ⟨w.heap.size, 4, none⟩ = some (.int .i64 m1) := Ka.c 4; have za5 : w_.cell? ⟨w.heap.size, 5, none⟩ = some (.int .i64 m2) := Ka.c 5; have zb0 : w_.cell? ⟨w.heap.size + 1, 0, none⟩ = some (.string N) := Kb.c 0; have zb1 : w_.cell? ⟨w.heap.size + 1, 1, none⟩ = some (.slice b1 bx2.length bc1) := Kb.c 1; have zb2 : w_.cell? ⟨w.heap.size + 1, 2, none⟩ = some (.slice b2 hl2.length bc2) := Kb.c 2; have zb3 : w_.cell? ⟨w.heap.size + 1, 3, none⟩ = some (.int .i64 n0) := Kb.c 3; have zb4 : w_.cell? ⟨w.heap.size + 1, 4, none⟩ = some (.int .i64 n1) := Kb.c 4; have zb5 : w_.cell? ⟨w.heap.size + 1, 5, none⟩ = some (.int .i64 n2) := Kb.c 5; go_simp; first | done | with_reducible rfl)
 (try simp only [Act.put, List.setIfInBounds_toArray, List.set_cons_zero, List.set_cons_succ])
 refine wpAnyH_ready (rs := [4, 5]) (by kernel_rfl) (by simp) ?_
 refine AllReadyH.cons (i := 4) (gt rfl) (fun K hK => ?_) ?_
 ·go_simp
  refine hK.out _ _ ?_ (fun hHeld => ?_)
  ·(try dsimp only); (repeat (first | with_reducible assumption | with_reducible exact Below.refl _ _ | with_reducible refine below_al ?_ _ | with_reducible refine below_drew ?_))
  clear hK K
  (try simp only [Act.put, List.setIfInBounds_toArray, List.set_cons_zero, List.set_cons_succ])
  refine wpAnyH_ready (rs := [5]) (by kernel_rfl) (by simp) ?_
  refine AllReadyH.cons (i := 5) (gt rfl) (fun K hK => ?_) ?_
  ·go_simp
   refine hK.out _ _ ?_ (fun hHeld => ?_)
   ·(try dsimp only); (repeat (first | with_reducible assumption | with_reducible exact Below.refl _ _ | with_reducible refine below_al ?_ _ | with_reducible refine below_drew ?_))
   clear hK K
   (try simp only [Act.put, List.setIfInBounds_toArray, List.set_cons_zero, List.set_cons_succ])
   generalize hA2 : World.drew (World.alloc (World.alloc W _) _) = A2
   have nx : At A2 (W.heap.size) 26 #[.string ⟨#[]⟩, .slice none 0 0, .slice none 0 0, .int .i64 0, .int .i64 0, .int .i64 0] := by rw [← hA2]; exact ((At.new' (by simp)).al _).drw
   have ny : At A2 (W.heap.size + 1) 26 #[.string ⟨#[]⟩, .slice none 0 0, .slice none 0 0, .int .i64 0, .int .i64 0, .int .i64 0] := by rw [← hA2]; exact (At.new' (by simp)).drw
   have na : At A2 (w.heap.size) 34 #[.string M, .slice a1 bx.length ac1, .slice a2 hl.length ac2, .int .i64 m0, .int .i64 m1, .int .i64 m2, .slice a3 nr ac3, .slice a4 rn.length ac4, .slice a5 nl ac5, .slice a6 nd ac6, .int .i64 r0, .int .i64 r1, .int .i64 r2, .int .i64 r3, .int .i64 r4, .int .i64 r5, .int .i64 r6, .int .i64 r7, .int .i64 r8] := by rw [← hA2]; exact ((ka.al _).al _).drw
   have nb : At A2 (w.heap.size + 1) 34 #[.string N, .slice b1 bx2.length bc1, .slice b2 hl2.length bc2, .int .i64 n0, .int .i64 n1, .int .i64 n2, .slice b3 nr2 bc3, .slice b4 rn2.length bc4, .slice b5 nl2 bc5, .slice b6 nd2 bc6, .int .i64 s0, .int .i64 s1, .int .i64 s2, .int .i64 s3, .int .i64 s4, .int .i64 s5, .int .i64 s6, .int .i64 s7, .int .i64 s8] := by rw [← hA2]; exact ((kb.al _).al _).drw
   have nH : Below w.heap.size w A2 := by rw [← hA2]; exact below_drew (below_al (below_al HB.out _) _)
   have hlW := kb.lt
   have nB : Below W.heap.size W A2 := by rw [← hA2]; exact below_drew (below_al (below_al (Below.refl _ _) _) _)
   clear hA2
   refine wpAnyH_ready (rs := [6]) (by kernel_rfl) (by simp) ?_
   refine AllReadyH.cons (i := 6) (gt rfl) (fun K hK => ?_) ?_
   ·refine step_store_row rfl 26 (.tmp 5) (.tmp 9) rfl (W.heap.size) #[.string M, .slice a1 bx.length ac1, .slice a2 hl.length ac2, .int .i64 m0, .int .i64 m1, .int .i64 m2] (by simp [Act.eval]) (by simp [Act.eval]) 26 #[.string ⟨#[]⟩, .slice none 0 0, .slice none 0 0, .int .i64 0, .int .i64 0, .int .i64 0] (nx) (by kernel_rfl) (by rfl) (by simp [Value.oneCell']) ?_
    refine hK.out _ _ ?_ (fun hHeld => ?_)
    ·(try dsimp only); (repeat (first | with_reducible assumption | (refine below_row ?_ (by omega) _)))
    clear hK K
    (try simp only [Act.put, List.setIfInBounds_toArray, List.set_cons_zero, List.set_cons_succ])
    refine wpAnyH_ready (rs := [7]) (by kernel_rfl) (by simp) ?_
    refine AllReadyH.cons (i := 7) (gt rfl) (fun K hK => ?_) ?_
    ·refine step_store_row rfl 26 (.tmp 6) (.tmp 11) rfl (W.heap.size + 1) #[.string N, .slice b1 bx2.length bc1, .slice b2 hl2.length bc2, .int .i64 n0, .int .i64 n1, .int .i64 n2] (by simp [Act.eval]) (by simp [Act.eval]) 26 #[.string ⟨#[]⟩, .slice none 0 0, .slice none 0 0, .int .i64 0, .int .i64 0, .int .i64 0] ((setRow_other _ _ _ _ (by omega)).trans ny) (by kernel_rfl) (by rfl) (by simp [Value.oneCell']) ?_
     refine hK.out _ _ ?_ (fun hHeld => ?_)
     ·(try dsimp only); (repeat (first | with_reducible assumption | (refine below_row ?_ (by omega) _)))
     clear hK K
     (try simp only [Act.put, List.setIfInBounds_toArray, List.set_cons_zero, List.set_cons_succ])
     refine wpAnyH_done (by kernel_rfl) ?_ _
     refine NoPanic.normal ?_
     generalize hW3 : World.setRow (World.setRow _ _ _) _ _ = v3
     have kx3 : At v3 (W.heap.size) 26 #[.string M, .slice a1 bx.length ac1, .slice a2 hl.length ac2, .int .i64 m0, .int .i64 m1, .int .i64 m2] := by rw [← hW3]; exact (setRow_other _ _ _ _ (by omega)).trans (setRow_heap _ _ _ _ _ (0, 0) nx)
     have ky3 : At v3 (W.heap.size + 1) 26 #[.string N, .slice b1 bx2.length bc1, .slice b2 hl2.length bc2, .int .i64 n0, .int .i64 n1, .int .i64 n2] := by rw [← hW3]; exact setRow_heap _ _ _ _ _ (0, 0) ((setRow_other _ _ _ _ (by omega)).trans ny)
     replace ka : At v3 (w.heap.size) 34 #[.string M, .slice a1 bx.length ac1, .slice a2 hl.length ac2, .int .i64 m0, .int .i64 m1, .int .i64 m2, .slice a3 nr ac3, .slice a4 rn.length ac4, .slice a5 nl ac5, .slice a6 nd ac6, .int .i64 r0, .int .i64 r1, .int .i64 r2, .int .i64 r3, .int .i64 r4, .int .i64 r5, .int .i64 r6, .int .i64 r7, .int .i64 r8] := by rw [← hW3]; exact (setRow_other _ _ _ _ (by omega)).trans ((setRow_other _ _ _ _ (by omega)).trans na)
     replace kb : At v3 (w.heap.size + 1) 34 #[.string N, .slice b1 bx2.length bc1, .slice b2 hl2.length bc2, .int .i64 n0, .int .i64 n1, .int .i64 n2, .slice b3 nr2 bc3, .slice b4 rn2.length bc4, .slice b5 nl2 bc5, .slice b6 nd2 bc6, .int .i64 s0, .int .i64 s1, .int .i64 s2, .int .i64 s3, .int .i64 s4, .int .i64 s5, .int .i64 s6, .int .i64 s7, .int .i64 s8] := by rw [← hW3]; exact (setRow_other _ _ _ _ (by omega)).trans ((setRow_other _ _ _ _ (by omega)).trans nb)
     replace HB : Hid (Below w.heap.size w v3) := Lib.hid (by rw [← hW3]; exact below_row (below_row nH (by omega) _) (by omega) _)
     have x0 : v3.cell? ⟨W.heap.size, 0, none⟩ = some (.string M) := kx3.c 0
     have y0 : v3.cell? ⟨W.heap.size + 1, 0, none⟩ = some (.string N) := ky3.c 0
     have x1 : v3.cell? ⟨W.heap.size, 1, none⟩ = some (.slice a1 bx.length ac1) := kx3.c 1
     have y1 : v3.cell? ⟨W.heap.size + 1, 1, none⟩ = some (.slice b1 bx2.length bc1) := ky3.c 1
     have x2 : v3.cell? ⟨W.heap.size, 2, none⟩ = some (.slice a2 hl.length ac2) := kx3.c 2
     have y2 : v3.cell? ⟨W.heap.size + 1, 2, none⟩ = some (.slice b2 hl2.length bc2) := ky3.c 2
     have x3 : v3.cell? ⟨W.heap.size, 3, none⟩ = some (.int .i64 m0) := kx3.c 3
     have y3 : v3.cell? ⟨W.heap.size + 1, 3, none⟩ = some (.int .i64 n0) := ky3.c 3
     have x4 : v3.cell? ⟨W.heap.size, 4, none⟩ = some (.int .i64 m1) := kx3.c 4
     have y4 : v3.cell? ⟨W.heap.size + 1, 4, none⟩ = some (.int .i64 n1) := ky3.c 4
     have x5 : v3.cell? ⟨W.heap.size, 5, none⟩ = some (.int .i64 m2) := kx3.c 5
     have y5 : v3.cell? ⟨W.heap.size + 1, 5, none⟩ = some (.int .i64 n2) := ky3.c 5
     clear hW3 nx ny na nb nH hHeld
     by_cases h0 : M = N
     ·subst h0
      by_cases h1 : m0 = n0
      ·subst h1
       by_cases h2 : m1 = n1
       ·subst h2
        by_cases h3 : m2 = n2
        ·subst h3
         go_wp2_with fail
         refine (H17.out v3 HB.out).mono ?_
         rintro e v4 ⟨rfl, hb4⟩
         clear x0 y0 x1 y1 x2 y2 x3 y3 x4 y4 x5 y5 kx3 ky3
         replace ka : At v4 (w.heap.size) 34 #[.string M, .slice a1 bx.length ac1, .slice a2 hl.length ac2, .int .i64 m0, .int .i64 m1, .int .i64 m2, .slice a3 nr ac3, .slice a4 rn.length ac4, .slice a5 nl ac5, .slice a6 nd ac6, .int .i64 r0, .int .i64 r1, .int .i64 r2, .int .i64 r3, .int .i64 r4, .int .i64 r5, .int .i64 r6, .int .i64 r7, .int .i64 r8] := ka.bel hb4
         replace kb : At v4 (w.heap.size + 1) 34 #[.string M, .slice b1 bx2.length bc1, .slice b2 hl2.length bc2, .int .i64 m0, .int .i64 m1, .int .i64 m2, .slice b3 nr2 bc3, .slice b4 rn2.length bc4, .slice b5 nl2 bc5, .slice b6 nd2 bc6, .int .i64 s0, .int .i64 s1, .int .i64 s2, .int .i64 s3, .int .i64 s4, .int .i64 s5, .int .i64 s6, .int .i64 s7, .int .i64 s8] := kb.bel hb4
         replace HB := Lib.hid (below_then HB.out hb4)
         clear hb4
         obtain ⟨Q, hQ⟩ : ∃ Q, (decide (bx = bx2) && decide (hl = hl2)) = Q := ⟨_, rfl⟩
         rw [hQ]
         replace hQ := Lib.hid hQ
         cases Q with
         | false =>
          have hF := Lib.hid (hfail.out (fun hxy => by have h := hQ.out; rw [decide_eq_true (congrArg Det.boxes hxy), decide_eq_true (congrArg Det.holes hxy)] at h; cases h))
          clear hfail hok
          go_wp2_with fail
          go_ret
          exact ⟨by rw [hF.out]; first | done | rfl, HB.out⟩
         | true =>
          have ax6 : v4.cell? ⟨w.heap.size, 6, none⟩ = some (.slice a3 nr ac3) := ka.c 6
          have ax10 : v4.cell? ⟨w.heap.size, 10, none⟩ = some (.int .i64 r0) := ka.c 10
          have ax11 : v4.cell? ⟨w.heap.size, 11, none⟩ = some (.int .i64 r1) := ka.c 11
          have ax12 : v4.cell? ⟨w.heap.size, 12, none⟩ = some (.int .i64 r2) := ka.c 12
          have ax13 : v4.cell? ⟨w.heap.size, 13, none⟩ = some (.int .i64 r3) := ka.c 13
          have ax14 : v4.cell? ⟨w.heap.size, 14, none⟩ = some (.int .i64 r4) := ka.c 14
          have ax15 : v4.cell? ⟨w.heap.size, 15, none⟩ = some (.int .i64 r5) := ka.c 15
          have ax16 : v4.cell? ⟨w.heap.size, 16, none⟩ = some (.int .i64 r6) := ka.c 16
          have ax17 : v4.cell? ⟨w.heap.size, 17, none⟩ = some (.int .i64 r7) := ka.c 17
          have ax18 : v4.cell? ⟨w.heap.size, 18, none⟩ = some (.int .i64 r8) := ka.c 18
          have bx6 : v4.cell? ⟨w.heap.size + 1, 6, none⟩ = some (.slice b3 nr2 bc3) := kb.c 6
          have bx10 : v4.cell? ⟨w.heap.size + 1, 10, none⟩ = some (.int .i64 s0) := kb.c 10
          have bx11 : v4.cell? ⟨w.heap.size + 1, 11, none⟩ = some (.int .i64 s1) := kb.c 11
          have bx12 : v4.cell? ⟨w.heap.size + 1, 12, none⟩ = some (.int .i64 s2) := kb.c 12
          have bx13 : v4.cell? ⟨w.heap.size + 1, 13, none⟩ = some (.int .i64 s3) := kb.c 13
          have bx14 : v4.cell? ⟨w.heap.size + 1, 14, none⟩ = some (.int .i64 s4) := kb.c 14
          have bx15 : v4.cell? ⟨w.heap.size + 1, 15, none⟩ = some (.int .i64 s5) := kb.c 15
          have bx16 : v4.cell? ⟨w.heap.size + 1, 16, none⟩ = some (.int .i64 s6) := kb.c 16
          have bx17 : v4.cell? ⟨w.heap.size + 1, 17, none⟩ = some (.int .i64 s7) := kb.c 17
          have bx18 : v4.cell? ⟨w.heap.size + 1, 18, none⟩ = some (.int .i64 s8) := kb.c 18
          by_cases h0 : r0 = s0
          ·subst h0
           by_cases h1 : r1 = s1
           ·subst h1
            by_cases h2 : r2 = s2
            ·subst h2
             by_cases h3 : r3 = s3
             ·subst h3
              by_cases h4 : r4 = s4
              ·subst h4
               by_cases h5 : r5 = s5
               ·subst h5
                by_cases h6 : r6 = s6
                ·subst h6
                 by_cases h7 : r7 = s7
                 ·subst h7
                  by_cases h8 : r8 = s8
                  ·subst h8
                   go_wp2_with fail
                   refine (H14.out v4 HB.out).mono ?_
                   rintro e v5 ⟨rfl, hb5⟩
                   replace ka : At v5 (w.heap.size) 34 #[.string M, .slice a1 bx.length ac1, .slice a2 hl.length ac2, .int .i64 m0, .int .i64 m1, .int .i64 m2, .slice a3 nr ac3, .slice a4 rn.length ac4, .slice a5 nl ac5, .slice a6 nd ac6, .int .i64 r0, .int .i64 r1, .int .i64 r2, .int .i64 r3, .int .i64 r4, .int .i64 r5, .int .i64 r6, .int .i64 r7, .int .i64 r8] := ka.bel hb5
                   replace kb : At v5 (w.heap.size + 1) 34 #[.string M, .slice b1 bx2.length bc1, .slice b2 hl2.length bc2, .int .i64 m0, .int .i64 m1, .int .i64 m2, .slice b3 nr2 bc3, .slice b4 rn2.length bc4, .slice b5 nl2 bc5, .slice b6 nd2 bc6, .int .i64 r0, .int .i64 r1, .int .i64 r2, .int .i64 r3, .int .i64 r4, .int .i64 r5, .int .i64 r6, .int .i64 r7, .int .i64 r8] := kb.bel hb5
                   replace HB := Lib.hid (below_then HB.out hb5)
                   clear hb5 ax6 ax10 ax11 ax12 ax13 ax14 ax15 ax16 ax17 ax18 bx6 bx10 bx11 bx12 bx13 bx14 bx15 bx16 bx17 bx18
                   obtain ⟨Q, hQ2⟩ : ∃ Q, decide (br = br2) = Q := ⟨_, rfl⟩
                   rw [hQ2]
                   replace hQ2 := Lib.hid hQ2
                   cases Q with
                   | false =>
                    have hF := Lib.hid (hfail.out (fun hxy => of_decide_eq_false hQ2.out (congrArg Det.bars hxy)))
                    clear hfail hok
                    go_wp2_with fail
                    go_ret
                    exact ⟨by rw [hF.out]; first | done | rfl, HB.out⟩
                   | true =>
                    have ax7 : v5.cell? ⟨w.heap.size, 7, none⟩ = some (.slice a4 rn.length ac4) := ka.c 7
                    have bx7 : v5.cell? ⟨w.heap.size + 1, 7, none⟩ = some (.slice b4 rn2.length bc4) := kb.c 7
                    go_wp2_with fail
                    refine (H16.out v5 HB.out).mono ?_
                    rintro e v6 ⟨rfl, hb6⟩
                    replace ka : At v6 (w.heap.size) 34 #[.string M, .slice a1 bx.length ac1, .slice a2 hl.length ac2, .int .i64 m0, .int .i64 m1, .int .i64 m2, .slice a3 nr ac3, .slice a4 rn.length ac4, .slice a5 nl ac5, .slice a6 nd ac6, .int .i64 r0, .int .i64 r1, .int .i64 r2, .int .i64 r3, .int .i64 r4, .int .i64 r5, .int .i64 r6, .int .i64 r7, .int .i64 r8] := ka.bel hb6
                    replace kb : At v6 (w.heap.size + 1) 34 #[.string M, .slice b1 bx2.length bc1, .slice b2 hl2.length bc2, .int .i64 m0, .int .i64 m1, .int .i64 m2, .slice b3 nr2 bc3, .slice b4 rn2.length bc4, .slice b5 nl2 bc5, .slice b6 nd2 bc6, .int .i64 r0, .int .i64 r1, .int .i64 r2, .int .i64 r3, .int .i64 r4, .int .i64 r5, .int .i64 r6, .int .i64 r7, .int .i64 r8] := kb.bel hb6
                    replace HB := Lib.hid (below_then HB.out hb6)
                    clear hb6 ax7 bx7
                    obtain ⟨Q, hQ3⟩ : ∃ Q, decide (rn = rn2) = Q := ⟨_, rfl⟩
                    rw [hQ3]
                    replace hQ3 := Lib.hid hQ3
                    cases Q with
                    | false =>
                     have hF := Lib.hid (hfail.out (fun hxy => of_decide_eq_false hQ3.out (congrArg Det.runs hxy)))
                     clear hfail hok
                     go_wp2_with fail
                     go_ret
                     exact ⟨by rw [hF.out]; first | done | rfl, HB.out⟩
                    | true =>
                     have ax9 : v6.cell? ⟨w.heap.size, 9, none⟩ = some (.slice a6 nd ac6) := ka.c 9
                     have bx9 : v6.cell? ⟨w.heap.size + 1, 9, none⟩ = some (.slice b6 nd2 bc6) := kb.c 9
                     go_wp2_with fail
                     refine (H23.out v6 HB.out).mono ?_
                     rintro e v7 ⟨rfl, hb7⟩
                     replace ka : At v7 (w.heap.size) 34 #[.string M, .slice a1 bx.length ac1, .slice a2 hl.length ac2, .int .i64 m0, .int .i64 m1, .int .i64 m2, .slice a3 nr ac3, .slice a4 rn.length ac4, .slice a5 nl ac5, .slice a6 nd ac6, .int .i64 r0, .int .i64 r1, .int .i64 r2, .int .i64 r3, .int .i64 r4, .int .i64 r5, .int .i64 r6, .int .i64 r7, .int .i64 r8] := ka.bel hb7
                     replace kb : At v7 (w.heap.size + 1) 34 #[.string M, .slice b1 bx2.length bc1, .slice b2 hl2.length bc2, .int .i64 m0, .int .i64 m1, .int .i64 m2, .slice b3 nr2 bc3, .slice b4 rn2.length bc4, .slice b5 nl2 bc5, .slice b6 nd2 bc6, .int .i64 r0, .int .i64 r1, .int .i64 r2, .int .i64 r3, .int .i64 r4, .int .i64 r5, .int .i64 r6, .int .i64 r7, .int .i64 r8] := kb.bel hb7
                     replace HB := Lib.hid (below_then HB.out hb7)
                     clear hb7 ax9 bx9
                     obtain ⟨Q, hQ4⟩ : ∃ Q, decide (dm = dm2) = Q := ⟨_, rfl⟩
                     rw [hQ4]
                     replace hQ4 := Lib.hid hQ4
                     cases Q with
                     | false =>
                      have hF := Lib.hid (hfail.out (fun hxy => of_decide_eq_false hQ4.out (congrArg Det.dems hxy)))
                      clear hfail hok
                      go_wp2_with fail
                      go_ret
                      exact ⟨by rw [hF.out]; first | done | rfl, HB.out⟩
                     | true =>
                      have ax8 : v7.cell? ⟨w.heap.size, 8, none⟩ = some (.slice a5 nl ac5) := ka.c 8
                      have bx8 : v7.cell? ⟨w.heap.size + 1, 8, none⟩ = some (.slice b5 nl2 bc5) := kb.c 8
                      by_cases hn : nl = nl2
                      rotate_left
                      ·have hne : ((nl : Int) != (nl2 : Int)) = true := by simp; omega
                       have hne2 : ((nl : Int) == (nl2 : Int)) = false := by simp; omega
                       have hF := Lib.hid (hfail.out (fun hxy => hn (by rw [← n_lp.out, ← n_lp2.out]; exact congrArg (fun x : Det => x.laps.length) hxy)))
                       clear hfail hok
                       go_wp2_with fail
                       go_ret
                       exact ⟨by rw [hF.out]; first | done | rfl, HB.out⟩
                      subst hn
                      have hfl : Hid (lp ≠ lp2 → R = false) := Lib.hid fun h => hfail.out (fun hxy => h (congrArg Det.laps hxy))
                      have hX8 : Hid (∀ W, Below v7.heap.size v7 W → W.cell? ⟨w.heap.size, 8, none⟩ = some (.slice a5 nl ac5) ∧ W.cell? ⟨w.heap.size + 1, 8, none⟩ = some (.slice b5 nl bc5)) := Lib.hid fun W hb => ⟨(ka.bel hb).c 8, (kb.bel hb).c 8⟩
                      clear ka kb hfail
                      go_wp2_with fail
                      go_loopg [7] nl (fun g i wr => ∃ (k : Nat), k ≤ nl ∧ i = .int .i64 (k : Int) ∧ Hid (g = nl - k ∧ lp.take k = lp2.take k) ∧ Hid (Below v7.heap.size v7 wr))
                      case atStart => exact ⟨0, Nat.zero_le _, rfl, Lib.hid ⟨rfl, rfl⟩, Lib.hid (Below.refl _ _)⟩
                      case round =>
                       clear ax8 bx8
                       obtain ⟨k, hk, rfl, hg, hB⟩ := hrel
                       obtain ⟨ax8, bx8⟩ := hX8.out wr hB.out
                       have hBw := Lib.hid (below_then HB.out hB.out)
                       by_cases hlt : k < nl
                       ·have k1 : k < lp.length := by rw [n_lp.out]; exact hlt
                        have k2 : k < lp2.length := by rw [n_lp2.out]; exact hlt
                        obtain ⟨b1, o1, rfl, hb1, hc1⟩ := q_lp.out k k1
                        obtain ⟨b2, o2, rfl, hb2, hc2⟩ := q_lp2.out k k2
                        have hnext : Hid (lp[k] = lp2[k] → lp.take (k + 1) = lp2.take (k + 1)) := Lib.hid fun h => take_eq hg.out.2 k1 k2 h
                        have hf1 : Hid (lp[k] ≠ lp2[k] → R = false) := Lib.hid fun h => hfl.out fun e => h (by subst e; rfl)
                        have t1 := h_lp.out _ (List.getElem_mem k1)
                        have t2 := h_lp2.out _ (List.getElem_mem k2)
                        replace hc1 := fun j u hu => (hBw.out.cell hb1).trans (hc1 j u hu)
                        replace hc2 := fun j u hu => (hBw.out.cell hb2).trans (hc2 j u hu)
                        generalize lp[k] = x at *
                        generalize lp2[k] = y at *
                        obtain ⟨e0, e1, rfl⟩ := two t1
                        obtain ⟨f0, f1, rfl⟩ := two t2
                        have x0 : wr.cell? ⟨b1, o1 + k * 2, none⟩ = some (.int .i64 e0) := hc1 0 _ rfl
                        have x1 : wr.cell? ⟨b1, o1 + k * 2 + 1, none⟩ = some (.int .i64 e1) := hc1 1 _ rfl
                        have y0 : wr.cell? ⟨b2, o2 + k * 2, none⟩ = some (.int .i64 f0) := hc2 0 _ rfl
                        have y1 : wr.cell? ⟨b2, o2 + k * 2 + 1, none⟩ = some (.int .i64 f1) := hc2 1 _ rfl
                        clear t1 t2 hc1 hc2 hb1 hb2 k1 k2
                        by_cases h0 : e0 = f0
                        ·subst h0
                         by_cases h1 : e1 = f1
                         ·subst h1
                          have hN := Lib.hid (hnext.out rfl)
                          clear hnext hf1
                          go_wp2_with fail
                          go_quiet (fail)
                          go_wp2_with fail
                          go_roundg (nl - (k + 1))
                          case measure => have := hg.out.1; omega
                          case rel => exact ⟨k + 1, by omega, by go_num, Lib.hid ⟨rfl, hN.out⟩, Lib.hid (below_drewN hB.out _)⟩
                         ·have hs : (e1 == f1) = false := by simpa using h1
                          have hs2 : (e1 != f1) = true := by simpa using h1
                          have hF := Lib.hid (hf1.out (fun hxy => h1 (congrArg (fun x : List Int => x.getD 1 0) hxy)))
                          clear hnext hf1
                          go_wp2_with fail
                          go_quiet (fail)
                          go_wp2_with fail
                          go_ret
                          exact ⟨by rw [hF.out]; first | done | rfl, below_drewN hBw.out _⟩
                        ·have hs : (e0 == f0) = false := by simpa using h0
                         have hs2 : (e0 != f0) = true := by simpa using h0
                         have hF := Lib.hid (hf1.out (fun hxy => h0 (congrArg (fun x : List Int => x.getD 0 0) hxy)))
                         clear hnext hf1
                         go_wp2_with fail
                         go_quiet (fail)
                         go_wp2_with fail
                         go_ret
                         exact ⟨by rw [hF.out]; first | done | rfl, below_drewN hBw.out _⟩
                       ·have hT := Lib.hid (hok.out (by
                         have h1 := of_decide_eq_true hQ2.out
                         have h2 := of_decide_eq_true hQ3.out
                         have h3 := of_decide_eq_true hQ4.out
                         have h4 := hQ.out
                         simp only [Bool.and_eq_true, decide_eq_true_eq] at h4
                         have h5 := take_all (by have := hg.out.2; rwa [show k = nl by omega] at this) n_lp.out n_lp2.out
                         rw [h1, h2, h3, h4.1, h4.2, h5]))
                        go_wp2_with fail
                        go_ret
                        exact ⟨by rw [hT.out]; first | done | rfl, hBw.out⟩
                  ·have hs : (r8 == s8) = false := by simpa using h8
                   have hs2 : (r8 != s8) = true := by simpa using h8
                   have hF := Lib.hid (hfail.out (fun hxy => h8 (congrArg (fun x : Det => x.rule.getD 8 0) hxy)))
                   clear hfail hok
                   go_wp2_with fail
                   go_ret
                   exact ⟨by rw [hF.out]; first | done | rfl, HB.out⟩
                 ·have hs : (r7 == s7) = false := by simpa using h7
                  have hs2 : (r7 != s7) = true := by simpa using h7
                  have hF := Lib.hid (hfail.out (fun hxy => h7 (congrArg (fun x : Det => x.rule.getD 7 0) hxy)))
                  clear hfail hok
                  go_wp2_with fail
                  go_ret
                  exact ⟨by rw [hF.out]; first | done | rfl, HB.out⟩
                ·have hs : (r6 == s6) = false := by simpa using h6
                 have hs2 : (r6 != s6) = true := by simpa using h6
                 have hF := Lib.hid (hfail.out (fun hxy => h6 (congrArg (fun x : Det => x.rule.getD 6 0) hxy)))
                 clear hfail hok
                 go_wp2_with fail
                 go_ret
                 exact ⟨by rw [hF.out]; first | done | rfl, HB.out⟩
               ·have hs : (r5 == s5) = false := by simpa using h5
                have hs2 : (r5 != s5) = true := by simpa using h5
                have hF := Lib.hid (hfail.out (fun hxy => h5 (congrArg (fun x : Det => x.rule.getD 5 0) hxy)))
                clear hfail hok
                go_wp2_with fail
                go_ret
                exact ⟨by rw [hF.out]; first | done | rfl, HB.out⟩
              ·have hs : (r4 == s4) = false := by simpa using h4
               have hs2 : (r4 != s4) = true := by simpa using h4
               have hF := Lib.hid (hfail.out (fun hxy => h4 (congrArg (fun x : Det => x.rule.getD 4 0) hxy)))
               clear hfail hok
               go_wp2_with fail
               go_ret
               exact ⟨by rw [hF.out]; first | done | rfl, HB.out⟩
             ·have hs : (r3 == s3) = false := by simpa using h3
              have hs2 : (r3 != s3) = true := by simpa using h3
              have hF := Lib.hid (hfail.out (fun hxy => h3 (congrArg (fun x : Det => x.rule.getD 3 0) hxy)))
              clear hfail hok
              go_wp2_with fail
              go_ret
              exact ⟨by rw [hF.out]; first | done | rfl, HB.out⟩
            ·have hs : (r2 == s2) = false := by simpa using h2
             have hs2 : (r2 != s2) = true := by simpa using h2
             have hF := Lib.hid (hfail.out (fun hxy => h2 (congrArg (fun x : Det => x.rule.getD 2 0) hxy)))
             clear hfail hok
             go_wp2_with fail
             go_ret
             exact ⟨by rw [hF.out]; first | done | rfl, HB.out⟩
           ·have hs : (r1 == s1) = false := by simpa using h1
            have hs2 : (r1 != s1) = true := by simpa using h1
            have hF := Lib.hid (hfail.out (fun hxy => h1 (congrArg (fun x : Det => x.rule.getD 1 0) hxy)))
            clear hfail hok
            go_wp2_with fail
            go_ret
            exact ⟨by rw [hF.out]; first | done | rfl, HB.out⟩
          ·have hs : (r0 == s0) = false := by simpa using h0
           have hs2 : (r0 != s0) = true := by simpa using h0
           have hF := Lib.hid (hfail.out (fun hxy => h0 (congrArg (fun x : Det => x.rule.getD 0 0) hxy)))
           clear hfail hok
           go_wp2_with fail
           go_ret
           exact ⟨by rw [hF.out]; first | done | rfl, HB.out⟩
        ·have hs : (m2 == n2) = false := by simpa using h3
         have hs2 : (m2 != n2) = true := by simpa using h3
         have hF := Lib.hid (hfail.out (fun hxy => h3 (congrArg (fun x : Det => x.mem.getD 2 0) hxy)))
         clear hfail hok
         go_wp2_with fail
         go_ret
         exact ⟨by rw [hF.out]; first | done | rfl, HB.out⟩
       ·have hs : (m1 == n1) = false := by simpa using h2
        have hs2 : (m1 != n1) = true := by simpa using h2
        have hF := Lib.hid (hfail.out (fun hxy => h2 (congrArg (fun x : Det => x.mem.getD 1 0) hxy)))
        clear hfail hok
        go_wp2_with fail
        go_ret
        exact ⟨by rw [hF.out]; first | done | rfl, HB.out⟩
      ·have hs : (m0 == n0) = false := by simpa using h1
       have hs2 : (m0 != n0) = true := by simpa using h1
       have hF := Lib.hid (hfail.out (fun hxy => h1 (congrArg (fun x : Det => x.mem.getD 0 0) hxy)))
       clear hfail hok
       go_wp2_with fail
       go_ret
       exact ⟨by rw [hF.out]; first | done | rfl, HB.out⟩
     ·have hs := str_ne h0
      have hF := Lib.hid (hfail.out (fun hxy => h0 (by_inj (congrArg Det.name hxy))))
      clear hfail hok
      go_wp2_with fail
      go_ret
      exact ⟨by rw [hF.out]; first | done | rfl, HB.out⟩
    exact AllReadyH.nil
   exact AllReadyH.nil
  exact AllReadyH.nil
 refine AllReadyH.cons (i := 5) (gt rfl) (fun K hK => ?_) ?_
 ·go_simp
  refine hK.out _ _ ?_ (fun hHeld => ?_)
  ·(try dsimp only); (repeat (first | with_reducible assumption | with_reducible exact Below.refl _ _ | with_reducible refine below_al ?_ _ | with_reducible refine below_drew ?_))
  clear hK K
  (try simp only [Act.put, List.setIfInBounds_toArray, List.set_cons_zero, List.set_cons_succ])
  refine wpAnyH_ready (rs := [4]) (by kernel_rfl) (by simp) ?_
  refine AllReadyH.cons (i := 4) (gt rfl) (fun K hK => ?_) ?_
  ·go_simp
   refine hK.out _ _ ?_ (fun hHeld => ?_)
   ·(try dsimp only); (repeat (first | with_reducible assumption | with_reducible exact Below.refl _ _ | with_reducible refine below_al ?_ _ | with_reducible refine below_drew ?_))
   clear hK K
   (try simp only [Act.put, List.setIfInBounds_toArray, List.set_cons_zero, List.set_cons_succ])
   generalize hA2 : World.drew (World.alloc (World.alloc W _) _) = A2
   have nx : At A2 (W.heap.size + 1) 26 #[.string ⟨#[]⟩, .slice none 0 0, .slice none 0 0, .int .i64 0, .int .i64 0, .int .i64 0] := by rw [← hA2]; exact (At.new' (by simp)).drw
   have ny : At A2 (W.heap.size) 26 #[.string ⟨#[]⟩, .slice none 0 0, .slice none 0 0, .int .i64 0, .int .i64 0, .int .i64 0] := by rw [← hA2]; exact ((At.new' (by simp)).al _).drw
   have na : At A2 (w.heap.size) 34 #[.string M, .slice a1 bx.length ac1, .slice a2 hl.length ac2, .int .i64 m0, .int .i64 m1, .int .i64 m2, .slice a3 nr ac3, .slice a4 rn.length ac4, .slice a5 nl ac5, .slice a6 nd ac6, .int .i64 r0, .int .i64 r1, .int .i64 r2, .int .i64 r3, .int .i64 r4, .int .i64 r5, .int .i64 r6, .int .i64 r7, .int .i64 r8] := by rw [← hA2]; exact ((ka.al _).al _).drw
   have nb : At A2 (w.heap.size + 1) 34 #[.string N, .slice b1 bx2.length bc1, .slice b2 hl2.length bc2, .int .i64 n0, .int .i64 n1, .int .i64 n2, .slice b3 nr2 bc3, .slice b4 rn2.length bc4, .slice b5 nl2 bc5, .slice b6 nd2 bc6, .int .i64 s0, .int .i64 s1, .int .i64 s2, .int .i64 s3, .int .i64 s4, .int .i64 s5, .int .i64 s6, .int .i64 s7, .int .i64 s8] := by rw [← hA2]; exact ((kb.al _).al _).drw
   have nH : Below w.heap.size w A2 := by rw [← hA2]; exact below_drew (below_al (below_al HB.out _) _)
   have hlW := kb.lt
   have nB : Below W.heap.size W A2 := by rw [← hA2]; exact below_drew (below_al (below_al (Below.refl _ _) _) _)
   clear hA2
   refine wpAnyH_ready (rs := [6]) (by kernel_rfl) (by simp) ?_
   refine AllReadyH.cons (i := 6) (gt rfl) (fun K hK => ?_) ?_
   ·refine step_store_row rfl 26 (.tmp 5) (.tmp 9) rfl (W.heap.size + 1) #[.string M, .slice a1 bx.length ac1, .slice a2 hl.length ac2, .int .i64 m0, .int .i64 m1, .int .i64 m2] (by simp [Act.eval]) (by simp [Act.eval]) 26 #[.string ⟨#[]⟩, .slice none 0 0, .slice none 0 0, .int .i64 0, .int .i64 0, .int .i64 0] (nx) (by kernel_rfl) (by rfl) (by simp [Value.oneCell']) ?_
    refine hK.out _ _ ?_ (fun hHeld => ?_)
    ·(try dsimp only); (repeat (first | with_reducible assumption | (refine below_row ?_ (by omega) _)))
    clear hK K
    (try simp only [Act.put, List.setIfInBounds_toArray, List.set_cons_zero, List.set_cons_succ])
    refine wpAnyH_ready (rs := [7]) (by kernel_rfl) (by simp) ?_
    refine AllReadyH.cons (i := 7) (gt rfl) (fun K hK => ?_) ?_
    ·refine step_store_row rfl 26 (.tmp 6) (.tmp 11) rfl (W.heap.size) #[.string N, .slice b1 bx2.length bc1, .slice b2 hl2.length bc2, .int .i64 n0, .int .i64 n1, .int .i64 n2] (by simp [Act.eval]) (by simp [Act.eval]) 26 #[.string ⟨#[]⟩, .slice none 0 0, .slice none 0 0, .int .i64 0, .int .i64 0, .int .i64 0] ((setRow_other _ _ _ _ (by omega)).trans ny) (by kernel_rfl) (by rfl) (by simp [Value.oneCell']) ?_
     refine hK.out _ _ ?_ (fun hHeld => ?_)
     ·(try dsimp only); (repeat (first | with_reducible assumption | (refine below_row ?_ (by omega) _)))
     clear hK K
     (try simp only [Act.put, List.setIfInBounds_toArray, List.set_cons_zero, List.set_cons_succ])
     refine wpAnyH_done (by kernel_rfl) ?_ _
     refine NoPanic.normal ?_
     generalize hW3 : World.setRow (World.setRow _ _ _) _ _ = v3
     have kx3 : At v3 (W.heap.size + 1) 26 #[.string M, .slice a1 bx.length ac1, .slice a2 hl.length ac2, .int .i64 m0, .int .i64 m1, .int .i64 m2] := by rw [← hW3]; exact (setRow_other _ _ _ _ (by omega)).trans (setRow_heap _ _ _ _ _ (0, 0) nx)
     have ky3 : At v3 (W.heap.size) 26 #[.string N, .slice b1 bx2.length bc1, .slice b2 hl2.length bc2, .int .i64 n0, .int .i64 n1, .int .i64 n2] := by rw [← hW3]; exact setRow_heap _ _ _ _ _ (0, 0) ((setRow_other _ _ _ _ (by omega)).trans ny)
     replace ka : At v3 (w.heap.size) 34 #[.string M, .slice a1 bx.length ac1, .slice a2 hl.length ac2, .int .i64 m0, .int .i64 m1, .int .i64 m2, .slice a3 nr ac3, .slice a4 rn.length ac4, .slice a5 nl ac5, .slice a6 nd ac6, .int .i64 r0, .int .i64 r1, .int .i64 r2, .int .i64 r3, .int .i64 r4, .int .i64 r5, .int .i64 r6, .int .i64 r7, .int .i64 r8] := by rw [← hW3]; exact (setRow_other _ _ _ _ (by omega)).trans ((setRow_other _ _ _ _ (by omega)).trans na)
     replace kb : At v3 (w.heap.size + 1) 34 #[.string N, .slice b1 bx2.length bc1, .slice b2 hl2.length bc2, .int .i64 n0, .int .i64 n1, .int .i64 n2, .slice b3 nr2 bc3, .slice b4 rn2.length bc4, .slice b5 nl2 bc5, .slice b6 nd2 bc6, .int .i64 s0, .int .i64 s1, .int .i64 s2, .int .i64 s3, .int .i64 s4, .int .i64 s5, .int .i64 s6, .int .i64 s7, .int .i64 s8] := by rw [← hW3]; exact (setRow_other _ _ _ _ (by omega)).trans ((setRow_other _ _ _ _ (by omega)).trans nb)
     replace HB : Hid (Below w.heap.size w v3) := Lib.hid (by rw [← hW3]; exact below_row (below_row nH (by omega) _) (by omega) _)
     have x0 : v3.cell? ⟨W.heap.size + 1, 0, none⟩ = some (.string M) := kx3.c 0
     have y0 : v3.cell? ⟨W.heap.size, 0, none⟩ = some (.string N) := ky3.c 0
     have x1 : v3.cell? ⟨W.heap.size + 1, 1, none⟩ = some (.slice a1 bx.length ac1) := kx3.c 1
     have y1 : v3.cell? ⟨W.heap.size, 1, none⟩ = some (.slice b1 bx2.length bc1) := ky3.c 1
     have x2 : v3.cell? ⟨W.heap.size + 1, 2, none⟩ = some (.slice a2 hl.length ac2) := kx3.c 2
     have y2 : v3.cell? ⟨W.heap.size, 2, none⟩ = some (.slice b2 hl2.length bc2) := ky3.c 2
     have x3 : v3.cell? ⟨W.heap.size + 1, 3, none⟩ = some (.int .i64 m0) := kx3.c 3
     have y3 : v3.cell? ⟨W.heap.size, 3, none⟩ = some (.int .i64 n0) := ky3.c 3
     have x4 : v3.cell? ⟨W.heap.size + 1, 4, none⟩ = some (.int .i64 m1) := kx3.c 4
     have y4 : v3.cell? ⟨W.heap.size, 4, none⟩ = some (.int .i64 n1) := ky3.c 4
     have x5 : v3.cell? ⟨W.heap.size + 1, 5, none⟩ = some (.int .i64 m2) := kx3.c 5
     have y5 : v3.cell? ⟨W.heap.size, 5, none⟩ = some (.int .i64 n2) := ky3.c 5
     clear hW3 nx ny na nb nH hHeld
     by_cases h0 : M = N
     ·subst h0
      by_cases h1 : m0 = n0
      ·subst h1
       by_cases h2 : m1 = n1
       ·subst h2
        by_cases h3 : m2 = n2
        ·subst h3
         go_wp2_with fail
         refine (H17.out v3 HB.out).mono ?_
         rintro e v4 ⟨rfl, hb4⟩
         clear x0 y0 x1 y1 x2 y2 x3 y3 x4 y4 x5 y5 kx3 ky3
         replace ka : At v4 (w.heap.size) 34 #[.string M, .slice a1 bx.length ac1, .slice a2 hl.length ac2, .int .i64 m0, .int .i64 m1, .int .i64 m2, .slice a3 nr ac3, .slice a4 rn.length ac4, .slice a5 nl ac5, .slice a6 nd ac6, .int .i64 r0, .int .i64 r1, .int .i64 r2, .int .i64 r3, .int .i64 r4, .int .i64 r5, .int .i64 r6, .int .i64 r7, .int .i64 r8] := ka.bel hb4
         replace kb : At v4 (w.heap.size + 1) 34 #[.string M, .slice b1 bx2.length bc1, .slice b2 hl2.length bc2, .int .i64 m0, .int .i64 m1, .int .i64 m2, .slice b3 nr2 bc3, .slice b4 rn2.length bc4, .slice b5 nl2 bc5, .slice b6 nd2 bc6, .int .i64 s0, .int .i64 s1, .int .i64 s2, .int .i64 s3, .int .i64 s4, .int .i64 s5, .int .i64 s6, .int .i64 s7, .int .i64 s8] := kb.bel hb4
         replace HB := Lib.hid (below_then HB.out hb4)
         clear hb4
         obtain ⟨Q, hQ⟩ : ∃ Q, (decide (bx = bx2) && decide (hl = hl2)) = Q := ⟨_, rfl⟩
         rw [hQ]
         replace hQ := Lib.hid hQ
         cases Q with
         | false =>
          have hF := Lib.hid (hfail.out (fun hxy => by have h := hQ.out; rw [decide_eq_true (congrArg Det.boxes hxy), decide_eq_true (congrArg Det.holes hxy)] at h; cases h))
          clear hfail hok
          go_wp2_with fail
          go_ret
          exact ⟨by rw [hF.out]; first | done | rfl, HB.out⟩
         | true =>
          have ax6 : v4.cell? ⟨w.heap.size, 6, none⟩ = some (.slice a3 nr ac3) := ka.c 6
          have ax10 : v4.cell? ⟨w.heap.size, 10, none⟩ = some (.int .i64 r0) := ka.c 10
          have ax11 : v4.cell? ⟨w.heap.size, 11, none⟩ = some (.int .i64 r1) := ka.c 11
          have ax12 : v4.cell? ⟨w.heap.size, 12, none⟩ = some (.int .i64 r2) := ka.c 12
          have ax13 : v4.cell? ⟨w.heap.size, 13, none⟩ = some (.int .i64 r3) := ka.c 13
          have ax14 : v4.cell? ⟨w.heap.size, 14, none⟩ = some (.int .i64 r4) := ka.c 14
          have ax15 : v4.cell? ⟨w.heap.size, 15, none⟩ = some (.int .i64 r5) := ka.c 15
          have ax16 : v4.cell? ⟨w.heap.size, 16, none⟩ = some (.int .i64 r6) := ka.c 16
          have ax17 : v4.cell? ⟨w.heap.size, 17, none⟩ = some (.int .i64 r7) := ka.c 17
          have ax18 : v4.cell? ⟨w.heap.size, 18, none⟩ = some (.int .i64 r8) := ka.c 18
          have bx6 : v4.cell? ⟨w.heap.size + 1, 6, none⟩ = some (.slice b3 nr2 bc3) := kb.c 6
          have bx10 : v4.cell? ⟨w.heap.size + 1, 10, none⟩ = some (.int .i64 s0) := kb.c 10
          have bx11 : v4.cell? ⟨w.heap.size + 1, 11, none⟩ = some (.int .i64 s1) := kb.c 11
          have bx12 : v4.cell? ⟨w.heap.size + 1, 12, none⟩ = some (.int .i64 s2) := kb.c 12
          have bx13 : v4.cell? ⟨w.heap.size + 1, 13, none⟩ = some (.int .i64 s3) := kb.c 13
          have bx14 : v4.cell? ⟨w.heap.size + 1, 14, none⟩ = some (.int .i64 s4) := kb.c 14
          have bx15 : v4.cell? ⟨w.heap.size + 1, 15, none⟩ = some (.int .i64 s5) := kb.c 15
          have bx16 : v4.cell? ⟨w.heap.size + 1, 16, none⟩ = some (.int .i64 s6) := kb.c 16
          have bx17 : v4.cell? ⟨w.heap.size + 1, 17, none⟩ = some (.int .i64 s7) := kb.c 17
          have bx18 : v4.cell? ⟨w.heap.size + 1, 18, none⟩ = some (.int .i64 s8) := kb.c 18
          by_cases h0 : r0 = s0
          ·subst h0
           by_cases h1 : r1 = s1
           ·subst h1
            by_cases h2 : r2 = s2
            ·subst h2
             by_cases h3 : r3 = s3
             ·subst h3
              by_cases h4 : r4 = s4
              ·subst h4
               by_cases h5 : r5 = s5
               ·subst h5
                by_cases h6 : r6 = s6
                ·subst h6
                 by_cases h7 : r7 = s7
                 ·subst h7
                  by_cases h8 : r8 = s8
                  ·subst h8
                   go_wp2_with fail
                   refine (H14.out v4 HB.out).mono ?_
                   rintro e v5 ⟨rfl, hb5⟩
                   replace ka : At v5 (w.heap.size) 34 #[.string M, .slice a1 bx.length ac1, .slice a2 hl.length ac2, .int .i64 m0, .int .i64 m1, .int .i64 m2, .slice a3 nr ac3, .slice a4 rn.length ac4, .slice a5 nl ac5, .slice a6 nd ac6, .int .i64 r0, .int .i64 r1, .int .i64 r2, .int .i64 r3, .int .i64 r4, .int .i64 r5, .int .i64 r6, .int .i64 r7, .int .i64 r8] := ka.bel hb5
                   replace kb : At v5 (w.heap.size + 1) 34 #[.string M, .slice b1 bx2.length bc1, .slice b2 hl2.length bc2, .int .i64 m0, .int .i64 m1, .int .i64 m2, .slice b3 nr2 bc3, .slice b4 rn2.length bc4, .slice b5 nl2 bc5, .slice b6 nd2 bc6, .int .i64 r0, .int .i64 r1, .int .i64 r2, .int .i64 r3, .int .i64 r4, .int .i64 r5, .int .i64 r6, .int .i64 r7, .int .i64 r8] := kb.bel hb5
                   replace HB := Lib.hid (below_then HB.out hb5)
                   clear hb5 ax6 ax10 ax11 ax12 ax13 ax14 ax15 ax16 ax17 ax18 bx6 bx10 bx11 bx12 bx13 bx14 bx15 bx16 bx17 bx18
                   obtain ⟨Q, hQ2⟩ : ∃ Q, decide (br = br2) = Q := ⟨_, rfl⟩
                   rw [hQ2]
                   replace hQ2 := Lib.hid hQ2
                   cases Q with
                   | false =>
                    have hF := Lib.hid (hfail.out (fun hxy => of_decide_eq_false hQ2.out (congrArg Det.bars hxy)))
                    clear hfail hok
                    go_wp2_with fail
                    go_ret
                    exact ⟨by rw [hF.out]; first | done | rfl, HB.out⟩
                   | true =>
                    have ax7 : v5.cell? ⟨w.heap.size, 7, none⟩ = some (.slice a4 rn.length ac4) := ka.c 7
                    have bx7 : v5.cell? ⟨w.heap.size + 1, 7, none⟩ = some (.slice b4 rn2.length bc4) := kb.c 7
                    go_wp2_with fail
                    refine (H16.out v5 HB.out).mono ?_
                    rintro e v6 ⟨rfl, hb6⟩
                    replace ka : At v6 (w.heap.size) 34 #[.string M, .slice a1 bx.length ac1, .slice a2 hl.length ac2, .int .i64 m0, .int .i64 m1, .int .i64 m2, .slice a3 nr ac3, .slice a4 rn.length ac4, .slice a5 nl ac5, .slice a6 nd ac6, .int .i64 r0, .int .i64 r1, .int .i64 r2, .int .i64 r3, .int .i64 r4, .int .i64 r5, .int .i64 r6, .int .i64 r7, .int .i64 r8] := ka.bel hb6
                    replace kb : At v6 (w.heap.size + 1) 34 #[.string M, .slice b1 bx2.length bc1, .slice b2 hl2.length bc2, .int .i64 m0, .int .i64 m1, .int .i64 m2, .slice b3 nr2 bc3, .slice b4 rn2.length bc4, .slice b5 nl2 bc5, .slice b6 nd2 bc6, .int .i64 r0, .int .i64 r1, .int .i64 r2, .int .i64 r3, .int .i64 r4, .int .i64 r5, .int .i64 r6, .int .i64 r7, .int .i64 r8] := kb.bel hb6
                    replace HB := Lib.hid (below_then HB.out hb6)
                    clear hb6 ax7 bx7
                    obtain ⟨Q, hQ3⟩ : ∃ Q, decide (rn = rn2) = Q := ⟨_, rfl⟩
                    rw [hQ3]
                    replace hQ3 := Lib.hid hQ3
                    cases Q with
                    | false =>
                     have hF := Lib.hid (hfail.out (fun hxy => of_decide_eq_false hQ3.out (congrArg Det.runs hxy)))
                     clear hfail hok
                     go_wp2_with fail
                     go_ret
                     exact ⟨by rw [hF.out]; first | done | rfl, HB.out⟩
                    | true =>
                     have ax9 : v6.cell? ⟨w.heap.size, 9, none⟩ = some (.slice a6 nd ac6) := ka.c 9
                     have bx9 : v6.cell? ⟨w.heap.size + 1, 9, none⟩ = some (.slice b6 nd2 bc6) := kb.c 9
                     go_wp2_with fail
                     refine (H23.out v6 HB.out).mono ?_
                     rintro e v7 ⟨rfl, hb7⟩
                     replace ka : At v7 (w.heap.size) 34 #[.string M, .slice a1 bx.length ac1, .slice a2 hl.length ac2, .int .i64 m0, .int .i64 m1, .int .i64 m2, .slice a3 nr ac3, .slice a4 rn.length ac4, .slice a5 nl ac5, .slice a6 nd ac6, .int .i64 r0, .int .i64 r1, .int .i64 r2, .int .i64 r3, .int .i64 r4, .int .i64 r5, .int .i64 r6, .int .i64 r7, .int .i64 r8] := ka.bel hb7
                     replace kb : At v7 (w.heap.size + 1) 34 #[.string M, .slice b1 bx2.length bc1, .slice b2 hl2.length bc2, .int .i64 m0, .int .i64 m1, .int .i64 m2, .slice b3 nr2 bc3, .slice b4 rn2.length bc4, .slice b5 nl2 bc5, .slice b6 nd2 bc6, .int .i64 r0, .int .i64 r1, .int .i64 r2, .int .i64 r3, .int .i64 r4, .int .i64 r5, .int .i64 r6, .int .i64 r7, .int .i64 r8] := kb.bel hb7
                     replace HB := Lib.hid (below_then HB.out hb7)
                     clear hb7 ax9 bx9
                     obtain ⟨Q, hQ4⟩ : ∃ Q, decide (dm = dm2) = Q := ⟨_, rfl⟩
                     rw [hQ4]
                     replace hQ4 := Lib.hid hQ4
                     cases Q with
                     | false =>
                      have hF := Lib.hid (hfail.out (fun hxy => of_decide_eq_false hQ4.out (congrArg Det.dems hxy)))
                      clear hfail hok
                      go_wp2_with fail
                      go_ret
                      exact ⟨by rw [hF.out]; first | done | rfl, HB.out⟩
                     | true =>
                      have ax8 : v7.cell? ⟨w.heap.size, 8, none⟩ = some (.slice a5 nl ac5) := ka.c 8
                      have bx8 : v7.cell? ⟨w.heap.size + 1, 8, none⟩ = some (.slice b5 nl2 bc5) := kb.c 8
                      by_cases hn : nl = nl2
                      rotate_left
                      ·have hne : ((nl : Int) != (nl2 : Int)) = true := by simp; omega
                       have hne2 : ((nl : Int) == (nl2 : Int)) = false := by simp; omega
                       have hF := Lib.hid (hfail.out (fun hxy => hn (by rw [← n_lp.out, ← n_lp2.out]; exact congrArg (fun x : Det => x.laps.length) hxy)))
                       clear hfail hok
                       go_wp2_with fail
                       go_ret
                       exact ⟨by rw [hF.out]; first | done | rfl, HB.out⟩
                      subst hn
                      have hfl : Hid (lp ≠ lp2 → R = false) := Lib.hid fun h => hfail.out (fun hxy => h (congrArg Det.laps hxy))
                      have hX8 : Hid (∀ W, Below v7.heap.size v7 W → W.cell? ⟨w.heap.size, 8, none⟩ = some (.slice a5 nl ac5) ∧ W.cell? ⟨w.heap.size + 1, 8, none⟩ = some (.slice b5 nl bc5)) := Lib.hid fun W hb => ⟨(ka.bel hb).c 8, (kb.bel hb).c 8⟩
                      clear ka kb hfail
                      go_wp2_with fail
                      go_loopg [7] nl (fun g i wr => ∃ (k : Nat), k ≤ nl ∧ i = .int .i64 (k : Int) ∧ Hid (g = nl - k ∧ lp.take k = lp2.take k) ∧ Hid (Below v7.heap.size v7 wr))
                      case atStart => exact ⟨0, Nat.zero_le _, rfl, Lib.hid ⟨rfl, rfl⟩, Lib.hid (Below.refl _ _)⟩
                      case round =>
                       clear ax8 bx8
                       obtain ⟨k, hk, rfl, hg, hB⟩ := hrel
                       obtain ⟨ax8, bx8⟩ := hX8.out wr hB.out
                       have hBw := Lib.hid (below_then HB.out hB.out)
                       by_cases hlt : k < nl
                       ·have k1 : k < lp.length := by rw [n_lp.out]; exact hlt
                        have k2 : k < lp2.length := by rw [n_lp2.out]; exact hlt
                        obtain ⟨b1, o1, rfl, hb1, hc1⟩ := q_lp.out k k1
                        obtain ⟨b2, o2, rfl, hb2, hc2⟩ := q_lp2.out k k2
                        have hnext : Hid (lp[k] = lp2[k] → lp.take (k + 1) = lp2.take (k + 1)) := Lib.hid fun h => take_eq hg.out.2 k1 k2 h
                        have hf1 : Hid (lp[k] ≠ lp2[k] → R = false) := Lib.hid fun h => hfl.out fun e => h (by subst e; rfl)
                        have t1 := h_lp.out _ (List.getElem_mem k1)
                        have t2 := h_lp2.out _ (List.getElem_mem k2)
                        replace hc1 := fun j u hu => (hBw.out.cell hb1).trans (hc1 j u hu)
                        replace hc2 := fun j u hu => (hBw.out.cell hb2).trans (hc2 j u hu)
                        generalize lp[k] = x at *
                        generalize lp2[k] = y at *
                        obtain ⟨e0, e1, rfl⟩ := two t1
                        obtain ⟨f0, f1, rfl⟩ := two t2
                        have x0 : wr.cell? ⟨b1, o1 + k * 2, none⟩ = some (.int .i64 e0) := hc1 0 _ rfl
                        have x1 : wr.cell? ⟨b1, o1 + k * 2 + 1, none⟩ = some (.int .i64 e1) := hc1 1 _ rfl
                        have y0 : wr.cell? ⟨b2, o2 + k * 2, none⟩ = some (.int .i64 f0) := hc2 0 _ rfl
                        have y1 : wr.cell? ⟨b2, o2 + k * 2 + 1, none⟩ = some (.int .i64 f1) := hc2 1 _ rfl
                        clear t1 t2 hc1 hc2 hb1 hb2 k1 k2
                        by_cases h0 : e0 = f0
                        ·subst h0
                         by_cases h1 : e1 = f1
                         ·subst h1
                          have hN := Lib.hid (hnext.out rfl)
                          clear hnext hf1
                          go_wp2_with fail
                          go_quiet (fail)
                          go_wp2_with fail
                          go_roundg (nl - (k + 1))
                          case measure => have := hg.out.1; omega
                          case rel => exact ⟨k + 1, by omega, by go_num, Lib.hid ⟨rfl, hN.out⟩, Lib.hid (below_drewN hB.out _)⟩
                         ·have hs : (e1 == f1) = false := by simpa using h1
                          have hs2 : (e1 != f1) = true := by simpa using h1
                          have hF := Lib.hid (hf1.out (fun hxy => h1 (congrArg (fun x : List Int => x.getD 1 0) hxy)))
                          clear hnext hf1
                          go_wp2_with fail
                          go_quiet (fail)
                          go_wp2_with fail
                          go_ret
                          exact ⟨by rw [hF.out]; first | done | rfl, below_drewN hBw.out _⟩
                        ·have hs : (e0 == f0) = false := by simpa using h0
                         have hs2 : (e0 != f0) = true := by simpa using h0
                         have hF := Lib.hid (hf1.out (fun hxy => h0 (congrArg (fun x : List Int => x.getD 0 0) hxy)))
                         clear hnext hf1
                         go_wp2_with fail
                         go_quiet (fail)
                         go_wp2_with fail
                         go_ret
                         exact ⟨by rw [hF.out]; first | done | rfl, below_drewN hBw.out _⟩
                       ·have hT := Lib.hid (hok.out (by
                         have h1 := of_decide_eq_true hQ2.out
                         have h2 := of_decide_eq_true hQ3.out
                         have h3 := of_decide_eq_true hQ4.out
                         have h4 := hQ.out
                         simp only [Bool.and_eq_true, decide_eq_true_eq] at h4
                         have h5 := take_all (by have := hg.out.2; rwa [show k = nl by omega] at this) n_lp.out n_lp2.out
                         rw [h1, h2, h3, h4.1, h4.2, h5]))
                        go_wp2_with fail
                        go_ret
                        exact ⟨by rw [hT.out]; first | done | rfl, hBw.out⟩
                  ·have hs : (r8 == s8) = false := by simpa using h8
                   have hs2 : (r8 != s8) = true := by simpa using h8
                   have hF := Lib.hid (hfail.out (fun hxy => h8 (congrArg (fun x : Det => x.rule.getD 8 0) hxy)))
                   clear hfail hok
                   go_wp2_with fail
                   go_ret
                   exact ⟨by rw [hF.out]; first | done | rfl, HB.out⟩
                 ·have hs : (r7 == s7) = false := by simpa using h7
                  have hs2 : (r7 != s7) = true := by simpa using h7
                  have hF := Lib.hid (hfail.out (fun hxy => h7 (congrArg (fun x : Det => x.rule.getD 7 0) hxy)))
                  clear hfail hok
                  go_wp2_with fail
                  go_ret
                  exact ⟨by rw [hF.out]; first | done | rfl, HB.out⟩
                ·have hs : (r6 == s6) = false := by simpa using h6
                 have hs2 : (r6 != s6) = true := by simpa using h6
                 have hF := Lib.hid (hfail.out (fun hxy => h6 (congrArg (fun x : Det => x.rule.getD 6 0) hxy)))
                 clear hfail hok
                 go_wp2_with fail
                 go_ret
                 exact ⟨by rw [hF.out]; first | done | rfl, HB.out⟩
               ·have hs : (r5 == s5) = false := by simpa using h5
                have hs2 : (r5 != s5) = true := by simpa using h5
                have hF := Lib.hid (hfail.out (fun hxy => h5 (congrArg (fun x : Det => x.rule.getD 5 0) hxy)))
                clear hfail hok
                go_wp2_with fail
                go_ret
                exact ⟨by rw [hF.out]; first | done | rfl, HB.out⟩
              ·have hs : (r4 == s4) = false := by simpa using h4
               have hs2 : (r4 != s4) = true := by simpa using h4
               have hF := Lib.hid (hfail.out (fun hxy => h4 (congrArg (fun x : Det => x.rule.getD 4 0) hxy)))
               clear hfail hok
               go_wp2_with fail
               go_ret
               exact ⟨by rw [hF.out]; first | done | rfl, HB.out⟩
             ·have hs : (r3 == s3) = false := by simpa using h3
              have hs2 : (r3 != s3) = true := by simpa using h3
              have hF := Lib.hid (hfail.out (fun hxy => h3 (congrArg (fun x : Det => x.rule.getD 3 0) hxy)))
              clear hfail hok
              go_wp2_with fail
              go_ret
              exact ⟨by rw [hF.out]; first | done | rfl, HB.out⟩
            ·have hs : (r2 == s2) = false := by simpa using h2
             have hs2 : (r2 != s2) = true := by simpa using h2
             have hF := Lib.hid (hfail.out (fun hxy => h2 (congrArg (fun x : Det => x.rule.getD 2 0) hxy)))
             clear hfail hok
             go_wp2_with fail
             go_ret
             exact ⟨by rw [hF.out]; first | done | rfl, HB.out⟩
           ·have hs : (r1 == s1) = false := by simpa using h1
            have hs2 : (r1 != s1) = true := by simpa using h1
            have hF := Lib.hid (hfail.out (fun hxy => h1 (congrArg (fun x : Det => x.rule.getD 1 0) hxy)))
            clear hfail hok
            go_wp2_with fail
            go_ret
            exact ⟨by rw [hF.out]; first | done | rfl, HB.out⟩
          ·have hs : (r0 == s0) = false := by simpa using h0
           have hs2 : (r0 != s0) = true := by simpa using h0
           have hF := Lib.hid (hfail.out (fun hxy => h0 (congrArg (fun x : Det => x.rule.getD 0 0) hxy)))
           clear hfail hok
           go_wp2_with fail
           go_ret
           exact ⟨by rw [hF.out]; first | done | rfl, HB.out⟩
        ·have hs : (m2 == n2) = false := by simpa using h3
         have hs2 : (m2 != n2) = true := by simpa using h3
         have hF := Lib.hid (hfail.out (fun hxy => h3 (congrArg (fun x : Det => x.mem.getD 2 0) hxy)))
         clear hfail hok
         go_wp2_with fail
         go_ret
         exact ⟨by rw [hF.out]; first | done | rfl, HB.out⟩
       ·have hs : (m1 == n1) = false := by simpa using h2
        have hs2 : (m1 != n1) = true := by simpa using h2
        have hF := Lib.hid (hfail.out (fun hxy => h2 (congrArg (fun x : Det => x.mem.getD 1 0) hxy)))
        clear hfail hok
        go_wp2_with fail
        go_ret
        exact ⟨by rw [hF.out]; first | done | rfl, HB.out⟩
      ·have hs : (m0 == n0) = false := by simpa using h1
       have hs2 : (m0 != n0) = true := by simpa using h1
       have hF := Lib.hid (hfail.out (fun hxy => h1 (congrArg (fun x : Det => x.mem.getD 0 0) hxy)))
       clear hfail hok
       go_wp2_with fail
       go_ret
       exact ⟨by rw [hF.out]; first | done | rfl, HB.out⟩
     ·have hs := str_ne h0
      have hF := Lib.hid (hfail.out (fun hxy => h0 (by_inj (congrArg Det.name hxy))))
      clear hfail hok
      go_wp2_with fail
      go_ret
      exact ⟨by rw [hF.out]; first | done | rfl, HB.out⟩
    exact AllReadyH.nil
   exact AllReadyH.nil
  exact AllReadyH.nil
 exact AllReadyH.nil
set_option maxRecDepth 100000 in
theorem same_any (d d2 : Det) (p p2 : PV) (hs : d.sh) (hs2 : d2.sh) (w : World) (hv : DetV w d p) (hv2 : DetV w d2 p2) : Calls Tryz.prog 19 #[.agg (detC d p), .agg (detC d2 p2)] w fun e w' => e = .returned (.bool (decide (d = d2))) ∧ Below w.heap.size w w' := by
 have H := Lib.hid fun (W : World) (hb : Below w.heap.size w W) => same25_any d d2 p p2 hs hs2 W (hv.up hb) (hv2.up hb)
 have s1 := detC_size d p
 have s2 := detC_size d2 p2
 clear hs hs2 hv hv2
 generalize detC d p = cs at *
 generalize detC d2 p2 = ds at *
 go_enter Tryz.func19, Tryz.ntmps19
 go_upto_region 1 with fail
 generalize hWW : World.alloc (World.alloc w _) _ = W
 have ka : At W w.heap.size 34 cs := by rw [← hWW]; exact (At.new' rfl).al _
 have kb : At W (w.heap.size + 1) 34 ds := by rw [← hWW]; exact At.new' (by simp)
 have HB : Below w.heap.size w W := by rw [← hWW]; exact below_al (below_al (Below.refl _ _) _) _
 clear hWW
 go_wp2_with (first | (refine wpList_load_row rfl 34 (.tmp 2) rfl w.heap.size (by simp [Act.eval]) 34 cs (0, 0) _ ka Tryz.underlying34 rfl (by rw [s1]; kernel_rfl) ?_) | (refine wpList_load_row rfl 34 (.tmp 3) rfl (w.heap.size + 1) (by simp [Act.eval, Act.put]) 34 ds (0, 0) _ kb Tryz.underlying34 rfl (by rw [s2]; kernel_rfl) ?_) | fail)
 refine (H.out W HB).mono ?_
 rintro e w2 ⟨rfl, hb2⟩
 have HB2 := below_then HB hb2
 go_wp2_with fail
 go_ret
 exact ⟨rfl, HB2⟩
end Go.Proofs.YtccakklnbhcbdaaGreatDoor
