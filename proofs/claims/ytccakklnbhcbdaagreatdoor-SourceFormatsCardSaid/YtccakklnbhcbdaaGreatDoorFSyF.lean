import Derived.Test.YtccakklnbhcbdaaGreatDoorFSyE
import Derived.Test.YtccakklnbhcbdaaGreatDoorFQk
import Derived.Test.YtccakklnbhcbdaaGreatDoorFA
set_option linter.unusedVariables false
set_option linter.unusedSimpArgs false
namespace Go.Proofs.YtccakklnbhcbdaaGreatDoor
open Go.ChangeShapes Go.WideShapes Go.ChangeAt Go.RowKit
theorem rbox_results (tmps : Array Value) (w : World) (B : Nat) (cx : Array Value) (h2 : tmps.getD 2 undef = .pointer (some ⟨B, 0, none⟩)) (hX : At w B 60 cx) (sx : cx.size = 6) : (results Tryz.f103 tmps).run Tryz.prog w = .ok (.agg cx) w := by
 have e1 := run_loadVar_row (P := Tryz.prog) w B 60 60 cx (0, 0) _ hX Tryz.underlying60 rfl (by rw [sx]; kernel_rfl)
 have h2' : tmps[2]?.getD undef = .pointer (some ⟨B, 0, none⟩) := by simpa using h2
 simp [results, Tryz.results103, h2', asAddr, e1]
set_option maxRecDepth 100000 in
set_option maxHeartbeats 1000000 in
theorem rbox_any (a b c d f g : Int) (v : Value) (w : World) (hv : IsI [a, b, c, d, f, g] v w) : Calls Tryz.prog 103 #[v] w fun e w' => e = .returned (.agg #[.int .i64 a, .int .i64 b, .int .i64 c, .int .i64 d, .int .i64 f, .int .i64 g]) ∧ Below w.heap.size w w' := by
 obtain ⟨bb, off, cp, rfl, h2, h3, hlt, hc⟩ := hv.cells (by simp)
 have q0 : w.cell? ⟨bb, off, none⟩ = some (.int .i64 a) := hc 0 (by simp)
 have q1 : w.cell? ⟨bb, off + 1, none⟩ = some (.int .i64 b) := hc 1 (by simp)
 have q2 : w.cell? ⟨bb, off + 2, none⟩ = some (.int .i64 c) := hc 2 (by simp)
 have q3 : w.cell? ⟨bb, off + 3, none⟩ = some (.int .i64 d) := hc 3 (by simp)
 have q4 : w.cell? ⟨bb, off + 4, none⟩ = some (.int .i64 f) := hc 4 (by simp)
 have q5 : w.cell? ⟨bb, off + 5, none⟩ = some (.int .i64 g) := hc 5 (by simp)
 clear hc hv
 show Calls _ _ #[.slice (some ⟨bb, off, none⟩) 6 cp] _ _
 go_enter Tryz.func103, Tryz.ntmps103
 go_upto_region 1 with fail
 generalize hWW : World.alloc w _ = W1
 have kb : At W1 w.heap.size 60 #[.int .i64 0, .int .i64 0, .int .i64 0, .int .i64 0, .int .i64 0, .int .i64 0] := by rw [← hWW]; exact At.new' rfl
 have HB : Below w.heap.size w W1 := by rw [← hWW]; exact below_al (Below.refl _ _) _
 clear hWW
 have hSc : Hid (∀ W, Below w.heap.size w W → W.cell? ⟨bb, off, none⟩ = some (.int .i64 a) ∧ W.cell? ⟨bb, off + 1, none⟩ = some (.int .i64 b) ∧ W.cell? ⟨bb, off + 2, none⟩ = some (.int .i64 c) ∧ W.cell? ⟨bb, off + 3, none⟩ = some (.int .i64 d) ∧ W.cell? ⟨bb, off + 4, none⟩ = some (.int .i64 f) ∧ W.cell? ⟨bb, off + 5, none⟩ = some (.int .i64 g)) := Lib.hid fun W h => ⟨(h.cell hlt).trans q0, (h.cell hlt).trans q1, (h.cell hlt).trans q2, (h.cell hlt).trans q3, (h.cell hlt).trans q4, (h.cell hlt).trans q5⟩
 obtain ⟨B, hB⟩ : ∃ B, w.heap.size = B := ⟨_, rfl⟩
 rw [hB] at kb HB hSc ⊢
 have hFin : Hid (∀ tmps : Array Value, tmps.getD 2 undef = .pointer (some ⟨B, 0, none⟩) → (results Tryz.f103 tmps).run Tryz.prog (((((((W1.setCell ⟨B, 0, none⟩ (.int .i64 a)).setCell ⟨B, 1, none⟩ (.int .i64 b)).setCell ⟨B, 2, none⟩ (.int .i64 c)).setCell ⟨B, 3, none⟩ (.int .i64 d)).setCell ⟨B, 4, none⟩ (.int .i64 f)).setCell ⟨B, 5, none⟩ (.int .i64 g)).drew) = .ok (.agg #[.int .i64 a, .int .i64 b, .int .i64 c, .int .i64 d, .int .i64 f, .int .i64 g]) (((((((W1.setCell ⟨B, 0, none⟩ (.int .i64 a)).setCell ⟨B, 1, none⟩ (.int .i64 b)).setCell ⟨B, 2, none⟩ (.int .i64 c)).setCell ⟨B, 3, none⟩ (.int .i64 d)).setCell ⟨B, 4, none⟩ (.int .i64 f)).setCell ⟨B, 5, none⟩ (.int .i64 g)).drew)) := Lib.hid fun tmps h2 => rbox_results tmps _ B _ h2 (At.drw (by
  have := (((((kb.put 0 (.int .i64 a)).put 1 (.int .i64 b)).put 2 (.int .i64 c)).put 3 (.int .i64 d)).put 4 (.int .i64 f)).put 5 (.int .i64 g)
  simpa using this)) rfl
 have hPost : Hid (Below B w (((((((W1.setCell ⟨B, 0, none⟩ (.int .i64 a)).setCell ⟨B, 1, none⟩ (.int .i64 b)).setCell ⟨B, 2, none⟩ (.int .i64 c)).setCell ⟨B, 3, none⟩ (.int .i64 d)).setCell ⟨B, 4, none⟩ (.int .i64 f)).setCell ⟨B, 5, none⟩ (.int .i64 g)).drew)) := Lib.hid (below_drew (below_sc (below_sc (below_sc (below_sc (below_sc (below_sc HB (Nat.le_refl _) 0 _) (Nat.le_refl _) 1 _) (Nat.le_refl _) 2 _) (Nat.le_refl _) 3 _) (Nat.le_refl _) 4 _) (Nat.le_refl _) 5 _))
 have hPost2 : Hid (Below B w ((((((W1.setCell ⟨B, 0, none⟩ (.int .i64 a)).setCell ⟨B, 1, none⟩ (.int .i64 b)).setCell ⟨B, 2, none⟩ (.int .i64 c)).setCell ⟨B, 3, none⟩ (.int .i64 d)).setCell ⟨B, 4, none⟩ (.int .i64 f)).setCell ⟨B, 5, none⟩ (.int .i64 g))) := Lib.hid ((below_sc (below_sc (below_sc (below_sc (below_sc (below_sc HB (Nat.le_refl _) 0 _) (Nat.le_refl _) 1 _) (Nat.le_refl _) 2 _) (Nat.le_refl _) 3 _) (Nat.le_refl _) 4 _) (Nat.le_refl _) 5 _))
 have p0 : W1.cell? ⟨B, 0, none⟩ = some (.int .i64 0) := kb.c 0
 have pf0 : W1.frozen? ⟨B, 0, none⟩ = false := kb.f 0
 have p1 : W1.cell? ⟨B, 1, none⟩ = some (.int .i64 0) := kb.c 1
 have pf1 : W1.frozen? ⟨B, 1, none⟩ = false := kb.f 1
 have p2 : W1.cell? ⟨B, 2, none⟩ = some (.int .i64 0) := kb.c 2
 have pf2 : W1.frozen? ⟨B, 2, none⟩ = false := kb.f 2
 have p3 : W1.cell? ⟨B, 3, none⟩ = some (.int .i64 0) := kb.c 3
 have pf3 : W1.frozen? ⟨B, 3, none⟩ = false := kb.f 3
 have p4 : W1.cell? ⟨B, 4, none⟩ = some (.int .i64 0) := kb.c 4
 have pf4 : W1.frozen? ⟨B, 4, none⟩ = false := kb.f 4
 have p5 : W1.cell? ⟨B, 5, none⟩ = some (.int .i64 0) := kb.c 5
 have pf5 : W1.frozen? ⟨B, 5, none⟩ = false := kb.f 5
 clear q0 q1 q2 q3 q4 q5 kb
 refine wp_region_noPanic ?_
 refine wp_region_held_drew (S := fun W => W.cell? ⟨bb, off, none⟩ = some (.int .i64 a) ∧ W.cell? ⟨bb, off + 1, none⟩ = some (.int .i64 b) ∧ W.cell? ⟨bb, off + 2, none⟩ = some (.int .i64 c) ∧ W.cell? ⟨bb, off + 3, none⟩ = some (.int .i64 d) ∧ W.cell? ⟨bb, off + 4, none⟩ = some (.int .i64 f) ∧ W.cell? ⟨bb, off + 5, none⟩ = some (.int .i64 g)) (by kernel_rfl) ?_ (fun hHeld => ?_)
 ·(try dsimp only); exact hSc.out _ (by first | with_reducible exact below_drew HB | with_reducible exact hPost.out | with_reducible exact hPost2.out)
 refine tak (i := 0) (v := ?_) (gt rfl) ?_ ?_
 rotate_left
 focus (intro W hSW; (try dsimp only at hSW); obtain ⟨z0, z1, z2, z3, z4, z5⟩ := hSW; go_simp; first | done | with_reducible rfl)
 (try simp only [pu, pn, si, s0, sn])
 refine tak (i := 1) (v := ?_) (gt rfl) ?_ ?_
 rotate_left
 focus (intro W hSW; (try dsimp only at hSW); obtain ⟨z0, z1, z2, z3, z4, z5⟩ := hSW; go_simp; first | done | with_reducible rfl)
 (try simp only [pu, pn, si, s0, sn])
 refine tak (i := 2) (v := ?_) (gt rfl) ?_ ?_
 rotate_left
 focus (intro W hSW; (try dsimp only at hSW); obtain ⟨z0, z1, z2, z3, z4, z5⟩ := hSW; go_simp; first | done | with_reducible rfl)
 (try simp only [pu, pn, si, s0, sn])
 refine tak (i := 3) (v := ?_) (gt rfl) ?_ ?_
 rotate_left
 focus (intro W hSW; (try dsimp only at hSW); obtain ⟨z0, z1, z2, z3, z4, z5⟩ := hSW; go_simp; first | done | with_reducible rfl)
 (try simp only [pu, pn, si, s0, sn])
 refine tak (i := 4) (v := ?_) (gt rfl) ?_ ?_
 rotate_left
 focus (intro W hSW; (try dsimp only at hSW); obtain ⟨z0, z1, z2, z3, z4, z5⟩ := hSW; go_simp; first | done | with_reducible rfl)
 (try simp only [pu, pn, si, s0, sn])
 refine tak (i := 5) (v := ?_) (gt rfl) ?_ ?_
 rotate_left
 focus (intro W hSW; (try dsimp only at hSW); obtain ⟨z0, z1, z2, z3, z4, z5⟩ := hSW; go_simp; first | done | with_reducible rfl)
 (try simp only [pu, pn, si, s0, sn])
 refine tak (i := 6) (v := ?_) (gt rfl) ?_ ?_
 rotate_left
 focus (intro W hSW; (try dsimp only at hSW); obtain ⟨z0, z1, z2, z3, z4, z5⟩ := hSW; go_simp; first | done | with_reducible rfl)
 (try simp only [pu, pn, si, s0, sn])
 refine tak (i := 7) (v := ?_) (gt rfl) ?_ ?_
 rotate_left
 focus (intro W hSW; (try dsimp only at hSW); obtain ⟨z0, z1, z2, z3, z4, z5⟩ := hSW; go_simp; first | done | with_reducible rfl)
 (try simp only [pu, pn, si, s0, sn])
 refine tak (i := 8) (v := ?_) (gt rfl) ?_ ?_
 rotate_left
 focus (intro W hSW; (try dsimp only at hSW); obtain ⟨z0, z1, z2, z3, z4, z5⟩ := hSW; go_simp; first | done | with_reducible rfl)
 (try simp only [pu, pn, si, s0, sn])
 refine tak (i := 9) (v := ?_) (gt rfl) ?_ ?_
 rotate_left
 focus (intro W hSW; (try dsimp only at hSW); obtain ⟨z0, z1, z2, z3, z4, z5⟩ := hSW; go_simp; first | done | with_reducible rfl)
 (try simp only [pu, pn, si, s0, sn])
 refine tak (i := 10) (v := ?_) (gt rfl) ?_ ?_
 rotate_left
 focus (intro W hSW; (try dsimp only at hSW); obtain ⟨z0, z1, z2, z3, z4, z5⟩ := hSW; go_simp; first | done | with_reducible rfl)
 (try simp only [pu, pn, si, s0, sn])
 refine tak (i := 11) (v := ?_) (gt rfl) ?_ ?_
 rotate_left
 focus (intro W hSW; (try dsimp only at hSW); obtain ⟨z0, z1, z2, z3, z4, z5⟩ := hSW; go_simp; first | done | with_reducible rfl)
 (try simp only [pu, pn, si, s0, sn])
 refine tak (i := 12) (v := ?_) (gt rfl) ?_ ?_
 rotate_left
 focus (intro W hSW; (try dsimp only at hSW); obtain ⟨z0, z1, z2, z3, z4, z5⟩ := hSW; go_simp; first | done | with_reducible rfl)
 (try simp only [pu, pn, si, s0, sn])
 refine tak (i := 13) (v := ?_) (gt rfl) ?_ ?_
 rotate_left
 focus (intro W hSW; (try dsimp only at hSW); obtain ⟨z0, z1, z2, z3, z4, z5⟩ := hSW; go_simp; first | done | with_reducible rfl)
 (try simp only [pu, pn, si, s0, sn])
 refine tak (i := 14) (v := ?_) (gt rfl) ?_ ?_
 rotate_left
 focus (intro W hSW; (try dsimp only at hSW); obtain ⟨z0, z1, z2, z3, z4, z5⟩ := hSW; go_simp; first | done | with_reducible rfl)
 (try simp only [pu, pn, si, s0, sn])
 refine tak (i := 15) (v := ?_) (gt rfl) ?_ ?_
 rotate_left
 focus (intro W hSW; (try dsimp only at hSW); obtain ⟨z0, z1, z2, z3, z4, z5⟩ := hSW; go_simp; first | done | with_reducible rfl)
 (try simp only [pu, pn, si, s0, sn])
 refine tak (i := 16) (v := ?_) (gt rfl) ?_ ?_
 rotate_left
 focus (intro W hSW; (try dsimp only at hSW); obtain ⟨z0, z1, z2, z3, z4, z5⟩ := hSW; go_simp; first | done | with_reducible rfl)
 (try simp only [pu, pn, si, s0, sn])
 refine tak (i := 17) (v := ?_) (gt rfl) ?_ ?_
 rotate_left
 focus (intro W hSW; (try dsimp only at hSW); obtain ⟨z0, z1, z2, z3, z4, z5⟩ := hSW; go_simp; first | done | with_reducible rfl)
 (try simp only [pu, pn, si, s0, sn])
 refine tak (i := 18) (v := ?_) (gt rfl) ?_ ?_
 rotate_left
 focus (intro W hSW; (try dsimp only at hSW); obtain ⟨z0, z1, z2, z3, z4, z5⟩ := hSW; go_simp; first | done | with_reducible rfl)
 (try simp only [pu, pn, si, s0, sn])
 refine tak (i := 19) (v := ?_) (gt rfl) ?_ ?_
 rotate_left
 focus (intro W hSW; (try dsimp only at hSW); obtain ⟨z0, z1, z2, z3, z4, z5⟩ := hSW; go_simp; first | done | with_reducible rfl)
 (try simp only [pu, pn, si, s0, sn])
 refine tak (i := 20) (v := ?_) (gt rfl) ?_ ?_
 rotate_left
 focus (intro W hSW; (try dsimp only at hSW); obtain ⟨z0, z1, z2, z3, z4, z5⟩ := hSW; go_simp; first | done | with_reducible rfl)
 (try simp only [pu, pn, si, s0, sn])
 refine wpAnyH_ready (rs := [21]) (by kernel_rfl) (by simp) ?_
 refine AllReadyH.cons (i := 21) (gt rfl) (fun K hK => ?_) ?_
 ·go_simp
  refine hK.out _ _ ?_ (fun hHeld => ?_)
  ·(try dsimp only); exact hSc.out _ (by first | with_reducible exact below_drew HB | with_reducible exact hPost.out | with_reducible exact hPost2.out)
  clear hK K
  (try simp only [pu, pn, si, s0, sn])
  refine wpAnyH_done (by kernel_rfl) ?_ _
  refine NoPanic.normal ?_
  go_wp2_with fail
  exact bodyPost_ret (hFin.out _ rfl) rfl ⟨rfl, by first | exact hPost.out | (rw [hB]; exact hPost.out)⟩
 exact AllReadyH.nil
end Go.Proofs.YtccakklnbhcbdaaGreatDoor
