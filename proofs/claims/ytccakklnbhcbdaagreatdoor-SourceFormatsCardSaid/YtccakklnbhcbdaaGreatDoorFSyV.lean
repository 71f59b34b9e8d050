import Derived.Test.YtccakklnbhcbdaaGreatDoorFSyR
import Derived.Test.YtccakklnbhcbdaaGreatDoorFA
set_option linter.unusedVariables false
set_option linter.unusedSimpArgs false
namespace Go.Proofs.YtccakklnbhcbdaaGreatDoor
open Go.ChangeShapes Go.WideShapes Go.ChangeAt Go.RowKit
set_option maxRecDepth 100000 in
set_option maxHeartbeats 4000000 in
theorem put_rule (F : Nat) (d : Det) (p : PV) (w : World) (hF : F ≤ w.heap.size) (hV : RdV w d p) (hy : ∀ b, some b ∈ p.fp → F ≤ b) (hm : manyD d ≤ 1000000) (NM : ByteArray) (a0 a1 a2 a3 a4 a5 a6 a7 a8 : Int) (v : Value) (hv : IsI [a0, a1, a2, a3, a4, a5, a6, a7, a8] v w) (hk : ∀ g, v.ownBlock = some g → some g ∉ p.fp) : Calls Tryz.prog 64 #[.agg (detC d p), .string ⟨#[114, 117, 108, 101]⟩, .string NM, v] w (PutE F w { d with rule := [a0, a1, a2, a3, a4, a5, a6, a7, a8] }) := by
 obtain ⟨K, off, cp, rfl, -, -, hlt, hc⟩ := hv.cells (by simp)
 have q0 : w.cell? ⟨K, off, none⟩ = some (.int .i64 a0) := hc 0 (by simp)
 have q1 : w.cell? ⟨K, off + 1, none⟩ = some (.int .i64 a1) := hc 1 (by simp)
 have q2 : w.cell? ⟨K, off + 2, none⟩ = some (.int .i64 a2) := hc 2 (by simp)
 have q3 : w.cell? ⟨K, off + 3, none⟩ = some (.int .i64 a3) := hc 3 (by simp)
 have q4 : w.cell? ⟨K, off + 4, none⟩ = some (.int .i64 a4) := hc 4 (by simp)
 have q5 : w.cell? ⟨K, off + 5, none⟩ = some (.int .i64 a5) := hc 5 (by simp)
 have q6 : w.cell? ⟨K, off + 6, none⟩ = some (.int .i64 a6) := hc 6 (by simp)
 have q7 : w.cell? ⟨K, off + 7, none⟩ = some (.int .i64 a7) := hc 7 (by simp)
 have q8 : w.cell? ⟨K, off + 8, none⟩ = some (.int .i64 a8) := hc 8 (by simp)
 have hArg : Hid (∀ W : World, W.heap[K]? = w.heap[K]? → W.cell? ⟨K, off, none⟩ = some (.int .i64 a0) ∧ W.cell? ⟨K, off + 1, none⟩ = some (.int .i64 a1) ∧ W.cell? ⟨K, off + 2, none⟩ = some (.int .i64 a2) ∧ W.cell? ⟨K, off + 3, none⟩ = some (.int .i64 a3) ∧ W.cell? ⟨K, off + 4, none⟩ = some (.int .i64 a4) ∧ W.cell? ⟨K, off + 5, none⟩ = some (.int .i64 a5) ∧ W.cell? ⟨K, off + 6, none⟩ = some (.int .i64 a6) ∧ W.cell? ⟨K, off + 7, none⟩ = some (.int .i64 a7) ∧ W.cell? ⟨K, off + 8, none⟩ = some (.int .i64 a8)) := Lib.hid fun W h => ⟨(World.cell?_of_block h).trans q0, (World.cell?_of_block h).trans q1, (World.cell?_of_block h).trans q2, (World.cell?_of_block h).trans q3, (World.cell?_of_block h).trans q4, (World.cell?_of_block h).trans q5, (World.cell?_of_block h).trans q6, (World.cell?_of_block h).trans q7, (World.cell?_of_block h).trans q8⟩
 have hP0 := Lib.hid (PutW.start hF hlt hV hy (hk K rfl))
 clear hc hv hk hy hV hF q0 q1 q2 q3 q4 q5 q6 q7 q8
 show Calls _ _ #[_, _, _, .slice (some ⟨K, off, none⟩) 9 cp] _ _
 go_enter Tryz.func64, Tryz.ntmps64
 go_upto_region 12 with fail
 generalize hWW : World.alloc (World.alloc w _) _ = WW
 have hP : Hid (PutW F w K d p WW) := Lib.hid (by rw [← hWW]; exact hP0.out)
 have hPD := Lib.hid (hP.out.up (below_drew (Below.refl _ _)))
 clear hWW hP0
 obtain ⟨u10, c10⟩ : ∃ u, WW.cell? ⟨w.heap.size, 10, none⟩ = some u := At.some hP.out.kx (by rw [detC_size]; decide)
 have f10 : WW.frozen? ⟨w.heap.size, 10, none⟩ = false := hP.out.kx.f 10
 obtain ⟨u11, c11⟩ : ∃ u, WW.cell? ⟨w.heap.size, 11, none⟩ = some u := At.some hP.out.kx (by rw [detC_size]; decide)
 have f11 : WW.frozen? ⟨w.heap.size, 11, none⟩ = false := hP.out.kx.f 11
 obtain ⟨u12, c12⟩ : ∃ u, WW.cell? ⟨w.heap.size, 12, none⟩ = some u := At.some hP.out.kx (by rw [detC_size]; decide)
 have f12 : WW.frozen? ⟨w.heap.size, 12, none⟩ = false := hP.out.kx.f 12
 obtain ⟨u13, c13⟩ : ∃ u, WW.cell? ⟨w.heap.size, 13, none⟩ = some u := At.some hP.out.kx (by rw [detC_size]; decide)
 have f13 : WW.frozen? ⟨w.heap.size, 13, none⟩ = false := hP.out.kx.f 13
 obtain ⟨u14, c14⟩ : ∃ u, WW.cell? ⟨w.heap.size, 14, none⟩ = some u := At.some hP.out.kx (by rw [detC_size]; decide)
 have f14 : WW.frozen? ⟨w.heap.size, 14, none⟩ = false := hP.out.kx.f 14
 obtain ⟨u15, c15⟩ : ∃ u, WW.cell? ⟨w.heap.size, 15, none⟩ = some u := At.some hP.out.kx (by rw [detC_size]; decide)
 have f15 : WW.frozen? ⟨w.heap.size, 15, none⟩ = false := hP.out.kx.f 15
 obtain ⟨u16, c16⟩ : ∃ u, WW.cell? ⟨w.heap.size, 16, none⟩ = some u := At.some hP.out.kx (by rw [detC_size]; decide)
 have f16 : WW.frozen? ⟨w.heap.size, 16, none⟩ = false := hP.out.kx.f 16
 obtain ⟨u17, c17⟩ : ∃ u, WW.cell? ⟨w.heap.size, 17, none⟩ = some u := At.some hP.out.kx (by rw [detC_size]; decide)
 have f17 : WW.frozen? ⟨w.heap.size, 17, none⟩ = false := hP.out.kx.f 17
 obtain ⟨u18, c18⟩ : ∃ u, WW.cell? ⟨w.heap.size, 18, none⟩ = some u := At.some hP.out.kx (by rw [detC_size]; decide)
 have f18 : WW.frozen? ⟨w.heap.size, 18, none⟩ = false := hP.out.kx.f 18
 have hP6 : Hid (PutW F w K { d with rule := [a0, a1, a2, a3, a4, a5, a6, a7, a8] } p (World.drew (World.setCell (World.setCell (World.setCell (World.setCell (World.setCell (World.setCell (World.setCell (World.setCell (World.setCell WW ⟨w.heap.size, 10, none⟩ (.int .i64 a0)) ⟨w.heap.size, 11, none⟩ (.int .i64 a1)) ⟨w.heap.size, 12, none⟩ (.int .i64 a2)) ⟨w.heap.size, 13, none⟩ (.int .i64 a3)) ⟨w.heap.size, 14, none⟩ (.int .i64 a4)) ⟨w.heap.size, 15, none⟩ (.int .i64 a5)) ⟨w.heap.size, 16, none⟩ (.int .i64 a6)) ⟨w.heap.size, 17, none⟩ (.int .i64 a7)) ⟨w.heap.size, 18, none⟩ (.int .i64 a8)))) := Lib.hid (by
  have h := PutV.of hP.out
  replace h := h.put 10 (.int .i64 a0)
  replace h := h.put 11 (.int .i64 a1)
  replace h := h.put 12 (.int .i64 a2)
  replace h := h.put 13 (.int .i64 a3)
  replace h := h.put 14 (.int .i64 a4)
  replace h := h.put 15 (.int .i64 a5)
  replace h := h.put 16 (.int .i64 a6)
  replace h := h.put 17 (.int .i64 a7)
  replace h := h.put 18 (.int .i64 a8)
  refine PutW.up (W := (World.setCell (World.setCell (World.setCell (World.setCell (World.setCell (World.setCell (World.setCell (World.setCell (World.setCell WW ⟨w.heap.size, 10, none⟩ (.int .i64 a0)) ⟨w.heap.size, 11, none⟩ (.int .i64 a1)) ⟨w.heap.size, 12, none⟩ (.int .i64 a2)) ⟨w.heap.size, 13, none⟩ (.int .i64 a3)) ⟨w.heap.size, 14, none⟩ (.int .i64 a4)) ⟨w.heap.size, 15, none⟩ (.int .i64 a5)) ⟨w.heap.size, 16, none⟩ (.int .i64 a6)) ⟨w.heap.size, 17, none⟩ (.int .i64 a7)) ⟨w.heap.size, 18, none⟩ (.int .i64 a8))) ?_ (below_drew (Below.refl _ _))
  exact h.to (rule_cells d p a0 a1 a2 a3 a4 a5 a6 a7 a8) (fun v => ⟨v.boxes, v.holes, v.bars, v.runs, v.laps, v.dems, v.nb, v.ns, v.dims, v.steps, v.sep⟩))
 have hKs : Hid (∀ (W : World) (j : Nat) (u : Value), W.heap[K]? = w.heap[K]? → (World.setCell W ⟨w.heap.size, j, none⟩ u).heap[K]? = w.heap[K]?) := Lib.hid fun W j u h => (Below.heap_setCell W ⟨w.heap.size, j, none⟩ u K (by have := hP.out.kl; dsimp only; omega)).trans h
 have hKd : Hid (∀ W : World, W.heap[K]? = w.heap[K]? → (World.drew W).heap[K]? = w.heap[K]?) := Lib.hid fun W h => h
 clear hm
 refine wp_region_noPanic ?_
 refine wp_region_held_drew (S := fun W => W.cell? ⟨K, off, none⟩ = some (.int .i64 a0) ∧ W.cell? ⟨K, off + 1, none⟩ = some (.int .i64 a1) ∧ W.cell? ⟨K, off + 2, none⟩ = some (.int .i64 a2) ∧ W.cell? ⟨K, off + 3, none⟩ = some (.int .i64 a3) ∧ W.cell? ⟨K, off + 4, none⟩ = some (.int .i64 a4) ∧ W.cell? ⟨K, off + 5, none⟩ = some (.int .i64 a5) ∧ W.cell? ⟨K, off + 6, none⟩ = some (.int .i64 a6) ∧ W.cell? ⟨K, off + 7, none⟩ = some (.int .i64 a7) ∧ W.cell? ⟨K, off + 8, none⟩ = some (.int .i64 a8)) (by kernel_rfl) ?_ (fun hHeld => ?_)
 ·(try dsimp only); exact hArg.out _ (by first | with_reducible exact hPD.out.arg | (with_reducible refine hKd.out _ ?_; (repeat (with_reducible refine hKs.out _ _ _ ?_)); with_reducible exact hP.out.arg))
 refine tak (i := 0) (v := ?_) (gt rfl) ?_ ?_
 rotate_left
 focus (intro W hSW; (try dsimp only at hSW); obtain ⟨z0, z1, z2, z3, z4, z5, z6, z7, z8⟩ := hSW; go_simp; first | done | with_reducible rfl)
 (try simp only [pu, pn, si, s0, sn])
 refine tak (i := 1) (v := ?_) (gt rfl) ?_ ?_
 rotate_left
 focus (intro W hSW; (try dsimp only at hSW); obtain ⟨z0, z1, z2, z3, z4, z5, z6, z7, z8⟩ := hSW; go_simp; first | done | with_reducible rfl)
 (try simp only [pu, pn, si, s0, sn])
 refine tak (i := 2) (v := ?_) (gt rfl) ?_ ?_
 rotate_left
 focus (intro W hSW; (try dsimp only at hSW); obtain ⟨z0, z1, z2, z3, z4, z5, z6, z7, z8⟩ := hSW; go_simp; first | done | with_reducible rfl)
 (try simp only [pu, pn, si, s0, sn])
 refine tak (i := 3) (v := ?_) (gt rfl) ?_ ?_
 rotate_left
 focus (intro W hSW; (try dsimp only at hSW); obtain ⟨z0, z1, z2, z3, z4, z5, z6, z7, z8⟩ := hSW; go_simp; first | done | with_reducible rfl)
 (try simp only [pu, pn, si, s0, sn])
 refine tak (i := 4) (v := ?_) (gt rfl) ?_ ?_
 rotate_left
 focus (intro W hSW; (try dsimp only at hSW); obtain ⟨z0, z1, z2, z3, z4, z5, z6, z7, z8⟩ := hSW; go_simp; first | done | with_reducible rfl)
 (try simp only [pu, pn, si, s0, sn])
 refine tak (i := 5) (v := ?_) (gt rfl) ?_ ?_
 rotate_left
 focus (intro W hSW; (try dsimp only at hSW); obtain ⟨z0, z1, z2, z3, z4, z5, z6, z7, z8⟩ := hSW; go_simp; first | done | with_reducible rfl)
 (try simp only [pu, pn, si, s0, sn])
 refine tak (i := 6) (v := ?_) (gt rfl) ?_ ?_
 rotate_left
 focus (intro W hSW; (try dsimp only at hSW); obtain ⟨z0, z1, z2, z3, z4, z5, z6, z7, z8⟩ := hSW; go_simp; first | done | with_reducible rfl)
 (try simp only [pu, pn, si, s0, sn])
 refine tak (i := 7) (v := ?_) (gt rfl) ?_ ?_
 rotate_left
 focus (intro W hSW; (try dsimp only at hSW); obtain ⟨z0, z1, z2, z3, z4, z5, z6, z7, z8⟩ := hSW; go_simp; first | done | with_reducible rfl)
 (try simp only [pu, pn, si, s0, sn])
 refine tak (i := 8) (v := ?_) (gt rfl) ?_ ?_
 rotate_left
 focus (intro W hSW; (try dsimp only at hSW); obtain ⟨z0, z1, z2, z3, z4, z5, z6, z7, z8⟩ := hSW; go_simp; first | done | with_reducible rfl)
 (try simp only [pu, pn, si, s0, sn])
 refine tak (i := 9) (v := ?_) (gt rfl) ?_ ?_
 rotate_left
 focus (intro W hSW; (try dsimp only at hSW); obtain ⟨z0, z1, z2, z3, z4, z5, z6, z7, z8⟩ := hSW; go_simp; first | done | with_reducible rfl)
 (try simp only [pu, pn, si, s0, sn])
 refine tak (i := 10) (v := ?_) (gt rfl) ?_ ?_
 rotate_left
 focus (intro W hSW; (try dsimp only at hSW); obtain ⟨z0, z1, z2, z3, z4, z5, z6, z7, z8⟩ := hSW; go_simp; first | done | with_reducible rfl)
 (try simp only [pu, pn, si, s0, sn])
 refine tak (i := 11) (v := ?_) (gt rfl) ?_ ?_
 rotate_left
 focus (intro W hSW; (try dsimp only at hSW); obtain ⟨z0, z1, z2, z3, z4, z5, z6, z7, z8⟩ := hSW; go_simp; first | done | with_reducible rfl)
 (try simp only [pu, pn, si, s0, sn])
 refine tak (i := 12) (v := ?_) (gt rfl) ?_ ?_
 rotate_left
 focus (intro W hSW; (try dsimp only at hSW); obtain ⟨z0, z1, z2, z3, z4, z5, z6, z7, z8⟩ := hSW; go_simp; first | done | with_reducible rfl)
 (try simp only [pu, pn, si, s0, sn])
 refine tak (i := 13) (v := ?_) (gt rfl) ?_ ?_
 rotate_left
 focus (intro W hSW; (try dsimp only at hSW); obtain ⟨z0, z1, z2, z3, z4, z5, z6, z7, z8⟩ := hSW; go_simp; first | done | with_reducible rfl)
 (try simp only [pu, pn, si, s0, sn])
 refine tak (i := 14) (v := ?_) (gt rfl) ?_ ?_
 rotate_left
 focus (intro W hSW; (try dsimp only at hSW); obtain ⟨z0, z1, z2, z3, z4, z5, z6, z7, z8⟩ := hSW; go_simp; first | done | with_reducible rfl)
 (try simp only [pu, pn, si, s0, sn])
 refine tak (i := 15) (v := ?_) (gt rfl) ?_ ?_
 rotate_left
 focus (intro W hSW; (try dsimp only at hSW); obtain ⟨z0, z1, z2, z3, z4, z5, z6, z7, z8⟩ := hSW; go_simp; first | done | with_reducible rfl)
 (try simp only [pu, pn, si, s0, sn])
 refine tak (i := 16) (v := ?_) (gt rfl) ?_ ?_
 rotate_left
 focus (intro W hSW; (try dsimp only at hSW); obtain ⟨z0, z1, z2, z3, z4, z5, z6, z7, z8⟩ := hSW; go_simp; first | done | with_reducible rfl)
 (try simp only [pu, pn, si, s0, sn])
 refine tak (i := 17) (v := ?_) (gt rfl) ?_ ?_
 rotate_left
 focus (intro W hSW; (try dsimp only at hSW); obtain ⟨z0, z1, z2, z3, z4, z5, z6, z7, z8⟩ := hSW; go_simp; first | done | with_reducible rfl)
 (try simp only [pu, pn, si, s0, sn])
 refine tak (i := 18) (v := ?_) (gt rfl) ?_ ?_
 rotate_left
 focus (intro W hSW; (try dsimp only at hSW); obtain ⟨z0, z1, z2, z3, z4, z5, z6, z7, z8⟩ := hSW; go_simp; first | done | with_reducible rfl)
 (try simp only [pu, pn, si, s0, sn])
 refine tak (i := 19) (v := ?_) (gt rfl) ?_ ?_
 rotate_left
 focus (intro W hSW; (try dsimp only at hSW); obtain ⟨z0, z1, z2, z3, z4, z5, z6, z7, z8⟩ := hSW; go_simp; first | done | with_reducible rfl)
 (try simp only [pu, pn, si, s0, sn])
 refine tak (i := 20) (v := ?_) (gt rfl) ?_ ?_
 rotate_left
 focus (intro W hSW; (try dsimp only at hSW); obtain ⟨z0, z1, z2, z3, z4, z5, z6, z7, z8⟩ := hSW; go_simp; first | done | with_reducible rfl)
 (try simp only [pu, pn, si, s0, sn])
 refine tak (i := 21) (v := ?_) (gt rfl) ?_ ?_
 rotate_left
 focus (intro W hSW; (try dsimp only at hSW); obtain ⟨z0, z1, z2, z3, z4, z5, z6, z7, z8⟩ := hSW; go_simp; first | done | with_reducible rfl)
 (try simp only [pu, pn, si, s0, sn])
 refine tak (i := 22) (v := ?_) (gt rfl) ?_ ?_
 rotate_left
 focus (intro W hSW; (try dsimp only at hSW); obtain ⟨z0, z1, z2, z3, z4, z5, z6, z7, z8⟩ := hSW; go_simp; first | done | with_reducible rfl)
 (try simp only [pu, pn, si, s0, sn])
 refine tak (i := 23) (v := ?_) (gt rfl) ?_ ?_
 rotate_left
 focus (intro W hSW; (try dsimp only at hSW); obtain ⟨z0, z1, z2, z3, z4, z5, z6, z7, z8⟩ := hSW; go_simp; first | done | with_reducible rfl)
 (try simp only [pu, pn, si, s0, sn])
 refine tak (i := 24) (v := ?_) (gt rfl) ?_ ?_
 rotate_left
 focus (intro W hSW; (try dsimp only at hSW); obtain ⟨z0, z1, z2, z3, z4, z5, z6, z7, z8⟩ := hSW; go_simp; first | done | with_reducible rfl)
 (try simp only [pu, pn, si, s0, sn])
 refine tak (i := 25) (v := ?_) (gt rfl) ?_ ?_
 rotate_left
 focus (intro W hSW; (try dsimp only at hSW); obtain ⟨z0, z1, z2, z3, z4, z5, z6, z7, z8⟩ := hSW; go_simp; first | done | with_reducible rfl)
 (try simp only [pu, pn, si, s0, sn])
 refine tak (i := 26) (v := ?_) (gt rfl) ?_ ?_
 rotate_left
 focus (intro W hSW; (try dsimp only at hSW); obtain ⟨z0, z1, z2, z3, z4, z5, z6, z7, z8⟩ := hSW; go_simp; first | done | with_reducible rfl)
 (try simp only [pu, pn, si, s0, sn])
 refine tak (i := 27) (v := ?_) (gt rfl) ?_ ?_
 rotate_left
 focus (intro W hSW; (try dsimp only at hSW); obtain ⟨z0, z1, z2, z3, z4, z5, z6, z7, z8⟩ := hSW; go_simp; first | done | with_reducible rfl)
 (try simp only [pu, pn, si, s0, sn])
 refine tak (i := 28) (v := ?_) (gt rfl) ?_ ?_
 rotate_left
 focus (intro W hSW; (try dsimp only at hSW); obtain ⟨z0, z1, z2, z3, z4, z5, z6, z7, z8⟩ := hSW; go_simp; first | done | with_reducible rfl)
 (try simp only [pu, pn, si, s0, sn])
 refine wpAnyH_ready (rs := [29]) (by kernel_rfl) (by simp) ?_
 refine AllReadyH.cons (i := 29) (gt rfl) (fun K hK => ?_) ?_
 ·go_simp
  refine hK.out _ _ ?_ (fun hHeld => ?_)
  ·(try dsimp only); exact hArg.out _ (by first | with_reducible exact hPD.out.arg | (with_reducible refine hKd.out _ ?_; (repeat (with_reducible refine hKs.out _ _ _ ?_)); with_reducible exact hP.out.arg))
  clear hK K
  (try simp only [pu, pn, si, s0, sn])
  refine wpAnyH_done (by kernel_rfl) ?_ _
  refine NoPanic.normal ?_
  have kx6 := hP6.out.kx
  have kz6 := hP6.out.kz
  have h1c := detC_one hP6.out.vals
  obtain ⟨kr, hE⟩ := hP6.out.fin
  replace hE := Lib.hid hE
  generalize (World.drew (World.setCell (World.setCell (World.setCell (World.setCell (World.setCell (World.setCell (World.setCell (World.setCell (World.setCell WW ⟨w.heap.size, 10, none⟩ (.int .i64 a0)) ⟨w.heap.size, 11, none⟩ (.int .i64 a1)) ⟨w.heap.size, 12, none⟩ (.int .i64 a2)) ⟨w.heap.size, 13, none⟩ (.int .i64 a3)) ⟨w.heap.size, 14, none⟩ (.int .i64 a4)) ⟨w.heap.size, 15, none⟩ (.int .i64 a5)) ⟨w.heap.size, 16, none⟩ (.int .i64 a6)) ⟨w.heap.size, 17, none⟩ (.int .i64 a7)) ⟨w.heap.size, 18, none⟩ (.int .i64 a8))) = W6 at *
  have hs6 := Lib.hid (detC_size { d with rule := [a0, a1, a2, a3, a4, a5, a6, a7, a8] } p)
  generalize detC { d with rule := [a0, a1, a2, a3, a4, a5, a6, a7, a8] } p = cs at *
  clear hHeld hP6 hArg
  go_wp2_with (first | (refine wpList_load_row rfl 34 (.tmp 4) rfl w.heap.size (by simp [Act.eval]) 34 cs (0, 0) _ kx6 Tryz.underlying34 rfl (by rw [hs6.out]; kernel_rfl) ?_) | (refine wpList_store_row rfl 34 (.tmp 8) (.tmp 202) rfl (w.heap.size + 1) cs (by simp [Act.eval, Act.put]) (by simp [Act.eval, Act.put]) 34 zeroD kz6 (by rw [hs6.out]; kernel_rfl) (by rw [hs6.out]; rfl) h1c ?_) | fail)
  exact bodyPost_ret (put_results _ _ (w.heap.size + 1) cs rfl kr hs6.out) rfl hE.out
 exact AllReadyH.nil
end Go.Proofs.YtccakklnbhcbdaaGreatDoor
