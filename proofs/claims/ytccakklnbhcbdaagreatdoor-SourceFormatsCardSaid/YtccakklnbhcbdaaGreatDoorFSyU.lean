import Derived.Test.YtccakklnbhcbdaaGreatDoorFSyR
import Derived.Test.YtccakklnbhcbdaaGreatDoorFA
set_option linter.unusedVariables false
set_option linter.unusedSimpArgs false
namespace Go.Proofs.YtccakklnbhcbdaaGreatDoor
open Go.ChangeShapes Go.WideShapes Go.ChangeAt Go.RowKit
set_option maxRecDepth 100000 in
set_option maxHeartbeats 4000000 in
theorem put_member (F : Nat) (d : Det) (p : PV) (w : World) (hF : F ≤ w.heap.size) (hV : RdV w d p) (hy : ∀ b, some b ∈ p.fp → F ≤ b) (hm : manyD d ≤ 1000000) (NM : ByteArray) (a0 a1 a2 : Int) (v : Value) (hv : IsI [a0, a1, a2] v w) (hk : ∀ g, v.ownBlock = some g → some g ∉ p.fp) (nm : List UInt8) (hNM : NM = ⟨nm.toArray⟩) : Calls Tryz.prog 64 #[.agg (detC d p), .string ⟨#[109, 101, 109, 98, 101, 114]⟩, .string NM, v] w (PutE F w { d with name := nm, mem := [a0, a1, a2] }) := by
 replace hNM := Lib.hid hNM
 obtain ⟨K, off, cp, rfl, -, -, hlt, hc⟩ := hv.cells (by simp)
 have q0 : w.cell? ⟨K, off, none⟩ = some (.int .i64 a0) := hc 0 (by simp)
 have q1 : w.cell? ⟨K, off + 1, none⟩ = some (.int .i64 a1) := hc 1 (by simp)
 have q2 : w.cell? ⟨K, off + 2, none⟩ = some (.int .i64 a2) := hc 2 (by simp)
 have hArg : Hid (∀ W : World, W.heap[K]? = w.heap[K]? → W.cell? ⟨K, off, none⟩ = some (.int .i64 a0) ∧ W.cell? ⟨K, off + 1, none⟩ = some (.int .i64 a1) ∧ W.cell? ⟨K, off + 2, none⟩ = some (.int .i64 a2)) := Lib.hid fun W h => ⟨(World.cell?_of_block h).trans q0, (World.cell?_of_block h).trans q1, (World.cell?_of_block h).trans q2⟩
 have hP0 := Lib.hid (PutW.start hF hlt hV hy (hk K rfl))
 clear hc hv hk hy hV hF q0 q1 q2
 show Calls _ _ #[_, _, _, .slice (some ⟨K, off, none⟩) 3 cp] _ _
 go_enter Tryz.func64, Tryz.ntmps64
 go_upto_region 6 with fail
 generalize hWW : World.alloc (World.alloc w _) _ = WW
 have hP : Hid (PutW F w K d p WW) := Lib.hid (by rw [← hWW]; exact hP0.out)
 have hPD := Lib.hid (hP.out.up (below_drew (Below.refl _ _)))
 clear hWW hP0
 obtain ⟨u0, c0⟩ : ∃ u, WW.cell? ⟨w.heap.size, 0, none⟩ = some u := At.some hP.out.kx (by rw [detC_size]; decide)
 have f0 : WW.frozen? ⟨w.heap.size, 0, none⟩ = false := hP.out.kx.f 0
 obtain ⟨u3, c3⟩ : ∃ u, WW.cell? ⟨w.heap.size, 3, none⟩ = some u := At.some hP.out.kx (by rw [detC_size]; decide)
 have f3 : WW.frozen? ⟨w.heap.size, 3, none⟩ = false := hP.out.kx.f 3
 obtain ⟨u4, c4⟩ : ∃ u, WW.cell? ⟨w.heap.size, 4, none⟩ = some u := At.some hP.out.kx (by rw [detC_size]; decide)
 have f4 : WW.frozen? ⟨w.heap.size, 4, none⟩ = false := hP.out.kx.f 4
 obtain ⟨u5, c5⟩ : ∃ u, WW.cell? ⟨w.heap.size, 5, none⟩ = some u := At.some hP.out.kx (by rw [detC_size]; decide)
 have f5 : WW.frozen? ⟨w.heap.size, 5, none⟩ = false := hP.out.kx.f 5
 have hP6 : Hid (PutW F w K { d with name := nm, mem := [a0, a1, a2] } p (World.drew (World.setCell (World.setCell (World.setCell (World.setCell WW ⟨w.heap.size, 0, none⟩ (.string NM)) ⟨w.heap.size, 3, none⟩ (.int .i64 a0)) ⟨w.heap.size, 4, none⟩ (.int .i64 a1)) ⟨w.heap.size, 5, none⟩ (.int .i64 a2)))) := Lib.hid (by
  have h := PutV.of hP.out
  replace h := h.put 0 (.string NM)
  replace h := h.put 3 (.int .i64 a0)
  replace h := h.put 4 (.int .i64 a1)
  replace h := h.put 5 (.int .i64 a2)
  refine PutW.up (W := (World.setCell (World.setCell (World.setCell (World.setCell WW ⟨w.heap.size, 0, none⟩ (.string NM)) ⟨w.heap.size, 3, none⟩ (.int .i64 a0)) ⟨w.heap.size, 4, none⟩ (.int .i64 a1)) ⟨w.heap.size, 5, none⟩ (.int .i64 a2))) ?_ (below_drew (Below.refl _ _))
  exact h.to (by simp [detC, encK, List.range, List.range.loop, hNM.out]) (fun v => ⟨v.boxes, v.holes, v.bars, v.runs, v.laps, v.dems, v.nb, v.ns, v.dims, v.steps, v.sep⟩))
 have hKs : Hid (∀ (W : World) (j : Nat) (u : Value), W.heap[K]? = w.heap[K]? → (World.setCell W ⟨w.heap.size, j, none⟩ u).heap[K]? = w.heap[K]?) := Lib.hid fun W j u h => (Below.heap_setCell W ⟨w.heap.size, j, none⟩ u K (by have := hP.out.kl; dsimp only; omega)).trans h
 have hKd : Hid (∀ W : World, W.heap[K]? = w.heap[K]? → (World.drew W).heap[K]? = w.heap[K]?) := Lib.hid fun W h => h
 clear hm
 refine wp_region_noPanic ?_
 refine wp_region_held_drew (S := fun W => W.cell? ⟨K, off, none⟩ = some (.int .i64 a0) ∧ W.cell? ⟨K, off + 1, none⟩ = some (.int .i64 a1) ∧ W.cell? ⟨K, off + 2, none⟩ = some (.int .i64 a2)) (by kernel_rfl) ?_ (fun hHeld => ?_)
 ·(try dsimp only); exact hArg.out _ (by first | with_reducible exact hPD.out.arg | (with_reducible refine hKd.out _ ?_; (repeat (with_reducible refine hKs.out _ _ _ ?_)); with_reducible exact hP.out.arg))
 refine tak (i := 0) (v := ?_) (gt rfl) ?_ ?_
 rotate_left
 focus (intro W hSW; (try dsimp only at hSW); obtain ⟨z0, z1, z2⟩ := hSW; go_simp; first | done | with_reducible rfl)
 (try simp only [pu, pn, si, s0, sn])
 refine tak (i := 1) (v := ?_) (gt rfl) ?_ ?_
 rotate_left
 focus (intro W hSW; (try dsimp only at hSW); obtain ⟨z0, z1, z2⟩ := hSW; go_simp; first | done | with_reducible rfl)
 (try simp only [pu, pn, si, s0, sn])
 refine tak (i := 2) (v := ?_) (gt rfl) ?_ ?_
 rotate_left
 focus (intro W hSW; (try dsimp only at hSW); obtain ⟨z0, z1, z2⟩ := hSW; go_simp; first | done | with_reducible rfl)
 (try simp only [pu, pn, si, s0, sn])
 refine tak (i := 3) (v := ?_) (gt rfl) ?_ ?_
 rotate_left
 focus (intro W hSW; (try dsimp only at hSW); obtain ⟨z0, z1, z2⟩ := hSW; go_simp; first | done | with_reducible rfl)
 (try simp only [pu, pn, si, s0, sn])
 refine tak (i := 4) (v := ?_) (gt rfl) ?_ ?_
 rotate_left
 focus (intro W hSW; (try dsimp only at hSW); obtain ⟨z0, z1, z2⟩ := hSW; go_simp; first | done | with_reducible rfl)
 (try simp only [pu, pn, si, s0, sn])
 refine tak (i := 5) (v := ?_) (gt rfl) ?_ ?_
 rotate_left
 focus (intro W hSW; (try dsimp only at hSW); obtain ⟨z0, z1, z2⟩ := hSW; go_simp; first | done | with_reducible rfl)
 (try simp only [pu, pn, si, s0, sn])
 refine tak (i := 6) (v := ?_) (gt rfl) ?_ ?_
 rotate_left
 focus (intro W hSW; (try dsimp only at hSW); obtain ⟨z0, z1, z2⟩ := hSW; go_simp; first | done | with_reducible rfl)
 (try simp only [pu, pn, si, s0, sn])
 refine tak (i := 7) (v := ?_) (gt rfl) ?_ ?_
 rotate_left
 focus (intro W hSW; (try dsimp only at hSW); obtain ⟨z0, z1, z2⟩ := hSW; go_simp; first | done | with_reducible rfl)
 (try simp only [pu, pn, si, s0, sn])
 refine tak (i := 8) (v := ?_) (gt rfl) ?_ ?_
 rotate_left
 focus (intro W hSW; (try dsimp only at hSW); obtain ⟨z0, z1, z2⟩ := hSW; go_simp; first | done | with_reducible rfl)
 (try simp only [pu, pn, si, s0, sn])
 refine tak (i := 9) (v := ?_) (gt rfl) ?_ ?_
 rotate_left
 focus (intro W hSW; (try dsimp only at hSW); obtain ⟨z0, z1, z2⟩ := hSW; go_simp; first | done | with_reducible rfl)
 (try simp only [pu, pn, si, s0, sn])
 refine tak (i := 10) (v := ?_) (gt rfl) ?_ ?_
 rotate_left
 focus (intro W hSW; (try dsimp only at hSW); obtain ⟨z0, z1, z2⟩ := hSW; go_simp; first | done | with_reducible rfl)
 (try simp only [pu, pn, si, s0, sn])
 refine tak (i := 11) (v := ?_) (gt rfl) ?_ ?_
 rotate_left
 focus (intro W hSW; (try dsimp only at hSW); obtain ⟨z0, z1, z2⟩ := hSW; go_simp; first | done | with_reducible rfl)
 (try simp only [pu, pn, si, s0, sn])
 refine wpAnyH_ready (rs := [12]) (by kernel_rfl) (by simp) ?_
 refine AllReadyH.cons (i := 12) (gt rfl) (fun K hK => ?_) ?_
 ·go_simp
  refine hK.out _ _ ?_ (fun hHeld => ?_)
  ·(try dsimp only); exact hArg.out _ (by first | with_reducible exact hPD.out.arg | (with_reducible refine hKd.out _ ?_; (repeat (with_reducible refine hKs.out _ _ _ ?_)); with_reducible exact hP.out.arg))
  clear hK K
  (try simp only [pu, pn, si, s0, sn])
  refine tak (i := 13) (v := ?_) (gt rfl) ?_ ?_
  rotate_left
  focus (intro W hSW; (try dsimp only at hSW); obtain ⟨z0, z1, z2⟩ := hSW; go_simp; first | done | with_reducible rfl)
  (try simp only [pu, pn, si, s0, sn])
  refine tak (i := 14) (v := ?_) (gt rfl) ?_ ?_
  rotate_left
  focus (intro W hSW; (try dsimp only at hSW); obtain ⟨z0, z1, z2⟩ := hSW; go_simp; first | done | with_reducible rfl)
  (try simp only [pu, pn, si, s0, sn])
  refine wpAnyH_ready (rs := [15]) (by kernel_rfl) (by simp) ?_
  refine AllReadyH.cons (i := 15) (gt rfl) (fun K hK => ?_) ?_
  ·go_simp
   refine hK.out _ _ ?_ (fun hHeld => ?_)
   ·(try dsimp only); exact hArg.out _ (by first | with_reducible exact hPD.out.arg | (with_reducible refine hKd.out _ ?_; (repeat (with_reducible refine hKs.out _ _ _ ?_)); with_reducible exact hP.out.arg))
   clear hK K
   (try simp only [pu, pn, si, s0, sn])
   refine tak (i := 16) (v := ?_) (gt rfl) ?_ ?_
   rotate_left
   focus (intro W hSW; (try dsimp only at hSW); obtain ⟨z0, z1, z2⟩ := hSW; go_simp; first | done | with_reducible rfl)
   (try simp only [pu, pn, si, s0, sn])
   refine tak (i := 17) (v := ?_) (gt rfl) ?_ ?_
   rotate_left
   focus (intro W hSW; (try dsimp only at hSW); obtain ⟨z0, z1, z2⟩ := hSW; go_simp; first | done | with_reducible rfl)
   (try simp only [pu, pn, si, s0, sn])
   refine wpAnyH_ready (rs := [18]) (by kernel_rfl) (by simp) ?_
   refine AllReadyH.cons (i := 18) (gt rfl) (fun K hK => ?_) ?_
   ·go_simp
    refine hK.out _ _ ?_ (fun hHeld => ?_)
    ·(try dsimp only); exact hArg.out _ (by first | with_reducible exact hPD.out.arg | (with_reducible refine hKd.out _ ?_; (repeat (with_reducible refine hKs.out _ _ _ ?_)); with_reducible exact hP.out.arg))
    clear hK K
    (try simp only [pu, pn, si, s0, sn])
    refine tak (i := 19) (v := ?_) (gt rfl) ?_ ?_
    rotate_left
    focus (intro W hSW; (try dsimp only at hSW); obtain ⟨z0, z1, z2⟩ := hSW; go_simp; first | done | with_reducible rfl)
    (try simp only [pu, pn, si, s0, sn])
    refine tak (i := 20) (v := ?_) (gt rfl) ?_ ?_
    rotate_left
    focus (intro W hSW; (try dsimp only at hSW); obtain ⟨z0, z1, z2⟩ := hSW; go_simp; first | done | with_reducible rfl)
    (try simp only [pu, pn, si, s0, sn])
    refine wpAnyH_ready (rs := [21]) (by kernel_rfl) (by simp) ?_
    refine AllReadyH.cons (i := 21) (gt rfl) (fun K hK => ?_) ?_
    ·go_simp
     refine hK.out _ _ ?_ (fun hHeld => ?_)
     ·(try dsimp only); exact hArg.out _ (by first | with_reducible exact hPD.out.arg | (with_reducible refine hKd.out _ ?_; (repeat (with_reducible refine hKs.out _ _ _ ?_)); with_reducible exact hP.out.arg))
     clear hK K
     (try simp only [pu, pn, si, s0, sn])
     refine wpAnyH_done (by kernel_rfl) ?_ _
     refine NoPanic.normal ?_
     have kx6 := hP6.out.kx
     have kz6 := hP6.out.kz
     have h1c := detC_one hP6.out.vals
     obtain ⟨kr, hE⟩ := hP6.out.fin
     replace hE := Lib.hid hE
     generalize (World.drew (World.setCell (World.setCell (World.setCell (World.setCell WW ⟨w.heap.size, 0, none⟩ (.string NM)) ⟨w.heap.size, 3, none⟩ (.int .i64 a0)) ⟨w.heap.size, 4, none⟩ (.int .i64 a1)) ⟨w.heap.size, 5, none⟩ (.int .i64 a2))) = W6 at *
     have hs6 := Lib.hid (detC_size { d with name := nm, mem := [a0, a1, a2] } p)
     generalize detC { d with name := nm, mem := [a0, a1, a2] } p = cs at *
     clear hHeld hP6 hArg
     go_wp2_with (first | (refine wpList_load_row rfl 34 (.tmp 4) rfl w.heap.size (by simp [Act.eval]) 34 cs (0, 0) _ kx6 Tryz.underlying34 rfl (by rw [hs6.out]; kernel_rfl) ?_) | (refine wpList_store_row rfl 34 (.tmp 8) (.tmp 202) rfl (w.heap.size + 1) cs (by simp [Act.eval, Act.put]) (by simp [Act.eval, Act.put]) 34 zeroD kz6 (by rw [hs6.out]; kernel_rfl) (by rw [hs6.out]; rfl) h1c ?_) | fail)
     exact bodyPost_ret (put_results _ _ (w.heap.size + 1) cs rfl kr hs6.out) rfl hE.out
    exact AllReadyH.nil
   exact AllReadyH.nil
  exact AllReadyH.nil
 exact AllReadyH.nil
end Go.Proofs.YtccakklnbhcbdaaGreatDoor
