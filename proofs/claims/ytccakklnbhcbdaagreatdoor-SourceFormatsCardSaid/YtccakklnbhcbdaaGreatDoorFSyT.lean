import Derived.Test.YtccakklnbhcbdaaGreatDoorFSyR
import Derived.Test.YtccakklnbhcbdaaGreatDoorFA
set_option linter.unusedVariables false
set_option linter.unusedSimpArgs false
namespace Go.Proofs.YtccakklnbhcbdaaGreatDoor
open Go.ChangeShapes Go.WideShapes Go.ChangeAt Go.RowKit
set_option maxRecDepth 100000 in
set_option maxHeartbeats 4000000 in
theorem put_box (F : Nat) (d : Det) (p : PV) (w : World) (hF : F ≤ w.heap.size) (hV : RdV w d p) (hy : ∀ b, some b ∈ p.fp → F ≤ b) (hm : manyD d ≤ 1000000) (NM : ByteArray) (a0 a1 a2 a3 a4 a5 : Int) (v : Value) (hv : IsI [a0, a1, a2, a3, a4, a5] v w) (hk : ∀ g, v.ownBlock = some g → some g ∉ p.fp) : Calls Tryz.prog 64 #[.agg (detC d p), .string ⟨#[98, 111, 120]⟩, .string NM, v] w (PutE F w { d with boxes := d.boxes ++ [[a0, a1, a2, a3, a4, a5]] }) := by
 have hvI := hv
 obtain ⟨K, off, cp, rfl, -, -, hlt, hc⟩ := hv.cells (by simp)
 have q0 : w.cell? ⟨K, off, none⟩ = some (.int .i64 a0) := hc 0 (by simp)
 have q1 : w.cell? ⟨K, off + 1, none⟩ = some (.int .i64 a1) := hc 1 (by simp)
 have q2 : w.cell? ⟨K, off + 2, none⟩ = some (.int .i64 a2) := hc 2 (by simp)
 have q3 : w.cell? ⟨K, off + 3, none⟩ = some (.int .i64 a3) := hc 3 (by simp)
 have q4 : w.cell? ⟨K, off + 4, none⟩ = some (.int .i64 a4) := hc 4 (by simp)
 have q5 : w.cell? ⟨K, off + 5, none⟩ = some (.int .i64 a5) := hc 5 (by simp)
 have hArg : Hid (∀ W : World, W.heap[K]? = w.heap[K]? → W.cell? ⟨K, off, none⟩ = some (.int .i64 a0) ∧ W.cell? ⟨K, off + 1, none⟩ = some (.int .i64 a1) ∧ W.cell? ⟨K, off + 2, none⟩ = some (.int .i64 a2) ∧ W.cell? ⟨K, off + 3, none⟩ = some (.int .i64 a3) ∧ W.cell? ⟨K, off + 4, none⟩ = some (.int .i64 a4) ∧ W.cell? ⟨K, off + 5, none⟩ = some (.int .i64 a5)) := Lib.hid fun W h => ⟨(World.cell?_of_block h).trans q0, (World.cell?_of_block h).trans q1, (World.cell?_of_block h).trans q2, (World.cell?_of_block h).trans q3, (World.cell?_of_block h).trans q4, (World.cell?_of_block h).trans q5⟩
 have hP0 := Lib.hid (PutW.start hF hlt hV hy (hk K rfl))
 clear hc hv hk hy hV hF q0 q1 q2 q3 q4 q5
 have hIs : Hid (∀ W : World, K < W.heap.size → W.heap[K]? = w.heap[K]? → IsI [a0, a1, a2, a3, a4, a5] (.slice (some ⟨K, off, none⟩) 6 cp) W) := Lib.hid fun W h1 h2 => IsI.same hvI h2 h1
 clear hvI
 show Calls _ _ #[_, _, _, .slice (some ⟨K, off, none⟩) 6 cp] _ _
 go_enter Tryz.func64, Tryz.ntmps64
 go_upto_region 8 with fail
 generalize hWW : World.alloc (World.alloc w _) _ = WW
 have hP : Hid (PutW F w K d p WW) := Lib.hid (by rw [← hWW]; exact hP0.out)
 have hPD := Lib.hid (hP.out.up (below_drew (Below.refl _ _)))
 clear hWW hP0
 obtain ⟨vo, cp0, hvb, hcp, -⟩ := hP.out.vals.boxes.view (encK_len 6)
 obtain ⟨nb, hnb⟩ : ∃ nb, nb = d.boxes.length := ⟨_, rfl⟩
 have hvb : p.vb = .slice vo nb cp0 := by rw [hnb]; exact hvb
 have hnb6 : nb ≤ 1000000 := by rw [hnb]; unfold manyD at hm; omega
 obtain ⟨i0, hi0, hz0, hz1, hz2⟩ := info_parts infoBox
 have hne : (encK 6) [a0, a1, a2, a3, a4, a5] = [.int .i64 a0, .int .i64 a1, .int .i64 a2, .int .i64 a3, .int .i64 a4, .int .i64 a5] := by rfl
 have hY : Hid (∀ W : World, PutW F w K d p W → W.cell? ⟨w.heap.size, 1, none⟩ = some (.slice vo nb cp0)) := Lib.hid fun W h => by
  rw [h.kx.c 1, ← hvb]
  simp [detC, encK, List.range, List.range.loop]
 have hOw : Hid (∀ W : World, PutW F w K d p W → W.ownsRow 0 60 6 (.slice vo nb cp0) nb (d.boxes.flatMap (encK 6))) := Lib.hid fun W h => by
  have q := h.vals.boxes
  unfold Row at q
  rw [← hvb, hnb]
  exact q
 have hPu : Hid (∀ (WB w5 : World) (g5 : Option Addr) (c5 : Nat), PutW F w K d p WB → w5.ownsRow 0 60 6 (.slice g5 (nb + 1) c5) (nb + 1) (d.boxes.flatMap (encK 6) ++ [.int .i64 a0, .int .i64 a1, .int .i64 a2, .int .i64 a3, .int .i64 a4, .int .i64 a5]) → WB.grownBy w5 (Value.slice vo nb cp0).ownBlock → ((Value.slice g5 (nb + 1) c5).ownBlock = (Value.slice vo nb cp0).ownBlock ∨ (Value.slice g5 (nb + 1) c5).ownBlock = some WB.heap.size) →
   w5.cell? ⟨w.heap.size, 1, none⟩ = some (.slice vo nb cp0) ∧ w5.frozen? ⟨w.heap.size, 1, none⟩ = false ∧ w5.heap[K]? = w.heap[K]? ∧ Hid (PutW F w K { d with boxes := d.boxes ++ [[a0, a1, a2, a3, a4, a5]] } { p with vb := .slice g5 (nb + 1) c5 } (w5.setCell ⟨w.heap.size, 1, none⟩ (.slice g5 (nb + 1) c5)))) := Lib.hid fun WB w5 g5 c5 hW ho5 hg5 hloc => by
  obtain ⟨ha5, hk5, h6⟩ := hW.pushB (v' := .slice g5 (nb + 1) c5) (n := [a0, a1, a2, a3, a4, a5]) (by rw [hvb]; exact hg5) (by rw [← hnb, hne]; exact ho5) (m := WB.heap.size) (Nat.le_refl _) (by rw [hvb]; exact hloc)
  refine ⟨?_, ha5.f 1, hk5, Lib.hid h6⟩
  rw [ha5.c 1, ← hvb]
  simp [detC, encK, List.range, List.range.loop]
 replace hnb := Lib.hid hnb
 replace hvb := Lib.hid hvb
 clear hm hcp
 have yD := hY.out _ hPD.out
 refine wp_region_noPanic ?_
 refine wp_region_held_drew (S := fun W => W.cell? ⟨K, off, none⟩ = some (.int .i64 a0) ∧ W.cell? ⟨K, off + 1, none⟩ = some (.int .i64 a1) ∧ W.cell? ⟨K, off + 2, none⟩ = some (.int .i64 a2) ∧ W.cell? ⟨K, off + 3, none⟩ = some (.int .i64 a3) ∧ W.cell? ⟨K, off + 4, none⟩ = some (.int .i64 a4) ∧ W.cell? ⟨K, off + 5, none⟩ = some (.int .i64 a5)) (by kernel_rfl) ?_ (fun hHeld => ?_)
 ·(try dsimp only); exact hArg.out _ (by first | exact hP6.out.arg | exact hK5 | exact hPB.out.arg | exact hPA.out.arg | exact hPD.out.arg)
 refine tak (i := 0) (v := ?_) (gt rfl) ?_ ?_
 rotate_left
 focus (intro W hSW; (try dsimp only at hSW); obtain ⟨z0, z1, z2, z3, z4, z5⟩ := hSW; go_simp; first | done | with_reducible rfl)
 (try simp only [pu, pn, si, s0, sn])
 refine tak (i := 1) (v := ?_) (gt rfl) ?_ ?_
 rotate_left
 focus (intro W hSW; (try dsimp only at hSW); obtain ⟨z0, z1, z2, z3, z4, z5⟩ := hSW; go_simp; first | done | with_reducible rfl)
 (try simp only [pu, pn, si, s0, sn])
 refine tak (i := 2) (v := ?_) (gt rfl) ?_ ?_
 rotate_left
 focus (intro W hSW; (try dsimp only at hSW); obtain ⟨z0, z1, z2, z3, z4, z5⟩ := hSW; go_simp; first | done | with_reducible rfl)
 (try simp only [pu, pn, si, s0, sn])
 refine tak (i := 4) (v := ?_) (gt rfl) ?_ ?_
 rotate_left
 focus (intro W hSW; (try dsimp only at hSW); obtain ⟨z0, z1, z2, z3, z4, z5⟩ := hSW; go_simp; first | done | with_reducible rfl)
 (try simp only [pu, pn, si, s0, sn])
 refine wpAnyH_ready (rs := [3, 5]) (by kernel_rfl) (by simp) ?_
 refine AllReadyH.cons (i := 3) (gt rfl) (fun K hK => ?_) ?_
 ·go_simp
  refine hK.out _ _ ?_ (fun hHeld => ?_)
  ·(try dsimp only); exact hArg.out _ (by first | exact hP6.out.arg | exact hK5 | exact hPB.out.arg | exact hPA.out.arg | exact hPD.out.arg)
  clear hK K
  (try simp only [pu, pn, si, s0, sn])
  refine wpAnyH_ready (rs := [5]) (by kernel_rfl) (by simp) ?_
  refine AllReadyH.cons (i := 5) (gt rfl) (fun K hK => ?_) ?_
  ·go_simp
   go_at_call 103
   refine (rbox_any a0 a1 a2 a3 a4 a5 _ _ (hIs.out _ (by have := hPD.out.kx.lt; have := hPD.out.kl; omega) hPD.out.arg)).mono ?_
   rintro e w4 ⟨rfl, hb4⟩
   have hPB := Lib.hid (hPD.out.up hb4)
   have yB := hY.out _ hPB.out
   have hPA := Lib.hid (hPB.out.up (below_al (Below.refl _ _) (.cells #[.int .i64 a0, .int .i64 a1, .int .i64 a2, .int .i64 a3, .int .i64 a4, .int .i64 a5] 60)))
   have hNA : Hid (∀ j u, ([.int .i64 a0, .int .i64 a1, .int .i64 a2, .int .i64 a3, .int .i64 a4, .int .i64 a5] : List Value)[j]? = some u → (World.alloc w4 (.cells #[.int .i64 a0, .int .i64 a1, .int .i64 a2, .int .i64 a3, .int .i64 a4, .int .i64 a5] 60)).cell? ((⟨w4.heap.size, 0, none⟩ : Addr).add j) = some u) := Lib.hid (new_at (At.new' rfl))
   have yA := hY.out _ hPA.out
   clear hb4
   (try go_wp2_with fail)
   refine hK.out _ _ ?_ (fun hHeld => ?_)
   ·(try dsimp only); exact hArg.out _ (by first | exact hP6.out.arg | exact hK5 | exact hPB.out.arg | exact hPA.out.arg | exact hPD.out.arg)
   clear hK K
   (try simp only [pu, pn, si, s0, sn])
   refine wpAnyH_ready (rs := [6]) (by kernel_rfl) (by simp) ?_
   refine AllReadyH.cons (i := 6) (gt rfl) (fun K hK => ?_) ?_
   ·go_simp
    refine hK.out _ _ ?_ (fun hHeld => ?_)
    ·(try dsimp only); exact hArg.out _ (by first | exact hP6.out.arg | exact hK5 | exact hPB.out.arg | exact hPA.out.arg | exact hPD.out.arg)
    clear hK K
    (try simp only [pu, pn, si, s0, sn])
    refine wpAnyH_ready (rs := [7]) (by kernel_rfl) (by simp) ?_
    refine AllReadyH.cons (i := 7) (gt rfl) (fun K hK => ?_) ?_
    ·refine step_append_w _ (by rfl) (.tmp 64) (.tmp 67) 22 rfl 0 60 i0 _ 6 48 Tryz.underlying22 hi0 hz0 hz1 hz2 rfl (by decide) (.slice vo nb cp0) nb (d.boxes.flatMap (encK 6)) (by first | rfl | (simp [Act.eval]; done)) (hOw.out _ hPA.out) ⟨w4.heap.size, 0, none⟩ 1 1 [.int .i64 a0, .int .i64 a1, .int .i64 a2, .int .i64 a3, .int .i64 a4, .int .i64 a5] (by first | rfl | (simp [Act.eval]; done)) rfl hNA.out (by intro u hu; simp at hu; rcases hu with rfl | rfl | rfl | rfl | rfl | rfl <;> rfl) (by unfold maxLen; omega) (by omega) (Nat.zero_le _) ?_
     intro g5 c5 w5 ho5 hg5 hl5
     obtain ⟨y5, f5, hK5, hP6⟩ := hPu.out _ w5 g5 c5 hPA.out ho5 hg5 hl5
     clear ho5 hg5 hl5
     refine hK.out _ _ ?_ (fun hHeld => ?_)
     ·(try dsimp only); exact hArg.out _ (by first | exact hP6.out.arg | exact hK5 | exact hPB.out.arg | exact hPA.out.arg | exact hPD.out.arg)
     clear hK K
     (try simp only [pu, pn, si, s0, sn])
     refine tak (i := 8) (v := ?_) (gt rfl) ?_ ?_
     rotate_left
     focus (intro W hSW; (try dsimp only at hSW); obtain ⟨z0, z1, z2, z3, z4, z5⟩ := hSW; go_simp; first | done | with_reducible rfl)
     (try simp only [pu, pn, si, s0, sn])
     refine tak (i := 9) (v := ?_) (gt rfl) ?_ ?_
     rotate_left
     focus (intro W hSW; (try dsimp only at hSW); obtain ⟨z0, z1, z2, z3, z4, z5⟩ := hSW; go_simp; first | done | with_reducible rfl)
     (try simp only [pu, pn, si, s0, sn])
     refine tak (i := 10) (v := ?_) (gt rfl) ?_ ?_
     rotate_left
     focus (intro W hSW; (try dsimp only at hSW); obtain ⟨z0, z1, z2, z3, z4, z5⟩ := hSW; go_simp; first | done | with_reducible rfl)
     (try simp only [pu, pn, si, s0, sn])
     refine wpAnyH_ready (rs := [11]) (by kernel_rfl) (by simp) ?_
     refine AllReadyH.cons (i := 11) (gt rfl) (fun K hK => ?_) ?_
     ·go_simp
      refine hK.out _ _ ?_ (fun hHeld => ?_)
      ·(try dsimp only); exact hArg.out _ (by first | exact hP6.out.arg | exact hK5 | exact hPB.out.arg | exact hPA.out.arg | exact hPD.out.arg)
      clear hK K
      (try simp only [pu, pn, si, s0, sn])
      refine wpAnyH_done (by kernel_rfl) ?_ _
      refine NoPanic.normal ?_
      have kx6 := hP6.out.kx
      have kz6 := hP6.out.kz
      have h1c := detC_one hP6.out.vals
      obtain ⟨kr, hE⟩ := hP6.out.fin
      replace hE := Lib.hid hE
      generalize World.setCell _ _ _ = W6 at *
      have hs6 := Lib.hid (detC_size { d with boxes := d.boxes ++ [[a0, a1, a2, a3, a4, a5]] } { p with vb := .slice g5 (nb + 1) c5 })
      generalize detC { d with boxes := d.boxes ++ [[a0, a1, a2, a3, a4, a5]] } { p with vb := .slice g5 (nb + 1) c5 } = cs at *
      clear hHeld hP6 hArg
      go_wp2_with (first | (refine wpList_load_row rfl 34 (.tmp 4) rfl w.heap.size (by simp [Act.eval]) 34 cs (0, 0) _ kx6 Tryz.underlying34 rfl (by rw [hs6.out]; kernel_rfl) ?_) | (refine wpList_store_row rfl 34 (.tmp 8) (.tmp 202) rfl (w.heap.size + 1) cs (by simp [Act.eval, Act.put]) (by simp [Act.eval, Act.put]) 34 zeroD kz6 (by rw [hs6.out]; kernel_rfl) (by rw [hs6.out]; rfl) h1c ?_) | fail)
      exact bodyPost_ret (put_results _ _ (w.heap.size + 1) cs rfl kr hs6.out) rfl hE.out
     exact AllReadyH.nil
    exact AllReadyH.nil
   exact AllReadyH.nil
  exact AllReadyH.nil
 refine AllReadyH.cons (i := 5) (gt rfl) (fun K hK => ?_) ?_
 ·go_simp
  go_at_call 103
  refine (rbox_any a0 a1 a2 a3 a4 a5 _ _ (hIs.out _ (by have := hPD.out.kx.lt; have := hPD.out.kl; omega) hPD.out.arg)).mono ?_
  rintro e w4 ⟨rfl, hb4⟩
  have hPB := Lib.hid (hPD.out.up hb4)
  have yB := hY.out _ hPB.out
  have hPA := Lib.hid (hPB.out.up (below_al (Below.refl _ _) (.cells #[.int .i64 a0, .int .i64 a1, .int .i64 a2, .int .i64 a3, .int .i64 a4, .int .i64 a5] 60)))
  have hNA : Hid (∀ j u, ([.int .i64 a0, .int .i64 a1, .int .i64 a2, .int .i64 a3, .int .i64 a4, .int .i64 a5] : List Value)[j]? = some u → (World.alloc w4 (.cells #[.int .i64 a0, .int .i64 a1, .int .i64 a2, .int .i64 a3, .int .i64 a4, .int .i64 a5] 60)).cell? ((⟨w4.heap.size, 0, none⟩ : Addr).add j) = some u) := Lib.hid (new_at (At.new' rfl))
  have yA := hY.out _ hPA.out
  clear hb4
  (try go_wp2_with fail)
  refine hK.out _ _ ?_ (fun hHeld => ?_)
  ·(try dsimp only); exact hArg.out _ (by first | exact hP6.out.arg | exact hK5 | exact hPB.out.arg | exact hPA.out.arg | exact hPD.out.arg)
  clear hK K
  (try simp only [pu, pn, si, s0, sn])
  refine wpAnyH_ready (rs := [3, 6]) (by kernel_rfl) (by simp) ?_
  refine AllReadyH.cons (i := 3) (gt rfl) (fun K hK => ?_) ?_
  ·go_simp
   refine hK.out _ _ ?_ (fun hHeld => ?_)
   ·(try dsimp only); exact hArg.out _ (by first | exact hP6.out.arg | exact hK5 | exact hPB.out.arg | exact hPA.out.arg | exact hPD.out.arg)
   clear hK K
   (try simp only [pu, pn, si, s0, sn])
   refine wpAnyH_ready (rs := [6]) (by kernel_rfl) (by simp) ?_
   refine AllReadyH.cons (i := 6) (gt rfl) (fun K hK => ?_) ?_
   ·go_simp
    refine hK.out _ _ ?_ (fun hHeld => ?_)
    ·(try dsimp only); exact hArg.out _ (by first | exact hP6.out.arg | exact hK5 | exact hPB.out.arg | exact hPA.out.arg | exact hPD.out.arg)
    clear hK K
    (try simp only [pu, pn, si, s0, sn])
    refine wpAnyH_ready (rs := [7]) (by kernel_rfl) (by simp) ?_
    refine AllReadyH.cons (i := 7) (gt rfl) (fun K hK => ?_) ?_
    ·refine step_append_w _ (by rfl) (.tmp 64) (.tmp 67) 22 rfl 0 60 i0 _ 6 48 Tryz.underlying22 hi0 hz0 hz1 hz2 rfl (by decide) (.slice vo nb cp0) nb (d.boxes.flatMap (encK 6)) (by first | rfl | (simp [Act.eval]; done)) (hOw.out _ hPA.out) ⟨w4.heap.size, 0, none⟩ 1 1 [.int .i64 a0, .int .i64 a1, .int .i64 a2, .int .i64 a3, .int .i64 a4, .int .i64 a5] (by first | rfl | (simp [Act.eval]; done)) rfl hNA.out (by intro u hu; simp at hu; rcases hu with rfl | rfl | rfl | rfl | rfl | rfl <;> rfl) (by unfold maxLen; omega) (by omega) (Nat.zero_le _) ?_
     intro g5 c5 w5 ho5 hg5 hl5
     obtain ⟨y5, f5, hK5, hP6⟩ := hPu.out _ w5 g5 c5 hPA.out ho5 hg5 hl5
     clear ho5 hg5 hl5
     refine hK.out _ _ ?_ (fun hHeld => ?_)
     ·(try dsimp only); exact hArg.out _ (by first | exact hP6.out.arg | exact hK5 | exact hPB.out.arg | exact hPA.out.arg | exact hPD.out.arg)
     clear hK K
     (try simp only [pu, pn, si, s0, sn])
     refine tak (i := 8) (v := ?_) (gt rfl) ?_ ?_
     rotate_left
     focus (intro W hSW; (try dsimp only at hSW); obtain ⟨z0, z1, z2, z3, z4, z5⟩ := hSW; go_simp; first | done | with_reducible rfl)
     (try simp only [pu, pn, si, s0, sn])
     refine tak (i := 9) (v := ?_) (gt rfl) ?_ ?_
     rotate_left
     focus (intro W hSW; (try dsimp only at hSW); obtain ⟨z0, z1, z2, z3, z4, z5⟩ := hSW; go_simp; first | done | with_reducible rfl)
     (try simp only [pu, pn, si, s0, sn])
     refine tak (i := 10) (v := ?_) (gt rfl) ?_ ?_
     rotate_left
     focus (intro W hSW; (try dsimp only at hSW); obtain ⟨z0, z1, z2, z3, z4, z5⟩ := hSW; go_simp; first | done | with_reducible rfl)
     (try simp only [pu, pn, si, s0, sn])
     refine wpAnyH_ready (rs := [11]) (by kernel_rfl) (by simp) ?_
     refine AllReadyH.cons (i := 11) (gt rfl) (fun K hK => ?_) ?_
     ·go_simp
      refine hK.out _ _ ?_ (fun hHeld => ?_)
      ·(try dsimp only); exact hArg.out _ (by first | exact hP6.out.arg | exact hK5 | exact hPB.out.arg | exact hPA.out.arg | exact hPD.out.arg)
      clear hK K
      (try simp only [pu, pn, si, s0, sn])
      refine wpAnyH_done (by kernel_rfl) ?_ _
      refine NoPanic.normal ?_
      have kx6 := hP6.out.kx
      have kz6 := hP6.out.kz
      have h1c := detC_one hP6.out.vals
      obtain ⟨kr, hE⟩ := hP6.out.fin
      replace hE := Lib.hid hE
      generalize World.setCell _ _ _ = W6 at *
      have hs6 := Lib.hid (detC_size { d with boxes := d.boxes ++ [[a0, a1, a2, a3, a4, a5]] } { p with vb := .slice g5 (nb + 1) c5 })
      generalize detC { d with boxes := d.boxes ++ [[a0, a1, a2, a3, a4, a5]] } { p with vb := .slice g5 (nb + 1) c5 } = cs at *
      clear hHeld hP6 hArg
      go_wp2_with (first | (refine wpList_load_row rfl 34 (.tmp 4) rfl w.heap.size (by simp [Act.eval]) 34 cs (0, 0) _ kx6 Tryz.underlying34 rfl (by rw [hs6.out]; kernel_rfl) ?_) | (refine wpList_store_row rfl 34 (.tmp 8) (.tmp 202) rfl (w.heap.size + 1) cs (by simp [Act.eval, Act.put]) (by simp [Act.eval, Act.put]) 34 zeroD kz6 (by rw [hs6.out]; kernel_rfl) (by rw [hs6.out]; rfl) h1c ?_) | fail)
      exact bodyPost_ret (put_results _ _ (w.heap.size + 1) cs rfl kr hs6.out) rfl hE.out
     exact AllReadyH.nil
    exact AllReadyH.nil
   exact AllReadyH.nil
  refine AllReadyH.cons (i := 6) (gt rfl) (fun K hK => ?_) ?_
  ·go_simp
   refine hK.out _ _ ?_ (fun hHeld => ?_)
   ·(try dsimp only); exact hArg.out _ (by first | exact hP6.out.arg | exact hK5 | exact hPB.out.arg | exact hPA.out.arg | exact hPD.out.arg)
   clear hK K
   (try simp only [pu, pn, si, s0, sn])
   refine wpAnyH_ready (rs := [3]) (by kernel_rfl) (by simp) ?_
   refine AllReadyH.cons (i := 3) (gt rfl) (fun K hK => ?_) ?_
   ·go_simp
    refine hK.out _ _ ?_ (fun hHeld => ?_)
    ·(try dsimp only); exact hArg.out _ (by first | exact hP6.out.arg | exact hK5 | exact hPB.out.arg | exact hPA.out.arg | exact hPD.out.arg)
    clear hK K
    (try simp only [pu, pn, si, s0, sn])
    refine wpAnyH_ready (rs := [7]) (by kernel_rfl) (by simp) ?_
    refine AllReadyH.cons (i := 7) (gt rfl) (fun K hK => ?_) ?_
    ·refine step_append_w _ (by rfl) (.tmp 64) (.tmp 67) 22 rfl 0 60 i0 _ 6 48 Tryz.underlying22 hi0 hz0 hz1 hz2 rfl (by decide) (.slice vo nb cp0) nb (d.boxes.flatMap (encK 6)) (by first | rfl | (simp [Act.eval]; done)) (hOw.out _ hPA.out) ⟨w4.heap.size, 0, none⟩ 1 1 [.int .i64 a0, .int .i64 a1, .int .i64 a2, .int .i64 a3, .int .i64 a4, .int .i64 a5] (by first | rfl | (simp [Act.eval]; done)) rfl hNA.out (by intro u hu; simp at hu; rcases hu with rfl | rfl | rfl | rfl | rfl | rfl <;> rfl) (by unfold maxLen; omega) (by omega) (Nat.zero_le _) ?_
     intro g5 c5 w5 ho5 hg5 hl5
     obtain ⟨y5, f5, hK5, hP6⟩ := hPu.out _ w5 g5 c5 hPA.out ho5 hg5 hl5
     clear ho5 hg5 hl5
     refine hK.out _ _ ?_ (fun hHeld => ?_)
     ·(try dsimp only); exact hArg.out _ (by first | exact hP6.out.arg | exact hK5 | exact hPB.out.arg | exact hPA.out.arg | exact hPD.out.arg)
     clear hK K
     (try simp only [pu, pn, si, s0, sn])
     refine tak (i := 8) (v := ?_) (gt rfl) ?_ ?_
     rotate_left
     focus (intro W hSW; (try dsimp only at hSW); obtain ⟨z0, z1, z2, z3, z4, z5⟩ := hSW; go_simp; first | done | with_reducible rfl)
     (try simp only [pu, pn, si, s0, sn])
     refine tak (i := 9) (v := ?_) (gt rfl) ?_ ?_
     rotate_left
     focus (intro W hSW; (try dsimp only at hSW); obtain ⟨z0, z1, z2, z3, z4, z5⟩ := hSW; go_simp; first | done | with_reducible rfl)
     (try simp only [pu, pn, si, s0, sn])
     refine tak (i := 10) (v := ?_) (gt rfl) ?_ ?_
     rotate_left
     focus (intro W hSW; (try dsimp only at hSW); obtain ⟨z0, z1, z2, z3, z4, z5⟩ := hSW; go_simp; first | done | with_reducible rfl)
     (try simp only [pu, pn, si, s0, sn])
     refine wpAnyH_ready (rs := [11]) (by kernel_rfl) (by simp) ?_
     refine AllReadyH.cons (i := 11) (gt rfl) (fun K hK => ?_) ?_
     ·go_simp
      refine hK.out _ _ ?_ (fun hHeld => ?_)
      ·(try dsimp only); exact hArg.out _ (by first | exact hP6.out.arg | exact hK5 | exact hPB.out.arg | exact hPA.out.arg | exact hPD.out.arg)
      clear hK K
      (try simp only [pu, pn, si, s0, sn])
      refine wpAnyH_done (by kernel_rfl) ?_ _
      refine NoPanic.normal ?_
      have kx6 := hP6.out.kx
      have kz6 := hP6.out.kz
      have h1c := detC_one hP6.out.vals
      obtain ⟨kr, hE⟩ := hP6.out.fin
      replace hE := Lib.hid hE
      generalize World.setCell _ _ _ = W6 at *
      have hs6 := Lib.hid (detC_size { d with boxes := d.boxes ++ [[a0, a1, a2, a3, a4, a5]] } { p with vb := .slice g5 (nb + 1) c5 })
      generalize detC { d with boxes := d.boxes ++ [[a0, a1, a2, a3, a4, a5]] } { p with vb := .slice g5 (nb + 1) c5 } = cs at *
      clear hHeld hP6 hArg
      go_wp2_with (first | (refine wpList_load_row rfl 34 (.tmp 4) rfl w.heap.size (by simp [Act.eval]) 34 cs (0, 0) _ kx6 Tryz.underlying34 rfl (by rw [hs6.out]; kernel_rfl) ?_) | (refine wpList_store_row rfl 34 (.tmp 8) (.tmp 202) rfl (w.heap.size + 1) cs (by simp [Act.eval, Act.put]) (by simp [Act.eval, Act.put]) 34 zeroD kz6 (by rw [hs6.out]; kernel_rfl) (by rw [hs6.out]; rfl) h1c ?_) | fail)
      exact bodyPost_ret (put_results _ _ (w.heap.size + 1) cs rfl kr hs6.out) rfl hE.out
     exact AllReadyH.nil
    exact AllReadyH.nil
   exact AllReadyH.nil
  exact AllReadyH.nil
 exact AllReadyH.nil
set_option maxRecDepth 100000 in
set_option maxHeartbeats 4000000 in
theorem put_hole (F : Nat) (d : Det) (p : PV) (w : World) (hF : F ≤ w.heap.size) (hV : RdV w d p) (hy : ∀ b, some b ∈ p.fp → F ≤ b) (hm : manyD d ≤ 1000000) (NM : ByteArray) (a0 a1 a2 a3 a4 a5 : Int) (v : Value) (hv : IsI [a0, a1, a2, a3, a4, a5] v w) (hk : ∀ g, v.ownBlock = some g → some g ∉ p.fp) : Calls Tryz.prog 64 #[.agg (detC d p), .string ⟨#[104, 111, 108, 101]⟩, .string NM, v] w (PutE F w { d with holes := d.holes ++ [[a0, a1, a2, a3, a4, a5]] }) := by
 have hvI := hv
 obtain ⟨K, off, cp, rfl, -, -, hlt, hc⟩ := hv.cells (by simp)
 have q0 : w.cell? ⟨K, off, none⟩ = some (.int .i64 a0) := hc 0 (by simp)
 have q1 : w.cell? ⟨K, off + 1, none⟩ = some (.int .i64 a1) := hc 1 (by simp)
 have q2 : w.cell? ⟨K, off + 2, none⟩ = some (.int .i64 a2) := hc 2 (by simp)
 have q3 : w.cell? ⟨K, off + 3, none⟩ = some (.int .i64 a3) := hc 3 (by simp)
 have q4 : w.cell? ⟨K, off + 4, none⟩ = some (.int .i64 a4) := hc 4 (by simp)
 have q5 : w.cell? ⟨K, off + 5, none⟩ = some (.int .i64 a5) := hc 5 (by simp)
 have hArg : Hid (∀ W : World, W.heap[K]? = w.heap[K]? → W.cell? ⟨K, off, none⟩ = some (.int .i64 a0) ∧ W.cell? ⟨K, off + 1, none⟩ = some (.int .i64 a1) ∧ W.cell? ⟨K, off + 2, none⟩ = some (.int .i64 a2) ∧ W.cell? ⟨K, off + 3, none⟩ = some (.int .i64 a3) ∧ W.cell? ⟨K, off + 4, none⟩ = some (.int .i64 a4) ∧ W.cell? ⟨K, off + 5, none⟩ = some (.int .i64 a5)) := Lib.hid fun W h => ⟨(World.cell?_of_block h).trans q0, (World.cell?_of_block h).trans q1, (World.cell?_of_block h).trans q2, (World.cell?_of_block h).trans q3, (World.cell?_of_block h).trans q4, (World.cell?_of_block h).trans q5⟩
 have hP0 := Lib.hid (PutW.start hF hlt hV hy (hk K rfl))
 clear hc hv hk hy hV hF q0 q1 q2 q3 q4 q5
 have hIs : Hid (∀ W : World, K < W.heap.size → W.heap[K]? = w.heap[K]? → IsI [a0, a1, a2, a3, a4, a5] (.slice (some ⟨K, off, none⟩) 6 cp) W) := Lib.hid fun W h1 h2 => IsI.same hvI h2 h1
 clear hvI
 show Calls _ _ #[_, _, _, .slice (some ⟨K, off, none⟩) 6 cp] _ _
 go_enter Tryz.func64, Tryz.ntmps64
 go_upto_region 10 with fail
 generalize hWW : World.alloc (World.alloc w _) _ = WW
 have hP : Hid (PutW F w K d p WW) := Lib.hid (by rw [← hWW]; exact hP0.out)
 have hPD := Lib.hid (hP.out.up (below_drew (Below.refl _ _)))
 clear hWW hP0
 obtain ⟨vo, cp0, hvb, hcp, -⟩ := hP.out.vals.holes.view (encK_len 6)
 obtain ⟨nb, hnb⟩ : ∃ nb, nb = d.holes.length := ⟨_, rfl⟩
 have hvb : p.vh = .slice vo nb cp0 := by rw [hnb]; exact hvb
 have hnb6 : nb ≤ 1000000 := by rw [hnb]; unfold manyD at hm; omega
 obtain ⟨i0, hi0, hz0, hz1, hz2⟩ := info_parts infoBox
 have hne : (encK 6) [a0, a1, a2, a3, a4, a5] = [.int .i64 a0, .int .i64 a1, .int .i64 a2, .int .i64 a3, .int .i64 a4, .int .i64 a5] := by rfl
 have hY : Hid (∀ W : World, PutW F w K d p W → W.cell? ⟨w.heap.size, 2, none⟩ = some (.slice vo nb cp0)) := Lib.hid fun W h => by
  rw [h.kx.c 2, ← hvb]
  simp [detC, encK, List.range, List.range.loop]
 have hOw : Hid (∀ W : World, PutW F w K d p W → W.ownsRow 0 60 6 (.slice vo nb cp0) nb (d.holes.flatMap (encK 6))) := Lib.hid fun W h => by
  have q := h.vals.holes
  unfold Row at q
  rw [← hvb, hnb]
  exact q
 have hPu : Hid (∀ (WB w5 : World) (g5 : Option Addr) (c5 : Nat), PutW F w K d p WB → w5.ownsRow 0 60 6 (.slice g5 (nb + 1) c5) (nb + 1) (d.holes.flatMap (encK 6) ++ [.int .i64 a0, .int .i64 a1, .int .i64 a2, .int .i64 a3, .int .i64 a4, .int .i64 a5]) → WB.grownBy w5 (Value.slice vo nb cp0).ownBlock → ((Value.slice g5 (nb + 1) c5).ownBlock = (Value.slice vo nb cp0).ownBlock ∨ (Value.slice g5 (nb + 1) c5).ownBlock = some WB.heap.size) →
   w5.cell? ⟨w.heap.size, 2, none⟩ = some (.slice vo nb cp0) ∧ w5.frozen? ⟨w.heap.size, 2, none⟩ = false ∧ w5.heap[K]? = w.heap[K]? ∧ Hid (PutW F w K { d with holes := d.holes ++ [[a0, a1, a2, a3, a4, a5]] } { p with vh := .slice g5 (nb + 1) c5 } (w5.setCell ⟨w.heap.size, 2, none⟩ (.slice g5 (nb + 1) c5)))) := Lib.hid fun WB w5 g5 c5 hW ho5 hg5 hloc => by
  obtain ⟨ha5, hk5, h6⟩ := hW.pushH (v' := .slice g5 (nb + 1) c5) (n := [a0, a1, a2, a3, a4, a5]) (by rw [hvb]; exact hg5) (by rw [← hnb, hne]; exact ho5) (m := WB.heap.size) (Nat.le_refl _) (by rw [hvb]; exact hloc)
  refine ⟨?_, ha5.f 2, hk5, Lib.hid h6⟩
  rw [ha5.c 2, ← hvb]
  simp [detC, encK, List.range, List.range.loop]
 replace hnb := Lib.hid hnb
 replace hvb := Lib.hid hvb
 clear hm hcp
 have yD := hY.out _ hPD.out
 refine wp_region_noPanic ?_
 refine wp_region_held_drew (S := fun W => W.cell? ⟨K, off, none⟩ = some (.int .i64 a0) ∧ W.cell? ⟨K, off + 1, none⟩ = some (.int .i64 a1) ∧ W.cell? ⟨K, off + 2, none⟩ = some (.int .i64 a2) ∧ W.cell? ⟨K, off + 3, none⟩ = some (.int .i64 a3) ∧ W.cell? ⟨K, off + 4, none⟩ = some (.int .i64 a4) ∧ W.cell? ⟨K, off + 5, none⟩ = some (.int .i64 a5)) (by kernel_rfl) ?_ (fun hHeld => ?_)
 ·(try dsimp only); exact hArg.out _ (by first | exact hP6.out.arg | exact hK5 | exact hPB.out.arg | exact hPA.out.arg | exact hPD.out.arg)
 refine tak (i := 0) (v := ?_) (gt rfl) ?_ ?_
 rotate_left
 focus (intro W hSW; (try dsimp only at hSW); obtain ⟨z0, z1, z2, z3, z4, z5⟩ := hSW; go_simp; first | done | with_reducible rfl)
 (try simp only [pu, pn, si, s0, sn])
 refine tak (i := 1) (v := ?_) (gt rfl) ?_ ?_
 rotate_left
 focus (intro W hSW; (try dsimp only at hSW); obtain ⟨z0, z1, z2, z3, z4, z5⟩ := hSW; go_simp; first | done | with_reducible rfl)
 (try simp only [pu, pn, si, s0, sn])
 refine tak (i := 2) (v := ?_) (gt rfl) ?_ ?_
 rotate_left
 focus (intro W hSW; (try dsimp only at hSW); obtain ⟨z0, z1, z2, z3, z4, z5⟩ := hSW; go_simp; first | done | with_reducible rfl)
 (try simp only [pu, pn, si, s0, sn])
 refine tak (i := 4) (v := ?_) (gt rfl) ?_ ?_
 rotate_left
 focus (intro W hSW; (try dsimp only at hSW); obtain ⟨z0, z1, z2, z3, z4, z5⟩ := hSW; go_simp; first | done | with_reducible rfl)
 (try simp only [pu, pn, si, s0, sn])
 refine wpAnyH_ready (rs := [3, 5]) (by kernel_rfl) (by simp) ?_
 refine AllReadyH.cons (i := 3) (gt rfl) (fun K hK => ?_) ?_
 ·go_simp
  refine hK.out _ _ ?_ (fun hHeld => ?_)
  ·(try dsimp only); exact hArg.out _ (by first | exact hP6.out.arg | exact hK5 | exact hPB.out.arg | exact hPA.out.arg | exact hPD.out.arg)
  clear hK K
  (try simp only [pu, pn, si, s0, sn])
  refine wpAnyH_ready (rs := [5]) (by kernel_rfl) (by simp) ?_
  refine AllReadyH.cons (i := 5) (gt rfl) (fun K hK => ?_) ?_
  ·go_simp
   go_at_call 103
   refine (rbox_any a0 a1 a2 a3 a4 a5 _ _ (hIs.out _ (by have := hPD.out.kx.lt; have := hPD.out.kl; omega) hPD.out.arg)).mono ?_
   rintro e w4 ⟨rfl, hb4⟩
   have hPB := Lib.hid (hPD.out.up hb4)
   have yB := hY.out _ hPB.out
   have hPA := Lib.hid (hPB.out.up (below_al (Below.refl _ _) (.cells #[.int .i64 a0, .int .i64 a1, .int .i64 a2, .int .i64 a3, .int .i64 a4, .int .i64 a5] 60)))
   have hNA : Hid (∀ j u, ([.int .i64 a0, .int .i64 a1, .int .i64 a2, .int .i64 a3, .int .i64 a4, .int .i64 a5] : List Value)[j]? = some u → (World.alloc w4 (.cells #[.int .i64 a0, .int .i64 a1, .int .i64 a2, .int .i64 a3, .int .i64 a4, .int .i64 a5] 60)).cell? ((⟨w4.heap.size, 0, none⟩ : Addr).add j) = some u) := Lib.hid (new_at (At.new' rfl))
   have yA := hY.out _ hPA.out
   clear hb4
   (try go_wp2_with fail)
   refine hK.out _ _ ?_ (fun hHeld => ?_)
   ·(try dsimp only); exact hArg.out _ (by first | exact hP6.out.arg | exact hK5 | exact hPB.out.arg | exact hPA.out.arg | exact hPD.out.arg)
   clear hK K
   (try simp only [pu, pn, si, s0, sn])
   refine wpAnyH_ready (rs := [6]) (by kernel_rfl) (by simp) ?_
   refine AllReadyH.cons (i := 6) (gt rfl) (fun K hK => ?_) ?_
   ·go_simp
    refine hK.out _ _ ?_ (fun hHeld => ?_)
    ·(try dsimp only); exact hArg.out _ (by first | exact hP6.out.arg | exact hK5 | exact hPB.out.arg | exact hPA.out.arg | exact hPD.out.arg)
    clear hK K
    (try simp only [pu, pn, si, s0, sn])
    refine wpAnyH_ready (rs := [7]) (by kernel_rfl) (by simp) ?_
    refine AllReadyH.cons (i := 7) (gt rfl) (fun K hK => ?_) ?_
    ·refine step_append_w _ (by rfl) (.tmp 77) (.tmp 80) 22 rfl 0 60 i0 _ 6 48 Tryz.underlying22 hi0 hz0 hz1 hz2 rfl (by decide) (.slice vo nb cp0) nb (d.holes.flatMap (encK 6)) (by first | rfl | (simp [Act.eval]; done)) (hOw.out _ hPA.out) ⟨w4.heap.size, 0, none⟩ 1 1 [.int .i64 a0, .int .i64 a1, .int .i64 a2, .int .i64 a3, .int .i64 a4, .int .i64 a5] (by first | rfl | (simp [Act.eval]; done)) rfl hNA.out (by intro u hu; simp at hu; rcases hu with rfl | rfl | rfl | rfl | rfl | rfl <;> rfl) (by unfold maxLen; omega) (by omega) (Nat.zero_le _) ?_
     intro g5 c5 w5 ho5 hg5 hl5
     obtain ⟨y5, f5, hK5, hP6⟩ := hPu.out _ w5 g5 c5 hPA.out ho5 hg5 hl5
     clear ho5 hg5 hl5
     refine hK.out _ _ ?_ (fun hHeld => ?_)
     ·(try dsimp only); exact hArg.out _ (by first | exact hP6.out.arg | exact hK5 | exact hPB.out.arg | exact hPA.out.arg | exact hPD.out.arg)
     clear hK K
     (try simp only [pu, pn, si, s0, sn])
     refine tak (i := 8) (v := ?_) (gt rfl) ?_ ?_
     rotate_left
     focus (intro W hSW; (try dsimp only at hSW); obtain ⟨z0, z1, z2, z3, z4, z5⟩ := hSW; go_simp; first | done | with_reducible rfl)
     (try simp only [pu, pn, si, s0, sn])
     refine tak (i := 9) (v := ?_) (gt rfl) ?_ ?_
     rotate_left
     focus (intro W hSW; (try dsimp only at hSW); obtain ⟨z0, z1, z2, z3, z4, z5⟩ := hSW; go_simp; first | done | with_reducible rfl)
     (try simp only [pu, pn, si, s0, sn])
     refine tak (i := 10) (v := ?_) (gt rfl) ?_ ?_
     rotate_left
     focus (intro W hSW; (try dsimp only at hSW); obtain ⟨z0, z1, z2, z3, z4, z5⟩ := hSW; go_simp; first | done | with_reducible rfl)
     (try simp only [pu, pn, si, s0, sn])
     refine wpAnyH_ready (rs := [11]) (by kernel_rfl) (by simp) ?_
     refine AllReadyH.cons (i := 11) (gt rfl) (fun K hK => ?_) ?_
     ·go_simp
      refine hK.out _ _ ?_ (fun hHeld => ?_)
      ·(try dsimp only); exact hArg.out _ (by first | exact hP6.out.arg | exact hK5 | exact hPB.out.arg | exact hPA.out.arg | exact hPD.out.arg)
      clear hK K
      (try simp only [pu, pn, si, s0, sn])
      refine wpAnyH_done (by kernel_rfl) ?_ _
      refine NoPanic.normal ?_
      have kx6 := hP6.out.kx
      have kz6 := hP6.out.kz
      have h1c := detC_one hP6.out.vals
      obtain ⟨kr, hE⟩ := hP6.out.fin
      replace hE := Lib.hid hE
      generalize World.setCell _ _ _ = W6 at *
      have hs6 := Lib.hid (detC_size { d with holes := d.holes ++ [[a0, a1, a2, a3, a4, a5]] } { p with vh := .slice g5 (nb + 1) c5 })
      generalize detC { d with holes := d.holes ++ [[a0, a1, a2, a3, a4, a5]] } { p with vh := .slice g5 (nb + 1) c5 } = cs at *
      clear hHeld hP6 hArg
      go_wp2_with (first | (refine wpList_load_row rfl 34 (.tmp 4) rfl w.heap.size (by simp [Act.eval]) 34 cs (0, 0) _ kx6 Tryz.underlying34 rfl (by rw [hs6.out]; kernel_rfl) ?_) | (refine wpList_store_row rfl 34 (.tmp 8) (.tmp 202) rfl (w.heap.size + 1) cs (by simp [Act.eval, Act.put]) (by simp [Act.eval, Act.put]) 34 zeroD kz6 (by rw [hs6.out]; kernel_rfl) (by rw [hs6.out]; rfl) h1c ?_) | fail)
      exact bodyPost_ret (put_results _ _ (w.heap.size + 1) cs rfl kr hs6.out) rfl hE.out
     exact AllReadyH.nil
    exact AllReadyH.nil
   exact AllReadyH.nil
  exact AllReadyH.nil
 refine AllReadyH.cons (i := 5) (gt rfl) (fun K hK => ?_) ?_
 ·go_simp
  go_at_call 103
  refine (rbox_any a0 a1 a2 a3 a4 a5 _ _ (hIs.out _ (by have := hPD.out.kx.lt; have := hPD.out.kl; omega) hPD.out.arg)).mono ?_
  rintro e w4 ⟨rfl, hb4⟩
  have hPB := Lib.hid (hPD.out.up hb4)
  have yB := hY.out _ hPB.out
  have hPA := Lib.hid (hPB.out.up (below_al (Below.refl _ _) (.cells #[.int .i64 a0, .int .i64 a1, .int .i64 a2, .int .i64 a3, .int .i64 a4, .int .i64 a5] 60)))
  have hNA : Hid (∀ j u, ([.int .i64 a0, .int .i64 a1, .int .i64 a2, .int .i64 a3, .int .i64 a4, .int .i64 a5] : List Value)[j]? = some u → (World.alloc w4 (.cells #[.int .i64 a0, .int .i64 a1, .int .i64 a2, .int .i64 a3, .int .i64 a4, .int .i64 a5] 60)).cell? ((⟨w4.heap.size, 0, none⟩ : Addr).add j) = some u) := Lib.hid (new_at (At.new' rfl))
  have yA := hY.out _ hPA.out
  clear hb4
  (try go_wp2_with fail)
  refine hK.out _ _ ?_ (fun hHeld => ?_)
  ·(try dsimp only); exact hArg.out _ (by first | exact hP6.out.arg | exact hK5 | exact hPB.out.arg | exact hPA.out.arg | exact hPD.out.arg)
  clear hK K
  (try simp only [pu, pn, si, s0, sn])
  refine wpAnyH_ready (rs := [3, 6]) (by kernel_rfl) (by simp) ?_
  refine AllReadyH.cons (i := 3) (gt rfl) (fun K hK => ?_) ?_
  ·go_simp
   refine hK.out _ _ ?_ (fun hHeld => ?_)
   ·(try dsimp only); exact hArg.out _ (by first | exact hP6.out.arg | exact hK5 | exact hPB.out.arg | exact hPA.out.arg | exact hPD.out.arg)
   clear hK K
   (try simp only [pu, pn, si, s0, sn])
   refine wpAnyH_ready (rs := [6]) (by kernel_rfl) (by simp) ?_
   refine AllReadyH.cons (i := 6) (gt rfl) (fun K hK => ?_) ?_
   ·go_simp
    refine hK.out _ _ ?_ (fun hHeld => ?_)
    ·(try dsimp only); exact hArg.out _ (by first | exact hP6.out.arg | exact hK5 | exact hPB.out.arg | exact hPA.out.arg | exact hPD.out.arg)
    clear hK K
    (try simp only [pu, pn, si, s0, sn])
    refine wpAnyH_ready (rs := [7]) (by kernel_rfl) (by simp) ?_
    refine AllReadyH.cons (i := 7) (gt rfl) (fun K hK => ?_) ?_
    ·refine step_append_w _ (by rfl) (.tmp 77) (.tmp 80) 22 rfl 0 60 i0 _ 6 48 Tryz.underlying22 hi0 hz0 hz1 hz2 rfl (by decide) (.slice vo nb cp0) nb (d.holes.flatMap (encK 6)) (by first | rfl | (simp [Act.eval]; done)) (hOw.out _ hPA.out) ⟨w4.heap.size, 0, none⟩ 1 1 [.int .i64 a0, .int .i64 a1, .int .i64 a2, .int .i64 a3, .int .i64 a4, .int .i64 a5] (by first | rfl | (simp [Act.eval]; done)) rfl hNA.out (by intro u hu; simp at hu; rcases hu with rfl | rfl | rfl | rfl | rfl | rfl <;> rfl) (by unfold maxLen; omega) (by omega) (Nat.zero_le _) ?_
     intro g5 c5 w5 ho5 hg5 hl5
     obtain ⟨y5, f5, hK5, hP6⟩ := hPu.out _ w5 g5 c5 hPA.out ho5 hg5 hl5
     clear ho5 hg5 hl5
     refine hK.out _ _ ?_ (fun hHeld => ?_)
     ·(try dsimp only); exact hArg.out _ (by first | exact hP6.out.arg | exact hK5 | exact hPB.out.arg | exact hPA.out.arg | exact hPD.out.arg)
     clear hK K
     (try simp only [pu, pn, si, s0, sn])
     refine tak (i := 8) (v := ?_) (gt rfl) ?_ ?_
     rotate_left
     focus (intro W hSW; (try dsimp only at hSW); obtain ⟨z0, z1, z2, z3, z4, z5⟩ := hSW; go_simp; first | done | with_reducible rfl)
     (try simp only [pu, pn, si, s0, sn])
     refine tak (i := 9) (v := ?_) (gt rfl) ?_ ?_
     rotate_left
     focus (intro W hSW; (try dsimp only at hSW); obtain ⟨z0, z1, z2, z3, z4, z5⟩ := hSW; go_simp; first | done | with_reducible rfl)
     (try simp only [pu, pn, si, s0, sn])
     refine tak (i := 10) (v := ?_) (gt rfl) ?_ ?_
     rotate_left
     focus (intro W hSW; (try dsimp only at hSW); obtain ⟨z0, z1, z2, z3, z4, z5⟩ := hSW; go_simp; first | done | with_reducible rfl)
     (try simp only [pu, pn, si, s0, sn])
     refine wpAnyH_ready (rs := [11]) (by kernel_rfl) (by simp) ?_
     refine AllReadyH.cons (i := 11) (gt rfl) (fun K hK => ?_) ?_
     ·go_simp
      refine hK.out _ _ ?_ (fun hHeld => ?_)
      ·(try dsimp only); exact hArg.out _ (by first | exact hP6.out.arg | exact hK5 | exact hPB.out.arg | exact hPA.out.arg | exact hPD.out.arg)
      clear hK K
      (try simp only [pu, pn, si, s0, sn])
      refine wpAnyH_done (by kernel_rfl) ?_ _
      refine NoPanic.normal ?_
      have kx6 := hP6.out.kx
      have kz6 := hP6.out.kz
      have h1c := detC_one hP6.out.vals
      obtain ⟨kr, hE⟩ := hP6.out.fin
      replace hE := Lib.hid hE
      generalize World.setCell _ _ _ = W6 at *
      have hs6 := Lib.hid (detC_size { d with holes := d.holes ++ [[a0, a1, a2, a3, a4, a5]] } { p with vh := .slice g5 (nb + 1) c5 })
      generalize detC { d with holes := d.holes ++ [[a0, a1, a2, a3, a4, a5]] } { p with vh := .slice g5 (nb + 1) c5 } = cs at *
      clear hHeld hP6 hArg
      go_wp2_with (first | (refine wpList_load_row rfl 34 (.tmp 4) rfl w.heap.size (by simp [Act.eval]) 34 cs (0, 0) _ kx6 Tryz.underlying34 rfl (by rw [hs6.out]; kernel_rfl) ?_) | (refine wpList_store_row rfl 34 (.tmp 8) (.tmp 202) rfl (w.heap.size + 1) cs (by simp [Act.eval, Act.put]) (by simp [Act.eval, Act.put]) 34 zeroD kz6 (by rw [hs6.out]; kernel_rfl) (by rw [hs6.out]; rfl) h1c ?_) | fail)
      exact bodyPost_ret (put_results _ _ (w.heap.size + 1) cs rfl kr hs6.out) rfl hE.out
     exact AllReadyH.nil
    exact AllReadyH.nil
   exact AllReadyH.nil
  refine AllReadyH.cons (i := 6) (gt rfl) (fun K hK => ?_) ?_
  ·go_simp
   refine hK.out _ _ ?_ (fun hHeld => ?_)
   ·(try dsimp only); exact hArg.out _ (by first | exact hP6.out.arg | exact hK5 | exact hPB.out.arg | exact hPA.out.arg | exact hPD.out.arg)
   clear hK K
   (try simp only [pu, pn, si, s0, sn])
   refine wpAnyH_ready (rs := [3]) (by kernel_rfl) (by simp) ?_
   refine AllReadyH.cons (i := 3) (gt rfl) (fun K hK => ?_) ?_
   ·go_simp
    refine hK.out _ _ ?_ (fun hHeld => ?_)
    ·(try dsimp only); exact hArg.out _ (by first | exact hP6.out.arg | exact hK5 | exact hPB.out.arg | exact hPA.out.arg | exact hPD.out.arg)
    clear hK K
    (try simp only [pu, pn, si, s0, sn])
    refine wpAnyH_ready (rs := [7]) (by kernel_rfl) (by simp) ?_
    refine AllReadyH.cons (i := 7) (gt rfl) (fun K hK => ?_) ?_
    ·refine step_append_w _ (by rfl) (.tmp 77) (.tmp 80) 22 rfl 0 60 i0 _ 6 48 Tryz.underlying22 hi0 hz0 hz1 hz2 rfl (by decide) (.slice vo nb cp0) nb (d.holes.flatMap (encK 6)) (by first | rfl | (simp [Act.eval]; done)) (hOw.out _ hPA.out) ⟨w4.heap.size, 0, none⟩ 1 1 [.int .i64 a0, .int .i64 a1, .int .i64 a2, .int .i64 a3, .int .i64 a4, .int .i64 a5] (by first | rfl | (simp [Act.eval]; done)) rfl hNA.out (by intro u hu; simp at hu; rcases hu with rfl | rfl | rfl | rfl | rfl | rfl <;> rfl) (by unfold maxLen; omega) (by omega) (Nat.zero_le _) ?_
     intro g5 c5 w5 ho5 hg5 hl5
     obtain ⟨y5, f5, hK5, hP6⟩ := hPu.out _ w5 g5 c5 hPA.out ho5 hg5 hl5
     clear ho5 hg5 hl5
     refine hK.out _ _ ?_ (fun hHeld => ?_)
     ·(try dsimp only); exact hArg.out _ (by first | exact hP6.out.arg | exact hK5 | exact hPB.out.arg | exact hPA.out.arg | exact hPD.out.arg)
     clear hK K
     (try simp only [pu, pn, si, s0, sn])
     refine tak (i := 8) (v := ?_) (gt rfl) ?_ ?_
     rotate_left
     focus (intro W hSW; (try dsimp only at hSW); obtain ⟨z0, z1, z2, z3, z4, z5⟩ := hSW; go_simp; first | done | with_reducible rfl)
     (try simp only [pu, pn, si, s0, sn])
     refine tak (i := 9) (v := ?_) (gt rfl) ?_ ?_
     rotate_left
     focus (intro W hSW; (try dsimp only at hSW); obtain ⟨z0, z1, z2, z3, z4, z5⟩ := hSW; go_simp; first | done | with_reducible rfl)
     (try simp only [pu, pn, si, s0, sn])
     refine tak (i := 10) (v := ?_) (gt rfl) ?_ ?_
     rotate_left
     focus (intro W hSW; (try dsimp only at hSW); obtain ⟨z0, z1, z2, z3, z4, z5⟩ := hSW; go_simp; first | done | with_reducible rfl)
     (try simp only [pu, pn, si, s0, sn])
     refine wpAnyH_ready (rs := [11]) (by kernel_rfl) (by simp) ?_
     refine AllReadyH.cons (i := 11) (gt rfl) (fun K hK => ?_) ?_
     ·go_simp
      refine hK.out _ _ ?_ (fun hHeld => ?_)
      ·(try dsimp only); exact hArg.out _ (by first | exact hP6.out.arg | exact hK5 | exact hPB.out.arg | exact hPA.out.arg | exact hPD.out.arg)
      clear hK K
      (try simp only [pu, pn, si, s0, sn])
      refine wpAnyH_done (by kernel_rfl) ?_ _
      refine NoPanic.normal ?_
      have kx6 := hP6.out.kx
      have kz6 := hP6.out.kz
      have h1c := detC_one hP6.out.vals
      obtain ⟨kr, hE⟩ := hP6.out.fin
      replace hE := Lib.hid hE
      generalize World.setCell _ _ _ = W6 at *
      have hs6 := Lib.hid (detC_size { d with holes := d.holes ++ [[a0, a1, a2, a3, a4, a5]] } { p with vh := .slice g5 (nb + 1) c5 })
      generalize detC { d with holes := d.holes ++ [[a0, a1, a2, a3, a4, a5]] } { p with vh := .slice g5 (nb + 1) c5 } = cs at *
      clear hHeld hP6 hArg
      go_wp2_with (first | (refine wpList_load_row rfl 34 (.tmp 4) rfl w.heap.size (by simp [Act.eval]) 34 cs (0, 0) _ kx6 Tryz.underlying34 rfl (by rw [hs6.out]; kernel_rfl) ?_) | (refine wpList_store_row rfl 34 (.tmp 8) (.tmp 202) rfl (w.heap.size + 1) cs (by simp [Act.eval, Act.put]) (by simp [Act.eval, Act.put]) 34 zeroD kz6 (by rw [hs6.out]; kernel_rfl) (by rw [hs6.out]; rfl) h1c ?_) | fail)
      exact bodyPost_ret (put_results _ _ (w.heap.size + 1) cs rfl kr hs6.out) rfl hE.out
     exact AllReadyH.nil
    exact AllReadyH.nil
   exact AllReadyH.nil
  exact AllReadyH.nil
 exact AllReadyH.nil
set_option maxRecDepth 100000 in
set_option maxHeartbeats 4000000 in
theorem put_demand (F : Nat) (d : Det) (p : PV) (w : World) (hF : F ≤ w.heap.size) (hV : RdV w d p) (hy : ∀ b, some b ∈ p.fp → F ≤ b) (hm : manyD d ≤ 1000000) (NM : ByteArray) (a0 a1 a2 a3 a4 a5 : Int) (v : Value) (hv : IsI [a0, a1, a2, a3, a4, a5] v w) (hk : ∀ g, v.ownBlock = some g → some g ∉ p.fp) (nm : List UInt8) (hNM : NM = ⟨nm.toArray⟩) : Calls Tryz.prog 64 #[.agg (detC d p), .string ⟨#[100, 101, 109, 97, 110, 100]⟩, .string NM, v] w (PutE F w { d with dems := d.dems ++ [(nm, [a0, a1, a2, a3, a4, a5], [])] }) := by
 have hvI := hv
 replace hNM := Lib.hid hNM
 have hzd : (d.dems.zip p.ds).length = d.dems.length := by rw [List.length_zip, hV.ns]; simp
 obtain ⟨K, off, cp, rfl, -, -, hlt, hc⟩ := hv.cells (by simp)
 have q0 : w.cell? ⟨K, off, none⟩ = some (.int .i64 a0) := hc 0 (by simp)
 have q1 : w.cell? ⟨K, off + 1, none⟩ = some (.int .i64 a1) := hc 1 (by simp)
 have q2 : w.cell? ⟨K, off + 2, none⟩ = some (.int .i64 a2) := hc 2 (by simp)
 have q3 : w.cell? ⟨K, off + 3, none⟩ = some (.int .i64 a3) := hc 3 (by simp)
 have q4 : w.cell? ⟨K, off + 4, none⟩ = some (.int .i64 a4) := hc 4 (by simp)
 have q5 : w.cell? ⟨K, off + 5, none⟩ = some (.int .i64 a5) := hc 5 (by simp)
 have hArg : Hid (∀ W : World, W.heap[K]? = w.heap[K]? → W.cell? ⟨K, off, none⟩ = some (.int .i64 a0) ∧ W.cell? ⟨K, off + 1, none⟩ = some (.int .i64 a1) ∧ W.cell? ⟨K, off + 2, none⟩ = some (.int .i64 a2) ∧ W.cell? ⟨K, off + 3, none⟩ = some (.int .i64 a3) ∧ W.cell? ⟨K, off + 4, none⟩ = some (.int .i64 a4) ∧ W.cell? ⟨K, off + 5, none⟩ = some (.int .i64 a5)) := Lib.hid fun W h => ⟨(World.cell?_of_block h).trans q0, (World.cell?_of_block h).trans q1, (World.cell?_of_block h).trans q2, (World.cell?_of_block h).trans q3, (World.cell?_of_block h).trans q4, (World.cell?_of_block h).trans q5⟩
 have hP0 := Lib.hid (PutW.start hF hlt hV hy (hk K rfl))
 clear hc hv hk hy hV hF q0 q1 q2 q3 q4 q5
 have hIs : Hid (∀ W : World, K < W.heap.size → W.heap[K]? = w.heap[K]? → IsI [a0, a1, a2, a3, a4, a5] (.slice (some ⟨K, off, none⟩) 6 cp) W) := Lib.hid fun W h1 h2 => IsI.same hvI h2 h1
 clear hvI
 show Calls _ _ #[_, _, _, .slice (some ⟨K, off, none⟩) 6 cp] _ _
 go_enter Tryz.func64, Tryz.ntmps64
 go_upto_region 20 with fail
 generalize hWW : World.alloc (World.alloc w _) _ = WW
 have hP : Hid (PutW F w K d p WW) := Lib.hid (by rw [← hWW]; exact hP0.out)
 have hPD := Lib.hid (hP.out.up (below_drew (Below.refl _ _)))
 clear hWW hP0
 obtain ⟨vo, cp0, hvb, hcp, -⟩ := hP.out.vals.dems.view (encD_len)
 obtain ⟨nb, hnb⟩ : ∃ nb, nb = (d.dems.zip p.ds).length := ⟨_, rfl⟩
 have hvb : p.vd = .slice vo nb cp0 := by rw [hnb]; exact hvb
 have hnb6 : nb ≤ 1000000 := by rw [hnb]; rw [hzd]; unfold manyD at hm; omega
 obtain ⟨i0, hi0, hz0, hz1, hz2⟩ := info_parts infoDem
 have hnz : nb = d.dems.length := hnb.trans hzd
 have hne : encD ((nm, [a0, a1, a2, a3, a4, a5], []), Value.slice none 0 0) = [.string NM, .int .i64 a0, .int .i64 a1, .int .i64 a2, .int .i64 a3, .int .i64 a4, .int .i64 a5, .slice none 0 0] := by (unfold encD; rw [hNM.out]; rfl)
 have hY : Hid (∀ W : World, PutW F w K d p W → W.cell? ⟨w.heap.size, 9, none⟩ = some (.slice vo nb cp0)) := Lib.hid fun W h => by
  rw [h.kx.c 9, ← hvb]
  simp [detC, encK, List.range, List.range.loop]
 have hOw : Hid (∀ W : World, PutW F w K d p W → W.ownsRow 0 63 8 (.slice vo nb cp0) nb ((d.dems.zip p.ds).flatMap encD)) := Lib.hid fun W h => by
  have q := h.vals.dems
  unfold Row at q
  rw [← hvb, hnb]
  exact q
 have hPu : Hid (∀ (WB w5 : World) (g5 : Option Addr) (c5 : Nat), PutW F w K d p WB → w5.ownsRow 0 63 8 (.slice g5 (nb + 1) c5) (nb + 1) ((d.dems.zip p.ds).flatMap encD ++ [.string NM, .int .i64 a0, .int .i64 a1, .int .i64 a2, .int .i64 a3, .int .i64 a4, .int .i64 a5, .slice none 0 0]) → WB.grownBy w5 (Value.slice vo nb cp0).ownBlock → ((Value.slice g5 (nb + 1) c5).ownBlock = (Value.slice vo nb cp0).ownBlock ∨ (Value.slice g5 (nb + 1) c5).ownBlock = some WB.heap.size) →
   w5.cell? ⟨w.heap.size, 9, none⟩ = some (.slice vo nb cp0) ∧ w5.frozen? ⟨w.heap.size, 9, none⟩ = false ∧ w5.heap[K]? = w.heap[K]? ∧ Hid (PutW F w K { d with dems := d.dems ++ [(nm, [a0, a1, a2, a3, a4, a5], [])] } { p with vd := .slice g5 (nb + 1) c5, ds := p.ds ++ [Value.slice none 0 0] } (w5.setCell ⟨w.heap.size, 9, none⟩ (.slice g5 (nb + 1) c5)))) := Lib.hid fun WB w5 g5 c5 hW ho5 hg5 hloc => by
  obtain ⟨ha5, hk5, h6⟩ := hW.pushD (v' := .slice g5 (nb + 1) c5) (nm := nm) (z := [a0, a1, a2, a3, a4, a5]) (by rw [hvb]; exact hg5) (by rw [hne]; rw [hnz] at ho5 ⊢; exact ho5) (m := WB.heap.size) (Nat.le_refl _) (by rw [hvb]; exact hloc)
  refine ⟨?_, ha5.f 9, hk5, Lib.hid h6⟩
  rw [ha5.c 9, ← hvb]
  simp [detC, encK, List.range, List.range.loop]
 replace hnb := Lib.hid hnb
 clear hzd hnz
 replace hvb := Lib.hid hvb
 clear hm hcp
 have yD := hY.out _ hPD.out
 refine wp_region_noPanic ?_
 refine wp_region_held_drew (S := fun W => W.cell? ⟨K, off, none⟩ = some (.int .i64 a0) ∧ W.cell? ⟨K, off + 1, none⟩ = some (.int .i64 a1) ∧ W.cell? ⟨K, off + 2, none⟩ = some (.int .i64 a2) ∧ W.cell? ⟨K, off + 3, none⟩ = some (.int .i64 a3) ∧ W.cell? ⟨K, off + 4, none⟩ = some (.int .i64 a4) ∧ W.cell? ⟨K, off + 5, none⟩ = some (.int .i64 a5)) (by kernel_rfl) ?_ (fun hHeld => ?_)
 ·(try dsimp only); exact hArg.out _ (by first | exact hP6.out.arg | exact hK5 | exact hPB.out.arg | exact hPA.out.arg | exact hPD.out.arg)
 refine tak (i := 0) (v := ?_) (gt rfl) ?_ ?_
 rotate_left
 focus (intro W hSW; (try dsimp only at hSW); obtain ⟨z0, z1, z2, z3, z4, z5⟩ := hSW; go_simp; first | done | with_reducible rfl)
 (try simp only [pu, pn, si, s0, sn])
 refine tak (i := 2) (v := ?_) (gt rfl) ?_ ?_
 rotate_left
 focus (intro W hSW; (try dsimp only at hSW); obtain ⟨z0, z1, z2, z3, z4, z5⟩ := hSW; go_simp; first | done | with_reducible rfl)
 (try simp only [pu, pn, si, s0, sn])
 refine tak (i := 3) (v := ?_) (gt rfl) ?_ ?_
 rotate_left
 focus (intro W hSW; (try dsimp only at hSW); obtain ⟨z0, z1, z2, z3, z4, z5⟩ := hSW; go_simp; first | done | with_reducible rfl)
 (try simp only [pu, pn, si, s0, sn])
 refine wpAnyH_ready (rs := [1, 4]) (by kernel_rfl) (by simp) ?_
 refine AllReadyH.cons (i := 1) (gt rfl) (fun K hK => ?_) ?_
 ·go_simp
  refine hK.out _ _ ?_ (fun hHeld => ?_)
  ·(try dsimp only); exact hArg.out _ (by first | exact hP6.out.arg | exact hK5 | exact hPB.out.arg | exact hPA.out.arg | exact hPD.out.arg)
  clear hK K
  (try simp only [pu, pn, si, s0, sn])
  refine wpAnyH_ready (rs := [4]) (by kernel_rfl) (by simp) ?_
  refine AllReadyH.cons (i := 4) (gt rfl) (fun K hK => ?_) ?_
  ·go_simp
   go_at_call 103
   refine (rbox_any a0 a1 a2 a3 a4 a5 _ _ (hIs.out _ (by have := hPD.out.kx.lt; have := hPD.out.kl; omega) hPD.out.arg)).mono ?_
   rintro e w4 ⟨rfl, hb4⟩
   have hPB := Lib.hid (hPD.out.up hb4)
   have yB := hY.out _ hPB.out
   have hPA := Lib.hid (hPB.out.up (below_al (Below.refl _ _) (.cells #[.string NM, .int .i64 a0, .int .i64 a1, .int .i64 a2, .int .i64 a3, .int .i64 a4, .int .i64 a5, .slice none 0 0] 63)))
   have hNA : Hid (∀ j u, ([.string NM, .int .i64 a0, .int .i64 a1, .int .i64 a2, .int .i64 a3, .int .i64 a4, .int .i64 a5, .slice none 0 0] : List Value)[j]? = some u → (World.alloc w4 (.cells #[.string NM, .int .i64 a0, .int .i64 a1, .int .i64 a2, .int .i64 a3, .int .i64 a4, .int .i64 a5, .slice none 0 0] 63)).cell? ((⟨w4.heap.size, 0, none⟩ : Addr).add j) = some u) := Lib.hid (new_at (At.new' rfl))
   have yA := hY.out _ hPA.out
   clear hb4
   (try go_wp2_with fail)
   refine hK.out _ _ ?_ (fun hHeld => ?_)
   ·(try dsimp only); exact hArg.out _ (by first | exact hP6.out.arg | exact hK5 | exact hPB.out.arg | exact hPA.out.arg | exact hPD.out.arg)
   clear hK K
   (try simp only [pu, pn, si, s0, sn])
   refine tak (i := 5) (v := ?_) (gt rfl) ?_ ?_
   rotate_left
   focus (intro W hSW; (try dsimp only at hSW); obtain ⟨z0, z1, z2, z3, z4, z5⟩ := hSW; go_simp; first | done | with_reducible rfl)
   (try simp only [pu, pn, si, s0, sn])
   refine wpAnyH_ready (rs := [6]) (by kernel_rfl) (by simp) ?_
   refine AllReadyH.cons (i := 6) (gt rfl) (fun K hK => ?_) ?_
   ·go_simp
    refine hK.out _ _ ?_ (fun hHeld => ?_)
    ·(try dsimp only); exact hArg.out _ (by first | exact hP6.out.arg | exact hK5 | exact hPB.out.arg | exact hPA.out.arg | exact hPD.out.arg)
    clear hK K
    (try simp only [pu, pn, si, s0, sn])
    refine wpAnyH_ready (rs := [7]) (by kernel_rfl) (by simp) ?_
    refine AllReadyH.cons (i := 7) (gt rfl) (fun K hK => ?_) ?_
    ·refine step_append_w _ (by rfl) (.tmp 194) (.tmp 199) 30 rfl 0 63 i0 _ 8 88 Tryz.underlying30 hi0 hz0 hz1 hz2 rfl (by decide) (.slice vo nb cp0) nb ((d.dems.zip p.ds).flatMap encD) (by first | rfl | (simp [Act.eval]; done)) (hOw.out _ hPA.out) ⟨w4.heap.size, 0, none⟩ 1 1 [.string NM, .int .i64 a0, .int .i64 a1, .int .i64 a2, .int .i64 a3, .int .i64 a4, .int .i64 a5, .slice none 0 0] (by first | rfl | (simp [Act.eval]; done)) rfl hNA.out (by intro u hu; simp at hu; rcases hu with rfl | rfl | rfl | rfl | rfl | rfl | rfl | rfl <;> rfl) (by unfold maxLen; omega) (by omega) (Nat.zero_le _) ?_
     intro g5 c5 w5 ho5 hg5 hl5
     obtain ⟨y5, f5, hK5, hP6⟩ := hPu.out _ w5 g5 c5 hPA.out ho5 hg5 hl5
     clear ho5 hg5 hl5
     refine hK.out _ _ ?_ (fun hHeld => ?_)
     ·(try dsimp only); exact hArg.out _ (by first | exact hP6.out.arg | exact hK5 | exact hPB.out.arg | exact hPA.out.arg | exact hPD.out.arg)
     clear hK K
     (try simp only [pu, pn, si, s0, sn])
     refine tak (i := 8) (v := ?_) (gt rfl) ?_ ?_
     rotate_left
     focus (intro W hSW; (try dsimp only at hSW); obtain ⟨z0, z1, z2, z3, z4, z5⟩ := hSW; go_simp; first | done | with_reducible rfl)
     (try simp only [pu, pn, si, s0, sn])
     refine wpAnyH_ready (rs := [9]) (by kernel_rfl) (by simp) ?_
     refine AllReadyH.cons (i := 9) (gt rfl) (fun K hK => ?_) ?_
     ·go_simp
      refine hK.out _ _ ?_ (fun hHeld => ?_)
      ·(try dsimp only); exact hArg.out _ (by first | exact hP6.out.arg | exact hK5 | exact hPB.out.arg | exact hPA.out.arg | exact hPD.out.arg)
      clear hK K
      (try simp only [pu, pn, si, s0, sn])
      refine wpAnyH_done (by kernel_rfl) ?_ _
      refine NoPanic.normal ?_
      have kx6 := hP6.out.kx
      have kz6 := hP6.out.kz
      have h1c := detC_one hP6.out.vals
      obtain ⟨kr, hE⟩ := hP6.out.fin
      replace hE := Lib.hid hE
      generalize World.setCell _ _ _ = W6 at *
      have hs6 := Lib.hid (detC_size { d with dems := d.dems ++ [(nm, [a0, a1, a2, a3, a4, a5], [])] } { p with vd := .slice g5 (nb + 1) c5, ds := p.ds ++ [Value.slice none 0 0] })
      generalize detC { d with dems := d.dems ++ [(nm, [a0, a1, a2, a3, a4, a5], [])] } { p with vd := .slice g5 (nb + 1) c5, ds := p.ds ++ [Value.slice none 0 0] } = cs at *
      clear hHeld hP6 hArg
      go_wp2_with (first | (refine wpList_load_row rfl 34 (.tmp 4) rfl w.heap.size (by simp [Act.eval]) 34 cs (0, 0) _ kx6 Tryz.underlying34 rfl (by rw [hs6.out]; kernel_rfl) ?_) | (refine wpList_store_row rfl 34 (.tmp 8) (.tmp 202) rfl (w.heap.size + 1) cs (by simp [Act.eval, Act.put]) (by simp [Act.eval, Act.put]) 34 zeroD kz6 (by rw [hs6.out]; kernel_rfl) (by rw [hs6.out]; rfl) h1c ?_) | fail)
      exact bodyPost_ret (put_results _ _ (w.heap.size + 1) cs rfl kr hs6.out) rfl hE.out
     exact AllReadyH.nil
    exact AllReadyH.nil
   exact AllReadyH.nil
  exact AllReadyH.nil
 refine AllReadyH.cons (i := 4) (gt rfl) (fun K hK => ?_) ?_
 ·go_simp
  go_at_call 103
  refine (rbox_any a0 a1 a2 a3 a4 a5 _ _ (hIs.out _ (by have := hPD.out.kx.lt; have := hPD.out.kl; omega) hPD.out.arg)).mono ?_
  rintro e w4 ⟨rfl, hb4⟩
  have hPB := Lib.hid (hPD.out.up hb4)
  have yB := hY.out _ hPB.out
  have hPA := Lib.hid (hPB.out.up (below_al (Below.refl _ _) (.cells #[.string NM, .int .i64 a0, .int .i64 a1, .int .i64 a2, .int .i64 a3, .int .i64 a4, .int .i64 a5, .slice none 0 0] 63)))
  have hNA : Hid (∀ j u, ([.string NM, .int .i64 a0, .int .i64 a1, .int .i64 a2, .int .i64 a3, .int .i64 a4, .int .i64 a5, .slice none 0 0] : List Value)[j]? = some u → (World.alloc w4 (.cells #[.string NM, .int .i64 a0, .int .i64 a1, .int .i64 a2, .int .i64 a3, .int .i64 a4, .int .i64 a5, .slice none 0 0] 63)).cell? ((⟨w4.heap.size, 0, none⟩ : Addr).add j) = some u) := Lib.hid (new_at (At.new' rfl))
  have yA := hY.out _ hPA.out
  clear hb4
  (try go_wp2_with fail)
  refine hK.out _ _ ?_ (fun hHeld => ?_)
  ·(try dsimp only); exact hArg.out _ (by first | exact hP6.out.arg | exact hK5 | exact hPB.out.arg | exact hPA.out.arg | exact hPD.out.arg)
  clear hK K
  (try simp only [pu, pn, si, s0, sn])
  refine tak (i := 5) (v := ?_) (gt rfl) ?_ ?_
  rotate_left
  focus (intro W hSW; (try dsimp only at hSW); obtain ⟨z0, z1, z2, z3, z4, z5⟩ := hSW; go_simp; first | done | with_reducible rfl)
  (try simp only [pu, pn, si, s0, sn])
  refine wpAnyH_ready (rs := [1, 6]) (by kernel_rfl) (by simp) ?_
  refine AllReadyH.cons (i := 1) (gt rfl) (fun K hK => ?_) ?_
  ·go_simp
   refine hK.out _ _ ?_ (fun hHeld => ?_)
   ·(try dsimp only); exact hArg.out _ (by first | exact hP6.out.arg | exact hK5 | exact hPB.out.arg | exact hPA.out.arg | exact hPD.out.arg)
   clear hK K
   (try simp only [pu, pn, si, s0, sn])
   refine wpAnyH_ready (rs := [6]) (by kernel_rfl) (by simp) ?_
   refine AllReadyH.cons (i := 6) (gt rfl) (fun K hK => ?_) ?_
   ·go_simp
    refine hK.out _ _ ?_ (fun hHeld => ?_)
    ·(try dsimp only); exact hArg.out _ (by first | exact hP6.out.arg | exact hK5 | exact hPB.out.arg | exact hPA.out.arg | exact hPD.out.arg)
    clear hK K
    (try simp only [pu, pn, si, s0, sn])
    refine wpAnyH_ready (rs := [7]) (by kernel_rfl) (by simp) ?_
    refine AllReadyH.cons (i := 7) (gt rfl) (fun K hK => ?_) ?_
    ·refine step_append_w _ (by rfl) (.tmp 194) (.tmp 199) 30 rfl 0 63 i0 _ 8 88 Tryz.underlying30 hi0 hz0 hz1 hz2 rfl (by decide) (.slice vo nb cp0) nb ((d.dems.zip p.ds).flatMap encD) (by first | rfl | (simp [Act.eval]; done)) (hOw.out _ hPA.out) ⟨w4.heap.size, 0, none⟩ 1 1 [.string NM, .int .i64 a0, .int .i64 a1, .int .i64 a2, .int .i64 a3, .int .i64 a4, .int .i64 a5, .slice none 0 0] (by first | rfl | (simp [Act.eval]; done)) rfl hNA.out (by intro u hu; simp at hu; rcases hu with rfl | rfl | rfl | rfl | rfl | rfl | rfl | rfl <;> rfl) (by unfold maxLen; omega) (by omega) (Nat.zero_le _) ?_
     intro g5 c5 w5 ho5 hg5 hl5
     obtain ⟨y5, f5, hK5, hP6⟩ := hPu.out _ w5 g5 c5 hPA.out ho5 hg5 hl5
     clear ho5 hg5 hl5
     refine hK.out _ _ ?_ (fun hHeld => ?_)
     ·(try dsimp only); exact hArg.out _ (by first | exact hP6.out.arg | exact hK5 | exact hPB.out.arg | exact hPA.out.arg | exact hPD.out.arg)
     clear hK K
     (try simp only [pu, pn, si, s0, sn])
     refine tak (i := 8) (v := ?_) (gt rfl) ?_ ?_
     rotate_left
     focus (intro W hSW; (try dsimp only at hSW); obtain ⟨z0, z1, z2, z3, z4, z5⟩ := hSW; go_simp; first | done | with_reducible rfl)
     (try simp only [pu, pn, si, s0, sn])
     refine wpAnyH_ready (rs := [9]) (by kernel_rfl) (by simp) ?_
     refine AllReadyH.cons (i := 9) (gt rfl) (fun K hK => ?_) ?_
     ·go_simp
      refine hK.out _ _ ?_ (fun hHeld => ?_)
      ·(try dsimp only); exact hArg.out _ (by first | exact hP6.out.arg | exact hK5 | exact hPB.out.arg | exact hPA.out.arg | exact hPD.out.arg)
      clear hK K
      (try simp only [pu, pn, si, s0, sn])
      refine wpAnyH_done (by kernel_rfl) ?_ _
      refine NoPanic.normal ?_
      have kx6 := hP6.out.kx
      have kz6 := hP6.out.kz
      have h1c := detC_one hP6.out.vals
      obtain ⟨kr, hE⟩ := hP6.out.fin
      replace hE := Lib.hid hE
      generalize World.setCell _ _ _ = W6 at *
      have hs6 := Lib.hid (detC_size { d with dems := d.dems ++ [(nm, [a0, a1, a2, a3, a4, a5], [])] } { p with vd := .slice g5 (nb + 1) c5, ds := p.ds ++ [Value.slice none 0 0] })
      generalize detC { d with dems := d.dems ++ [(nm, [a0, a1, a2, a3, a4, a5], [])] } { p with vd := .slice g5 (nb + 1) c5, ds := p.ds ++ [Value.slice none 0 0] } = cs at *
      clear hHeld hP6 hArg
      go_wp2_with (first | (refine wpList_load_row rfl 34 (.tmp 4) rfl w.heap.size (by simp [Act.eval]) 34 cs (0, 0) _ kx6 Tryz.underlying34 rfl (by rw [hs6.out]; kernel_rfl) ?_) | (refine wpList_store_row rfl 34 (.tmp 8) (.tmp 202) rfl (w.heap.size + 1) cs (by simp [Act.eval, Act.put]) (by simp [Act.eval, Act.put]) 34 zeroD kz6 (by rw [hs6.out]; kernel_rfl) (by rw [hs6.out]; rfl) h1c ?_) | fail)
      exact bodyPost_ret (put_results _ _ (w.heap.size + 1) cs rfl kr hs6.out) rfl hE.out
     exact AllReadyH.nil
    exact AllReadyH.nil
   exact AllReadyH.nil
  refine AllReadyH.cons (i := 6) (gt rfl) (fun K hK => ?_) ?_
  ·go_simp
   refine hK.out _ _ ?_ (fun hHeld => ?_)
   ·(try dsimp only); exact hArg.out _ (by first | exact hP6.out.arg | exact hK5 | exact hPB.out.arg | exact hPA.out.arg | exact hPD.out.arg)
   clear hK K
   (try simp only [pu, pn, si, s0, sn])
   refine wpAnyH_ready (rs := [1]) (by kernel_rfl) (by simp) ?_
   refine AllReadyH.cons (i := 1) (gt rfl) (fun K hK => ?_) ?_
   ·go_simp
    refine hK.out _ _ ?_ (fun hHeld => ?_)
    ·(try dsimp only); exact hArg.out _ (by first | exact hP6.out.arg | exact hK5 | exact hPB.out.arg | exact hPA.out.arg | exact hPD.out.arg)
    clear hK K
    (try simp only [pu, pn, si, s0, sn])
    refine wpAnyH_ready (rs := [7]) (by kernel_rfl) (by simp) ?_
    refine AllReadyH.cons (i := 7) (gt rfl) (fun K hK => ?_) ?_
    ·refine step_append_w _ (by rfl) (.tmp 194) (.tmp 199) 30 rfl 0 63 i0 _ 8 88 Tryz.underlying30 hi0 hz0 hz1 hz2 rfl (by decide) (.slice vo nb cp0) nb ((d.dems.zip p.ds).flatMap encD) (by first | rfl | (simp [Act.eval]; done)) (hOw.out _ hPA.out) ⟨w4.heap.size, 0, none⟩ 1 1 [.string NM, .int .i64 a0, .int .i64 a1, .int .i64 a2, .int .i64 a3, .int .i64 a4, .int .i64 a5, .slice none 0 0] (by first | rfl | (simp [Act.eval]; done)) rfl hNA.out (by intro u hu; simp at hu; rcases hu with rfl | rfl | rfl | rfl | rfl | rfl | rfl | rfl <;> rfl) (by unfold maxLen; omega) (by omega) (Nat.zero_le _) ?_
     intro g5 c5 w5 ho5 hg5 hl5
     obtain ⟨y5, f5, hK5, hP6⟩ := hPu.out _ w5 g5 c5 hPA.out ho5 hg5 hl5
     clear ho5 hg5 hl5
     refine hK.out _ _ ?_ (fun hHeld => ?_)
     ·(try dsimp only); exact hArg.out _ (by first | exact hP6.out.arg | exact hK5 | exact hPB.out.arg | exact hPA.out.arg | exact hPD.out.arg)
     clear hK K
     (try simp only [pu, pn, si, s0, sn])
     refine tak (i := 8) (v := ?_) (gt rfl) ?_ ?_
     rotate_left
     focus (intro W hSW; (try dsimp only at hSW); obtain ⟨z0, z1, z2, z3, z4, z5⟩ := hSW; go_simp; first | done | with_reducible rfl)
     (try simp only [pu, pn, si, s0, sn])
     refine wpAnyH_ready (rs := [9]) (by kernel_rfl) (by simp) ?_
     refine AllReadyH.cons (i := 9) (gt rfl) (fun K hK => ?_) ?_
     ·go_simp
      refine hK.out _ _ ?_ (fun hHeld => ?_)
      ·(try dsimp only); exact hArg.out _ (by first | exact hP6.out.arg | exact hK5 | exact hPB.out.arg | exact hPA.out.arg | exact hPD.out.arg)
      clear hK K
      (try simp only [pu, pn, si, s0, sn])
      refine wpAnyH_done (by kernel_rfl) ?_ _
      refine NoPanic.normal ?_
      have kx6 := hP6.out.kx
      have kz6 := hP6.out.kz
      have h1c := detC_one hP6.out.vals
      obtain ⟨kr, hE⟩ := hP6.out.fin
      replace hE := Lib.hid hE
      generalize World.setCell _ _ _ = W6 at *
      have hs6 := Lib.hid (detC_size { d with dems := d.dems ++ [(nm, [a0, a1, a2, a3, a4, a5], [])] } { p with vd := .slice g5 (nb + 1) c5, ds := p.ds ++ [Value.slice none 0 0] })
      generalize detC { d with dems := d.dems ++ [(nm, [a0, a1, a2, a3, a4, a5], [])] } { p with vd := .slice g5 (nb + 1) c5, ds := p.ds ++ [Value.slice none 0 0] } = cs at *
      clear hHeld hP6 hArg
      go_wp2_with (first | (refine wpList_load_row rfl 34 (.tmp 4) rfl w.heap.size (by simp [Act.eval]) 34 cs (0, 0) _ kx6 Tryz.underlying34 rfl (by rw [hs6.out]; kernel_rfl) ?_) | (refine wpList_store_row rfl 34 (.tmp 8) (.tmp 202) rfl (w.heap.size + 1) cs (by simp [Act.eval, Act.put]) (by simp [Act.eval, Act.put]) 34 zeroD kz6 (by rw [hs6.out]; kernel_rfl) (by rw [hs6.out]; rfl) h1c ?_) | fail)
      exact bodyPost_ret (put_results _ _ (w.heap.size + 1) cs rfl kr hs6.out) rfl hE.out
     exact AllReadyH.nil
    exact AllReadyH.nil
   exact AllReadyH.nil
  exact AllReadyH.nil
 exact AllReadyH.nil
end Go.Proofs.YtccakklnbhcbdaaGreatDoor
