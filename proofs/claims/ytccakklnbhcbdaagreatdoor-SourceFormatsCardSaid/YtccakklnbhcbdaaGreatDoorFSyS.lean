import Derived.Test.YtccakklnbhcbdaaGreatDoorFSyR
import Derived.Test.YtccakklnbhcbdaaGreatDoorFA
set_option linter.unusedVariables false
set_option linter.unusedSimpArgs false
namespace Go.Proofs.YtccakklnbhcbdaaGreatDoor
open Go.ChangeShapes Go.WideShapes Go.ChangeAt Go.RowKit
set_option maxRecDepth 100000 in
set_option maxHeartbeats 4000000 in
theorem put_lap (F : Nat) (d : Det) (p : PV) (w : World) (hF : F ≤ w.heap.size) (hV : RdV w d p) (hy : ∀ b, some b ∈ p.fp → F ≤ b) (hm : manyD d ≤ 1000000) (NM : ByteArray) (a0 a1 : Int) (v : Value) (hv : IsI [a0, a1] v w) (hk : ∀ g, v.ownBlock = some g → some g ∉ p.fp) : Calls Tryz.prog 64 #[.agg (detC d p), .string ⟨#[108, 97, 112]⟩, .string NM, v] w (PutE F w { d with laps := d.laps ++ [[a0, a1]] }) := by
 obtain ⟨K, off, cp, rfl, -, -, hlt, hc⟩ := hv.cells (by simp)
 have q0 : w.cell? ⟨K, off, none⟩ = some (.int .i64 a0) := hc 0 (by simp)
 have q1 : w.cell? ⟨K, off + 1, none⟩ = some (.int .i64 a1) := hc 1 (by simp)
 have hArg : Hid (∀ W : World, W.heap[K]? = w.heap[K]? → W.cell? ⟨K, off, none⟩ = some (.int .i64 a0) ∧ W.cell? ⟨K, off + 1, none⟩ = some (.int .i64 a1)) := Lib.hid fun W h => ⟨(World.cell?_of_block h).trans q0, (World.cell?_of_block h).trans q1⟩
 have hP0 := Lib.hid (PutW.start hF hlt hV hy (hk K rfl))
 clear hc hv hk hy hV hF q0 q1
 show Calls _ _ #[_, _, _, .slice (some ⟨K, off, none⟩) 2 cp] _ _
 go_enter Tryz.func64, Tryz.ntmps64
 go_upto_region 18 with fail
 generalize hWW : World.alloc (World.alloc w _) _ = WW
 have hP : Hid (PutW F w K d p WW) := Lib.hid (by rw [← hWW]; exact hP0.out)
 have hPD := Lib.hid (hP.out.up (below_drew (Below.refl _ _)))
 clear hWW hP0
 obtain ⟨vo, cp0, hvb, hcp, -⟩ := hP.out.vals.laps.view (encK_len 2)
 obtain ⟨nb, hnb⟩ : ∃ nb, nb = d.laps.length := ⟨_, rfl⟩
 have hvb : p.vl = .slice vo nb cp0 := by rw [hnb]; exact hvb
 have hnb6 : nb ≤ 1000000 := by rw [hnb]; unfold manyD at hm; omega
 obtain ⟨i0, hi0, hz0, hz1, hz2⟩ := info_parts infoJoint
 have hne : (encK 2) [a0, a1] = [.int .i64 a0, .int .i64 a1] := by rfl
 have hY : Hid (∀ W : World, PutW F w K d p W → W.cell? ⟨w.heap.size, 8, none⟩ = some (.slice vo nb cp0)) := Lib.hid fun W h => by
  rw [h.kx.c 8, ← hvb]
  simp [detC, encK, List.range, List.range.loop]
 have hOw : Hid (∀ W : World, PutW F w K d p W → W.ownsRow 0 84 2 (.slice vo nb cp0) nb (d.laps.flatMap (encK 2))) := Lib.hid fun W h => by
  have q := h.vals.laps
  unfold Row at q
  rw [← hvb, hnb]
  exact q
 have hPu : Hid (∀ (WB w5 : World) (g5 : Option Addr) (c5 : Nat), PutW F w K d p WB → w5.ownsRow 0 84 2 (.slice g5 (nb + 1) c5) (nb + 1) (d.laps.flatMap (encK 2) ++ [.int .i64 a0, .int .i64 a1]) → WB.grownBy w5 (Value.slice vo nb cp0).ownBlock → ((Value.slice g5 (nb + 1) c5).ownBlock = (Value.slice vo nb cp0).ownBlock ∨ (Value.slice g5 (nb + 1) c5).ownBlock = some WB.heap.size) →
   w5.cell? ⟨w.heap.size, 8, none⟩ = some (.slice vo nb cp0) ∧ w5.frozen? ⟨w.heap.size, 8, none⟩ = false ∧ w5.heap[K]? = w.heap[K]? ∧ Hid (PutW F w K { d with laps := d.laps ++ [[a0, a1]] } { p with vl := .slice g5 (nb + 1) c5 } (w5.setCell ⟨w.heap.size, 8, none⟩ (.slice g5 (nb + 1) c5)))) := Lib.hid fun WB w5 g5 c5 hW ho5 hg5 hloc => by
  obtain ⟨ha5, hk5, h6⟩ := hW.pushL (v' := .slice g5 (nb + 1) c5) (n := [a0, a1]) (by rw [hvb]; exact hg5) (by rw [← hnb, hne]; exact ho5) (m := WB.heap.size) (Nat.le_refl _) (by rw [hvb]; exact hloc)
  refine ⟨?_, ha5.f 8, hk5, Lib.hid h6⟩
  rw [ha5.c 8, ← hvb]
  simp [detC, encK, List.range, List.range.loop]
 replace hnb := Lib.hid hnb
 replace hvb := Lib.hid hvb
 clear hm hcp
 have hPA : Hid (PutW F w K d p (World.drew (World.alloc WW (.cells #[.int .i64 a0, .int .i64 a1] 84)))) := Lib.hid (hP.out.up (below_drew (below_al (Below.refl _ _) _)))
 have hNA : Hid (∀ j u, ([.int .i64 a0, .int .i64 a1] : List Value)[j]? = some u → (World.drew (World.alloc WW (.cells #[.int .i64 a0, .int .i64 a1] 84))).cell? ((⟨WW.heap.size, 0, none⟩ : Addr).add j) = some u) := Lib.hid (new_at (At.drw (At.new' rfl)))
 have yD := hY.out _ hPD.out
 have yA := hY.out _ hPA.out
 refine wp_region_noPanic ?_
 refine wp_region_held_drew (S := fun W => W.cell? ⟨K, off, none⟩ = some (.int .i64 a0) ∧ W.cell? ⟨K, off + 1, none⟩ = some (.int .i64 a1)) (by kernel_rfl) ?_ (fun hHeld => ?_)
 ·(try dsimp only); exact hArg.out _ (by first | exact hP6.out.arg | exact hK5 | exact hPB.out.arg | exact hPA.out.arg | exact hPD.out.arg)
 refine tak (i := 0) (v := ?_) (gt rfl) ?_ ?_
 rotate_left
 focus (intro W hSW; (try dsimp only at hSW); obtain ⟨z0, z1⟩ := hSW; go_simp; first | done | with_reducible rfl)
 (try simp only [pu, pn, si, s0, sn])
 refine tak (i := 2) (v := ?_) (gt rfl) ?_ ?_
 rotate_left
 focus (intro W hSW; (try dsimp only at hSW); obtain ⟨z0, z1⟩ := hSW; go_simp; first | done | with_reducible rfl)
 (try simp only [pu, pn, si, s0, sn])
 refine tak (i := 3) (v := ?_) (gt rfl) ?_ ?_
 rotate_left
 focus (intro W hSW; (try dsimp only at hSW); obtain ⟨z0, z1⟩ := hSW; go_simp; first | done | with_reducible rfl)
 (try simp only [pu, pn, si, s0, sn])
 refine tak (i := 4) (v := ?_) (gt rfl) ?_ ?_
 rotate_left
 focus (intro W hSW; (try dsimp only at hSW); obtain ⟨z0, z1⟩ := hSW; go_simp; first | done | with_reducible rfl)
 (try simp only [pu, pn, si, s0, sn])
 refine tak (i := 5) (v := ?_) (gt rfl) ?_ ?_
 rotate_left
 focus (intro W hSW; (try dsimp only at hSW); obtain ⟨z0, z1⟩ := hSW; go_simp; first | done | with_reducible rfl)
 (try simp only [pu, pn, si, s0, sn])
 refine tak (i := 6) (v := ?_) (gt rfl) ?_ ?_
 rotate_left
 focus (intro W hSW; (try dsimp only at hSW); obtain ⟨z0, z1⟩ := hSW; go_simp; first | done | with_reducible rfl)
 (try simp only [pu, pn, si, s0, sn])
 refine tak (i := 7) (v := ?_) (gt rfl) ?_ ?_
 rotate_left
 focus (intro W hSW; (try dsimp only at hSW); obtain ⟨z0, z1⟩ := hSW; go_simp; first | done | with_reducible rfl)
 (try simp only [pu, pn, si, s0, sn])
 refine tak (i := 8) (v := ?_) (gt rfl) ?_ ?_
 rotate_left
 focus (intro W hSW; (try dsimp only at hSW); obtain ⟨z0, z1⟩ := hSW; go_simp; first | done | with_reducible rfl)
 (try simp only [pu, pn, si, s0, sn])
 refine wpAnyH_ready (rs := [1, 9]) (by kernel_rfl) (by simp) ?_
 refine AllReadyH.cons (i := 1) (gt rfl) (fun K hK => ?_) ?_
 ·go_simp
  refine hK.out _ _ ?_ (fun hHeld => ?_)
  ·(try dsimp only); exact hArg.out _ (by first | exact hP6.out.arg | exact hK5 | exact hPB.out.arg | exact hPA.out.arg | exact hPD.out.arg)
  clear hK K
  (try simp only [pu, pn, si, s0, sn])
  refine wpAnyH_ready (rs := [9]) (by kernel_rfl) (by simp) ?_
  refine AllReadyH.cons (i := 9) (gt rfl) (fun K hK => ?_) ?_
  ·go_simp
   refine hK.out _ _ ?_ (fun hHeld => ?_)
   ·(try dsimp only); exact hArg.out _ (by first | exact hP6.out.arg | exact hK5 | exact hPB.out.arg | exact hPA.out.arg | exact hPD.out.arg)
   clear hK K
   (try simp only [pu, pn, si, s0, sn])
   refine wpAnyH_ready (rs := [10]) (by kernel_rfl) (by simp) ?_
   refine AllReadyH.cons (i := 10) (gt rfl) (fun K hK => ?_) ?_
   ·refine step_append_w _ (by rfl) (.tmp 180) (.tmp 188) 29 rfl 0 84 i0 _ 2 16 Tryz.underlying29 hi0 hz0 hz1 hz2 rfl (by decide) (.slice vo nb cp0) nb (d.laps.flatMap (encK 2)) (by first | rfl | (simp [Act.eval]; done)) (hOw.out _ hPA.out) ⟨WW.heap.size, 0, none⟩ 1 1 [.int .i64 a0, .int .i64 a1] (by first | rfl | (simp [Act.eval]; done)) rfl hNA.out (by intro u hu; simp at hu; rcases hu with rfl | rfl <;> rfl) (by unfold maxLen; omega) (by omega) (Nat.zero_le _) ?_
    intro g5 c5 w5 ho5 hg5 hl5
    obtain ⟨y5, f5, hK5, hP6⟩ := hPu.out _ w5 g5 c5 hPA.out ho5 hg5 hl5
    clear ho5 hg5 hl5
    refine hK.out _ _ ?_ (fun hHeld => ?_)
    ·(try dsimp only); exact hArg.out _ (by first | exact hP6.out.arg | exact hK5 | exact hPB.out.arg | exact hPA.out.arg | exact hPD.out.arg)
    clear hK K
    (try simp only [pu, pn, si, s0, sn])
    refine tak (i := 11) (v := ?_) (gt rfl) ?_ ?_
    rotate_left
    focus (intro W hSW; (try dsimp only at hSW); obtain ⟨z0, z1⟩ := hSW; go_simp; first | done | with_reducible rfl)
    (try simp only [pu, pn, si, s0, sn])
    refine wpAnyH_ready (rs := [12]) (by kernel_rfl) (by simp) ?_
    refine AllReadyH.cons (i := 12) (gt rfl) (fun K hK => ?_) ?_
    ·go_simp
     refine hK.out _ _ ?_ (fun hHeld => ?_)
     ·(try dsimp only); exact hArg.out _ (by first | exact hP6.out.arg | exact hK5 | exact hPB.out.arg | exact hPA.out.arg | exact hPD.out.arg)
     clear hK K
     (try simp only [pu, pn, si, s0, sn])
     refine wpAnyH_done (by kernel_rfl) ?_ _
     refine NoPanic.normal ?_
     have kx6 := hP6.out.kx
     have kz6 := hP6.out.kz
     have h1c := detC_one hP6.out.vals
     obtain ⟨kr, hE⟩ := hP6.out.fin
     replace hE := Lib.hid hE
     generalize World.setCell _ _ _ = W6 at *
     have hs6 := Lib.hid (detC_size { d with laps := d.laps ++ [[a0, a1]] } { p with vl := .slice g5 (nb + 1) c5 })
     generalize detC { d with laps := d.laps ++ [[a0, a1]] } { p with vl := .slice g5 (nb + 1) c5 } = cs at *
     clear hHeld hP6 hArg
     go_wp2_with (first | (refine wpList_load_row rfl 34 (.tmp 4) rfl w.heap.size (by simp [Act.eval]) 34 cs (0, 0) _ kx6 Tryz.underlying34 rfl (by rw [hs6.out]; kernel_rfl) ?_) | (refine wpList_store_row rfl 34 (.tmp 8) (.tmp 202) rfl (w.heap.size + 1) cs (by simp [Act.eval, Act.put]) (by simp [Act.eval, Act.put]) 34 zeroD kz6 (by rw [hs6.out]; kernel_rfl) (by rw [hs6.out]; rfl) h1c ?_) | fail)
     exact bodyPost_ret (put_results _ _ (w.heap.size + 1) cs rfl kr hs6.out) rfl hE.out
    exact AllReadyH.nil
   exact AllReadyH.nil
  exact AllReadyH.nil
 refine AllReadyH.cons (i := 9) (gt rfl) (fun K hK => ?_) ?_
 ·go_simp
  refine hK.out _ _ ?_ (fun hHeld => ?_)
  ·(try dsimp only); exact hArg.out _ (by first | exact hP6.out.arg | exact hK5 | exact hPB.out.arg | exact hPA.out.arg | exact hPD.out.arg)
  clear hK K
  (try simp only [pu, pn, si, s0, sn])
  refine wpAnyH_ready (rs := [1]) (by kernel_rfl) (by simp) ?_
  refine AllReadyH.cons (i := 1) (gt rfl) (fun K hK => ?_) ?_
  ·go_simp
   refine hK.out _ _ ?_ (fun hHeld => ?_)
   ·(try dsimp only); exact hArg.out _ (by first | exact hP6.out.arg | exact hK5 | exact hPB.out.arg | exact hPA.out.arg | exact hPD.out.arg)
   clear hK K
   (try simp only [pu, pn, si, s0, sn])
   refine wpAnyH_ready (rs := [10]) (by kernel_rfl) (by simp) ?_
   refine AllReadyH.cons (i := 10) (gt rfl) (fun K hK => ?_) ?_
   ·refine step_append_w _ (by rfl) (.tmp 180) (.tmp 188) 29 rfl 0 84 i0 _ 2 16 Tryz.underlying29 hi0 hz0 hz1 hz2 rfl (by decide) (.slice vo nb cp0) nb (d.laps.flatMap (encK 2)) (by first | rfl | (simp [Act.eval]; done)) (hOw.out _ hPA.out) ⟨WW.heap.size, 0, none⟩ 1 1 [.int .i64 a0, .int .i64 a1] (by first | rfl | (simp [Act.eval]; done)) rfl hNA.out (by intro u hu; simp at hu; rcases hu with rfl | rfl <;> rfl) (by unfold maxLen; omega) (by omega) (Nat.zero_le _) ?_
    intro g5 c5 w5 ho5 hg5 hl5
    obtain ⟨y5, f5, hK5, hP6⟩ := hPu.out _ w5 g5 c5 hPA.out ho5 hg5 hl5
    clear ho5 hg5 hl5
    refine hK.out _ _ ?_ (fun hHeld => ?_)
    ·(try dsimp only); exact hArg.out _ (by first | exact hP6.out.arg | exact hK5 | exact hPB.out.arg | exact hPA.out.arg | exact hPD.out.arg)
    clear hK K
    (try simp only [pu, pn, si, s0, sn])
    refine tak (i := 11) (v := ?_) (gt rfl) ?_ ?_
    rotate_left
    focus (intro W hSW; (try dsimp only at hSW); obtain ⟨z0, z1⟩ := hSW; go_simp; first | done | with_reducible rfl)
    (try simp only [pu, pn, si, s0, sn])
    refine wpAnyH_ready (rs := [12]) (by kernel_rfl) (by simp) ?_
    refine AllReadyH.cons (i := 12) (gt rfl) (fun K hK => ?_) ?_
    ·go_simp
     refine hK.out _ _ ?_ (fun hHeld => ?_)
     ·(try dsimp only); exact hArg.out _ (by first | exact hP6.out.arg | exact hK5 | exact hPB.out.arg | exact hPA.out.arg | exact hPD.out.arg)
     clear hK K
     (try simp only [pu, pn, si, s0, sn])
     refine wpAnyH_done (by kernel_rfl) ?_ _
     refine NoPanic.normal ?_
     have kx6 := hP6.out.kx
     have kz6 := hP6.out.kz
     have h1c := detC_one hP6.out.vals
     obtain ⟨kr, hE⟩ := hP6.out.fin
     replace hE := Lib.hid hE
     generalize World.setCell _ _ _ = W6 at *
     have hs6 := Lib.hid (detC_size { d with laps := d.laps ++ [[a0, a1]] } { p with vl := .slice g5 (nb + 1) c5 })
     generalize detC { d with laps := d.laps ++ [[a0, a1]] } { p with vl := .slice g5 (nb + 1) c5 } = cs at *
     clear hHeld hP6 hArg
     go_wp2_with (first | (refine wpList_load_row rfl 34 (.tmp 4) rfl w.heap.size (by simp [Act.eval]) 34 cs (0, 0) _ kx6 Tryz.underlying34 rfl (by rw [hs6.out]; kernel_rfl) ?_) | (refine wpList_store_row rfl 34 (.tmp 8) (.tmp 202) rfl (w.heap.size + 1) cs (by simp [Act.eval, Act.put]) (by simp [Act.eval, Act.put]) 34 zeroD kz6 (by rw [hs6.out]; kernel_rfl) (by rw [hs6.out]; rfl) h1c ?_) | fail)
     exact bodyPost_ret (put_results _ _ (w.heap.size + 1) cs rfl kr hs6.out) rfl hE.out
    exact AllReadyH.nil
   exact AllReadyH.nil
  exact AllReadyH.nil
 exact AllReadyH.nil
set_option maxRecDepth 100000 in
set_option maxHeartbeats 4000000 in
theorem put_run (F : Nat) (d : Det) (p : PV) (w : World) (hF : F ≤ w.heap.size) (hV : RdV w d p) (hy : ∀ b, some b ∈ p.fp → F ≤ b) (hm : manyD d ≤ 1000000) (NM : ByteArray) (a0 a1 a2 a3 a4 a5 a6 a7 a8 : Int) (v : Value) (hv : IsI [a0, a1, a2, a3, a4, a5, a6, a7, a8] v w) (hk : ∀ g, v.ownBlock = some g → some g ∉ p.fp) (nm : List UInt8) (hNM : NM = ⟨nm.toArray⟩) : Calls Tryz.prog 64 #[.agg (detC d p), .string ⟨#[114, 117, 110]⟩, .string NM, v] w (PutE F w { d with runs := d.runs ++ [(nm, [a0, a1, a2, a3, a4, a5, a6, a7, a8])] }) := by
 replace hNM := Lib.hid hNM
 obtain ⟨K, off, cp, rfl, -, -, hlt, hc⟩ := hv.cells (by simp)
 have q0 : w.cell? ⟨K, off, none⟩ = some (.int .i64 a0) := hc 0 (by simp)
 have q1 : w.cell? ⟨K, off + 1, none⟩ = some (.int .i64 a1) := hc 1 (by simp)
 have q2 : w.cell? ⟨K, off + 2, none⟩ = some (.int .i64 a2) := hc 2 (by simp)
 have q3 : w.cell? ⟨K, off + 3, none⟩ = some (.int .i64 a3) := hc 3 (by simp)
 have q4 : w.cell? ⟨K, off + 4, none⟩ = some (.int .i64 a4) := hc 4 (by simp)
 have q5 : w.cell? ⟨K, off + 5, none⟩ = some (.int .i64 a5) := hc 5 (by simp)
 have q6 : w.cell? ⟨K, off + 6, none⟩ = some (.int .i64 a6) := hc 6 (by simp)
 have q7 : w.cell? ⟨K, off + 7, none⟩ = some (.int .i64 a7) := hc 7 (by simp)
 have q8 : w.cell? ⟨K, off + 8, none⟩ = some (.int .i64 a8) := hc 8 (by simp)
 have hArg : Hid (∀ W : World, W.heap[K]? = w.heap[K]? → W.cell? ⟨K, off, none⟩ = some (.int .i64 a0) ∧ W.cell? ⟨K, off + 1, none⟩ = some (.int .i64 a1) ∧ W.cell? ⟨K, off + 2, none⟩ = some (.int .i64 a2) ∧ W.cell? ⟨K, off + 3, none⟩ = some (.int .i64 a3) ∧ W.cell? ⟨K, off + 4, none⟩ = some (.int .i64 a4) ∧ W.cell? ⟨K, off + 5, none⟩ = some (.int .i64 a5) ∧ W.cell? ⟨K, off + 6, none⟩ = some (.int .i64 a6) ∧ W.cell? ⟨K, off + 7, none⟩ = some (.int .i64 a7) ∧ W.cell? ⟨K, off + 8, none⟩ = some (.int .i64 a8)) := Lib.hid fun W h => ⟨(World.cell?_of_block h).trans q0, (World.cell?_of_block h).trans q1, (World.cell?_of_block h).trans q2, (World.cell?_of_block h).trans q3, (World.cell?_of_block h).trans q4, (World.cell?_of_block h).trans q5, (World.cell?_of_block h).trans q6, (World.cell?_of_block h).trans q7, (World.cell?_of_block h).trans q8⟩
 have hP0 := Lib.hid (PutW.start hF hlt hV hy (hk K rfl))
 clear hc hv hk hy hV hF q0 q1 q2 q3 q4 q5 q6 q7 q8
 show Calls _ _ #[_, _, _, .slice (some ⟨K, off, none⟩) 9 cp] _ _
 go_enter Tryz.func64, Tryz.ntmps64
 go_upto_region 16 with fail
 generalize hWW : World.alloc (World.alloc w _) _ = WW
 have hP : Hid (PutW F w K d p WW) := Lib.hid (by rw [← hWW]; exact hP0.out)
 have hPD := Lib.hid (hP.out.up (below_drew (Below.refl _ _)))
 clear hWW hP0
 obtain ⟨vo, cp0, hvb, hcp, -⟩ := hP.out.vals.runs.view (encU_len)
 obtain ⟨nb, hnb⟩ : ∃ nb, nb = d.runs.length := ⟨_, rfl⟩
 have hvb : p.vn = .slice vo nb cp0 := by rw [hnb]; exact hvb
 have hnb6 : nb ≤ 1000000 := by rw [hnb]; unfold manyD at hm; omega
 obtain ⟨i0, hi0, hz0, hz1, hz2⟩ := info_parts infoRun
 have hne : encU (nm, [a0, a1, a2, a3, a4, a5, a6, a7, a8]) = [.string NM, .int .i64 a0, .int .i64 a1, .int .i64 a2, .int .i64 a3, .int .i64 a4, .int .i64 a5, .int .i64 a6, .int .i64 a7, .int .i64 a8] := by (unfold encU; rw [hNM.out]; rfl)
 have hY : Hid (∀ W : World, PutW F w K d p W → W.cell? ⟨w.heap.size, 7, none⟩ = some (.slice vo nb cp0)) := Lib.hid fun W h => by
  rw [h.kx.c 7, ← hvb]
  simp [detC, encK, List.range, List.range.loop]
 have hOw : Hid (∀ W : World, PutW F w K d p W → W.ownsRow 0 81 10 (.slice vo nb cp0) nb (d.runs.flatMap encU)) := Lib.hid fun W h => by
  have q := h.vals.runs
  unfold Row at q
  rw [← hvb, hnb]
  exact q
 have hPu : Hid (∀ (WB w5 : World) (g5 : Option Addr) (c5 : Nat), PutW F w K d p WB → w5.ownsRow 0 81 10 (.slice g5 (nb + 1) c5) (nb + 1) (d.runs.flatMap encU ++ [.string NM, .int .i64 a0, .int .i64 a1, .int .i64 a2, .int .i64 a3, .int .i64 a4, .int .i64 a5, .int .i64 a6, .int .i64 a7, .int .i64 a8]) → WB.grownBy w5 (Value.slice vo nb cp0).ownBlock → ((Value.slice g5 (nb + 1) c5).ownBlock = (Value.slice vo nb cp0).ownBlock ∨ (Value.slice g5 (nb + 1) c5).ownBlock = some WB.heap.size) →
   w5.cell? ⟨w.heap.size, 7, none⟩ = some (.slice vo nb cp0) ∧ w5.frozen? ⟨w.heap.size, 7, none⟩ = false ∧ w5.heap[K]? = w.heap[K]? ∧ Hid (PutW F w K { d with runs := d.runs ++ [(nm, [a0, a1, a2, a3, a4, a5, a6, a7, a8])] } { p with vn := .slice g5 (nb + 1) c5 } (w5.setCell ⟨w.heap.size, 7, none⟩ (.slice g5 (nb + 1) c5)))) := Lib.hid fun WB w5 g5 c5 hW ho5 hg5 hloc => by
  obtain ⟨ha5, hk5, h6⟩ := hW.pushN (v' := .slice g5 (nb + 1) c5) (n := (nm, [a0, a1, a2, a3, a4, a5, a6, a7, a8])) (by rw [hvb]; exact hg5) (by rw [← hnb, hne]; exact ho5) (m := WB.heap.size) (Nat.le_refl _) (by rw [hvb]; exact hloc)
  refine ⟨?_, ha5.f 7, hk5, Lib.hid h6⟩
  rw [ha5.c 7, ← hvb]
  simp [detC, encK, List.range, List.range.loop]
 replace hnb := Lib.hid hnb
 replace hvb := Lib.hid hvb
 clear hm hcp
 have hPA : Hid (PutW F w K d p (World.drew (World.alloc WW (.cells #[.string NM, .int .i64 a0, .int .i64 a1, .int .i64 a2, .int .i64 a3, .int .i64 a4, .int .i64 a5, .int .i64 a6, .int .i64 a7, .int .i64 a8] 81)))) := Lib.hid (hP.out.up (below_drew (below_al (Below.refl _ _) _)))
 have hNA : Hid (∀ j u, ([.string NM, .int .i64 a0, .int .i64 a1, .int .i64 a2, .int .i64 a3, .int .i64 a4, .int .i64 a5, .int .i64 a6, .int .i64 a7, .int .i64 a8] : List Value)[j]? = some u → (World.drew (World.alloc WW (.cells #[.string NM, .int .i64 a0, .int .i64 a1, .int .i64 a2, .int .i64 a3, .int .i64 a4, .int .i64 a5, .int .i64 a6, .int .i64 a7, .int .i64 a8] 81))).cell? ((⟨WW.heap.size, 0, none⟩ : Addr).add j) = some u) := Lib.hid (new_at (At.drw (At.new' rfl)))
 have yD := hY.out _ hPD.out
 have yA := hY.out _ hPA.out
 refine wp_region_noPanic ?_
 refine wp_region_held_drew (S := fun W => W.cell? ⟨K, off, none⟩ = some (.int .i64 a0) ∧ W.cell? ⟨K, off + 1, none⟩ = some (.int .i64 a1) ∧ W.cell? ⟨K, off + 2, none⟩ = some (.int .i64 a2) ∧ W.cell? ⟨K, off + 3, none⟩ = some (.int .i64 a3) ∧ W.cell? ⟨K, off + 4, none⟩ = some (.int .i64 a4) ∧ W.cell? ⟨K, off + 5, none⟩ = some (.int .i64 a5) ∧ W.cell? ⟨K, off + 6, none⟩ = some (.int .i64 a6) ∧ W.cell? ⟨K, off + 7, none⟩ = some (.int .i64 a7) ∧ W.cell? ⟨K, off + 8, none⟩ = some (.int .i64 a8)) (by kernel_rfl) ?_ (fun hHeld => ?_)
 ·(try dsimp only); exact hArg.out _ (by first | exact hP6.out.arg | exact hK5 | exact hPB.out.arg | exact hPA.out.arg | exact hPD.out.arg)
 refine tak (i := 0) (v := ?_) (gt rfl) ?_ ?_
 rotate_left
 focus (intro W hSW; (try dsimp only at hSW); obtain ⟨z0, z1, z2, z3, z4, z5, z6, z7, z8⟩ := hSW; go_simp; first | done | with_reducible rfl)
 (try simp only [pu, pn, si, s0, sn])
 refine tak (i := 2) (v := ?_) (gt rfl) ?_ ?_
 rotate_left
 focus (intro W hSW; (try dsimp only at hSW); obtain ⟨z0, z1, z2, z3, z4, z5, z6, z7, z8⟩ := hSW; go_simp; first | done | with_reducible rfl)
 (try simp only [pu, pn, si, s0, sn])
 refine tak (i := 3) (v := ?_) (gt rfl) ?_ ?_
 rotate_left
 focus (intro W hSW; (try dsimp only at hSW); obtain ⟨z0, z1, z2, z3, z4, z5, z6, z7, z8⟩ := hSW; go_simp; first | done | with_reducible rfl)
 (try simp only [pu, pn, si, s0, sn])
 refine tak (i := 4) (v := ?_) (gt rfl) ?_ ?_
 rotate_left
 focus (intro W hSW; (try dsimp only at hSW); obtain ⟨z0, z1, z2, z3, z4, z5, z6, z7, z8⟩ := hSW; go_simp; first | done | with_reducible rfl)
 (try simp only [pu, pn, si, s0, sn])
 refine tak (i := 5) (v := ?_) (gt rfl) ?_ ?_
 rotate_left
 focus (intro W hSW; (try dsimp only at hSW); obtain ⟨z0, z1, z2, z3, z4, z5, z6, z7, z8⟩ := hSW; go_simp; first | done | with_reducible rfl)
 (try simp only [pu, pn, si, s0, sn])
 refine tak (i := 6) (v := ?_) (gt rfl) ?_ ?_
 rotate_left
 focus (intro W hSW; (try dsimp only at hSW); obtain ⟨z0, z1, z2, z3, z4, z5, z6, z7, z8⟩ := hSW; go_simp; first | done | with_reducible rfl)
 (try simp only [pu, pn, si, s0, sn])
 refine tak (i := 7) (v := ?_) (gt rfl) ?_ ?_
 rotate_left
 focus (intro W hSW; (try dsimp only at hSW); obtain ⟨z0, z1, z2, z3, z4, z5, z6, z7, z8⟩ := hSW; go_simp; first | done | with_reducible rfl)
 (try simp only [pu, pn, si, s0, sn])
 refine tak (i := 8) (v := ?_) (gt rfl) ?_ ?_
 rotate_left
 focus (intro W hSW; (try dsimp only at hSW); obtain ⟨z0, z1, z2, z3, z4, z5, z6, z7, z8⟩ := hSW; go_simp; first | done | with_reducible rfl)
 (try simp only [pu, pn, si, s0, sn])
 refine tak (i := 9) (v := ?_) (gt rfl) ?_ ?_
 rotate_left
 focus (intro W hSW; (try dsimp only at hSW); obtain ⟨z0, z1, z2, z3, z4, z5, z6, z7, z8⟩ := hSW; go_simp; first | done | with_reducible rfl)
 (try simp only [pu, pn, si, s0, sn])
 refine tak (i := 10) (v := ?_) (gt rfl) ?_ ?_
 rotate_left
 focus (intro W hSW; (try dsimp only at hSW); obtain ⟨z0, z1, z2, z3, z4, z5, z6, z7, z8⟩ := hSW; go_simp; first | done | with_reducible rfl)
 (try simp only [pu, pn, si, s0, sn])
 refine tak (i := 11) (v := ?_) (gt rfl) ?_ ?_
 rotate_left
 focus (intro W hSW; (try dsimp only at hSW); obtain ⟨z0, z1, z2, z3, z4, z5, z6, z7, z8⟩ := hSW; go_simp; first | done | with_reducible rfl)
 (try simp only [pu, pn, si, s0, sn])
 refine tak (i := 12) (v := ?_) (gt rfl) ?_ ?_
 rotate_left
 focus (intro W hSW; (try dsimp only at hSW); obtain ⟨z0, z1, z2, z3, z4, z5, z6, z7, z8⟩ := hSW; go_simp; first | done | with_reducible rfl)
 (try simp only [pu, pn, si, s0, sn])
 refine tak (i := 13) (v := ?_) (gt rfl) ?_ ?_
 rotate_left
 focus (intro W hSW; (try dsimp only at hSW); obtain ⟨z0, z1, z2, z3, z4, z5, z6, z7, z8⟩ := hSW; go_simp; first | done | with_reducible rfl)
 (try simp only [pu, pn, si, s0, sn])
 refine tak (i := 14) (v := ?_) (gt rfl) ?_ ?_
 rotate_left
 focus (intro W hSW; (try dsimp only at hSW); obtain ⟨z0, z1, z2, z3, z4, z5, z6, z7, z8⟩ := hSW; go_simp; first | done | with_reducible rfl)
 (try simp only [pu, pn, si, s0, sn])
 refine tak (i := 15) (v := ?_) (gt rfl) ?_ ?_
 rotate_left
 focus (intro W hSW; (try dsimp only at hSW); obtain ⟨z0, z1, z2, z3, z4, z5, z6, z7, z8⟩ := hSW; go_simp; first | done | with_reducible rfl)
 (try simp only [pu, pn, si, s0, sn])
 refine tak (i := 16) (v := ?_) (gt rfl) ?_ ?_
 rotate_left
 focus (intro W hSW; (try dsimp only at hSW); obtain ⟨z0, z1, z2, z3, z4, z5, z6, z7, z8⟩ := hSW; go_simp; first | done | with_reducible rfl)
 (try simp only [pu, pn, si, s0, sn])
 refine tak (i := 17) (v := ?_) (gt rfl) ?_ ?_
 rotate_left
 focus (intro W hSW; (try dsimp only at hSW); obtain ⟨z0, z1, z2, z3, z4, z5, z6, z7, z8⟩ := hSW; go_simp; first | done | with_reducible rfl)
 (try simp only [pu, pn, si, s0, sn])
 refine tak (i := 18) (v := ?_) (gt rfl) ?_ ?_
 rotate_left
 focus (intro W hSW; (try dsimp only at hSW); obtain ⟨z0, z1, z2, z3, z4, z5, z6, z7, z8⟩ := hSW; go_simp; first | done | with_reducible rfl)
 (try simp only [pu, pn, si, s0, sn])
 refine tak (i := 19) (v := ?_) (gt rfl) ?_ ?_
 rotate_left
 focus (intro W hSW; (try dsimp only at hSW); obtain ⟨z0, z1, z2, z3, z4, z5, z6, z7, z8⟩ := hSW; go_simp; first | done | with_reducible rfl)
 (try simp only [pu, pn, si, s0, sn])
 refine tak (i := 20) (v := ?_) (gt rfl) ?_ ?_
 rotate_left
 focus (intro W hSW; (try dsimp only at hSW); obtain ⟨z0, z1, z2, z3, z4, z5, z6, z7, z8⟩ := hSW; go_simp; first | done | with_reducible rfl)
 (try simp only [pu, pn, si, s0, sn])
 refine tak (i := 21) (v := ?_) (gt rfl) ?_ ?_
 rotate_left
 focus (intro W hSW; (try dsimp only at hSW); obtain ⟨z0, z1, z2, z3, z4, z5, z6, z7, z8⟩ := hSW; go_simp; first | done | with_reducible rfl)
 (try simp only [pu, pn, si, s0, sn])
 refine tak (i := 22) (v := ?_) (gt rfl) ?_ ?_
 rotate_left
 focus (intro W hSW; (try dsimp only at hSW); obtain ⟨z0, z1, z2, z3, z4, z5, z6, z7, z8⟩ := hSW; go_simp; first | done | with_reducible rfl)
 (try simp only [pu, pn, si, s0, sn])
 refine tak (i := 23) (v := ?_) (gt rfl) ?_ ?_
 rotate_left
 focus (intro W hSW; (try dsimp only at hSW); obtain ⟨z0, z1, z2, z3, z4, z5, z6, z7, z8⟩ := hSW; go_simp; first | done | with_reducible rfl)
 (try simp only [pu, pn, si, s0, sn])
 refine tak (i := 24) (v := ?_) (gt rfl) ?_ ?_
 rotate_left
 focus (intro W hSW; (try dsimp only at hSW); obtain ⟨z0, z1, z2, z3, z4, z5, z6, z7, z8⟩ := hSW; go_simp; first | done | with_reducible rfl)
 (try simp only [pu, pn, si, s0, sn])
 refine tak (i := 25) (v := ?_) (gt rfl) ?_ ?_
 rotate_left
 focus (intro W hSW; (try dsimp only at hSW); obtain ⟨z0, z1, z2, z3, z4, z5, z6, z7, z8⟩ := hSW; go_simp; first | done | with_reducible rfl)
 (try simp only [pu, pn, si, s0, sn])
 refine tak (i := 26) (v := ?_) (gt rfl) ?_ ?_
 rotate_left
 focus (intro W hSW; (try dsimp only at hSW); obtain ⟨z0, z1, z2, z3, z4, z5, z6, z7, z8⟩ := hSW; go_simp; first | done | with_reducible rfl)
 (try simp only [pu, pn, si, s0, sn])
 refine tak (i := 27) (v := ?_) (gt rfl) ?_ ?_
 rotate_left
 focus (intro W hSW; (try dsimp only at hSW); obtain ⟨z0, z1, z2, z3, z4, z5, z6, z7, z8⟩ := hSW; go_simp; first | done | with_reducible rfl)
 (try simp only [pu, pn, si, s0, sn])
 refine tak (i := 28) (v := ?_) (gt rfl) ?_ ?_
 rotate_left
 focus (intro W hSW; (try dsimp only at hSW); obtain ⟨z0, z1, z2, z3, z4, z5, z6, z7, z8⟩ := hSW; go_simp; first | done | with_reducible rfl)
 (try simp only [pu, pn, si, s0, sn])
 refine tak (i := 29) (v := ?_) (gt rfl) ?_ ?_
 rotate_left
 focus (intro W hSW; (try dsimp only at hSW); obtain ⟨z0, z1, z2, z3, z4, z5, z6, z7, z8⟩ := hSW; go_simp; first | done | with_reducible rfl)
 (try simp only [pu, pn, si, s0, sn])
 refine tak (i := 30) (v := ?_) (gt rfl) ?_ ?_
 rotate_left
 focus (intro W hSW; (try dsimp only at hSW); obtain ⟨z0, z1, z2, z3, z4, z5, z6, z7, z8⟩ := hSW; go_simp; first | done | with_reducible rfl)
 (try simp only [pu, pn, si, s0, sn])
 refine tak (i := 31) (v := ?_) (gt rfl) ?_ ?_
 rotate_left
 focus (intro W hSW; (try dsimp only at hSW); obtain ⟨z0, z1, z2, z3, z4, z5, z6, z7, z8⟩ := hSW; go_simp; first | done | with_reducible rfl)
 (try simp only [pu, pn, si, s0, sn])
 refine tak (i := 32) (v := ?_) (gt rfl) ?_ ?_
 rotate_left
 focus (intro W hSW; (try dsimp only at hSW); obtain ⟨z0, z1, z2, z3, z4, z5, z6, z7, z8⟩ := hSW; go_simp; first | done | with_reducible rfl)
 (try simp only [pu, pn, si, s0, sn])
 refine tak (i := 33) (v := ?_) (gt rfl) ?_ ?_
 rotate_left
 focus (intro W hSW; (try dsimp only at hSW); obtain ⟨z0, z1, z2, z3, z4, z5, z6, z7, z8⟩ := hSW; go_simp; first | done | with_reducible rfl)
 (try simp only [pu, pn, si, s0, sn])
 refine wpAnyH_ready (rs := [1, 34]) (by kernel_rfl) (by simp) ?_
 refine AllReadyH.cons (i := 1) (gt rfl) (fun K hK => ?_) ?_
 ·go_simp
  refine hK.out _ _ ?_ (fun hHeld => ?_)
  ·(try dsimp only); exact hArg.out _ (by first | exact hP6.out.arg | exact hK5 | exact hPB.out.arg | exact hPA.out.arg | exact hPD.out.arg)
  clear hK K
  (try simp only [pu, pn, si, s0, sn])
  refine wpAnyH_ready (rs := [34]) (by kernel_rfl) (by simp) ?_
  refine AllReadyH.cons (i := 34) (gt rfl) (fun K hK => ?_) ?_
  ·go_simp
   refine hK.out _ _ ?_ (fun hHeld => ?_)
   ·(try dsimp only); exact hArg.out _ (by first | exact hP6.out.arg | exact hK5 | exact hPB.out.arg | exact hPA.out.arg | exact hPD.out.arg)
   clear hK K
   (try simp only [pu, pn, si, s0, sn])
   refine wpAnyH_ready (rs := [35]) (by kernel_rfl) (by simp) ?_
   refine AllReadyH.cons (i := 35) (gt rfl) (fun K hK => ?_) ?_
   ·refine step_append_w _ (by rfl) (.tmp 141) (.tmp 174) 28 rfl 0 81 i0 _ 10 88 Tryz.underlying28 hi0 hz0 hz1 hz2 rfl (by decide) (.slice vo nb cp0) nb (d.runs.flatMap encU) (by first | rfl | (simp [Act.eval]; done)) (hOw.out _ hPA.out) ⟨WW.heap.size, 0, none⟩ 1 1 [.string NM, .int .i64 a0, .int .i64 a1, .int .i64 a2, .int .i64 a3, .int .i64 a4, .int .i64 a5, .int .i64 a6, .int .i64 a7, .int .i64 a8] (by first | rfl | (simp [Act.eval]; done)) rfl hNA.out (by intro u hu; simp at hu; rcases hu with rfl | rfl | rfl | rfl | rfl | rfl | rfl | rfl | rfl | rfl <;> rfl) (by unfold maxLen; omega) (by omega) (Nat.zero_le _) ?_
    intro g5 c5 w5 ho5 hg5 hl5
    obtain ⟨y5, f5, hK5, hP6⟩ := hPu.out _ w5 g5 c5 hPA.out ho5 hg5 hl5
    clear ho5 hg5 hl5
    refine hK.out _ _ ?_ (fun hHeld => ?_)
    ·(try dsimp only); exact hArg.out _ (by first | exact hP6.out.arg | exact hK5 | exact hPB.out.arg | exact hPA.out.arg | exact hPD.out.arg)
    clear hK K
    (try simp only [pu, pn, si, s0, sn])
    refine tak (i := 36) (v := ?_) (gt rfl) ?_ ?_
    rotate_left
    focus (intro W hSW; (try dsimp only at hSW); obtain ⟨z0, z1, z2, z3, z4, z5, z6, z7, z8⟩ := hSW; go_simp; first | done | with_reducible rfl)
    (try simp only [pu, pn, si, s0, sn])
    refine wpAnyH_ready (rs := [37]) (by kernel_rfl) (by simp) ?_
    refine AllReadyH.cons (i := 37) (gt rfl) (fun K hK => ?_) ?_
    ·go_simp
     refine hK.out _ _ ?_ (fun hHeld => ?_)
     ·(try dsimp only); exact hArg.out _ (by first | exact hP6.out.arg | exact hK5 | exact hPB.out.arg | exact hPA.out.arg | exact hPD.out.arg)
     clear hK K
     (try simp only [pu, pn, si, s0, sn])
     refine wpAnyH_done (by kernel_rfl) ?_ _
     refine NoPanic.normal ?_
     have kx6 := hP6.out.kx
     have kz6 := hP6.out.kz
     have h1c := detC_one hP6.out.vals
     obtain ⟨kr, hE⟩ := hP6.out.fin
     replace hE := Lib.hid hE
     generalize World.setCell _ _ _ = W6 at *
     have hs6 := Lib.hid (detC_size { d with runs := d.runs ++ [(nm, [a0, a1, a2, a3, a4, a5, a6, a7, a8])] } { p with vn := .slice g5 (nb + 1) c5 })
     generalize detC { d with runs := d.runs ++ [(nm, [a0, a1, a2, a3, a4, a5, a6, a7, a8])] } { p with vn := .slice g5 (nb + 1) c5 } = cs at *
     clear hHeld hP6 hArg
     go_wp2_with (first | (refine wpList_load_row rfl 34 (.tmp 4) rfl w.heap.size (by simp [Act.eval]) 34 cs (0, 0) _ kx6 Tryz.underlying34 rfl (by rw [hs6.out]; kernel_rfl) ?_) | (refine wpList_store_row rfl 34 (.tmp 8) (.tmp 202) rfl (w.heap.size + 1) cs (by simp [Act.eval, Act.put]) (by simp [Act.eval, Act.put]) 34 zeroD kz6 (by rw [hs6.out]; kernel_rfl) (by rw [hs6.out]; rfl) h1c ?_) | fail)
     exact bodyPost_ret (put_results _ _ (w.heap.size + 1) cs rfl kr hs6.out) rfl hE.out
    exact AllReadyH.nil
   exact AllReadyH.nil
  exact AllReadyH.nil
 refine AllReadyH.cons (i := 34) (gt rfl) (fun K hK => ?_) ?_
 ·go_simp
  refine hK.out _ _ ?_ (fun hHeld => ?_)
  ·(try dsimp only); exact hArg.out _ (by first | exact hP6.out.arg | exact hK5 | exact hPB.out.arg | exact hPA.out.arg | exact hPD.out.arg)
  clear hK K
  (try simp only [pu, pn, si, s0, sn])
  refine wpAnyH_ready (rs := [1]) (by kernel_rfl) (by simp) ?_
  refine AllReadyH.cons (i := 1) (gt rfl) (fun K hK => ?_) ?_
  ·go_simp
   refine hK.out _ _ ?_ (fun hHeld => ?_)
   ·(try dsimp only); exact hArg.out _ (by first | exact hP6.out.arg | exact hK5 | exact hPB.out.arg | exact hPA.out.arg | exact hPD.out.arg)
   clear hK K
   (try simp only [pu, pn, si, s0, sn])
   refine wpAnyH_ready (rs := [35]) (by kernel_rfl) (by simp) ?_
   refine AllReadyH.cons (i := 35) (gt rfl) (fun K hK => ?_) ?_
   ·refine step_append_w _ (by rfl) (.tmp 141) (.tmp 174) 28 rfl 0 81 i0 _ 10 88 Tryz.underlying28 hi0 hz0 hz1 hz2 rfl (by decide) (.slice vo nb cp0) nb (d.runs.flatMap encU) (by first | rfl | (simp [Act.eval]; done)) (hOw.out _ hPA.out) ⟨WW.heap.size, 0, none⟩ 1 1 [.string NM, .int .i64 a0, .int .i64 a1, .int .i64 a2, .int .i64 a3, .int .i64 a4, .int .i64 a5, .int .i64 a6, .int .i64 a7, .int .i64 a8] (by first | rfl | (simp [Act.eval]; done)) rfl hNA.out (by intro u hu; simp at hu; rcases hu with rfl | rfl | rfl | rfl | rfl | rfl | rfl | rfl | rfl | rfl <;> rfl) (by unfold maxLen; omega) (by omega) (Nat.zero_le _) ?_
    intro g5 c5 w5 ho5 hg5 hl5
    obtain ⟨y5, f5, hK5, hP6⟩ := hPu.out _ w5 g5 c5 hPA.out ho5 hg5 hl5
    clear ho5 hg5 hl5
    refine hK.out _ _ ?_ (fun hHeld => ?_)
    ·(try dsimp only); exact hArg.out _ (by first | exact hP6.out.arg | exact hK5 | exact hPB.out.arg | exact hPA.out.arg | exact hPD.out.arg)
    clear hK K
    (try simp only [pu, pn, si, s0, sn])
    refine tak (i := 36) (v := ?_) (gt rfl) ?_ ?_
    rotate_left
    focus (intro W hSW; (try dsimp only at hSW); obtain ⟨z0, z1, z2, z3, z4, z5, z6, z7, z8⟩ := hSW; go_simp; first | done | with_reducible rfl)
    (try simp only [pu, pn, si, s0, sn])
    refine wpAnyH_ready (rs := [37]) (by kernel_rfl) (by simp) ?_
    refine AllReadyH.cons (i := 37) (gt rfl) (fun K hK => ?_) ?_
    ·go_simp
     refine hK.out _ _ ?_ (fun hHeld => ?_)
     ·(try dsimp only); exact hArg.out _ (by first | exact hP6.out.arg | exact hK5 | exact hPB.out.arg | exact hPA.out.arg | exact hPD.out.arg)
     clear hK K
     (try simp only [pu, pn, si, s0, sn])
     refine wpAnyH_done (by kernel_rfl) ?_ _
     refine NoPanic.normal ?_
     have kx6 := hP6.out.kx
     have kz6 := hP6.out.kz
     have h1c := detC_one hP6.out.vals
     obtain ⟨kr, hE⟩ := hP6.out.fin
     replace hE := Lib.hid hE
     generalize World.setCell _ _ _ = W6 at *
     have hs6 := Lib.hid (detC_size { d with runs := d.runs ++ [(nm, [a0, a1, a2, a3, a4, a5, a6, a7, a8])] } { p with vn := .slice g5 (nb + 1) c5 })
     generalize detC { d with runs := d.runs ++ [(nm, [a0, a1, a2, a3, a4, a5, a6, a7, a8])] } { p with vn := .slice g5 (nb + 1) c5 } = cs at *
     clear hHeld hP6 hArg
     go_wp2_with (first | (refine wpList_load_row rfl 34 (.tmp 4) rfl w.heap.size (by simp [Act.eval]) 34 cs (0, 0) _ kx6 Tryz.underlying34 rfl (by rw [hs6.out]; kernel_rfl) ?_) | (refine wpList_store_row rfl 34 (.tmp 8) (.tmp 202) rfl (w.heap.size + 1) cs (by simp [Act.eval, Act.put]) (by simp [Act.eval, Act.put]) 34 zeroD kz6 (by rw [hs6.out]; kernel_rfl) (by rw [hs6.out]; rfl) h1c ?_) | fail)
     exact bodyPost_ret (put_results _ _ (w.heap.size + 1) cs rfl kr hs6.out) rfl hE.out
    exact AllReadyH.nil
   exact AllReadyH.nil
  exact AllReadyH.nil
 exact AllReadyH.nil
end Go.Proofs.YtccakklnbhcbdaaGreatDoor
