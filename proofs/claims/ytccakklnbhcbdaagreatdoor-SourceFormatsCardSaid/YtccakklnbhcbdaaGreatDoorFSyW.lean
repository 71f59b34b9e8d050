import Derived.Test.YtccakklnbhcbdaaGreatDoorFSyR
import Derived.Test.YtccakklnbhcbdaaGreatDoorFA
set_option linter.unusedVariables false
set_option linter.unusedSimpArgs false
namespace Go.Proofs.YtccakklnbhcbdaaGreatDoor
open Go.ChangeShapes Go.WideShapes Go.ChangeAt Go.RowKit
set_option maxRecDepth 100000 in
set_option maxHeartbeats 4000000 in
theorem put_bar (F : Nat) (d : Det) (p : PV) (w : World) (hF : F ≤ w.heap.size) (hV : RdV w d p) (hy : ∀ b, some b ∈ p.fp → F ≤ b) (hm : manyD d ≤ 1000000) (NM : ByteArray) (a0 a1 a2 : Int) (ds : List Int) (hds : 0 < ds.length ∧ ds.length ≤ 1000000) (v : Value) (hv : IsI (a0 :: a1 :: a2 :: ds) v w) (hk : ∀ g, v.ownBlock = some g → some g ∉ p.fp) (nm : List UInt8) (hNM : NM = ⟨nm.toArray⟩) : Calls Tryz.prog 64 #[.agg (detC d p), .string ⟨#[98, 97, 114]⟩, .string NM, v] w (PutE F w { d with bars := d.bars ++ [(nm, a0 :: a1 :: a2 :: ds)] }) := by
 replace hNM := Lib.hid hNM
 have hzd : (d.bars.zip p.db).length = d.bars.length := by rw [List.length_zip, hV.nb]; simp
 have hfl : Hid (∀ b, some b ∈ p.fp → b < w.heap.size) := Lib.hid fun b hb => hV.lt hb
 obtain ⟨Kb, off, cp, rfl, hcp, hcm, hlt, hc⟩ := hv.cells (by simp)
 obtain ⟨m, hmm⟩ : ∃ m, ds.length = m := ⟨_, rfl⟩
 have hL : (a0 :: a1 :: a2 :: ds).length = 3 + m := by simp [hmm]; omega
 rw [hL] at hcp
 have hm1 : 1 ≤ m := by omega
 have hm2 : m ≤ 1000000 := by omega
 have q0 : w.cell? ⟨Kb, off, none⟩ = some (.int .i64 a0) := hc 0 (by simp)
 have q1 : w.cell? ⟨Kb, off + 1, none⟩ = some (.int .i64 a1) := hc 1 (by simp)
 have q2 : w.cell? ⟨Kb, off + 2, none⟩ = some (.int .i64 a2) := hc 2 (by simp)
 have hAd : Hid (∀ W : World, W.heap[Kb]? = w.heap[Kb]? → ∀ (j : Nat) (u : Value), (ds.map (Value.int .i64 ·))[j]? = some u → W.cell? ((⟨Kb, off + 3, none⟩ : Addr).add j) = some u) := Lib.hid fun W h j u hu => by
  have hj : j < ds.length := by have := (List.getElem?_eq_some_iff.1 hu).1; simpa using this
  rw [Addr.add_mid, World.cell?_of_block (w := w) h]
  have hcj := hc (3 + j) (by simp; omega)
  have e1 : (⟨Kb, off + 3 + j, none⟩ : Addr) = ⟨Kb, off + (3 + j), none⟩ := by rw [Nat.add_assoc]
  rw [e1, hcj, ← hu, List.getElem?_map, List.getElem?_eq_getElem hj]
  simp [Nat.add_comm 3 j]
 have hdn : Hid ((ds.map (Value.int .i64 ·)).length = m * 1) := Lib.hid (by rw [List.length_map, hmm, Nat.mul_one])
 have hd1 : ∀ u ∈ ds.map (Value.int .i64 ·), u.oneCell' = true := fun u hu => by
  obtain ⟨c, _, rfl⟩ := List.mem_map.1 hu
  rfl
 have hArg : Hid (∀ W : World, W.heap[Kb]? = w.heap[Kb]? → W.cell? ⟨Kb, off, none⟩ = some (.int .i64 a0) ∧ W.cell? ⟨Kb, off + 1, none⟩ = some (.int .i64 a1) ∧ W.cell? ⟨Kb, off + 2, none⟩ = some (.int .i64 a2)) := Lib.hid fun W h => ⟨(World.cell?_of_block h).trans q0, (World.cell?_of_block h).trans q1, (World.cell?_of_block h).trans q2⟩
 have hP0 := Lib.hid (PutW.start hF hlt hV hy (hk Kb rfl))
 rw [hL]
 obtain ⟨n, hn⟩ : ∃ n, 3 + m = n := ⟨_, rfl⟩
 rw [hn] at hcp ⊢
 have hnm : n - 3 = m := by omega
 have g0 : (0 : Int) < (n : Int) := by omega
 have g1 : (1 : Int) < (n : Int) := by omega
 have g2 : (2 : Int) < (n : Int) := by omega
 have g3n : (3 : Int) ≤ (n : Int) := by omega
 have g4n : (n : Int) ≤ (cp : Int) := by omega
 have g5n : 3 ≤ n := by omega
 have hc3 : (cp = 3) = False := eq_false (by omega)
 have g6n : 0 < n := by omega
 have g7n : 1 < n := by omega
 have g8n : 2 < n := by omega
 replace hn := Lib.hid hn
 clear hc hv hk hy hV hF q0 q1 q2 hds hL hlt
 replace hmm := Lib.hid hmm
 go_enter Tryz.func64, Tryz.ntmps64
 go_upto_region 14 with fail
 generalize hWW : World.alloc (World.alloc w _) _ = WW
 have hP : Hid (PutW F w Kb d p WW) := Lib.hid (by rw [← hWW]; exact hP0.out)
 have hPD := Lib.hid (hP.out.up (below_drew (Below.refl _ _)))
 clear hWW hP0
 obtain ⟨iz, hiz0, hiz1, hiz2, hiz3⟩ := info_parts infoInt
 obtain ⟨vo, cp0, hvb, hcp0, -⟩ := hP.out.vals.bars.view encR_len
 obtain ⟨nb, hnb⟩ : ∃ nb, nb = (d.bars.zip p.db).length := ⟨_, rfl⟩
 have hvb : p.vr = .slice vo nb cp0 := by rw [hnb]; exact hvb
 have hnz : nb = d.bars.length := hnb.trans hzd
 have hnb6 : nb ≤ 1000000 := by rw [hnz]; unfold manyD at hm; omega
 obtain ⟨i0, hi0, hz0, hz1, hz2⟩ := info_parts infoBar
 have hY : Hid (∀ W : World, PutW F w Kb d p W → W.cell? ⟨w.heap.size, 6, none⟩ = some (.slice vo nb cp0)) := Lib.hid fun W h => by
  rw [h.kx.c 6, ← hvb]
  simp [detC, encK, List.range, List.range.loop]
 have hOw : Hid (∀ W : World, PutW F w Kb d p W → W.ownsRow 0 56 5 (.slice vo nb cp0) nb ((d.bars.zip p.db).flatMap encR)) := Lib.hid fun W h => by
  have q := h.vals.bars
  unfold Row at q
  rw [← hvb, hnb]
  exact q
 have hPu : Hid (∀ (WB : World) (g3 : Option Addr) (c3 : Nat) (w5 : World) (g5 : Option Addr) (c5 : Nat), PutW F w Kb d p WB → WB.ownsRow (w.heap.size + 2) 3 1 (.slice g3 m c3) m (ds.map (Value.int .i64 ·)) → w5.ownsRow 0 56 5 (.slice g5 (nb + 1) c5) (nb + 1) ((d.bars.zip p.db).flatMap encR ++ [.string NM, .int .i64 a0, .int .i64 a1, .int .i64 a2, .slice g3 m c3]) → WB.grownBy w5 (Value.slice vo nb cp0).ownBlock → ((Value.slice g5 (nb + 1) c5).ownBlock = (Value.slice vo nb cp0).ownBlock ∨ (Value.slice g5 (nb + 1) c5).ownBlock = some WB.heap.size) →
   w5.cell? ⟨w.heap.size, 6, none⟩ = some (.slice vo nb cp0) ∧ w5.frozen? ⟨w.heap.size, 6, none⟩ = false ∧ w5.heap[Kb]? = w.heap[Kb]? ∧ Hid (PutW F w Kb { d with bars := d.bars ++ [(nm, a0 :: a1 :: a2 :: ds)] } { p with vr := .slice g5 (nb + 1) c5, db := p.db ++ [.slice g3 m c3] } (w5.setCell ⟨w.heap.size, 6, none⟩ (.slice g5 (nb + 1) c5)))) := Lib.hid fun WB g3 c3 w5 g5 c5 hW hr3 ho5 hg5 hloc => by
  have hdb : ∀ b, (Value.slice g3 m c3).ownBlock = some b → w.heap.size + 2 ≤ b ∧ b < WB.heap.size := fun b e => hr3.lt b e
  have hne : encR ((nm, a0 :: a1 :: a2 :: ds), .slice g3 m c3) = [.string NM, .int .i64 a0, .int .i64 a1, .int .i64 a2, .slice g3 m c3] := by unfold encR; rw [hNM.out]; rfl
  have hvf : ∀ b, (Value.slice vo nb cp0).ownBlock = some b → b < w.heap.size := fun b e => hfl.out b (by rw [← hvb] at e; simp [PV.fp, e])
  have hRow : Row w5 3 1 encZ (.slice g3 m c3) ds := (own_row hr3 (by rw [hmm.out])).keep fun b e => hg5.block b (hdb b e).2 fun q => by have := hvf b q.symm; have := (hdb b e).1; omega
  obtain ⟨ha5, hk5, h6⟩ := hW.pushR (v' := .slice g5 (nb + 1) c5) (dv := .slice g3 m c3) (n := (nm, a0 :: a1 :: a2 :: ds)) (by rw [hvb]; exact hg5) (by rw [hne]; rw [hnz] at ho5 ⊢; exact ho5) (m := WB.heap.size) (Nat.le_refl _) (by rw [hvb]; exact hloc) hRow
   (fun b e => ⟨⟨fun q => by have := hfl.out b q; have := (hdb b e).1; omega, by have := (hdb b e).2; omega⟩, by have := hW.fl; have := (hdb b e).1; omega, by have := (hdb b e).1; omega, by have := (hdb b e).1; omega, by have := hW.kl; have := (hdb b e).1; omega⟩)
  refine ⟨?_, ha5.f 6, hk5, Lib.hid h6⟩
  rw [ha5.c 6, ← hvb]
  simp [detC, encK, List.range, List.range.loop]
 have hFar : Hid ((F ≤ WW.heap.size ∧ WW.heap.size ≠ w.heap.size ∧ WW.heap.size ≠ w.heap.size + 1 ∧ WW.heap.size ≠ Kb) ∧ some WW.heap.size ∉ p.fp) := Lib.hid ⟨hP.out.new (Nat.le_refl _), fun q => by have := hfl.out _ q; have := hP.out.kx.lt; omega⟩
 have hbs : Hid (w.heap.size + 2 ≤ (World.drew (World.alloc WW (.cells #[] 3))).heap.size) := Lib.hid (by have := hP.out.kz.lt; simp; omega)
 have hO1 : Hid ((World.drew (World.alloc WW (.cells #[] 3))).ownsRow (w.heap.size + 2) 3 1 (.slice (some ⟨WW.heap.size, 0, none⟩) 0 0) 0 []) := Lib.hid (own_none (At.drw (At.new' rfl)) (by have := hP.out.kz.lt; omega))
 have hPA1 := Lib.hid (hP.out.up (below_drew (below_al (Below.refl _ _) (.cells #[] 3))))
 replace hnb := Lib.hid hnb
 replace hvb := Lib.hid hvb
 clear hm hcp0 hzd hnz
 have yD := hY.out _ hPD.out
 have yA1 := hY.out _ hPA1.out
 refine wp_region_noPanic ?_
 refine wp_region_held_drew (S := fun W => W.cell? ⟨Kb, off, none⟩ = some (.int .i64 a0) ∧ W.cell? ⟨Kb, off + 1, none⟩ = some (.int .i64 a1) ∧ W.cell? ⟨Kb, off + 2, none⟩ = some (.int .i64 a2)) (by kernel_rfl) ?_ (fun hHeld => ?_)
 ·(try dsimp only); exact hArg.out _ (by first | exact hP6.out.arg | exact hK5 | exact hPA.out.arg | exact hP3.out.arg | exact hPA1.out.arg | exact hPD.out.arg)
 refine tak (i := 0) (v := ?_) (gt rfl) ?_ ?_
 rotate_left
 focus (intro W hSW; (try dsimp only at hSW); obtain ⟨z0, z1, z2⟩ := hSW; go_simp; first | done | with_reducible rfl)
 (try simp only [pu, pn, si, s0, sn])
 refine tak (i := 2) (v := ?_) (gt rfl) ?_ ?_
 rotate_left
 focus (intro W hSW; (try dsimp only at hSW); obtain ⟨z0, z1, z2⟩ := hSW; go_simp; first | done | with_reducible rfl)
 (try simp only [pu, pn, si, s0, sn])
 refine tak (i := 3) (v := ?_) (gt rfl) ?_ ?_
 rotate_left
 focus (intro W hSW; (try dsimp only at hSW); obtain ⟨z0, z1, z2⟩ := hSW; go_simp; first | done | with_reducible rfl)
 (try simp only [pu, pn, si, s0, sn])
 refine tak (i := 4) (v := ?_) (gt rfl) ?_ ?_
 rotate_left
 focus (intro W hSW; (try dsimp only at hSW); obtain ⟨z0, z1, z2⟩ := hSW; go_simp; first | done | with_reducible rfl)
 (try simp only [pu, pn, si, s0, sn])
 refine tak (i := 5) (v := ?_) (gt rfl) ?_ ?_
 rotate_left
 focus (intro W hSW; (try dsimp only at hSW); obtain ⟨z0, z1, z2⟩ := hSW; go_simp; first | done | with_reducible rfl)
 (try simp only [pu, pn, si, s0, sn])
 refine tak (i := 6) (v := ?_) (gt rfl) ?_ ?_
 rotate_left
 focus (intro W hSW; (try dsimp only at hSW); obtain ⟨z0, z1, z2⟩ := hSW; go_simp; first | done | with_reducible rfl)
 (try simp only [pu, pn, si, s0, sn])
 refine tak (i := 7) (v := ?_) (gt rfl) ?_ ?_
 rotate_left
 focus (intro W hSW; (try dsimp only at hSW); obtain ⟨z0, z1, z2⟩ := hSW; go_simp; first | done | with_reducible rfl)
 (try simp only [pu, pn, si, s0, sn])
 refine tak (i := 8) (v := ?_) (gt rfl) ?_ ?_
 rotate_left
 focus (intro W hSW; (try dsimp only at hSW); obtain ⟨z0, z1, z2⟩ := hSW; go_simp; first | done | with_reducible rfl)
 (try simp only [pu, pn, si, s0, sn])
 refine tak (i := 9) (v := ?_) (gt rfl) ?_ ?_
 rotate_left
 focus (intro W hSW; (try dsimp only at hSW); obtain ⟨z0, z1, z2⟩ := hSW; go_simp; first | done | with_reducible rfl)
 (try simp only [pu, pn, si, s0, sn])
 refine tak (i := 10) (v := ?_) (gt rfl) ?_ ?_
 rotate_left
 focus (intro W hSW; (try dsimp only at hSW); obtain ⟨z0, z1, z2⟩ := hSW; go_simp; first | done | with_reducible rfl)
 (try simp only [pu, pn, si, s0, sn])
 refine tak (i := 11) (v := ?_) (gt rfl) ?_ ?_
 rotate_left
 focus (intro W hSW; (try dsimp only at hSW); obtain ⟨z0, z1, z2⟩ := hSW; go_simp; first | done | with_reducible rfl)
 (try simp only [pu, pn, si, s0, sn])
 refine tak (i := 13) (v := ?_) (gt rfl) ?_ ?_
 rotate_left
 focus (intro W hSW; (try dsimp only at hSW); obtain ⟨z0, z1, z2⟩ := hSW; go_simp; first | done | with_reducible rfl)
 (try simp only [pu, pn, si, s0, sn])
 refine tak (i := 14) (v := ?_) (gt rfl) ?_ ?_
 rotate_left
 focus (intro W hSW; (try dsimp only at hSW); obtain ⟨z0, z1, z2⟩ := hSW; go_simp; first | done | with_reducible rfl)
 (try simp only [pu, pn, si, s0, sn])
 refine wpAnyH_ready (rs := [1, 12]) (by kernel_rfl) (by simp) ?_
 refine AllReadyH.cons (i := 1) (gt rfl) (fun K hK => ?_) ?_
 ·go_simp
  refine hK.out _ _ ?_ (fun hHeld => ?_)
  ·(try dsimp only); exact hArg.out _ (by first | exact hP6.out.arg | exact hK5 | exact hPA.out.arg | exact hP3.out.arg | exact hPA1.out.arg | exact hPD.out.arg)
  clear hK K
  (try simp only [pu, pn, si, s0, sn])
  refine wpAnyH_ready (rs := [12]) (by kernel_rfl) (by simp) ?_
  refine AllReadyH.cons (i := 12) (gt rfl) (fun K hK => ?_) ?_
  ·go_simp
   refine hK.out _ _ ?_ (fun hHeld => ?_)
   ·(try dsimp only); exact hArg.out _ (by first | exact hP6.out.arg | exact hK5 | exact hPA.out.arg | exact hP3.out.arg | exact hPA1.out.arg | exact hPD.out.arg)
   clear hK K
   (try simp only [pu, pn, si, s0, sn])
   refine wpAnyH_ready (rs := [15]) (by kernel_rfl) (by simp) ?_
   refine AllReadyH.cons (i := 15) (gt rfl) (fun K hK => ?_) ?_
   ·refine step_append_w _ (by rfl) (.tmp 130) (.tmp 132) 54 rfl (w.heap.size + 2) 3 iz _ 1 8 Tryz.underlying54 hiz0 hiz1 hiz2 hiz3 rfl (by decide) (.slice (some ⟨WW.heap.size, 0, none⟩) 0 0) 0 [] (by first | rfl | (simp [Act.eval]; done)) hO1.out ⟨Kb, off + 3, none⟩ m (cp - 3) (ds.map (Value.int .i64 ·)) (by first | rfl | (simp [Act.eval]; done)) hdn.out (hAd.out _ hPA1.out.arg) hd1 (by unfold maxLen; omega) (by omega) hbs.out ?_
    intro g3 c3 w3 ho3 hg3 _
    rw [List.nil_append, Nat.zero_add] at ho3
    have hP3 := Lib.hid (hPA1.out.grown hg3 (fun b e => by injection e with e; subst e; exact hFar.out))
    have hPA := Lib.hid (hP3.out.up (below_al (Below.refl _ _) (.cells #[.string NM, .int .i64 a0, .int .i64 a1, .int .i64 a2, .slice g3 m c3] 56)))
    have hO3 := Lib.hid (own_bel ho3 (below_al (Below.refl _ _) (.cells #[.string NM, .int .i64 a0, .int .i64 a1, .int .i64 a2, .slice g3 m c3] 56)))
    have hNA : Hid (∀ j u, ([.string NM, .int .i64 a0, .int .i64 a1, .int .i64 a2, .slice g3 m c3] : List Value)[j]? = some u → (World.alloc w3 (.cells #[.string NM, .int .i64 a0, .int .i64 a1, .int .i64 a2, .slice g3 m c3] 56)).cell? ((⟨w3.heap.size, 0, none⟩ : Addr).add j) = some u) := Lib.hid (new_at (At.new' rfl))
    have y3 := hY.out _ hP3.out
    have yA := hY.out _ hPA.out
    clear ho3 hg3
    refine hK.out _ _ ?_ (fun hHeld => ?_)
    ·(try dsimp only); exact hArg.out _ (by first | exact hP6.out.arg | exact hK5 | exact hPA.out.arg | exact hP3.out.arg | exact hPA1.out.arg | exact hPD.out.arg)
    clear hK K
    (try simp only [pu, pn, si, s0, sn])
    refine tak (i := 16) (v := ?_) (gt rfl) ?_ ?_
    rotate_left
    focus (intro W hSW; (try dsimp only at hSW); obtain ⟨z0, z1, z2⟩ := hSW; go_simp; first | done | with_reducible rfl)
    (try simp only [pu, pn, si, s0, sn])
    refine wpAnyH_ready (rs := [17]) (by kernel_rfl) (by simp) ?_
    refine AllReadyH.cons (i := 17) (gt rfl) (fun K hK => ?_) ?_
    ·go_simp
     refine hK.out _ _ ?_ (fun hHeld => ?_)
     ·(try dsimp only); exact hArg.out _ (by first | exact hP6.out.arg | exact hK5 | exact hPA.out.arg | exact hP3.out.arg | exact hPA1.out.arg | exact hPD.out.arg)
     clear hK K
     (try simp only [pu, pn, si, s0, sn])
     refine wpAnyH_ready (rs := [18]) (by kernel_rfl) (by simp) ?_
     refine AllReadyH.cons (i := 18) (gt rfl) (fun K hK => ?_) ?_
     ·refine step_append_w _ (by rfl) (.tmp 119) (.tmp 135) 27 rfl 0 56 i0 _ 5 64 Tryz.underlying27 hi0 hz0 hz1 hz2 rfl (by decide) (.slice vo nb cp0) nb ((d.bars.zip p.db).flatMap encR) (by first | rfl | (simp [Act.eval]; done)) (hOw.out _ hPA.out) ⟨w3.heap.size, 0, none⟩ 1 1 [.string NM, .int .i64 a0, .int .i64 a1, .int .i64 a2, .slice g3 m c3] (by first | rfl | (simp [Act.eval]; done)) rfl hNA.out (by intro u hu; simp at hu; rcases hu with rfl | rfl | rfl | rfl | rfl <;> rfl) (by unfold maxLen; omega) (by omega) (Nat.zero_le _) ?_
      intro g5 c5 w5 ho5 hg5 hl5
      obtain ⟨y5, f5, hK5, hP6⟩ := hPu.out _ g3 c3 w5 g5 c5 hPA.out hO3.out ho5 hg5 hl5
      clear ho5 hg5 hl5
      refine hK.out _ _ ?_ (fun hHeld => ?_)
      ·(try dsimp only); exact hArg.out _ (by first | exact hP6.out.arg | exact hK5 | exact hPA.out.arg | exact hP3.out.arg | exact hPA1.out.arg | exact hPD.out.arg)
      clear hK K
      (try simp only [pu, pn, si, s0, sn])
      refine tak (i := 19) (v := ?_) (gt rfl) ?_ ?_
      rotate_left
      focus (intro W hSW; (try dsimp only at hSW); obtain ⟨z0, z1, z2⟩ := hSW; go_simp; first | done | with_reducible rfl)
      (try simp only [pu, pn, si, s0, sn])
      refine wpAnyH_ready (rs := [20]) (by kernel_rfl) (by simp) ?_
      refine AllReadyH.cons (i := 20) (gt rfl) (fun K hK => ?_) ?_
      ·go_simp
       refine hK.out _ _ ?_ (fun hHeld => ?_)
       ·(try dsimp only); exact hArg.out _ (by first | exact hP6.out.arg | exact hK5 | exact hPA.out.arg | exact hP3.out.arg | exact hPA1.out.arg | exact hPD.out.arg)
       clear hK K
       (try simp only [pu, pn, si, s0, sn])
       refine wpAnyH_done (by kernel_rfl) ?_ _
       refine NoPanic.normal ?_
       have kx6 := hP6.out.kx
       have kz6 := hP6.out.kz
       have h1c := detC_one hP6.out.vals
       obtain ⟨kr, hE⟩ := hP6.out.fin
       replace hE := Lib.hid hE
       generalize World.setCell _ _ _ = W6 at *
       have hs6 := Lib.hid (detC_size { d with bars := d.bars ++ [(nm, a0 :: a1 :: a2 :: ds)] } { p with vr := .slice g5 (nb + 1) c5, db := p.db ++ [.slice g3 m c3] })
       generalize detC { d with bars := d.bars ++ [(nm, a0 :: a1 :: a2 :: ds)] } { p with vr := .slice g5 (nb + 1) c5, db := p.db ++ [.slice g3 m c3] } = cs at *
       clear hHeld hP6 hArg
       go_wp2_with (first | (refine wpList_load_row rfl 34 (.tmp 4) rfl w.heap.size (by simp [Act.eval]) 34 cs (0, 0) _ kx6 Tryz.underlying34 rfl (by rw [hs6.out]; kernel_rfl) ?_) | (refine wpList_store_row rfl 34 (.tmp 8) (.tmp 202) rfl (w.heap.size + 1) cs (by simp [Act.eval, Act.put]) (by simp [Act.eval, Act.put]) 34 zeroD kz6 (by rw [hs6.out]; kernel_rfl) (by rw [hs6.out]; rfl) h1c ?_) | fail)
       exact bodyPost_ret (put_results _ _ (w.heap.size + 1) cs rfl kr hs6.out) rfl hE.out
      exact AllReadyH.nil
     exact AllReadyH.nil
    exact AllReadyH.nil
   exact AllReadyH.nil
  exact AllReadyH.nil
 refine AllReadyH.cons (i := 12) (gt rfl) (fun K hK => ?_) ?_
 ·go_simp
  refine hK.out _ _ ?_ (fun hHeld => ?_)
  ·(try dsimp only); exact hArg.out _ (by first | exact hP6.out.arg | exact hK5 | exact hPA.out.arg | exact hP3.out.arg | exact hPA1.out.arg | exact hPD.out.arg)
  clear hK K
  (try simp only [pu, pn, si, s0, sn])
  refine wpAnyH_ready (rs := [1, 15]) (by kernel_rfl) (by simp) ?_
  refine AllReadyH.cons (i := 1) (gt rfl) (fun K hK => ?_) ?_
  ·go_simp
   refine hK.out _ _ ?_ (fun hHeld => ?_)
   ·(try dsimp only); exact hArg.out _ (by first | exact hP6.out.arg | exact hK5 | exact hPA.out.arg | exact hP3.out.arg | exact hPA1.out.arg | exact hPD.out.arg)
   clear hK K
   (try simp only [pu, pn, si, s0, sn])
   refine wpAnyH_ready (rs := [15]) (by kernel_rfl) (by simp) ?_
   refine AllReadyH.cons (i := 15) (gt rfl) (fun K hK => ?_) ?_
   ·refine step_append_w _ (by rfl) (.tmp 130) (.tmp 132) 54 rfl (w.heap.size + 2) 3 iz _ 1 8 Tryz.underlying54 hiz0 hiz1 hiz2 hiz3 rfl (by decide) (.slice (some ⟨WW.heap.size, 0, none⟩) 0 0) 0 [] (by first | rfl | (simp [Act.eval]; done)) hO1.out ⟨Kb, off + 3, none⟩ m (cp - 3) (ds.map (Value.int .i64 ·)) (by first | rfl | (simp [Act.eval]; done)) hdn.out (hAd.out _ hPA1.out.arg) hd1 (by unfold maxLen; omega) (by omega) hbs.out ?_
    intro g3 c3 w3 ho3 hg3 _
    rw [List.nil_append, Nat.zero_add] at ho3
    have hP3 := Lib.hid (hPA1.out.grown hg3 (fun b e => by injection e with e; subst e; exact hFar.out))
    have hPA := Lib.hid (hP3.out.up (below_al (Below.refl _ _) (.cells #[.string NM, .int .i64 a0, .int .i64 a1, .int .i64 a2, .slice g3 m c3] 56)))
    have hO3 := Lib.hid (own_bel ho3 (below_al (Below.refl _ _) (.cells #[.string NM, .int .i64 a0, .int .i64 a1, .int .i64 a2, .slice g3 m c3] 56)))
    have hNA : Hid (∀ j u, ([.string NM, .int .i64 a0, .int .i64 a1, .int .i64 a2, .slice g3 m c3] : List Value)[j]? = some u → (World.alloc w3 (.cells #[.string NM, .int .i64 a0, .int .i64 a1, .int .i64 a2, .slice g3 m c3] 56)).cell? ((⟨w3.heap.size, 0, none⟩ : Addr).add j) = some u) := Lib.hid (new_at (At.new' rfl))
    have y3 := hY.out _ hP3.out
    have yA := hY.out _ hPA.out
    clear ho3 hg3
    refine hK.out _ _ ?_ (fun hHeld => ?_)
    ·(try dsimp only); exact hArg.out _ (by first | exact hP6.out.arg | exact hK5 | exact hPA.out.arg | exact hP3.out.arg | exact hPA1.out.arg | exact hPD.out.arg)
    clear hK K
    (try simp only [pu, pn, si, s0, sn])
    refine tak (i := 16) (v := ?_) (gt rfl) ?_ ?_
    rotate_left
    focus (intro W hSW; (try dsimp only at hSW); obtain ⟨z0, z1, z2⟩ := hSW; go_simp; first | done | with_reducible rfl)
    (try simp only [pu, pn, si, s0, sn])
    refine wpAnyH_ready (rs := [17]) (by kernel_rfl) (by simp) ?_
    refine AllReadyH.cons (i := 17) (gt rfl) (fun K hK => ?_) ?_
    ·go_simp
     refine hK.out _ _ ?_ (fun hHeld => ?_)
     ·(try dsimp only); exact hArg.out _ (by first | exact hP6.out.arg | exact hK5 | exact hPA.out.arg | exact hP3.out.arg | exact hPA1.out.arg | exact hPD.out.arg)
     clear hK K
     (try simp only [pu, pn, si, s0, sn])
     refine wpAnyH_ready (rs := [18]) (by kernel_rfl) (by simp) ?_
     refine AllReadyH.cons (i := 18) (gt rfl) (fun K hK => ?_) ?_
     ·refine step_append_w _ (by rfl) (.tmp 119) (.tmp 135) 27 rfl 0 56 i0 _ 5 64 Tryz.underlying27 hi0 hz0 hz1 hz2 rfl (by decide) (.slice vo nb cp0) nb ((d.bars.zip p.db).flatMap encR) (by first | rfl | (simp [Act.eval]; done)) (hOw.out _ hPA.out) ⟨w3.heap.size, 0, none⟩ 1 1 [.string NM, .int .i64 a0, .int .i64 a1, .int .i64 a2, .slice g3 m c3] (by first | rfl | (simp [Act.eval]; done)) rfl hNA.out (by intro u hu; simp at hu; rcases hu with rfl | rfl | rfl | rfl | rfl <;> rfl) (by unfold maxLen; omega) (by omega) (Nat.zero_le _) ?_
      intro g5 c5 w5 ho5 hg5 hl5
      obtain ⟨y5, f5, hK5, hP6⟩ := hPu.out _ g3 c3 w5 g5 c5 hPA.out hO3.out ho5 hg5 hl5
      clear ho5 hg5 hl5
      refine hK.out _ _ ?_ (fun hHeld => ?_)
      ·(try dsimp only); exact hArg.out _ (by first | exact hP6.out.arg | exact hK5 | exact hPA.out.arg | exact hP3.out.arg | exact hPA1.out.arg | exact hPD.out.arg)
      clear hK K
      (try simp only [pu, pn, si, s0, sn])
      refine tak (i := 19) (v := ?_) (gt rfl) ?_ ?_
      rotate_left
      focus (intro W hSW; (try dsimp only at hSW); obtain ⟨z0, z1, z2⟩ := hSW; go_simp; first | done | with_reducible rfl)
      (try simp only [pu, pn, si, s0, sn])
      refine wpAnyH_ready (rs := [20]) (by kernel_rfl) (by simp) ?_
      refine AllReadyH.cons (i := 20) (gt rfl) (fun K hK => ?_) ?_
      ·go_simp
       refine hK.out _ _ ?_ (fun hHeld => ?_)
       ·(try dsimp only); exact hArg.out _ (by first | exact hP6.out.arg | exact hK5 | exact hPA.out.arg | exact hP3.out.arg | exact hPA1.out.arg | exact hPD.out.arg)
       clear hK K
       (try simp only [pu, pn, si, s0, sn])
       refine wpAnyH_done (by kernel_rfl) ?_ _
       refine NoPanic.normal ?_
       have kx6 := hP6.out.kx
       have kz6 := hP6.out.kz
       have h1c := detC_one hP6.out.vals
       obtain ⟨kr, hE⟩ := hP6.out.fin
       replace hE := Lib.hid hE
       generalize World.setCell _ _ _ = W6 at *
       have hs6 := Lib.hid (detC_size { d with bars := d.bars ++ [(nm, a0 :: a1 :: a2 :: ds)] } { p with vr := .slice g5 (nb + 1) c5, db := p.db ++ [.slice g3 m c3] })
       generalize detC { d with bars := d.bars ++ [(nm, a0 :: a1 :: a2 :: ds)] } { p with vr := .slice g5 (nb + 1) c5, db := p.db ++ [.slice g3 m c3] } = cs at *
       clear hHeld hP6 hArg
       go_wp2_with (first | (refine wpList_load_row rfl 34 (.tmp 4) rfl w.heap.size (by simp [Act.eval]) 34 cs (0, 0) _ kx6 Tryz.underlying34 rfl (by rw [hs6.out]; kernel_rfl) ?_) | (refine wpList_store_row rfl 34 (.tmp 8) (.tmp 202) rfl (w.heap.size + 1) cs (by simp [Act.eval, Act.put]) (by simp [Act.eval, Act.put]) 34 zeroD kz6 (by rw [hs6.out]; kernel_rfl) (by rw [hs6.out]; rfl) h1c ?_) | fail)
       exact bodyPost_ret (put_results _ _ (w.heap.size + 1) cs rfl kr hs6.out) rfl hE.out
      exact AllReadyH.nil
     exact AllReadyH.nil
    exact AllReadyH.nil
   exact AllReadyH.nil
  refine AllReadyH.cons (i := 15) (gt rfl) (fun K hK => ?_) ?_
  ·refine step_append_w _ (by rfl) (.tmp 130) (.tmp 132) 54 rfl (w.heap.size + 2) 3 iz _ 1 8 Tryz.underlying54 hiz0 hiz1 hiz2 hiz3 rfl (by decide) (.slice (some ⟨WW.heap.size, 0, none⟩) 0 0) 0 [] (by first | rfl | (simp [Act.eval]; done)) hO1.out ⟨Kb, off + 3, none⟩ m (cp - 3) (ds.map (Value.int .i64 ·)) (by first | rfl | (simp [Act.eval]; done)) hdn.out (hAd.out _ hPA1.out.arg) hd1 (by unfold maxLen; omega) (by omega) hbs.out ?_
   intro g3 c3 w3 ho3 hg3 _
   rw [List.nil_append, Nat.zero_add] at ho3
   have hP3 := Lib.hid (hPA1.out.grown hg3 (fun b e => by injection e with e; subst e; exact hFar.out))
   have hPA := Lib.hid (hP3.out.up (below_al (Below.refl _ _) (.cells #[.string NM, .int .i64 a0, .int .i64 a1, .int .i64 a2, .slice g3 m c3] 56)))
   have hO3 := Lib.hid (own_bel ho3 (below_al (Below.refl _ _) (.cells #[.string NM, .int .i64 a0, .int .i64 a1, .int .i64 a2, .slice g3 m c3] 56)))
   have hNA : Hid (∀ j u, ([.string NM, .int .i64 a0, .int .i64 a1, .int .i64 a2, .slice g3 m c3] : List Value)[j]? = some u → (World.alloc w3 (.cells #[.string NM, .int .i64 a0, .int .i64 a1, .int .i64 a2, .slice g3 m c3] 56)).cell? ((⟨w3.heap.size, 0, none⟩ : Addr).add j) = some u) := Lib.hid (new_at (At.new' rfl))
   have y3 := hY.out _ hP3.out
   have yA := hY.out _ hPA.out
   clear ho3 hg3
   refine hK.out _ _ ?_ (fun hHeld => ?_)
   ·(try dsimp only); exact hArg.out _ (by first | exact hP6.out.arg | exact hK5 | exact hPA.out.arg | exact hP3.out.arg | exact hPA1.out.arg | exact hPD.out.arg)
   clear hK K
   (try simp only [pu, pn, si, s0, sn])
   refine tak (i := 16) (v := ?_) (gt rfl) ?_ ?_
   rotate_left
   focus (intro W hSW; (try dsimp only at hSW); obtain ⟨z0, z1, z2⟩ := hSW; go_simp; first | done | with_reducible rfl)
   (try simp only [pu, pn, si, s0, sn])
   refine wpAnyH_ready (rs := [1, 17]) (by kernel_rfl) (by simp) ?_
   refine AllReadyH.cons (i := 1) (gt rfl) (fun K hK => ?_) ?_
   ·go_simp
    refine hK.out _ _ ?_ (fun hHeld => ?_)
    ·(try dsimp only); exact hArg.out _ (by first | exact hP6.out.arg | exact hK5 | exact hPA.out.arg | exact hP3.out.arg | exact hPA1.out.arg | exact hPD.out.arg)
    clear hK K
    (try simp only [pu, pn, si, s0, sn])
    refine wpAnyH_ready (rs := [17]) (by kernel_rfl) (by simp) ?_
    refine AllReadyH.cons (i := 17) (gt rfl) (fun K hK => ?_) ?_
    ·go_simp
     refine hK.out _ _ ?_ (fun hHeld => ?_)
     ·(try dsimp only); exact hArg.out _ (by first | exact hP6.out.arg | exact hK5 | exact hPA.out.arg | exact hP3.out.arg | exact hPA1.out.arg | exact hPD.out.arg)
     clear hK K
     (try simp only [pu, pn, si, s0, sn])
     refine wpAnyH_ready (rs := [18]) (by kernel_rfl) (by simp) ?_
     refine AllReadyH.cons (i := 18) (gt rfl) (fun K hK => ?_) ?_
     ·refine step_append_w _ (by rfl) (.tmp 119) (.tmp 135) 27 rfl 0 56 i0 _ 5 64 Tryz.underlying27 hi0 hz0 hz1 hz2 rfl (by decide) (.slice vo nb cp0) nb ((d.bars.zip p.db).flatMap encR) (by first | rfl | (simp [Act.eval]; done)) (hOw.out _ hPA.out) ⟨w3.heap.size, 0, none⟩ 1 1 [.string NM, .int .i64 a0, .int .i64 a1, .int .i64 a2, .slice g3 m c3] (by first | rfl | (simp [Act.eval]; done)) rfl hNA.out (by intro u hu; simp at hu; rcases hu with rfl | rfl | rfl | rfl | rfl <;> rfl) (by unfold maxLen; omega) (by omega) (Nat.zero_le _) ?_
      intro g5 c5 w5 ho5 hg5 hl5
      obtain ⟨y5, f5, hK5, hP6⟩ := hPu.out _ g3 c3 w5 g5 c5 hPA.out hO3.out ho5 hg5 hl5
      clear ho5 hg5 hl5
      refine hK.out _ _ ?_ (fun hHeld => ?_)
      ·(try dsimp only); exact hArg.out _ (by first | exact hP6.out.arg | exact hK5 | exact hPA.out.arg | exact hP3.out.arg | exact hPA1.out.arg | exact hPD.out.arg)
      clear hK K
      (try simp only [pu, pn, si, s0, sn])
      refine tak (i := 19) (v := ?_) (gt rfl) ?_ ?_
      rotate_left
      focus (intro W hSW; (try dsimp only at hSW); obtain ⟨z0, z1, z2⟩ := hSW; go_simp; first | done | with_reducible rfl)
      (try simp only [pu, pn, si, s0, sn])
      refine wpAnyH_ready (rs := [20]) (by kernel_rfl) (by simp) ?_
      refine AllReadyH.cons (i := 20) (gt rfl) (fun K hK => ?_) ?_
      ·go_simp
       refine hK.out _ _ ?_ (fun hHeld => ?_)
       ·(try dsimp only); exact hArg.out _ (by first | exact hP6.out.arg | exact hK5 | exact hPA.out.arg | exact hP3.out.arg | exact hPA1.out.arg | exact hPD.out.arg)
       clear hK K
       (try simp only [pu, pn, si, s0, sn])
       refine wpAnyH_done (by kernel_rfl) ?_ _
       refine NoPanic.normal ?_
       have kx6 := hP6.out.kx
       have kz6 := hP6.out.kz
       have h1c := detC_one hP6.out.vals
       obtain ⟨kr, hE⟩ := hP6.out.fin
       replace hE := Lib.hid hE
       generalize World.setCell _ _ _ = W6 at *
       have hs6 := Lib.hid (detC_size { d with bars := d.bars ++ [(nm, a0 :: a1 :: a2 :: ds)] } { p with vr := .slice g5 (nb + 1) c5, db := p.db ++ [.slice g3 m c3] })
       generalize detC { d with bars := d.bars ++ [(nm, a0 :: a1 :: a2 :: ds)] } { p with vr := .slice g5 (nb + 1) c5, db := p.db ++ [.slice g3 m c3] } = cs at *
       clear hHeld hP6 hArg
       go_wp2_with (first | (refine wpList_load_row rfl 34 (.tmp 4) rfl w.heap.size (by simp [Act.eval]) 34 cs (0, 0) _ kx6 Tryz.underlying34 rfl (by rw [hs6.out]; kernel_rfl) ?_) | (refine wpList_store_row rfl 34 (.tmp 8) (.tmp 202) rfl (w.heap.size + 1) cs (by simp [Act.eval, Act.put]) (by simp [Act.eval, Act.put]) 34 zeroD kz6 (by rw [hs6.out]; kernel_rfl) (by rw [hs6.out]; rfl) h1c ?_) | fail)
       exact bodyPost_ret (put_results _ _ (w.heap.size + 1) cs rfl kr hs6.out) rfl hE.out
      exact AllReadyH.nil
     exact AllReadyH.nil
    exact AllReadyH.nil
   refine AllReadyH.cons (i := 17) (gt rfl) (fun K hK => ?_) ?_
   ·go_simp
    refine hK.out _ _ ?_ (fun hHeld => ?_)
    ·(try dsimp only); exact hArg.out _ (by first | exact hP6.out.arg | exact hK5 | exact hPA.out.arg | exact hP3.out.arg | exact hPA1.out.arg | exact hPD.out.arg)
    clear hK K
    (try simp only [pu, pn, si, s0, sn])
    refine wpAnyH_ready (rs := [1]) (by kernel_rfl) (by simp) ?_
    refine AllReadyH.cons (i := 1) (gt rfl) (fun K hK => ?_) ?_
    ·go_simp
     refine hK.out _ _ ?_ (fun hHeld => ?_)
     ·(try dsimp only); exact hArg.out _ (by first | exact hP6.out.arg | exact hK5 | exact hPA.out.arg | exact hP3.out.arg | exact hPA1.out.arg | exact hPD.out.arg)
     clear hK K
     (try simp only [pu, pn, si, s0, sn])
     refine wpAnyH_ready (rs := [18]) (by kernel_rfl) (by simp) ?_
     refine AllReadyH.cons (i := 18) (gt rfl) (fun K hK => ?_) ?_
     ·refine step_append_w _ (by rfl) (.tmp 119) (.tmp 135) 27 rfl 0 56 i0 _ 5 64 Tryz.underlying27 hi0 hz0 hz1 hz2 rfl (by decide) (.slice vo nb cp0) nb ((d.bars.zip p.db).flatMap encR) (by first | rfl | (simp [Act.eval]; done)) (hOw.out _ hPA.out) ⟨w3.heap.size, 0, none⟩ 1 1 [.string NM, .int .i64 a0, .int .i64 a1, .int .i64 a2, .slice g3 m c3] (by first | rfl | (simp [Act.eval]; done)) rfl hNA.out (by intro u hu; simp at hu; rcases hu with rfl | rfl | rfl | rfl | rfl <;> rfl) (by unfold maxLen; omega) (by omega) (Nat.zero_le _) ?_
      intro g5 c5 w5 ho5 hg5 hl5
      obtain ⟨y5, f5, hK5, hP6⟩ := hPu.out _ g3 c3 w5 g5 c5 hPA.out hO3.out ho5 hg5 hl5
      clear ho5 hg5 hl5
      refine hK.out _ _ ?_ (fun hHeld => ?_)
      ·(try dsimp only); exact hArg.out _ (by first | exact hP6.out.arg | exact hK5 | exact hPA.out.arg | exact hP3.out.arg | exact hPA1.out.arg | exact hPD.out.arg)
      clear hK K
      (try simp only [pu, pn, si, s0, sn])
      refine tak (i := 19) (v := ?_) (gt rfl) ?_ ?_
      rotate_left
      focus (intro W hSW; (try dsimp only at hSW); obtain ⟨z0, z1, z2⟩ := hSW; go_simp; first | done | with_reducible rfl)
      (try simp only [pu, pn, si, s0, sn])
      refine wpAnyH_ready (rs := [20]) (by kernel_rfl) (by simp) ?_
      refine AllReadyH.cons (i := 20) (gt rfl) (fun K hK => ?_) ?_
      ·go_simp
       refine hK.out _ _ ?_ (fun hHeld => ?_)
       ·(try dsimp only); exact hArg.out _ (by first | exact hP6.out.arg | exact hK5 | exact hPA.out.arg | exact hP3.out.arg | exact hPA1.out.arg | exact hPD.out.arg)
       clear hK K
       (try simp only [pu, pn, si, s0, sn])
       refine wpAnyH_done (by kernel_rfl) ?_ _
       refine NoPanic.normal ?_
       have kx6 := hP6.out.kx
       have kz6 := hP6.out.kz
       have h1c := detC_one hP6.out.vals
       obtain ⟨kr, hE⟩ := hP6.out.fin
       replace hE := Lib.hid hE
       generalize World.setCell _ _ _ = W6 at *
       have hs6 := Lib.hid (detC_size { d with bars := d.bars ++ [(nm, a0 :: a1 :: a2 :: ds)] } { p with vr := .slice g5 (nb + 1) c5, db := p.db ++ [.slice g3 m c3] })
       generalize detC { d with bars := d.bars ++ [(nm, a0 :: a1 :: a2 :: ds)] } { p with vr := .slice g5 (nb + 1) c5, db := p.db ++ [.slice g3 m c3] } = cs at *
       clear hHeld hP6 hArg
       go_wp2_with (first | (refine wpList_load_row rfl 34 (.tmp 4) rfl w.heap.size (by simp [Act.eval]) 34 cs (0, 0) _ kx6 Tryz.underlying34 rfl (by rw [hs6.out]; kernel_rfl) ?_) | (refine wpList_store_row rfl 34 (.tmp 8) (.tmp 202) rfl (w.heap.size + 1) cs (by simp [Act.eval, Act.put]) (by simp [Act.eval, Act.put]) 34 zeroD kz6 (by rw [hs6.out]; kernel_rfl) (by rw [hs6.out]; rfl) h1c ?_) | fail)
       exact bodyPost_ret (put_results _ _ (w.heap.size + 1) cs rfl kr hs6.out) rfl hE.out
      exact AllReadyH.nil
     exact AllReadyH.nil
    exact AllReadyH.nil
   exact AllReadyH.nil
  exact AllReadyH.nil
 exact AllReadyH.nil
end Go.Proofs.YtccakklnbhcbdaaGreatDoor
