import Derived.Test.YtccakklnbhcbdaaGreatDoorFSzL
import Derived.Test.YtccakklnbhcbdaaGreatDoorFSyC
import Derived.Test.YtccakklnbhcbdaaGreatDoorFA
set_option linter.unusedVariables false
set_option linter.unusedSimpArgs false
namespace Go.Proofs.YtccakklnbhcbdaaGreatDoor
open Go.ChangeShapes Go.WideShapes Go.ChangeAt Go.RowKit
theorem rparse_results (tmps : Array Value) (w : World) (B : Nat) (cx cp : Array Value) (r : Value) (h2 : tmps.getD 2 undef = .pointer (some ⟨B, 0, none⟩)) (h3 : tmps.getD 3 undef = .pointer (some ⟨B + 1, 0, none⟩)) (h4 : tmps.getD 4 undef = r)
  (hX : At w B 34 cx) (sx : cx.size = 19) (hP : At w (B + 1) 43 cp) (sp : cp.size = 2) : (results Tryz.f17 tmps).run Tryz.prog w = .ok (.tuple #[.agg cx, .agg cp, r]) w := by
 have e1 := run_loadVar_row (P := Tryz.prog) w B 34 34 cx (0, 0) _ hX Tryz.underlying34 rfl (by rw [sx]; kernel_rfl)
 have e2 := run_loadVar_row (P := Tryz.prog) w (B + 1) 43 43 cp (0, 0) _ hP Tryz.underlying43 rfl (by rw [sp]; kernel_rfl)
 have h2' : tmps[2]?.getD undef = .pointer (some ⟨B, 0, none⟩) := by simpa using h2
 have h3' : tmps[3]?.getD undef = .pointer (some ⟨B + 1, 0, none⟩) := by simpa using h3
 have h4' : tmps[4]?.getD undef = r := by simpa using h4
 simp [results, Tryz.results17, h2', h3', h4', asAddr, e1, e2]
set_option maxRecDepth 100000 in
set_option maxHeartbeats 2000000 in
theorem rparse_any (S : ByteArray) (w : World) : Calls Tryz.prog 17 #[.string S] w (ParE (by_ S) w) := by
 go_enter Tryz.func17, Tryz.ntmps17
 go_upto_region 1 with fail
 generalize hW0 : World.alloc (World.alloc w _) _ = W0
 have kB0 : At W0 w.heap.size 34 zeroD := by unfold zeroD; rw [← hW0]; repeat (first | (with_reducible apply At.new'; (focus (simp; done))) | with_reducible apply At.al | with_reducible apply At.drw | with_reducible apply At.dr)
 have kP0 : At W0 (w.heap.size + 1) 43 #[.int .i64 0, .int .i64 0] := by rw [← hW0]; repeat (first | (with_reducible apply At.new'; (focus (simp; done))) | with_reducible apply At.al | with_reducible apply At.drw | with_reducible apply At.dr)
 have HB0 : Below w.heap.size w W0 := by rw [← hW0]; repeat (first | with_reducible assumption | with_reducible exact Below.refl _ _ | with_reducible refine below_al ?_ _ | with_reducible refine below_drew ?_ | with_reducible refine below_drewN ?_ _ | with_reducible refine below_set ?_ (by dsimp only; omega) _)
 clear hW0
 have HR := Lib.hid (rread_any S W0)
 obtain ⟨B, hB⟩ : ∃ B, w.heap.size = B := ⟨_, rfl⟩
 rw [hB] at kB0 kP0 HB0 ⊢
 go_wp2_with fail
 refine HR.out.mono ?_
 rintro e w1 ⟨p, rfl, hV, hy, HB1⟩
 have kB1 := kB0.bel HB1
 have kP1 := kP0.bel HB1
 have HBw := Lib.hid (HB0.trans (HB1.mono (by have := kB0.lt; omega)))
 have hsrc : Hid (srcS (by_ S) = if (readS (by_ S)).2.2 ≠ 0 then readS (by_ S) else if wrD (readS (by_ S)).1 then readS (by_ S) else (det0, (0, 0), 1)) := Lib.hid rfl
 have hbad : Hid ((readS (by_ S)).2.2 ≠ 0 → (readS (by_ S)).1 = det0) := Lib.hid (readS_bad _)
 have hpos0 : Hid ((readS (by_ S)).2.2 = 0 → (readS (by_ S)).2.1 = (0, 0)) := Lib.hid (readS_pos _)
 have hshd : Hid ((readS (by_ S)).1.sh) := Lib.hid (readS_sh _)
 generalize hSR : srcS (by_ S) = SR at *
 replace hSR := Lib.hid hSR
 have h1c := detC_one hV
 have hsz := detC_size (readS (by_ S)).1 p
 have hDV := Lib.hid hV.view
 have hyB : Hid (∀ b, some b ∈ p.fp → B < b ∧ b < w1.heap.size) := Lib.hid fun b hb => ⟨by have := hy b hb; have := kP0.lt; omega, hV.lt hb⟩
 have hV1 := Lib.hid hV
 have hPl := kP1.lt
 clear HR hV hy HB1 kB0 kP0 HB0
 obtain ⟨X, hX⟩ : ∃ X, w1.heap.size = X := ⟨_, rfl⟩
 have hRow : Hid (∀ W9, ((w1.alloc (.cells zeroD 34)).alloc (.cells #[.int .i64 0, .int .i64 0] 43)).setRow X (detC (readS (by_ S)).1 p) = W9 → At W9 X 34 (detC (readS (by_ S)).1 p) ∧ At W9 (X + 1) 43 #[.int .i64 0, .int .i64 0] ∧ At W9 B 34 zeroD ∧ At W9 (B + 1) 43 #[.int .i64 0, .int .i64 0] ∧ Hid (Below X w1 W9)) := Lib.hid fun W9 e => by
  have a0 : At ((w1.alloc (.cells zeroD 34)).alloc (.cells #[.int .i64 0, .int .i64 0] 43)) X 34 zeroD := (At.new' hX.symm).al _
  have a1 : At ((w1.alloc (.cells zeroD 34)).alloc (.cells #[.int .i64 0, .int .i64 0] 43)) (X + 1) 43 #[.int .i64 0, .int .i64 0] := At.new' (by simp [hX])
  rw [← e]
  refine ⟨a0.rowAt, a1.row (by omega), ((kB1.al _).al _).row (by omega), ((kP1.al _).al _).row (by omega), Lib.hid (below_row ?_ (Nat.le_refl X) _)⟩
  rw [← hX]
  exact below_al (below_al (Below.refl _ _) _) _
 have hz0 : Hid (At ((w1.alloc (.cells zeroD 34)).alloc (.cells #[.int .i64 0, .int .i64 0] 43)) X 34 zeroD) := Lib.hid ((At.new' hX.symm).al _)
 generalize readS (by_ S) = RS at *
 obtain ⟨d, ⟨L, C⟩, E⟩ := RS
 dsimp only at *
 go_upto_region 2 with (first | (refine wpList_store_row rfl 34 (.tmp 5) (.tmp 11) rfl X (detC d p) (by simp [Act.eval, hX]) (by simp [Act.eval]) 34 zeroD hz0.out (by rw [hsz]; kernel_rfl) (by rw [hsz]; rfl) h1c ?_; generalize hW9 : World.setRow _ _ _ = W9; obtain ⟨kX, kQ, kB, kP, hb9⟩ := hRow.out W9 hW9; have y0 : W9.cell? ⟨X + 1, 0, none⟩ = some (.int .i64 0) := kQ.c 0; have y1 : W9.cell? ⟨X + 1, 1, none⟩ = some (.int .i64 0) := kQ.c 1; have yf0 : W9.frozen? ⟨X + 1, 0, none⟩ = false := kQ.f 0; have yf1 : W9.frozen? ⟨X + 1, 1, none⟩ = false := kQ.f 1) | fail)
 generalize hW2 : World.setCell (World.setCell W9 _ _) _ _ = W2
 have kX2 : At W2 X 34 (detC d p) := by rw [← hW2]; exact (kX.ne ⟨X + 1, 0, none⟩ _ (by simp)).ne ⟨X + 1, 1, none⟩ _ (by simp)
 have kB2 : At W2 B 34 zeroD := by rw [← hW2]; exact (kB.ne ⟨X + 1, 0, none⟩ _ (by dsimp only; omega)).ne ⟨X + 1, 1, none⟩ _ (by dsimp only; omega)
 have kP2 : At W2 (B + 1) 43 #[.int .i64 0, .int .i64 0] := by rw [← hW2]; exact (kP.ne ⟨X + 1, 0, none⟩ _ (by dsimp only; omega)).ne ⟨X + 1, 1, none⟩ _ (by dsimp only; omega)
 have kQ2 : At W2 (X + 1) 43 #[.int .i64 L, .int .i64 C] := by
  rw [← hW2]
  have := (kQ.put 0 (.int .i64 L)).put 1 (.int .i64 C)
  simpa using this
 have hb2 : Below X w1 W2 := by rw [← hW2]; exact below_sc (below_sc hb9.out (by omega) 0 _) (by omega) 1 _
 have hDV2 := Lib.hid (hDV.out.up (w' := W2) (by rw [hX]; exact hb2))
 have hV2 : Hid (RdV W2 d p) := Lib.hid (hV1.out.keep fun b hb => hb2.block b (by have := (hyB.out b hb).2; omega))
 have HB2 := Lib.hid (HBw.out.trans (hb2.mono (by omega)))
 have hXB : B + 1 < X := by omega
 clear hW2 hW9 kX kQ kB kP hb9 y0 y1 yf0 yf1 kB1 kP1 HBw hRow hz0 hDV hX hb2 hPl
 have p0 : W2.cell? ⟨B + 1, 0, none⟩ = some (.int .i64 0) := kP2.c 0
 have p1 : W2.cell? ⟨B + 1, 1, none⟩ = some (.int .i64 0) := kP2.c 1
 have pf0 : W2.frozen? ⟨B + 1, 0, none⟩ = false := kP2.f 0
 have pf1 : W2.frozen? ⟨B + 1, 1, none⟩ = false := kP2.f 1
 have q0 : W2.cell? ⟨X + 1, 0, none⟩ = some (.int .i64 L) := kQ2.c 0
 have q1 : W2.cell? ⟨X + 1, 1, none⟩ = some (.int .i64 C) := kQ2.c 1
 by_cases hE : E = 0
 rotate_left
 ·have hd := hbad.out hE
  have hS : Hid (SR = (det0, (L, C), E)) := Lib.hid (by rw [hsrc.out, if_pos hE, hd])
  have hne : (E != 0) = true := by simp [hE]
  have hFin : Hid (∀ tmps : Array Value, tmps.getD 2 undef = .pointer (some ⟨B, 0, none⟩) → tmps.getD 3 undef = .pointer (some ⟨B + 1, 0, none⟩) → tmps.getD 4 undef = .int .i64 E → (results Tryz.f17 tmps).run Tryz.prog (((W2.setCell ⟨B + 1, 0, none⟩ (.int .i64 L)).setCell ⟨B + 1, 1, none⟩ (.int .i64 C)).drew) = .ok (.tuple #[.agg zeroD, .agg #[.int .i64 L, .int .i64 C], .int .i64 E]) (((W2.setCell ⟨B + 1, 0, none⟩ (.int .i64 L)).setCell ⟨B + 1, 1, none⟩ (.int .i64 C)).drew)) := Lib.hid fun tmps h2 h3 h4 =>
   rparse_results tmps _ B _ _ _ h2 h3 h4 (((kB2.ne ⟨B + 1, 0, none⟩ _ (by simp)).ne ⟨B + 1, 1, none⟩ _ (by simp)).drw) rfl (At.drw (by
    have := (kP2.put 0 (.int .i64 L)).put 1 (.int .i64 C)
    simpa using this)) rfl
  have hPost : Hid (∃ p, Ending.returned (.tuple #[.agg zeroD, .agg #[.int .i64 L, .int .i64 C], .int .i64 E]) = .returned (.tuple #[.agg (detC SR.1 p), .agg #[.int .i64 SR.2.1.1, .int .i64 SR.2.1.2], .int .i64 SR.2.2]) ∧ DetV (((W2.setCell ⟨B + 1, 0, none⟩ (.int .i64 L)).setCell ⟨B + 1, 1, none⟩ (.int .i64 C)).drew) SR.1 p ∧ Below w.heap.size w (((W2.setCell ⟨B + 1, 0, none⟩ (.int .i64 L)).setCell ⟨B + 1, 1, none⟩ (.int .i64 C)).drew)) := Lib.hid ⟨nilP undef, by rw [hS.out, detC_zero], by rw [hS.out]; exact detV_nil _ _, by
   rw [hB]
   exact below_drew (below_sc (below_sc HB2.out (by omega) 0 _) (by omega) 1 _)⟩
  clear hd hsrc hbad hDV2 hS kX2 kQ2 kP2
  go_wp2_with fail
  refine wp_region_noPanic ?_
  refine wp_region_any (by kernel_rfl) ?_
  (try (change wpAny _ _ _ _ _ _ _ (World.drew _)))
  refine wpAny_take (i := 0) (v := ?_) (gt rfl) (by kernel_rfl) (by kernel_rfl) (by kernel_rfl) (fun _ _ _ h => h) (Or.inl ⟨by rfl, ?_⟩) ?_
  rotate_left
  focus (intro w; go_simp; first | done | with_reducible rfl)
  (try simp only [pu, pn, si, s0, sn])
  refine wpAny_take (i := 2) (v := ?_) (gt rfl) (by kernel_rfl) (by kernel_rfl) (by kernel_rfl) (fun _ _ _ h => h) (Or.inl ⟨by rfl, ?_⟩) ?_
  rotate_left
  focus (intro w; go_simp; first | done | with_reducible rfl)
  (try simp only [pu, pn, si, s0, sn])
  refine wpAny_ready (rs := [1, 3]) (by kernel_rfl) (by simp) ?_
  refine AllReady.cons (i := 1) (gt rfl) (fun K hK => ?_) ?_
  ·go_simp
   refine hK _ _ ?_
   clear hK K
   (try simp only [pu, pn, si, s0, sn])
   refine wpAny_ready (rs := [3]) (by kernel_rfl) (by simp) ?_
   refine AllReady.cons (i := 3) (gt rfl) (fun K hK => ?_) ?_
   ·refine step_store_same rfl 34 (.tmp 2) (.tmp 16) rfl B zeroD (by simp [Act.eval]) (by simp [Act.eval, zeroD]) 34 (by repeat (first | exact kB2 | with_reducible apply At.al | with_reducible apply At.drw)) (by kernel_rfl) (by kernel_rfl) ?_
    refine hK _ _ ?_
    clear hK K
    (try simp only [pu, pn, si, s0, sn])
    refine wpAny_ready (rs := [4]) (by kernel_rfl) (by simp) ?_
    refine AllReady.cons (i := 4) (gt rfl) (fun K hK => ?_) ?_
    ·go_simp
     refine hK _ _ ?_
     clear hK K
     (try simp only [pu, pn, si, s0, sn])
     refine wpAny_ready (rs := [5]) (by kernel_rfl) (by simp) ?_
     refine AllReady.cons (i := 5) (gt rfl) (fun K hK => ?_) ?_
     ·go_simp
      refine hK _ _ ?_
      clear hK K
      (try simp only [pu, pn, si, s0, sn])
      refine wpAny_done (by kernel_rfl) ?_ _
      refine NoPanic.normal ?_
      go_wp2_with fail
      exact bodyPost_ret (hFin.out _ rfl rfl rfl) rfl (by unfold ParE; rw [hSR.out]; exact hPost.out)
     exact AllReady.nil
    exact AllReady.nil
   exact AllReady.nil
  refine AllReady.cons (i := 3) (gt rfl) (fun K hK => ?_) ?_
  ·refine step_store_same rfl 34 (.tmp 2) (.tmp 16) rfl B zeroD (by simp [Act.eval]) (by simp [Act.eval, zeroD]) 34 (by repeat (first | exact kB2 | with_reducible apply At.al | with_reducible apply At.drw)) (by kernel_rfl) (by kernel_rfl) ?_
   refine hK _ _ ?_
   clear hK K
   (try simp only [pu, pn, si, s0, sn])
   refine wpAny_ready (rs := [1]) (by kernel_rfl) (by simp) ?_
   refine AllReady.cons (i := 1) (gt rfl) (fun K hK => ?_) ?_
   ·go_simp
    refine hK _ _ ?_
    clear hK K
    (try simp only [pu, pn, si, s0, sn])
    refine wpAny_ready (rs := [4]) (by kernel_rfl) (by simp) ?_
    refine AllReady.cons (i := 4) (gt rfl) (fun K hK => ?_) ?_
    ·go_simp
     refine hK _ _ ?_
     clear hK K
     (try simp only [pu, pn, si, s0, sn])
     refine wpAny_ready (rs := [5]) (by kernel_rfl) (by simp) ?_
     refine AllReady.cons (i := 5) (gt rfl) (fun K hK => ?_) ?_
     ·go_simp
      refine hK _ _ ?_
      clear hK K
      (try simp only [pu, pn, si, s0, sn])
      refine wpAny_done (by kernel_rfl) ?_ _
      refine NoPanic.normal ?_
      go_wp2_with fail
      exact bodyPost_ret (hFin.out _ rfl rfl rfl) rfl (by unfold ParE; rw [hSR.out]; exact hPost.out)
     exact AllReady.nil
    exact AllReady.nil
   exact AllReady.nil
  exact AllReady.nil
 ·subst hE
  obtain ⟨rfl, rfl⟩ : L = 0 ∧ C = 0 := by
   have := hpos0.out rfl
   injection this with a b
   exact ⟨a, b⟩
  have HWr := Lib.hid (rwritable_any d p hshd.out W2 hDV2.out)
  have hS1 : Hid (wrD d = true → SR = (d, (0, 0), 0)) := Lib.hid fun h => by rw [hsrc.out, if_neg (by decide), if_pos h]
  have hS0 : Hid (wrD d = false → SR = (det0, (0, 0), 1)) := Lib.hid fun h => by rw [hsrc.out, if_neg (by decide), h]; rfl
  generalize wrD d = b at *
  clear hsrc hbad q0 q1 kQ2
  go_wp2_with (first | (refine wpList_load_row rfl 34 (.tmp 5) rfl X (by simp [Act.eval]) 34 (detC d p) (0, 0) _ kX2 Tryz.underlying34 rfl (by rw [hsz]; kernel_rfl) ?_) | fail)
  refine HWr.out.mono ?_
  rintro e w3 ⟨rfl, HB3⟩
  have kX3 := kX2.bel HB3
  have kB3 := kB2.bel HB3
  have kP3 := kP2.bel HB3
  have hV3 : RdV w3 d p := hV2.out.keep fun b hb => HB3.block b (hV2.out.lt hb)
  have HBf := HB2.out.trans (HB3.mono (by have := kB2.lt; omega))
  have hBl := kB3.lt
  clear HWr HB3 kX2 kB2 kP2 hDV2 HB2 p0 p1 pf0 pf1
  cases b with
  | false =>
   have hS := Lib.hid (hS0.out rfl)
   have p0 : w3.cell? ⟨B + 1, 0, none⟩ = some (.int .i64 0) := kP3.c 0
   have p1 : w3.cell? ⟨B + 1, 1, none⟩ = some (.int .i64 0) := kP3.c 1
   have pf0 : w3.frozen? ⟨B + 1, 0, none⟩ = false := kP3.f 0
   have pf1 : w3.frozen? ⟨B + 1, 1, none⟩ = false := kP3.f 1
   have s0 : w3.setCell ⟨B + 1, 0, none⟩ (.int .i64 0) = w3 := kP3.setSelf rfl
   have s1 : w3.setCell ⟨B + 1, 1, none⟩ (.int .i64 0) = w3 := kP3.setSelf rfl
   have hFin : Hid (∀ tmps : Array Value, tmps.getD 2 undef = .pointer (some ⟨B, 0, none⟩) → tmps.getD 3 undef = .pointer (some ⟨B + 1, 0, none⟩) → tmps.getD 4 undef = .int .i64 1 → (results Tryz.f17 tmps).run Tryz.prog w3 = .ok (.tuple #[.agg zeroD, .agg #[.int .i64 0, .int .i64 0], .int .i64 1]) w3) := Lib.hid fun tmps h2 h3 h4 => rparse_results tmps _ B _ _ _ h2 h3 h4 kB3 rfl kP3 rfl
   have hPost : Hid (∃ p, Ending.returned (.tuple #[.agg zeroD, .agg #[.int .i64 0, .int .i64 0], .int .i64 1]) = .returned (.tuple #[.agg (detC SR.1 p), .agg #[.int .i64 SR.2.1.1, .int .i64 SR.2.1.2], .int .i64 SR.2.2]) ∧ DetV w3 SR.1 p ∧ Below w.heap.size w w3) := Lib.hid ⟨nilP undef, by rw [hS.out, detC_zero], by rw [hS.out]; exact detV_nil _ _, by rw [hB]; exact HBf⟩
   clear hV3 HBf hS hS0 hS1
   go_wp2_with (first | (refine wpList_store_row rfl 34 (.tmp 2) (.tmp 22) rfl B zeroD (by simp [Act.eval]) (by simp [Act.eval, zeroD]) 34 zeroD kB3 (by kernel_rfl) rfl (by kernel_rfl) ?_; rw [At.rowSelf kB3]) | fail)
   exact bodyPost_ret (hFin.out _ rfl rfl rfl) rfl (by unfold ParE; rw [hSR.out]; exact hPost.out)
  | true =>
   have hS := Lib.hid (hS1.out rfl)
   have hRow : Hid (∀ W9, w3.setRow B (detC d p) = W9 → W9.cell? ⟨B + 1, 0, none⟩ = some (.int .i64 0) ∧ W9.cell? ⟨B + 1, 1, none⟩ = some (.int .i64 0) ∧ W9.frozen? ⟨B + 1, 0, none⟩ = false ∧ W9.frozen? ⟨B + 1, 1, none⟩ = false ∧ W9.setCell ⟨B + 1, 0, none⟩ (.int .i64 0) = W9 ∧ W9.setCell ⟨B + 1, 1, none⟩ (.int .i64 0) = W9 ∧ (∀ tmps : Array Value, tmps.getD 2 undef = .pointer (some ⟨B, 0, none⟩) → tmps.getD 3 undef = .pointer (some ⟨B + 1, 0, none⟩) → tmps.getD 4 undef = .int .i64 0 → (results Tryz.f17 tmps).run Tryz.prog W9 = .ok (.tuple #[.agg (detC d p), .agg #[.int .i64 0, .int .i64 0], .int .i64 0]) W9) ∧ Hid (∃ p', Ending.returned (.tuple #[.agg (detC d p), .agg #[.int .i64 0, .int .i64 0], .int .i64 0]) = .returned (.tuple #[.agg (detC SR.1 p'), .agg #[.int .i64 SR.2.1.1, .int .i64 SR.2.1.2], .int .i64 SR.2.2]) ∧ DetV W9 SR.1 p' ∧ Below w.heap.size w W9)) := Lib.hid fun W9 e => by
    have kP9 : At W9 (B + 1) 43 #[.int .i64 0, .int .i64 0] := by rw [← e]; exact kP3.row (by omega)
    have kB9 : At W9 B 34 (detC d p) := by rw [← e]; exact kB3.rowAt
    have hb9 : Below B w W9 := by rw [← e]; exact below_row HBf (Nat.le_refl B) _
    refine ⟨kP9.c 0, kP9.c 1, kP9.f 0, kP9.f 1, kP9.setSelf rfl, kP9.setSelf rfl, fun tmps h2 h3 h4 => rparse_results tmps _ B _ _ _ h2 h3 h4 kB9 hsz kP9 rfl, Lib.hid ⟨p, by rw [hS.out], ?_, by rw [hB]; exact hb9⟩⟩
    rw [hS.out]
    exact (hV3.keep fun b hb => by rw [← e]; exact setRow_other w3 B b _ (by have := (hyB.out b hb).1; omega)).view
   clear hV3 HBf hS hS0 hS1 kP3
   go_wp2_with (first | (refine wpList_load_row rfl 34 (.tmp 5) rfl X (by simp [Act.eval]) 34 (detC d p) (0, 0) _ kX3 Tryz.underlying34 rfl (by rw [hsz]; kernel_rfl) ?_) | (refine wpList_store_row rfl 34 (.tmp 2) (.tmp 24) rfl B (detC d p) (by simp [Act.eval]) (by simp [Act.eval]) 34 zeroD kB3 (by rw [hsz]; kernel_rfl) (by rw [hsz]; rfl) h1c ?_; generalize hW9 : World.setRow _ _ _ = W9; obtain ⟨z0, z1, z2, z3, z4, z5, z6, z7⟩ := hRow.out W9 hW9) | fail)
   exact bodyPost_ret (z6 _ rfl rfl rfl) rfl (by unfold ParE; rw [hSR.out]; exact z7.out)
end Go.Proofs.YtccakklnbhcbdaaGreatDoor
