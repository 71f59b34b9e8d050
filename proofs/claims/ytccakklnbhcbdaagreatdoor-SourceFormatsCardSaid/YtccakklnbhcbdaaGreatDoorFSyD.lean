import Derived.Test.YtccakklnbhcbdaaGreatDoorFQk
import Derived.Test.YtccakklnbhcbdaaGreatDoorFA
set_option linter.unusedVariables false
set_option linter.unusedSimpArgs false
namespace Go.Proofs.YtccakklnbhcbdaaGreatDoor
open Go.ChangeShapes Go.WideShapes Go.ChangeAt Go.RowKit
def fmtS (l : List UInt8) : List UInt8 × (Int × Int) × Int := if (srcS l).2.2 ≠ 0 then ([], (srcS l).2.1, (srcS l).2.2) else ((textR (srcS l).1).1, (0, 0), (textR (srcS l).1).2)
theorem format_results (tmps : Array Value) (w : World) (B : Nat) (cp : Array Value) (s r : Value) (h2 : tmps.getD 2 undef = s) (h3 : tmps.getD 3 undef = .pointer (some ⟨B, 0, none⟩)) (h4 : tmps.getD 4 undef = r)
  (hP : At w B 43 cp) (sp : cp.size = 2) : (results Tryz.f16 tmps).run Tryz.prog w = .ok (.tuple #[s, .agg cp, r]) w := by
 have e2 := run_loadVar_row (P := Tryz.prog) w B 43 43 cp (0, 0) _ hP Tryz.underlying43 rfl (by rw [sp]; kernel_rfl)
 have h2' : tmps[2]?.getD undef = s := by simpa using h2
 have h3' : tmps[3]?.getD undef = .pointer (some ⟨B, 0, none⟩) := by simpa using h3
 have h4' : tmps[4]?.getD undef = r := by simpa using h4
 simp [results, Tryz.results16, h2', h3', h4', asAddr, e2]
set_option maxRecDepth 100000 in
set_option maxHeartbeats 2000000 in
theorem format_any (S : ByteArray) (w : World) (he : Env w) : Calls Tryz.prog 16 #[.string S] w fun e w' => e = .returned (.tuple #[.string ⟨(fmtS (by_ S)).1.toArray⟩, .agg #[.int .i64 (fmtS (by_ S)).2.1.1, .int .i64 (fmtS (by_ S)).2.1.2], .int .i64 (fmtS (by_ S)).2.2]) ∧ Below w.heap.size w w' := by
 go_enter Tryz.func16, Tryz.ntmps16
 go_upto_region 1 with fail
 generalize hW0 : World.alloc w _ = W0
 have kP0 : At W0 w.heap.size 43 #[.int .i64 0, .int .i64 0] := by rw [← hW0]; exact At.new' rfl
 have HB0 : Below w.heap.size w W0 := by rw [← hW0]; repeat (first | with_reducible assumption | with_reducible exact Below.refl _ _ | with_reducible refine below_al ?_ _ | with_reducible refine below_drew ?_ | with_reducible refine below_drewN ?_ _ | with_reducible refine below_set ?_ (by dsimp only; omega) _)
 clear hW0
 have he0 := he.bel HB0
 have HR := Lib.hid (parse_any S W0 he0)
 obtain ⟨B, hB⟩ : ∃ B, w.heap.size = B := ⟨_, rfl⟩
 rw [hB] at kP0 HB0 ⊢
 go_wp2_with fail
 refine HR.out.mono ?_
 rintro e w1 ⟨p, rfl, hV, HB1⟩
 have kP1 := kP0.bel HB1
 have hPl := kP1.lt
 have HBw := Lib.hid (HB0.trans (HB1.mono (by have := kP0.lt; omega)))
 have hF : Hid (fmtS (by_ S) = if (srcS (by_ S)).2.2 ≠ 0 then ([], (srcS (by_ S)).2.1, (srcS (by_ S)).2.2) else ((textR (srcS (by_ S)).1).1, (0, 0), (textR (srcS (by_ S)).1).2)) := Lib.hid rfl
 have hsh : Hid ((srcS (by_ S)).1.sh) := Lib.hid (srcS_sh _)
 generalize hSR : fmtS (by_ S) = FR at *
 replace hSR := Lib.hid hSR
 have h1c := detV_one hV
 have hsz := detC_size (srcS (by_ S)).1 p
 have hDV := Lib.hid hV
 have hew := Lib.hid (he0.bel HB1)
 clear HR hV HB1 kP0 HB0 he0
 obtain ⟨X, hX⟩ : ∃ X, w1.heap.size = X := ⟨_, rfl⟩
 have hRow : Hid (∀ W9, ((w1.alloc (.cells zeroD 34)).alloc (.cells #[.int .i64 0, .int .i64 0] 43)).setRow X (detC (srcS (by_ S)).1 p) = W9 → At W9 X 34 (detC (srcS (by_ S)).1 p) ∧ At W9 (X + 1) 43 #[.int .i64 0, .int .i64 0] ∧ At W9 B 43 #[.int .i64 0, .int .i64 0] ∧ Hid (Below X w1 W9)) := Lib.hid fun W9 e => by
  have a0 : At ((w1.alloc (.cells zeroD 34)).alloc (.cells #[.int .i64 0, .int .i64 0] 43)) X 34 zeroD := (At.new' hX.symm).al _
  have a1 : At ((w1.alloc (.cells zeroD 34)).alloc (.cells #[.int .i64 0, .int .i64 0] 43)) (X + 1) 43 #[.int .i64 0, .int .i64 0] := At.new' (by simp [hX])
  rw [← e]
  refine ⟨a0.rowAt, a1.row (by omega), ((kP1.al _).al _).row (by omega), Lib.hid (below_row ?_ (Nat.le_refl X) _)⟩
  rw [← hX]
  exact below_al (below_al (Below.refl _ _) _) _
 have hz0 : Hid (At ((w1.alloc (.cells zeroD 34)).alloc (.cells #[.int .i64 0, .int .i64 0] 43)) X 34 zeroD) := Lib.hid ((At.new' hX.symm).al _)
 generalize srcS (by_ S) = RS at *
 obtain ⟨d, ⟨L, C⟩, E⟩ := RS
 dsimp only at *
 go_upto_region 2 with (first | (refine wpList_store_row rfl 34 (.tmp 5) (.tmp 12) rfl X (detC d p) (by simp [Act.eval, hX]) (by simp [Act.eval]) 34 zeroD hz0.out (by rw [hsz]; kernel_rfl) (by rw [hsz]; rfl) h1c ?_; generalize hW9 : World.setRow _ _ _ = W9; obtain ⟨kX, kQ, kP, hb9⟩ := hRow.out W9 hW9; have y0 : W9.cell? ⟨X + 1, 0, none⟩ = some (.int .i64 0) := kQ.c 0; have y1 : W9.cell? ⟨X + 1, 1, none⟩ = some (.int .i64 0) := kQ.c 1; have yf0 : W9.frozen? ⟨X + 1, 0, none⟩ = false := kQ.f 0; have yf1 : W9.frozen? ⟨X + 1, 1, none⟩ = false := kQ.f 1) | fail)
 generalize hW2 : World.setCell (World.setCell W9 _ _) _ _ = W2
 have kX2 : At W2 X 34 (detC d p) := by rw [← hW2]; exact (kX.ne ⟨X + 1, 0, none⟩ _ (by simp)).ne ⟨X + 1, 1, none⟩ _ (by simp)
 have kP2 : At W2 B 43 #[.int .i64 0, .int .i64 0] := by rw [← hW2]; exact (kP.ne ⟨X + 1, 0, none⟩ _ (by dsimp only; omega)).ne ⟨X + 1, 1, none⟩ _ (by dsimp only; omega)
 have kQ2 : At W2 (X + 1) 43 #[.int .i64 L, .int .i64 C] := by
  rw [← hW2]
  have := (kQ.put 0 (.int .i64 L)).put 1 (.int .i64 C)
  simpa using this
 have hb2 : Below X w1 W2 := by rw [← hW2]; exact below_sc (below_sc hb9.out (by omega) 0 _) (by omega) 1 _
 have hDV2 := Lib.hid (hDV.out.up (w' := W2) (by rw [hX]; exact hb2))
 have HB2 := Lib.hid (HBw.out.trans (hb2.mono (by omega)))
 have he2 := Lib.hid (hew.out.bel (by rw [hX]; exact hb2))
 have hXB : B < X := by omega
 clear hW2 hW9 kX kQ kP hb9 y0 y1 yf0 yf1 kP1 HBw hRow hz0 hDV hX hb2 hPl hew he
 have p0 : W2.cell? ⟨B, 0, none⟩ = some (.int .i64 0) := kP2.c 0
 have p1 : W2.cell? ⟨B, 1, none⟩ = some (.int .i64 0) := kP2.c 1
 have pf0 : W2.frozen? ⟨B, 0, none⟩ = false := kP2.f 0
 have pf1 : W2.frozen? ⟨B, 1, none⟩ = false := kP2.f 1
 have q0 : W2.cell? ⟨X + 1, 0, none⟩ = some (.int .i64 L) := kQ2.c 0
 have q1 : W2.cell? ⟨X + 1, 1, none⟩ = some (.int .i64 C) := kQ2.c 1
 by_cases hE : E = 0
 rotate_left
 ·have hS : Hid (FR = ([], (L, C), E)) := Lib.hid (by rw [hF.out, if_pos hE])
  have hne : (E != 0) = true := by simp [hE]
  clear kX2 kQ2 hDV2 he2 hF hsh
  have hFin : Hid (∀ tmps : Array Value, tmps.getD 2 undef = .string ⟨#[]⟩ → tmps.getD 3 undef = .pointer (some ⟨B, 0, none⟩) → tmps.getD 4 undef = .int .i64 E → (results Tryz.f16 tmps).run Tryz.prog (((W2.setCell ⟨B, 0, none⟩ (.int .i64 L)).setCell ⟨B, 1, none⟩ (.int .i64 C)).drew) = .ok (.tuple #[.string ⟨#[]⟩, .agg #[.int .i64 L, .int .i64 C], .int .i64 E]) (((W2.setCell ⟨B, 0, none⟩ (.int .i64 L)).setCell ⟨B, 1, none⟩ (.int .i64 C)).drew)) := Lib.hid fun tmps h2 h3 h4 =>
   format_results tmps _ B _ _ _ h2 h3 h4 (At.drw (by
    have := (kP2.put 0 (.int .i64 L)).put 1 (.int .i64 C)
    simpa using this)) rfl
  have HBe : Hid (Below w.heap.size w (((W2.setCell ⟨B, 0, none⟩ (.int .i64 L)).setCell ⟨B, 1, none⟩ (.int .i64 C)).drew)) := Lib.hid (by
   rw [hB]
   exact below_drew (below_sc (below_sc HB2.out (by omega) 0 _) (by omega) 1 _))
  go_wp2_with fail
  refine wp_region_noPanic ?_
  refine wp_region_any (by kernel_rfl) ?_
  (try (change wpAny _ _ _ _ _ _ _ (World.drew _)))
  refine wpAny_take (i := 1) (v := ?_) (gt rfl) (by kernel_rfl) (by kernel_rfl) (by kernel_rfl) (fun _ _ _ h => h) (Or.inl ⟨by rfl, ?_⟩) ?_
  rotate_left
  focus (intro w; go_simp; first | done | with_reducible rfl)
  (try simp only [pu, pn, si, s0, sn])
  refine wpAny_ready (rs := [0, 2]) (by kernel_rfl) (by simp) ?_
  refine AllReady.cons (i := 0) (gt rfl) (fun K hK => ?_) ?_
  ·go_simp
   refine hK _ _ ?_
   clear hK K
   (try simp only [pu, pn, si, s0, sn])
   refine wpAny_ready (rs := [2]) (by kernel_rfl) (by simp) ?_
   refine AllReady.cons (i := 2) (gt rfl) (fun K hK => ?_) ?_
   ·go_simp
    refine hK _ _ ?_
    clear hK K
    (try simp only [pu, pn, si, s0, sn])
    refine wpAny_ready (rs := [3]) (by kernel_rfl) (by simp) ?_
    refine AllReady.cons (i := 3) (gt rfl) (fun K hK => ?_) ?_
    ·go_simp
     refine hK _ _ ?_
     clear hK K
     (try simp only [pu, pn, si, s0, sn])
     refine wpAny_ready (rs := [4]) (by kernel_rfl) (by simp) ?_
     refine AllReady.cons (i := 4) (gt rfl) (fun K hK => ?_) ?_
     ·go_simp
      refine hK _ _ ?_
      clear hK K
      (try simp only [pu, pn, si, s0, sn])
      refine wpAny_done (by kernel_rfl) ?_ _
      refine NoPanic.normal ?_
      go_wp2_with fail
      exact bodyPost_ret (hFin.out _ rfl rfl rfl) rfl ⟨by rw [hSR.out, hS.out], HBe.out⟩
     exact AllReady.nil
    exact AllReady.nil
   exact AllReady.nil
  refine AllReady.cons (i := 2) (gt rfl) (fun K hK => ?_) ?_
  ·go_simp
   refine hK _ _ ?_
   clear hK K
   (try simp only [pu, pn, si, s0, sn])
   refine wpAny_ready (rs := [0]) (by kernel_rfl) (by simp) ?_
   refine AllReady.cons (i := 0) (gt rfl) (fun K hK => ?_) ?_
   ·go_simp
    refine hK _ _ ?_
    clear hK K
    (try simp only [pu, pn, si, s0, sn])
    refine wpAny_ready (rs := [3]) (by kernel_rfl) (by simp) ?_
    refine AllReady.cons (i := 3) (gt rfl) (fun K hK => ?_) ?_
    ·go_simp
     refine hK _ _ ?_
     clear hK K
     (try simp only [pu, pn, si, s0, sn])
     refine wpAny_ready (rs := [4]) (by kernel_rfl) (by simp) ?_
     refine AllReady.cons (i := 4) (gt rfl) (fun K hK => ?_) ?_
     ·go_simp
      refine hK _ _ ?_
      clear hK K
      (try simp only [pu, pn, si, s0, sn])
      refine wpAny_done (by kernel_rfl) ?_ _
      refine NoPanic.normal ?_
      go_wp2_with fail
      exact bodyPost_ret (hFin.out _ rfl rfl rfl) rfl ⟨by rw [hSR.out, hS.out], HBe.out⟩
     exact AllReady.nil
    exact AllReady.nil
   exact AllReady.nil
  exact AllReady.nil
 ·subst hE
  have hS : Hid (FR = ((textR d).1, (0, 0), (textR d).2)) := Lib.hid (by rw [hF.out, if_neg (by decide)])
  have HT := Lib.hid (text_any d p hsh.out W2 hDV2.out he2.out)
  generalize textR d = TR at *
  obtain ⟨T, F⟩ := TR
  clear hF q0 q1 kQ2 p0 p1 pf0 pf1
  dsimp only at *
  go_wp2_with (first | (refine wpList_load_row rfl 34 (.tmp 5) rfl X (by simp [Act.eval]) 34 (detC d p) (0, 0) _ kX2 Tryz.underlying34 rfl (by rw [hsz]; kernel_rfl) ?_) | fail)
  refine HT.out.mono ?_
  rintro e w3 ⟨rfl, HB3⟩
  have kP3 := kP2.bel HB3
  have HBf := HB2.out.trans (HB3.mono (by have := kP2.lt; omega))
  clear HT HB3 kX2 kP2 hDV2 HB2 he2
  have p0 : w3.cell? ⟨B, 0, none⟩ = some (.int .i64 0) := kP3.c 0
  have p1 : w3.cell? ⟨B, 1, none⟩ = some (.int .i64 0) := kP3.c 1
  have pf0 : w3.frozen? ⟨B, 0, none⟩ = false := kP3.f 0
  have pf1 : w3.frozen? ⟨B, 1, none⟩ = false := kP3.f 1
  have s0 : w3.setCell ⟨B, 0, none⟩ (.int .i64 0) = w3 := kP3.setSelf rfl
  have s1 : w3.setCell ⟨B, 1, none⟩ (.int .i64 0) = w3 := kP3.setSelf rfl
  have hFin : Hid (∀ tmps : Array Value, tmps.getD 2 undef = .string ⟨T.toArray⟩ → tmps.getD 3 undef = .pointer (some ⟨B, 0, none⟩) → tmps.getD 4 undef = .int .i64 F → (results Tryz.f16 tmps).run Tryz.prog w3 = .ok (.tuple #[.string ⟨T.toArray⟩, .agg #[.int .i64 0, .int .i64 0], .int .i64 F]) w3) := Lib.hid fun tmps h2 h3 h4 => format_results tmps _ B _ _ _ h2 h3 h4 kP3 rfl
  go_wp2_with fail
  exact bodyPost_ret (hFin.out _ rfl rfl rfl) rfl ⟨by rw [hSR.out, hS.out], by rw [hB]; exact HBf⟩
end Go.Proofs.YtccakklnbhcbdaaGreatDoor
