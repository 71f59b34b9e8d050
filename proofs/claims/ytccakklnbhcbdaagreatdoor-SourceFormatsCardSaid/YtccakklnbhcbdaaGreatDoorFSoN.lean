import Derived.Test.YtccakklnbhcbdaaGreatDoorFQg
set_option linter.unusedVariables false
namespace Go.Proofs.YtccakklnbhcbdaaGreatDoor
open Go.ChangeShapes Go.WideShapes Go.ChangeAt Go.RowKit
set_option maxRecDepth 100000 in
set_option maxHeartbeats 1000000 in
theorem other_box (w : World) (R : Nat) (ts : List Tk) (s : Rd) (p : PV) (h : RdW w R ts s p) (hi : s.i < ts.length) (hE : Ends ts) (he : EnvR R w) (hm : manyD s.d ≤ 1000000) (hk : (tk ts s.i).kind = 1) (hx : (tk ts s.i).text = wBox) :
  Calls Tryz.prog 96 #[.pointer (some ⟨R, 0, none⟩)] w (OthE ts R w (bodyT ts wBox s)) := by
 obtain ⟨Rx, hRx⟩ : ∃ r, bodyT ts wBox s = r := ⟨_, rfl⟩
 rw [hRx]
 replace hRx := Lib.hid hRx
 obtain ⟨Res, hRes⟩ : ∃ r, numsT ts 6 (s.i + 1) = r := ⟨_, rfl⟩
 have hj : s.i + 1 < ts.length := hE.more s.i hi (by rw [hk]; decide)
 have HN := nextH (R := R) (t := 139) s.i hi
 obtain ⟨XS, hX, eT⟩ := tkV_mk (tk ts s.i)
 rw [eT, hk] at HN
 rw [hx, show wBox = [98, 111, 120] from rfl] at hX
 subst hX
 generalize (tk ts s.i).line = L at HN
 generalize (tk ts s.i).col = C at HN
 clear eT hk hx
 obtain ⟨g0, g1, g2, g3, g4, g8, g9, g10, g11, g21, gz⟩ := rdC_get s p
 obtain ⟨dao, dcap, hvd, -⟩ := h.vals.dems.view encD_len
 obtain ⟨nd, hnd⟩ : ∃ nd, nd = (s.d.dems.zip p.ds).length := ⟨_, rfl⟩
 rw [← hnd] at hvd
 replace hnd := Lib.hid hnd
 go_enter Tryz.func96, Tryz.ntmps96
 go_wp2_with fail
 refine (HN.out w _ h.tok).mono ?_
 rintro e w1 ⟨rfl, HB⟩
 have h1 := h.bel HB
 have x11 : w1.cell? ⟨R, 11, none⟩ = some (.slice dao nd dcap) := by rw [h1.tok.own.c, g11, hvd]
 have x1 : w1.cell? ⟨R, 1, none⟩ = some (.int .i64 (s.i : Int)) := by rw [h1.tok.own.c, g1]
 have x21 : w1.cell? ⟨R, 21, none⟩ = some (.bool s.ruled) := by rw [h1.tok.own.c, g21]
 have fr : w1.frozen? ⟨R, 1, none⟩ = false := h1.tok.own.f 1
 have hR1 : R < w1.heap.size := h1.tok.own.lt
 have hR2 : R ≠ w1.heap.size := by omega
 have hR3 : w1.heap.size ≠ R := by omega
 have hw : IntKind.i64.wrap ((s.i : Int) + 1) = ((s.i + 1 : Nat) : Int) := wrap_in (by have := hE.len; omega)
 go_upto_region 9 with fail
 have hA := h1.tok.step (Below.refl _ _) (s.i + 1) (v := (s.i : Int) + 1) (by omega) (below_al (Below.refl _ _) (.cells #[.int .i64 1, .string ⟨#[98, 111, 120]⟩, .int .i64 L, .int .i64 C] 107))
 have h2 := h1.adv hA
 have he2 := ((he.bel HB).adv hA)
 have hb2 := Lib.hid ((HB.mono (Nat.le_of_lt h.tok.own.lt)).trans (hA.belowR (Nat.le_of_lt hR1)))
 generalize hWW : World.alloc _ _ = WW at *
 have q60 : True := trivial
 clear h1 hA HB HN x11 x1 x21 fr hR1 hR2 hR3 hWW he
 replace he2 := Lib.hid he2
 have hRB : R < WW.heap.size := h2.tok.own.lt
 have hRB2 : R ≠ WW.heap.size := by omega
 obtain ⟨vo, cp, hvb, hcp, -⟩ := h2.vals.boxes.view (encK_len 6)
 obtain ⟨nb, hnb⟩ : ∃ nb, nb = s.d.boxes.length := ⟨_, rfl⟩
 have hvb : p.vb = .slice vo nb cp := by rw [hnb]; exact hvb
 have y3 : WW.cell? ⟨R, 3, none⟩ = some (.slice vo nb cp) := by
  have q := h2.tok.own.c 3
  rw [← hvb]
  exact q.trans (by simp [rdC, encK, List.range, List.range.loop])
 have HBx : Hid (∀ w', EnvR R w' → TokR w' R 139 (rdC { s with i := s.i + 1 } p) ts (s.i + 1) → Calls Tryz.prog 117 #[.pointer (some ⟨R, 0, none⟩)] w' (TwoE ts R 139 (rdC { s with i := s.i + 1 } p) w' intsV Res)) := Lib.hid fun w' he ht => by
  rw [← hRes]
  exact box_any w' R _ _ ts (s.i + 1) ht hj hE he
 have h2d : Hid (RdW WW.drew R ts { s with i := s.i + 1 } p) := Lib.hid (h2.bel (below_drew (Below.refl _ _)))
 have he2d : Hid (EnvR R WW.drew) := Lib.hid (he2.out.bel (below_drew (Below.refl _ _)))
 have hbd := Lib.hid (hb2.out.trans ((below_drew (Below.refl WW.heap.size WW)).mono (Nat.le_of_lt h2.tok.own.lt)))
 have hdz : WW.drew.heap.size = WW.heap.size := rfl
 replace hdz := Lib.hid hdz
 replace h2 := Lib.hid h2
 replace h := Lib.hid h
 replace hRes := Lib.hid hRes
 cases Res with
 | error j =>
  have hX : Hid (Rx = .error j) := Lib.hid (by rw [← hRx.out, body_box, hRes.out])
  replace hnb := Lib.hid hnb
  replace hvb := Lib.hid hvb
  clear hcp hm
  go_wp2_with fail
  go_region_law (first | (go_simp; go_at_call 117; refine (HBx.out _ he2d.out h2d.out.tok).mono ?_; rintro e w2 ⟨he, hW⟩; have hbe := hbd.out.trans (hW.belowR (Nat.le_of_lt h2d.out.tok.own.lt)); subst he; refine idle (P := Tryz.prog) (a := { tmps := #[], defers := [] }) (w := w2) ?_ ?_; focus (unfold panE; go_wp2_with fail; exact ⟨rfl, by rw [hX.out]; exact OthE.bad rfl hbe⟩)))
  all_goals trivial
 | ok q =>
  obtain ⟨n, j⟩ := q
  have hjl : j < ts.length := nums_lt hE 6 _ hj hRes.out
  obtain ⟨n0, n1, n2, n3, n4, n5, rfl⟩ := six (nums_len ts 6 _ hRes.out)
  obtain ⟨i0, hi0, hz0, hz1, hz2⟩ := info_parts infoBox
  have HB2 : Hid (∀ w', EnvR R w' → TokR w' R 139 (rdC { s with i := s.i + 1 } p) ts (s.i + 1) → Calls Tryz.prog 117 #[.pointer (some ⟨R, 0, none⟩)] w' fun e w2 => e = .returned (.agg #[.int .i64 n0, .int .i64 n1, .int .i64 n2, .int .i64 n3, .int .i64 n4, .int .i64 n5]) ∧ Adv ts R 139 (rdC { s with i := s.i + 1 } p) w' j w2) := HBx
  have hAft : Hid (∀ w2, Adv ts R 139 (rdC { s with i := s.i + 1 } p) WW.drew j w2 → Hid (RdW w2 R ts { s with i := j } p) ∧ Hid (Below R WW.drew w2) ∧ R < w2.heap.size ∧ R ≠ w2.heap.size ∧ w2.cell? ⟨R, 3, none⟩ = some (.slice vo nb cp) ∧ w2.ownsRow 0 60 6 (.slice vo nb cp) nb (s.d.boxes.flatMap (encK 6))) := Lib.hid fun w2 hA2 => by
   have h3 := h2d.out.adv hA2
   have hRl := h3.tok.own.lt
   refine ⟨Lib.hid h3, Lib.hid (hA2.belowR (Nat.le_of_lt h2d.out.tok.own.lt)), hRl, by omega, ?_, ?_⟩
   ·rw [h3.tok.own.c, ← hvb]
    simp [rdC, encK, List.range, List.range.loop]
   ·have q := h3.vals.boxes
    unfold Row at q
    rw [← hvb, hnb]
    exact q
  have hPu : Hid (∀ w2 w5 g5 c5, RdW w2 R ts { s with i := j } p → w5.ownsRow 0 60 6 (.slice g5 (nb + 1) c5) (nb + 1) (s.d.boxes.flatMap (encK 6) ++ [.int .i64 n0, .int .i64 n1, .int .i64 n2, .int .i64 n3, .int .i64 n4, .int .i64 n5]) → (w2.alloc (.cells #[.int .i64 n0, .int .i64 n1, .int .i64 n2, .int .i64 n3, .int .i64 n4, .int .i64 n5] 60)).grownBy w5 (Value.slice vo nb cp).ownBlock → ((Value.slice g5 (nb + 1) c5).ownBlock = (Value.slice vo nb cp).ownBlock ∨ (Value.slice g5 (nb + 1) c5).ownBlock = some (w2.alloc (.cells #[.int .i64 n0, .int .i64 n1, .int .i64 n2, .int .i64 n3, .int .i64 n4, .int .i64 n5] 60)).heap.size) →
    w5.cell? ⟨R, 3, none⟩ = some (.slice vo nb cp) ∧ w5.frozen? ⟨R, 3, none⟩ = false ∧ Hid (RdW (w5.setCell ⟨R, 3, none⟩ (.slice g5 (nb + 1) c5)) R ts { s with i := j, d := { s.d with boxes := s.d.boxes ++ [[n0, n1, n2, n3, n4, n5]] } } { p with vb := .slice g5 (nb + 1) c5 }) ∧ Hid (Below R w2 (w5.setCell ⟨R, 3, none⟩ (.slice g5 (nb + 1) c5)))) := Lib.hid fun w2 w5 g5 c5 h3 ho5 hg5 hloc => by
   obtain ⟨hat5, hS5, hb5⟩ := h3.pushB (v' := .slice g5 (nb + 1) c5) (n := [n0, n1, n2, n3, n4, n5]) (by rw [hvb]; exact grown_after (w := w2) (below_al (Below.refl _ _) _) hg5) (by rw [← hnb]; exact ho5) (m := (w2.alloc (.cells #[.int .i64 n0, .int .i64 n1, .int .i64 n2, .int .i64 n3, .int .i64 n4, .int .i64 n5] 60)).heap.size) (by simp) (by rw [hvb]; exact hloc)
   refine ⟨?_, hat5.f 3, Lib.hid hS5, Lib.hid hb5⟩
   rw [hat5.c 3, ← hvb]
   simp [rdC, encK, List.range, List.range.loop]
  have hnb6 : nb ≤ 1000000 := by rw [hnb]; unfold manyD at hm; omega
  have HEn : Hid (∀ w' p', RdW w' R ts { s with i := j, d := { s.d with boxes := s.d.boxes ++ [[n0, n1, n2, n3, n4, n5]] } } p' → Calls Tryz.prog 95 #[.pointer (some ⟨R, 0, none⟩)] w' (EndE ts R w' { s with i := j, d := { s.d with boxes := s.d.boxes ++ [[n0, n1, n2, n3, n4, n5]] } } p' (endT ts j))) := Lib.hid fun w' p' h' => end_rd w' R ts _ p' h' hjl hE
  have hFi : Hid (Rx = endRes { s with i := j, d := { s.d with boxes := s.d.boxes ++ [[n0, n1, n2, n3, n4, n5]] } } (endT ts j)) := Lib.hid (by rw [← hRx.out, body_box, hRes.out]; rfl)
  generalize endT ts j = Ee at *
  replace hnb := Lib.hid hnb
  replace hvb := Lib.hid hvb
  clear hcp hm
  go_wp2_with fail
  go_region_law (first
   | (go_simp; go_at_call 117; refine (HB2.out _ he2d.out h2d.out.tok).mono ?_; rintro e w2 ⟨rfl, hA2⟩; obtain ⟨h3, hbA, hRl2, hRn2, y3w, ho3⟩ := hAft.out w2 hA2; clear hA2)
   | (refine step_append_at _ rfl (.tmp 82) (.tmp 87) 22 rfl 0 60 i0 (.agg #[.int .i64 0, .int .i64 0, .int .i64 0, .int .i64 0, .int .i64 0, .int .i64 0]) 6 48 (by kernel_rfl) hi0 hz0 hz1 hz2 rfl (by decide) (.slice vo nb cp) nb (s.d.boxes.flatMap (encK 6)) (by simp [Act.eval]) (World.ownsRow.alloc ho3 _) ⟨w2.heap.size, 0, none⟩ 1 1 [.int .i64 n0, .int .i64 n1, .int .i64 n2, .int .i64 n3, .int .i64 n4, .int .i64 n5] (by simp [Act.eval]) rfl (new_at (At.new _ _ _)) (by intro u hu; simp at hu; rcases hu with rfl | rfl | rfl | rfl | rfl | rfl <;> rfl) (by unfold maxLen; omega) (by omega) (by simp) ?_; intro g5 c5 w5 ho5 hg5 hloc; obtain ⟨y4, f4, hS5, hb5⟩ := hPu.out w2 w5 g5 c5 h3.out ho5 hg5 hloc; clear ho5 hg5 hloc))
  all_goals
   go_wp2_with fail
   refine (HEn.out _ _ hS5.out).mono ?_
   intro e w6 hq
   have b7 := hbd.out.trans (hbA.out.trans hb5.out)
   cases Ee with
   | error j2 =>
    have hf := OthE.bad hq.1 (b7.trans hq.2)
    obtain ⟨he, -⟩ := hq
    subst he
    unfold panE
    go_wp2_with fail
    refine ⟨rfl, ?_⟩
    rw [hFi.out]
    exact hf
   | ok j2 =>
    have hf : OthE ts R w (endRes _ (.ok j2)) e w6 := OthE.fin hq b7
    obtain ⟨rfl, -⟩ := hq
    go_wp2_with fail
    go_end0
    rw [hFi.out]
    exact hf
set_option maxRecDepth 100000 in
set_option maxHeartbeats 1000000 in
theorem other_hole (w : World) (R : Nat) (ts : List Tk) (s : Rd) (p : PV) (h : RdW w R ts s p) (hi : s.i < ts.length) (hE : Ends ts) (he : EnvR R w) (hm : manyD s.d ≤ 1000000) (hk : (tk ts s.i).kind = 1) (hx : (tk ts s.i).text = wHole) :
  Calls Tryz.prog 96 #[.pointer (some ⟨R, 0, none⟩)] w (OthE ts R w (bodyT ts wHole s)) := by
 obtain ⟨Rx, hRx⟩ : ∃ r, bodyT ts wHole s = r := ⟨_, rfl⟩
 rw [hRx]
 replace hRx := Lib.hid hRx
 obtain ⟨Res, hRes⟩ : ∃ r, numsT ts 6 (s.i + 1) = r := ⟨_, rfl⟩
 have hj : s.i + 1 < ts.length := hE.more s.i hi (by rw [hk]; decide)
 have HN := nextH (R := R) (t := 139) s.i hi
 obtain ⟨XS, hX, eT⟩ := tkV_mk (tk ts s.i)
 rw [eT, hk] at HN
 rw [hx, show wHole = [104, 111, 108, 101] from rfl] at hX
 subst hX
 generalize (tk ts s.i).line = L at HN
 generalize (tk ts s.i).col = C at HN
 clear eT hk hx
 obtain ⟨g0, g1, g2, g3, g4, g8, g9, g10, g11, g21, gz⟩ := rdC_get s p
 obtain ⟨dao, dcap, hvd, -⟩ := h.vals.dems.view encD_len
 obtain ⟨nd, hnd⟩ : ∃ nd, nd = (s.d.dems.zip p.ds).length := ⟨_, rfl⟩
 rw [← hnd] at hvd
 replace hnd := Lib.hid hnd
 go_enter Tryz.func96, Tryz.ntmps96
 go_wp2_with fail
 refine (HN.out w _ h.tok).mono ?_
 rintro e w1 ⟨rfl, HB⟩
 have h1 := h.bel HB
 have x11 : w1.cell? ⟨R, 11, none⟩ = some (.slice dao nd dcap) := by rw [h1.tok.own.c, g11, hvd]
 have x1 : w1.cell? ⟨R, 1, none⟩ = some (.int .i64 (s.i : Int)) := by rw [h1.tok.own.c, g1]
 have x21 : w1.cell? ⟨R, 21, none⟩ = some (.bool s.ruled) := by rw [h1.tok.own.c, g21]
 have fr : w1.frozen? ⟨R, 1, none⟩ = false := h1.tok.own.f 1
 have hR1 : R < w1.heap.size := h1.tok.own.lt
 have hR2 : R ≠ w1.heap.size := by omega
 have hR3 : w1.heap.size ≠ R := by omega
 have hw : IntKind.i64.wrap ((s.i : Int) + 1) = ((s.i + 1 : Nat) : Int) := wrap_in (by have := hE.len; omega)
 go_upto_region 9 with fail
 have hA := h1.tok.step (Below.refl _ _) (s.i + 1) (v := (s.i : Int) + 1) (by omega) (below_al (Below.refl _ _) (.cells #[.int .i64 1, .string ⟨#[104, 111, 108, 101]⟩, .int .i64 L, .int .i64 C] 107))
 have h2 := h1.adv hA
 have he2 := ((he.bel HB).adv hA)
 have hb2 := Lib.hid ((HB.mono (Nat.le_of_lt h.tok.own.lt)).trans (hA.belowR (Nat.le_of_lt hR1)))
 generalize hWW : World.alloc _ _ = WW at *
 have q60 : True := trivial
 clear h1 hA HB HN x11 x1 x21 fr hR1 hR2 hR3 hWW he
 replace he2 := Lib.hid he2
 have hRB : R < WW.heap.size := h2.tok.own.lt
 have hRB2 : R ≠ WW.heap.size := by omega
 obtain ⟨vo, cp, hvb, hcp, -⟩ := h2.vals.holes.view (encK_len 6)
 obtain ⟨nb, hnb⟩ : ∃ nb, nb = s.d.holes.length := ⟨_, rfl⟩
 have hvb : p.vh = .slice vo nb cp := by rw [hnb]; exact hvb
 have y3 : WW.cell? ⟨R, 4, none⟩ = some (.slice vo nb cp) := by
  have q := h2.tok.own.c 4
  rw [← hvb]
  exact q.trans (by simp [rdC, encK, List.range, List.range.loop])
 have HBx : Hid (∀ w', EnvR R w' → TokR w' R 139 (rdC { s with i := s.i + 1 } p) ts (s.i + 1) → Calls Tryz.prog 117 #[.pointer (some ⟨R, 0, none⟩)] w' (TwoE ts R 139 (rdC { s with i := s.i + 1 } p) w' intsV Res)) := Lib.hid fun w' he ht => by
  rw [← hRes]
  exact box_any w' R _ _ ts (s.i + 1) ht hj hE he
 have h2d : Hid (RdW WW.drew R ts { s with i := s.i + 1 } p) := Lib.hid (h2.bel (below_drew (Below.refl _ _)))
 have he2d : Hid (EnvR R WW.drew) := Lib.hid (he2.out.bel (below_drew (Below.refl _ _)))
 have hbd := Lib.hid (hb2.out.trans ((below_drew (Below.refl WW.heap.size WW)).mono (Nat.le_of_lt h2.tok.own.lt)))
 have hdz : WW.drew.heap.size = WW.heap.size := rfl
 replace hdz := Lib.hid hdz
 replace h2 := Lib.hid h2
 replace h := Lib.hid h
 replace hRes := Lib.hid hRes
 cases Res with
 | error j =>
  have hX : Hid (Rx = .error j) := Lib.hid (by rw [← hRx.out, body_hole, hRes.out])
  replace hnb := Lib.hid hnb
  replace hvb := Lib.hid hvb
  clear hcp hm
  go_wp2_with fail
  go_region_law (first | (go_simp; go_at_call 117; refine (HBx.out _ he2d.out h2d.out.tok).mono ?_; rintro e w2 ⟨he, hW⟩; have hbe := hbd.out.trans (hW.belowR (Nat.le_of_lt h2d.out.tok.own.lt)); subst he; refine idle (P := Tryz.prog) (a := { tmps := #[], defers := [] }) (w := w2) ?_ ?_; focus (unfold panE; go_wp2_with fail; exact ⟨rfl, by rw [hX.out]; exact OthE.bad rfl hbe⟩)))
  all_goals trivial
 | ok q =>
  obtain ⟨n, j⟩ := q
  have hjl : j < ts.length := nums_lt hE 6 _ hj hRes.out
  obtain ⟨n0, n1, n2, n3, n4, n5, rfl⟩ := six (nums_len ts 6 _ hRes.out)
  obtain ⟨i0, hi0, hz0, hz1, hz2⟩ := info_parts infoBox
  have HB2 : Hid (∀ w', EnvR R w' → TokR w' R 139 (rdC { s with i := s.i + 1 } p) ts (s.i + 1) → Calls Tryz.prog 117 #[.pointer (some ⟨R, 0, none⟩)] w' fun e w2 => e = .returned (.agg #[.int .i64 n0, .int .i64 n1, .int .i64 n2, .int .i64 n3, .int .i64 n4, .int .i64 n5]) ∧ Adv ts R 139 (rdC { s with i := s.i + 1 } p) w' j w2) := HBx
  have hAft : Hid (∀ w2, Adv ts R 139 (rdC { s with i := s.i + 1 } p) WW.drew j w2 → Hid (RdW w2 R ts { s with i := j } p) ∧ Hid (Below R WW.drew w2) ∧ R < w2.heap.size ∧ R ≠ w2.heap.size ∧ w2.cell? ⟨R, 4, none⟩ = some (.slice vo nb cp) ∧ w2.ownsRow 0 60 6 (.slice vo nb cp) nb (s.d.holes.flatMap (encK 6))) := Lib.hid fun w2 hA2 => by
   have h3 := h2d.out.adv hA2
   have hRl := h3.tok.own.lt
   refine ⟨Lib.hid h3, Lib.hid (hA2.belowR (Nat.le_of_lt h2d.out.tok.own.lt)), hRl, by omega, ?_, ?_⟩
   ·rw [h3.tok.own.c, ← hvb]
    simp [rdC, encK, List.range, List.range.loop]
   ·have q := h3.vals.holes
    unfold Row at q
    rw [← hvb, hnb]
    exact q
  have hPu : Hid (∀ w2 w5 g5 c5, RdW w2 R ts { s with i := j } p → w5.ownsRow 0 60 6 (.slice g5 (nb + 1) c5) (nb + 1) (s.d.holes.flatMap (encK 6) ++ [.int .i64 n0, .int .i64 n1, .int .i64 n2, .int .i64 n3, .int .i64 n4, .int .i64 n5]) → (w2.alloc (.cells #[.int .i64 n0, .int .i64 n1, .int .i64 n2, .int .i64 n3, .int .i64 n4, .int .i64 n5] 60)).grownBy w5 (Value.slice vo nb cp).ownBlock → ((Value.slice g5 (nb + 1) c5).ownBlock = (Value.slice vo nb cp).ownBlock ∨ (Value.slice g5 (nb + 1) c5).ownBlock = some (w2.alloc (.cells #[.int .i64 n0, .int .i64 n1, .int .i64 n2, .int .i64 n3, .int .i64 n4, .int .i64 n5] 60)).heap.size) →
    w5.cell? ⟨R, 4, none⟩ = some (.slice vo nb cp) ∧ w5.frozen? ⟨R, 4, none⟩ = false ∧ Hid (RdW (w5.setCell ⟨R, 4, none⟩ (.slice g5 (nb + 1) c5)) R ts { s with i := j, d := { s.d with holes := s.d.holes ++ [[n0, n1, n2, n3, n4, n5]] } } { p with vh := .slice g5 (nb + 1) c5 }) ∧ Hid (Below R w2 (w5.setCell ⟨R, 4, none⟩ (.slice g5 (nb + 1) c5)))) := Lib.hid fun w2 w5 g5 c5 h3 ho5 hg5 hloc => by
   obtain ⟨hat5, hS5, hb5⟩ := h3.pushH (v' := .slice g5 (nb + 1) c5) (n := [n0, n1, n2, n3, n4, n5]) (by rw [hvb]; exact grown_after (w := w2) (below_al (Below.refl _ _) _) hg5) (by rw [← hnb]; exact ho5) (m := (w2.alloc (.cells #[.int .i64 n0, .int .i64 n1, .int .i64 n2, .int .i64 n3, .int .i64 n4, .int .i64 n5] 60)).heap.size) (by simp) (by rw [hvb]; exact hloc)
   refine ⟨?_, hat5.f 4, Lib.hid hS5, Lib.hid hb5⟩
   rw [hat5.c 4, ← hvb]
   simp [rdC, encK, List.range, List.range.loop]
  have hnb6 : nb ≤ 1000000 := by rw [hnb]; unfold manyD at hm; omega
  have HEn : Hid (∀ w' p', RdW w' R ts { s with i := j, d := { s.d with holes := s.d.holes ++ [[n0, n1, n2, n3, n4, n5]] } } p' → Calls Tryz.prog 95 #[.pointer (some ⟨R, 0, none⟩)] w' (EndE ts R w' { s with i := j, d := { s.d with holes := s.d.holes ++ [[n0, n1, n2, n3, n4, n5]] } } p' (endT ts j))) := Lib.hid fun w' p' h' => end_rd w' R ts _ p' h' hjl hE
  have hFi : Hid (Rx = endRes { s with i := j, d := { s.d with holes := s.d.holes ++ [[n0, n1, n2, n3, n4, n5]] } } (endT ts j)) := Lib.hid (by rw [← hRx.out, body_hole, hRes.out]; rfl)
  generalize endT ts j = Ee at *
  replace hnb := Lib.hid hnb
  replace hvb := Lib.hid hvb
  clear hcp hm
  go_wp2_with fail
  go_region_law (first
   | (go_simp; go_at_call 117; refine (HB2.out _ he2d.out h2d.out.tok).mono ?_; rintro e w2 ⟨rfl, hA2⟩; obtain ⟨h3, hbA, hRl2, hRn2, y3w, ho3⟩ := hAft.out w2 hA2; clear hA2)
   | (refine step_append_at _ rfl (.tmp 101) (.tmp 106) 22 rfl 0 60 i0 (.agg #[.int .i64 0, .int .i64 0, .int .i64 0, .int .i64 0, .int .i64 0, .int .i64 0]) 6 48 (by kernel_rfl) hi0 hz0 hz1 hz2 rfl (by decide) (.slice vo nb cp) nb (s.d.holes.flatMap (encK 6)) (by simp [Act.eval]) (World.ownsRow.alloc ho3 _) ⟨w2.heap.size, 0, none⟩ 1 1 [.int .i64 n0, .int .i64 n1, .int .i64 n2, .int .i64 n3, .int .i64 n4, .int .i64 n5] (by simp [Act.eval]) rfl (new_at (At.new _ _ _)) (by intro u hu; simp at hu; rcases hu with rfl | rfl | rfl | rfl | rfl | rfl <;> rfl) (by unfold maxLen; omega) (by omega) (by simp) ?_; intro g5 c5 w5 ho5 hg5 hloc; obtain ⟨y4, f4, hS5, hb5⟩ := hPu.out w2 w5 g5 c5 h3.out ho5 hg5 hloc; clear ho5 hg5 hloc))
  all_goals
   go_wp2_with fail
   refine (HEn.out _ _ hS5.out).mono ?_
   intro e w6 hq
   have b7 := hbd.out.trans (hbA.out.trans hb5.out)
   cases Ee with
   | error j2 =>
    have hf := OthE.bad hq.1 (b7.trans hq.2)
    obtain ⟨he, -⟩ := hq
    subst he
    unfold panE
    go_wp2_with fail
    refine ⟨rfl, ?_⟩
    rw [hFi.out]
    exact hf
   | ok j2 =>
    have hf : OthE ts R w (endRes _ (.ok j2)) e w6 := OthE.fin hq b7
    obtain ⟨rfl, -⟩ := hq
    go_wp2_with fail
    go_end0
    rw [hFi.out]
    exact hf
end Go.Proofs.YtccakklnbhcbdaaGreatDoor
