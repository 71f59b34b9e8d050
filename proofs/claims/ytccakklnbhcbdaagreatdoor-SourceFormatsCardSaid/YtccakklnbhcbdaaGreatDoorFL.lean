import Derived.Test.YtccakklnbhcbdaaGreatDoorFQg
set_option linter.unusedVariables false
namespace Go.Proofs.YtccakklnbhcbdaaGreatDoor
open Go.ChangeShapes Go.WideShapes Go.ChangeAt Go.RowKit
set_option maxRecDepth 100000 in
set_option maxHeartbeats 1000000 in
theorem other_lap (w : World) (R : Nat) (ts : List Tk) (s : Rd) (p : PV) (h : RdW w R ts s p) (hi : s.i < ts.length) (hE : Ends ts) (he : EnvR R w) (hm : manyD s.d ≤ 1000000) (hk : (tk ts s.i).kind = 1) (hx : (tk ts s.i).text = wLap) :
  Calls Tryz.prog 96 #[.pointer (some ⟨R, 0, none⟩)] w (OthE ts R w (bodyT ts wLap s)) := by
 obtain ⟨Rx, hRx⟩ : ∃ r, bodyT ts wLap s = r := ⟨_, rfl⟩
 rw [hRx]
 replace hRx := Lib.hid hRx
 obtain ⟨Res, hRes⟩ : ∃ r, numsT ts 2 (s.i + 1) = r := ⟨_, rfl⟩
 have hj : s.i + 1 < ts.length := hE.more s.i hi (by rw [hk]; decide)
 have HN := nextH (R := R) (t := 139) s.i hi
 obtain ⟨XS, hX, eT⟩ := tkV_mk (tk ts s.i)
 rw [eT, hk] at HN
 rw [hx, show wLap = [108, 97, 112] from rfl] at hX
 subst hX
 generalize (tk ts s.i).line = L at HN
 generalize (tk ts s.i).col = C at HN
 clear eT hk hx
 obtain ⟨g0, g1, g2, g3, g4, g8, g9, g10, g11, g21, gz⟩ := rdC_get s p
 obtain ⟨dao, dcap, hvd, -⟩ := h.vals.dems.view encD_len
 obtain ⟨nd, hnd⟩ : ∃ nd, nd = (s.d.dems.zip p.ds).length := ⟨_, rfl⟩
 rw [← hnd] at hvd
 replace hnd := Lib.hid hnd
 go_enter Tryz.func96, Tryz.ntmps96
 go_wp2_with fail
 refine (HN.out w _ h.tok).mono ?_
 rintro e w1 ⟨rfl, HB⟩
 have h1 := h.bel HB
 have x11 : w1.cell? ⟨R, 11, none⟩ = some (.slice dao nd dcap) := by rw [h1.tok.own.c, g11, hvd]
 have x1 : w1.cell? ⟨R, 1, none⟩ = some (.int .i64 (s.i : Int)) := by rw [h1.tok.own.c, g1]
 have x21 : w1.cell? ⟨R, 21, none⟩ = some (.bool s.ruled) := by rw [h1.tok.own.c, g21]
 have fr : w1.frozen? ⟨R, 1, none⟩ = false := h1.tok.own.f 1
 have hR1 : R < w1.heap.size := h1.tok.own.lt
 have hR2 : R ≠ w1.heap.size := by omega
 have hR3 : w1.heap.size ≠ R := by omega
 have hw : IntKind.i64.wrap ((s.i : Int) + 1) = ((s.i + 1 : Nat) : Int) := wrap_in (by have := hE.len; omega)
 go_upto_region 9 with fail
 have hA := h1.tok.step (Below.refl _ _) (s.i + 1) (v := (s.i : Int) + 1) (by omega) (below_al (Below.refl _ _) (.cells #[.int .i64 1, .string ⟨#[108, 97, 112]⟩, .int .i64 L, .int .i64 C] 107))
 have h2 := h1.adv hA
 have he2 := ((he.bel HB).adv hA)
 have hb2 := Lib.hid ((HB.mono (Nat.le_of_lt h.tok.own.lt)).trans (hA.belowR (Nat.le_of_lt hR1)))
 generalize hWW : World.alloc _ _ = WW at *
 have q60 : True := trivial
 clear h1 hA HB HN x11 x1 x21 fr hR1 hR2 hR3 hWW he
 replace he2 := Lib.hid he2
 go_wp2_with fail
 generalize hW3 : World.alloc (World.alloc _ _) _ = W3
 have kQ : At W3 WW.heap.size 84 #[.int .i64 0, .int .i64 0] := by rw [← hW3]; repeat (first | (with_reducible apply At.new'; (focus (simp; done))) | with_reducible apply At.al | with_reducible apply At.drw | with_reducible apply At.dr)
 have kP : At W3 (WW.heap.size + 1) 143 #[.pointer (some ⟨WW.heap.size, 0, none⟩), .pointer (some ⟨WW.heap.size, 1, none⟩)] := by rw [← hW3]; repeat (first | (with_reducible apply At.new'; (focus (simp; done))) | with_reducible apply At.al | with_reducible apply At.drw | with_reducible apply At.dr)
 have HB3 : Below WW.heap.size WW W3 := by rw [← hW3]; repeat (first | with_reducible assumption | with_reducible exact Below.refl _ _ | with_reducible refine below_al ?_ _ | with_reducible refine below_drew ?_ | with_reducible refine below_drewN ?_ _ | with_reducible refine below_set ?_ (by dsimp only; omega) _)
 clear hW3
 have hRB : R < WW.heap.size := h2.tok.own.lt
 refine (numbers_any (Q := WW.heap.size) (o := 0) W3 R _ _ ts (s.i + 1) (h2.tok.bel HB3) hj hE (he2.out.bel HB3) (WW.heap.size + 1) 2 2 _ _ kP (fun c hc => ?_) (by omega) (by omega) _ _ kQ (by simp) (by omega) (fun e => absurd e (by omega)) (Nat.le_refl _) (by omega) p.vt (rdC_get _ _).1).mono ?_
 ·have hcc : c = 0 ∨ c = 1 := by omega
  rcases hcc with rfl | rfl <;> rfl
 rw [hRes]
 intro e w3 hN
 cases Res with
 | error j =>
  obtain ⟨rfl, hW⟩ := hN.pan HB3 (Nat.le_refl _)
  have hbe := hb2.out.trans (hW.belowR (Nat.le_of_lt hRB))
  have hX : Hid (Rx = .error j) := Lib.hid (by rw [← hRx.out, body_lap, hRes])
  unfold panE
  clear hN
  go_wp2_with fail
  exact ⟨rfl, by rw [hX.out]; exact OthE.bad rfl hbe⟩
 | ok q =>
  obtain ⟨n, j⟩ := q
  have hjl : j < ts.length := nums_lt hE 2 _ hj hRes
  have hA := hN.adv h2.tok HB3 (Nat.le_refl _)
  have h3 := h2.adv hA
  have hb3 := Lib.hid (hb2.out.trans (hA.belowR (Nat.le_of_lt hRB)))
  obtain ⟨rfl, -, hl, hWr⟩ := hN
  have hnl : n.length = 2 := nums_len ts 2 _ hRes
  obtain ⟨a0, a1, rfl⟩ := two hnl
  have q0 : w3.drew.cell? ⟨WW.heap.size, 0, none⟩ = some (.int .i64 a0) := hl 0 (by simp)
  have q0w : w3.cell? ⟨WW.heap.size, 0, none⟩ = some (.int .i64 a0) := q0
  have q1 : w3.drew.cell? ⟨WW.heap.size, 1, none⟩ = some (.int .i64 a1) := hl 1 (by simp)
  have q1w : w3.cell? ⟨WW.heap.size, 1, none⟩ = some (.int .i64 a1) := q1
  have hQw0 : WW.heap.size < w3.heap.size := Nat.lt_of_lt_of_le kQ.lt hWr.size
  clear hl hWr hA kQ kP HB3
  obtain ⟨vo, cp, hvb, hcp, -⟩ := h3.vals.laps.view (encK_len 2)
  obtain ⟨nb, hnb⟩ : ∃ nb, nb = s.d.laps.length := ⟨_, rfl⟩
  have hvb : p.vl = .slice vo nb cp := by rw [hnb]; exact hvb
  have y3 : w3.drew.cell? ⟨R, 10, none⟩ = some (.slice vo nb cp) := by
   have q := h3.tok.own.c 10
   rw [← hvb]
   exact q.trans (by simp [rdC, encK, List.range, List.range.loop])
  have y3w : w3.cell? ⟨R, 10, none⟩ = some (.slice vo nb cp) := y3
  have h3d := Lib.hid (h3.bel (below_drew (Below.refl _ _)))
  have hbd := Lib.hid (hb3.out.trans ((below_drew (Below.refl w3.heap.size w3)).mono (Nat.le_of_lt h3.tok.own.lt)))
  have ho3 : w3.drew.ownsRow 0 84 2 (.slice vo nb cp) nb (s.d.laps.flatMap (encK 2)) := by
   have q := h3d.out.vals.laps
   unfold Row at q
   rw [← hvb, hnb]
   exact q
  have hnb6 : nb ≤ 1000000 := by rw [hnb]; unfold manyD at hm; omega
  have hRw : R < w3.drew.heap.size := h3d.out.tok.own.lt
  have hRw2 : R ≠ w3.drew.heap.size := by omega
  have hRw3 : R < w3.heap.size := hRw
  have hRw4 : R ≠ w3.heap.size := hRw2
  have hQw : WW.heap.size < w3.heap.size := hQw0
  have hQw2 : WW.heap.size ≠ w3.heap.size := by omega
  obtain ⟨i0, hi0, hz0, hz1, hz2⟩ := info_parts infoJoint
  replace ho3 := Lib.hid ho3
  have hne : (encK 2) [a0, a1] = [.int .i64 a0, .int .i64 a1] := by rfl
  have hPu : Hid (∀ w5 g5 c5, w5.ownsRow 0 84 2 (.slice g5 (nb + 1) c5) (nb + 1) (s.d.laps.flatMap (encK 2) ++ [.int .i64 a0, .int .i64 a1]) → (w3.drew.alloc (.cells #[.int .i64 a0, .int .i64 a1] 84)).grownBy w5 (Value.slice vo nb cp).ownBlock → ((Value.slice g5 (nb + 1) c5).ownBlock = (Value.slice vo nb cp).ownBlock ∨ (Value.slice g5 (nb + 1) c5).ownBlock = some (w3.drew.alloc (.cells #[.int .i64 a0, .int .i64 a1] 84)).heap.size) →
    w5.cell? ⟨R, 10, none⟩ = some (.slice vo nb cp) ∧ w5.frozen? ⟨R, 10, none⟩ = false ∧ Hid (RdW (w5.setCell ⟨R, 10, none⟩ (.slice g5 (nb + 1) c5)) R ts { s with i := j, d := { s.d with laps := s.d.laps ++ [[a0, a1]] } } { p with vl := .slice g5 (nb + 1) c5 }) ∧ Hid (Below R w3.drew (w5.setCell ⟨R, 10, none⟩ (.slice g5 (nb + 1) c5)))) := Lib.hid fun w5 g5 c5 ho5 hg5 hloc => by
   obtain ⟨hat5, hS5, hb5⟩ := h3d.out.pushL (v' := .slice g5 (nb + 1) c5) (n := [a0, a1]) (by rw [hvb]; exact grown_after (w := w3.drew) (below_al (Below.refl _ _) _) hg5) (by rw [← hnb, hne]; exact ho5) (m := (w3.drew.alloc (.cells #[.int .i64 a0, .int .i64 a1] 84)).heap.size) (by simp) (by rw [hvb]; exact hloc)
   refine ⟨?_, hat5.f 10, Lib.hid hS5, Lib.hid hb5⟩
   rw [hat5.c 10, ← hvb]
   simp [rdC, encK, List.range, List.range.loop]
  have HEn : Hid (∀ w' p', RdW w' R ts { s with i := j, d := { s.d with laps := s.d.laps ++ [[a0, a1]] } } p' → Calls Tryz.prog 95 #[.pointer (some ⟨R, 0, none⟩)] w' (EndE ts R w' { s with i := j, d := { s.d with laps := s.d.laps ++ [[a0, a1]] } } p' (endT ts j))) := Lib.hid fun w' p' h' => end_rd w' R ts _ p' h' hjl hE
  have hFi : Hid (Rx = endRes { s with i := j, d := { s.d with laps := s.d.laps ++ [[a0, a1]] } } (endT ts j)) := Lib.hid (by rw [← hRx.out, body_lap, hRes]; rfl)
  generalize endT ts j = Ee at *
  replace hnb := Lib.hid hnb
  replace hvb := Lib.hid hvb
  replace h3 := Lib.hid h3
  replace h2 := Lib.hid h2
  replace h := Lib.hid h
  clear hm hcp hRes hRB hnl hne
  go_wp2_with fail
  go_region_law (refine step_append_at _ rfl (.tmp 208) (.tmp 210) 29 rfl 0 84 i0 _ 2 16 (by kernel_rfl) hi0 hz0 hz1 hz2 rfl (by decide) (.slice vo nb cp) nb (s.d.laps.flatMap (encK 2)) (by simp [Act.eval]) (World.ownsRow.alloc ho3.out _) ⟨w3.drew.heap.size, 0, none⟩ 1 1 [.int .i64 a0, .int .i64 a1] (by simp [Act.eval]) rfl (new_at (At.new _ _ _)) (by intro u hu; simp at hu; rcases hu with rfl | rfl <;> rfl) (by unfold maxLen; omega) (by omega) (by simp) ?_; intro g5 c5 w5 ho5 hg5 hloc; obtain ⟨y4, f4, hS5, hb5⟩ := hPu.out w5 g5 c5 ho5 hg5 hloc; clear ho5 hg5 hloc)
  all_goals
   go_wp2_with fail
   refine (HEn.out _ _ hS5.out).mono ?_
   intro e w6 hq
   have b7 := hbd.out.trans hb5.out
   cases Ee with
   | error j2 =>
    have hf := OthE.bad hq.1 (b7.trans hq.2)
    obtain ⟨he, -⟩ := hq
    subst he
    unfold panE
    go_wp2_with fail
    refine ⟨rfl, ?_⟩
    rw [hFi.out]
    exact hf
   | ok j2 =>
    have hf : OthE ts R w (endRes _ (.ok j2)) e w6 := OthE.fin hq b7
    obtain ⟨rfl, -⟩ := hq
    go_wp2_with fail
    go_end0
    rw [hFi.out]
    exact hf
end Go.Proofs.YtccakklnbhcbdaaGreatDoor
set_option linter.unusedVariables false
namespace Go.Proofs.YtccakklnbhcbdaaGreatDoor
open Go.ChangeShapes Go.WideShapes Go.ChangeAt Go.RowKit
set_option maxRecDepth 100000 in
set_option maxHeartbeats 1000000 in
theorem other_run (w : World) (R : Nat) (ts : List Tk) (s : Rd) (p : PV) (h : RdW w R ts s p) (hi : s.i < ts.length) (hE : Ends ts) (he : EnvR R w) (hm : manyD s.d ≤ 1000000) (hk : (tk ts s.i).kind = 1) (hx : (tk ts s.i).text = wRun) :
  Calls Tryz.prog 96 #[.pointer (some ⟨R, 0, none⟩)] w (OthE ts R w (bodyT ts wRun s)) := by
 obtain ⟨Rx, hRx⟩ : ∃ r, bodyT ts wRun s = r := ⟨_, rfl⟩
 rw [hRx]
 replace hRx := Lib.hid hRx
 obtain ⟨Rn, hRn⟩ : ∃ r, nameT ts (s.i + 1) = r := ⟨_, rfl⟩
 have hj : s.i + 1 < ts.length := hE.more s.i hi (by rw [hk]; decide)
 have HN := nextH (R := R) (t := 139) s.i hi
 obtain ⟨XS, hX, eT⟩ := tkV_mk (tk ts s.i)
 rw [eT, hk] at HN
 rw [hx, show wRun = [114, 117, 110] from rfl] at hX
 subst hX
 generalize (tk ts s.i).line = L at HN
 generalize (tk ts s.i).col = C at HN
 clear eT hk hx
 obtain ⟨g0, g1, g2, g3, g4, g8, g9, g10, g11, g21, gz⟩ := rdC_get s p
 obtain ⟨dao, dcap, hvd, -⟩ := h.vals.dems.view encD_len
 obtain ⟨nd, hnd⟩ : ∃ nd, nd = (s.d.dems.zip p.ds).length := ⟨_, rfl⟩
 rw [← hnd] at hvd
 replace hnd := Lib.hid hnd
 go_enter Tryz.func96, Tryz.ntmps96
 go_wp2_with fail
 refine (HN.out w _ h.tok).mono ?_
 rintro e w1 ⟨rfl, HB⟩
 have h1 := h.bel HB
 have x11 : w1.cell? ⟨R, 11, none⟩ = some (.slice dao nd dcap) := by rw [h1.tok.own.c, g11, hvd]
 have x1 : w1.cell? ⟨R, 1, none⟩ = some (.int .i64 (s.i : Int)) := by rw [h1.tok.own.c, g1]
 have x21 : w1.cell? ⟨R, 21, none⟩ = some (.bool s.ruled) := by rw [h1.tok.own.c, g21]
 have fr : w1.frozen? ⟨R, 1, none⟩ = false := h1.tok.own.f 1
 have hR1 : R < w1.heap.size := h1.tok.own.lt
 have hR2 : R ≠ w1.heap.size := by omega
 have hR3 : w1.heap.size ≠ R := by omega
 have hw : IntKind.i64.wrap ((s.i : Int) + 1) = ((s.i + 1 : Nat) : Int) := wrap_in (by have := hE.len; omega)
 go_upto_region 9 with fail
 have hA := h1.tok.step (Below.refl _ _) (s.i + 1) (v := (s.i : Int) + 1) (by omega) (below_al (Below.refl _ _) (.cells #[.int .i64 1, .string ⟨#[114, 117, 110]⟩, .int .i64 L, .int .i64 C] 107))
 have h2 := h1.adv hA
 have he2 := ((he.bel HB).adv hA)
 have hb2 := Lib.hid ((HB.mono (Nat.le_of_lt h.tok.own.lt)).trans (hA.belowR (Nat.le_of_lt hR1)))
 generalize hWW : World.alloc _ _ = WW at *
 have q60 : True := trivial
 clear h1 hA HB HN x11 x1 x21 fr hR1 hR2 hR3 hWW he
 replace he2 := Lib.hid he2
 have HNm := Lib.hid (name_any WW R _ _ ts (s.i + 1) h2.tok hj hE)
 rw [hRn] at HNm
 replace hRn := Lib.hid hRn
 go_wp2_with fail
 refine HNm.out.mono ?_
 intro e wn hq
 cases Rn with
 | error j =>
  obtain ⟨he, hW⟩ := hq
  have hbe := hb2.out.trans (hW.belowR (Nat.le_of_lt h2.tok.own.lt))
  have hX : Hid (Rx = .error j) := Lib.hid (by rw [← hRx.out, body_run, hRn.out])
  subst he
  unfold panE
  go_wp2_with fail
  exact ⟨rfl, by rw [hX.out]; exact OthE.bad rfl hbe⟩
 | ok q =>
  obtain ⟨nm, i1⟩ := q
  obtain ⟨NM, hNM⟩ : ∃ NM : ByteArray, NM = ⟨nm.toArray⟩ := ⟨_, rfl⟩
  have hq1 : e = .returned (.string NM) := by rw [hNM]; exact hq.1
  replace hNM := Lib.hid hNM
  have hA0 := hq.2
  clear hq
  subst hq1
  have hi1 := (name_lt hE hj hRn.out).2
  have hbn := Lib.hid (hb2.out.trans (hA0.belowR (Nat.le_of_lt h2.tok.own.lt)))
  have hen := Lib.hid (he2.out.adv hA0)
  replace h2 := h2.adv hA0
  clear hA0 HNm
  obtain ⟨Res, hRes⟩ : ∃ r, numsT ts 9 i1 = r := ⟨_, rfl⟩
  go_wp2_with fail
  generalize hW3 : World.alloc (World.alloc _ _) _ = W3
  have kQ : At W3 wn.heap.size 81 #[.string NM, .int .i64 0, .int .i64 0, .int .i64 0, .int .i64 0, .int .i64 0, .int .i64 0, .int .i64 0, .int .i64 0, .int .i64 0] := by rw [← hW3]; repeat (first | (with_reducible apply At.new'; (focus (simp; done))) | with_reducible apply At.al | with_reducible apply At.drw | with_reducible apply At.dr)
  have kP : At W3 (wn.heap.size + 1) 143 #[.pointer (some ⟨wn.heap.size, 1, none⟩), .pointer (some ⟨wn.heap.size, 2, none⟩), .pointer (some ⟨wn.heap.size, 3, none⟩), .pointer (some ⟨wn.heap.size, 4, none⟩), .pointer (some ⟨wn.heap.size, 5, none⟩), .pointer (some ⟨wn.heap.size, 6, none⟩), .pointer (some ⟨wn.heap.size, 7, none⟩), .pointer (some ⟨wn.heap.size, 8, none⟩), .pointer (some ⟨wn.heap.size, 9, none⟩)] := by rw [← hW3]; repeat (first | (with_reducible apply At.new'; (focus (simp; done))) | with_reducible apply At.al | with_reducible apply At.drw | with_reducible apply At.dr)
  have HB3 : Below wn.heap.size wn W3 := by rw [← hW3]; repeat (first | with_reducible assumption | with_reducible exact Below.refl _ _ | with_reducible refine below_al ?_ _ | with_reducible refine below_drew ?_ | with_reducible refine below_drewN ?_ _ | with_reducible refine below_set ?_ (by dsimp only; omega) _)
  clear hW3
  have hRB : R < wn.heap.size := h2.tok.own.lt
  refine (numbers_any (Q := wn.heap.size) (o := 1) W3 R _ _ ts (i1) (h2.tok.bel HB3) hi1 hE (hen.out.bel HB3) (wn.heap.size + 1) 9 9 _ _ kP (fun c hc => ?_) (by omega) (by omega) _ _ kQ (by simp) (by omega) (fun e => absurd e (by omega)) (Nat.le_refl _) (by omega) p.vt (rdC_get _ _).1).mono ?_
  ·have hcc : c = 0 ∨ c = 1 ∨ c = 2 ∨ c = 3 ∨ c = 4 ∨ c = 5 ∨ c = 6 ∨ c = 7 ∨ c = 8 := by omega
   rcases hcc with rfl | rfl | rfl | rfl | rfl | rfl | rfl | rfl | rfl <;> rfl
  rw [hRes]
  intro e w3 hN
  cases Res with
  | error j =>
   obtain ⟨rfl, hW⟩ := hN.pan HB3 (Nat.le_refl _)
   have hbe := hbn.out.trans (hW.belowR (Nat.le_of_lt hRB))
   have hX : Hid (Rx = .error j) := Lib.hid (by rw [← hRx.out, body_run, hRn.out]; dsimp only; rw [hRes])
   unfold panE
   clear hN
   go_wp2_with fail
   exact ⟨rfl, by rw [hX.out]; exact OthE.bad rfl hbe⟩
  | ok q =>
   obtain ⟨n, j⟩ := q
   have hjl : j < ts.length := nums_lt hE 9 _ hi1 hRes
   have hA := hN.adv h2.tok HB3 (Nat.le_refl _)
   have h3 := h2.adv hA
   have hb3 := Lib.hid (hbn.out.trans (hA.belowR (Nat.le_of_lt hRB)))
   obtain ⟨rfl, -, hl, hWr⟩ := hN
   have hnl : n.length = 9 := nums_len ts 9 _ hRes
   obtain ⟨a0, a1, a2, a3, a4, a5, a6, a7, a8, rfl⟩ := nine hnl
   have q0 : w3.drew.cell? ⟨wn.heap.size, 0, none⟩ = some (.string NM) := (Wrt.cell hWr kQ (nps_no (by omega) (by omega))).trans (kQ.c 0)
   have q0w : w3.cell? ⟨wn.heap.size, 0, none⟩ = some (.string NM) := q0
   have q1 : w3.drew.cell? ⟨wn.heap.size, 1, none⟩ = some (.int .i64 a0) := hl 0 (by simp)
   have q1w : w3.cell? ⟨wn.heap.size, 1, none⟩ = some (.int .i64 a0) := q1
   have q2 : w3.drew.cell? ⟨wn.heap.size, 2, none⟩ = some (.int .i64 a1) := hl 1 (by simp)
   have q2w : w3.cell? ⟨wn.heap.size, 2, none⟩ = some (.int .i64 a1) := q2
   have q3 : w3.drew.cell? ⟨wn.heap.size, 3, none⟩ = some (.int .i64 a2) := hl 2 (by simp)
   have q3w : w3.cell? ⟨wn.heap.size, 3, none⟩ = some (.int .i64 a2) := q3
   have q4 : w3.drew.cell? ⟨wn.heap.size, 4, none⟩ = some (.int .i64 a3) := hl 3 (by simp)
   have q4w : w3.cell? ⟨wn.heap.size, 4, none⟩ = some (.int .i64 a3) := q4
   have q5 : w3.drew.cell? ⟨wn.heap.size, 5, none⟩ = some (.int .i64 a4) := hl 4 (by simp)
   have q5w : w3.cell? ⟨wn.heap.size, 5, none⟩ = some (.int .i64 a4) := q5
   have q6 : w3.drew.cell? ⟨wn.heap.size, 6, none⟩ = some (.int .i64 a5) := hl 5 (by simp)
   have q6w : w3.cell? ⟨wn.heap.size, 6, none⟩ = some (.int .i64 a5) := q6
   have q7 : w3.drew.cell? ⟨wn.heap.size, 7, none⟩ = some (.int .i64 a6) := hl 6 (by simp)
   have q7w : w3.cell? ⟨wn.heap.size, 7, none⟩ = some (.int .i64 a6) := q7
   have q8 : w3.drew.cell? ⟨wn.heap.size, 8, none⟩ = some (.int .i64 a7) := hl 7 (by simp)
   have q8w : w3.cell? ⟨wn.heap.size, 8, none⟩ = some (.int .i64 a7) := q8
   have q9 : w3.drew.cell? ⟨wn.heap.size, 9, none⟩ = some (.int .i64 a8) := hl 8 (by simp)
   have q9w : w3.cell? ⟨wn.heap.size, 9, none⟩ = some (.int .i64 a8) := q9
   have hQw0 : wn.heap.size < w3.heap.size := Nat.lt_of_lt_of_le kQ.lt hWr.size
   clear hl hWr hA kQ kP HB3
   obtain ⟨vo, cp, hvb, hcp, -⟩ := h3.vals.runs.view (encU_len)
   obtain ⟨nb, hnb⟩ : ∃ nb, nb = s.d.runs.length := ⟨_, rfl⟩
   have hvb : p.vn = .slice vo nb cp := by rw [hnb]; exact hvb
   have y3 : w3.drew.cell? ⟨R, 9, none⟩ = some (.slice vo nb cp) := by
    have q := h3.tok.own.c 9
    rw [← hvb]
    exact q.trans (by simp [rdC, encK, List.range, List.range.loop])
   have y3w : w3.cell? ⟨R, 9, none⟩ = some (.slice vo nb cp) := y3
   have h3d := Lib.hid (h3.bel (below_drew (Below.refl _ _)))
   have hbd := Lib.hid (hb3.out.trans ((below_drew (Below.refl w3.heap.size w3)).mono (Nat.le_of_lt h3.tok.own.lt)))
   have ho3 : w3.drew.ownsRow 0 81 10 (.slice vo nb cp) nb (s.d.runs.flatMap encU) := by
    have q := h3d.out.vals.runs
    unfold Row at q
    rw [← hvb, hnb]
    exact q
   have hnb6 : nb ≤ 1000000 := by rw [hnb]; unfold manyD at hm; omega
   have hRw : R < w3.drew.heap.size := h3d.out.tok.own.lt
   have hRw2 : R ≠ w3.drew.heap.size := by omega
   have hRw3 : R < w3.heap.size := hRw
   have hRw4 : R ≠ w3.heap.size := hRw2
   have hQw : wn.heap.size < w3.heap.size := hQw0
   have hQw2 : wn.heap.size ≠ w3.heap.size := by omega
   obtain ⟨i0, hi0, hz0, hz1, hz2⟩ := info_parts infoRun
   replace ho3 := Lib.hid ho3
   have hne : encU (nm, [a0, a1, a2, a3, a4, a5, a6, a7, a8]) = [.string NM, .int .i64 a0, .int .i64 a1, .int .i64 a2, .int .i64 a3, .int .i64 a4, .int .i64 a5, .int .i64 a6, .int .i64 a7, .int .i64 a8] := by unfold encU; rw [hNM.out]; rfl
   have hPu : Hid (∀ w5 g5 c5, w5.ownsRow 0 81 10 (.slice g5 (nb + 1) c5) (nb + 1) (s.d.runs.flatMap encU ++ [.string NM, .int .i64 a0, .int .i64 a1, .int .i64 a2, .int .i64 a3, .int .i64 a4, .int .i64 a5, .int .i64 a6, .int .i64 a7, .int .i64 a8]) → (w3.drew.alloc (.cells #[.string NM, .int .i64 a0, .int .i64 a1, .int .i64 a2, .int .i64 a3, .int .i64 a4, .int .i64 a5, .int .i64 a6, .int .i64 a7, .int .i64 a8] 81)).grownBy w5 (Value.slice vo nb cp).ownBlock → ((Value.slice g5 (nb + 1) c5).ownBlock = (Value.slice vo nb cp).ownBlock ∨ (Value.slice g5 (nb + 1) c5).ownBlock = some (w3.drew.alloc (.cells #[.string NM, .int .i64 a0, .int .i64 a1, .int .i64 a2, .int .i64 a3, .int .i64 a4, .int .i64 a5, .int .i64 a6, .int .i64 a7, .int .i64 a8] 81)).heap.size) →
     w5.cell? ⟨R, 9, none⟩ = some (.slice vo nb cp) ∧ w5.frozen? ⟨R, 9, none⟩ = false ∧ Hid (RdW (w5.setCell ⟨R, 9, none⟩ (.slice g5 (nb + 1) c5)) R ts { s with i := j, d := { s.d with runs := s.d.runs ++ [(nm, [a0, a1, a2, a3, a4, a5, a6, a7, a8])] } } { p with vn := .slice g5 (nb + 1) c5 }) ∧ Hid (Below R w3.drew (w5.setCell ⟨R, 9, none⟩ (.slice g5 (nb + 1) c5)))) := Lib.hid fun w5 g5 c5 ho5 hg5 hloc => by
    obtain ⟨hat5, hS5, hb5⟩ := h3d.out.pushN (v' := .slice g5 (nb + 1) c5) (n := (nm, [a0, a1, a2, a3, a4, a5, a6, a7, a8])) (by rw [hvb]; exact grown_after (w := w3.drew) (below_al (Below.refl _ _) _) hg5) (by rw [← hnb, hne]; exact ho5) (m := (w3.drew.alloc (.cells #[.string NM, .int .i64 a0, .int .i64 a1, .int .i64 a2, .int .i64 a3, .int .i64 a4, .int .i64 a5, .int .i64 a6, .int .i64 a7, .int .i64 a8] 81)).heap.size) (by simp) (by rw [hvb]; exact hloc)
    refine ⟨?_, hat5.f 9, Lib.hid hS5, Lib.hid hb5⟩
    rw [hat5.c 9, ← hvb]
    simp [rdC, encK, List.range, List.range.loop]
   have HEn : Hid (∀ w' p', RdW w' R ts { s with i := j, d := { s.d with runs := s.d.runs ++ [(nm, [a0, a1, a2, a3, a4, a5, a6, a7, a8])] } } p' → Calls Tryz.prog 95 #[.pointer (some ⟨R, 0, none⟩)] w' (EndE ts R w' { s with i := j, d := { s.d with runs := s.d.runs ++ [(nm, [a0, a1, a2, a3, a4, a5, a6, a7, a8])] } } p' (endT ts j))) := Lib.hid fun w' p' h' => end_rd w' R ts _ p' h' hjl hE
   have hFi : Hid (Rx = endRes { s with i := j, d := { s.d with runs := s.d.runs ++ [(nm, [a0, a1, a2, a3, a4, a5, a6, a7, a8])] } } (endT ts j)) := Lib.hid (by rw [← hRx.out, body_run, hRn.out]; dsimp only; rw [hRes]; rfl)
   generalize endT ts j = Ee at *
   replace hnb := Lib.hid hnb
   replace hvb := Lib.hid hvb
   replace h3 := Lib.hid h3
   replace h2 := Lib.hid h2
   replace h := Lib.hid h
   clear hm hcp hRes hRB hnl hne
   go_wp2_with fail
   go_region_law (refine step_append_at _ rfl (.tmp 189) (.tmp 191) 28 rfl 0 81 i0 _ 10 88 (by kernel_rfl) hi0 hz0 hz1 hz2 rfl (by decide) (.slice vo nb cp) nb (s.d.runs.flatMap encU) (by simp [Act.eval]) (World.ownsRow.alloc ho3.out _) ⟨w3.drew.heap.size, 0, none⟩ 1 1 [.string NM, .int .i64 a0, .int .i64 a1, .int .i64 a2, .int .i64 a3, .int .i64 a4, .int .i64 a5, .int .i64 a6, .int .i64 a7, .int .i64 a8] (by simp [Act.eval]) rfl (new_at (At.new _ _ _)) (by intro u hu; simp at hu; rcases hu with rfl | rfl | rfl | rfl | rfl | rfl | rfl | rfl | rfl | rfl <;> rfl) (by unfold maxLen; omega) (by omega) (by simp) ?_; intro g5 c5 w5 ho5 hg5 hloc; obtain ⟨y4, f4, hS5, hb5⟩ := hPu.out w5 g5 c5 ho5 hg5 hloc; clear ho5 hg5 hloc)
   all_goals
    go_wp2_with fail
    refine (HEn.out _ _ hS5.out).mono ?_
    intro e w6 hq
    have b7 := hbd.out.trans hb5.out
    cases Ee with
    | error j2 =>
     have hf := OthE.bad hq.1 (b7.trans hq.2)
     obtain ⟨he, -⟩ := hq
     subst he
     unfold panE
     go_wp2_with fail
     refine ⟨rfl, ?_⟩
     rw [hFi.out]
     exact hf
    | ok j2 =>
     have hf : OthE ts R w (endRes _ (.ok j2)) e w6 := OthE.fin hq b7
     obtain ⟨rfl, -⟩ := hq
     go_wp2_with fail
     go_end0
     rw [hFi.out]
     exact hf
end Go.Proofs.YtccakklnbhcbdaaGreatDoor
