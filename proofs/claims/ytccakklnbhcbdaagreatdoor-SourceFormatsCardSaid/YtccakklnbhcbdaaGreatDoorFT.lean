import Derived.Test.YtccakklnbhcbdaaGreatDoorFQg
set_option linter.unusedVariables false
namespace Go.Proofs.YtccakklnbhcbdaaGreatDoor
open Go.ChangeShapes Go.WideShapes Go.ChangeAt Go.RowKit
theorem fp_pushD (p : PV) (v : Value) : ({ p with vd := v, ds := p.ds ++ [Value.slice none 0 0] } : PV).fp = p.fp.set 5 v.ownBlock ++ [none] := by
 simp only [PV.fp, List.map_append, List.map_cons, List.map_nil]
 rw [List.set_append, if_pos (by simp), List.set_append, if_pos (by simp)]
 simp [Value.ownBlock]
theorem fp_pushR (p : PV) (v dv : Value) (o : Option Nat) : o ∈ ({ p with vr := v, db := p.db ++ [dv] } : PV).fp ↔ o = dv.ownBlock ∨ o ∈ p.fp.set 2 v.ownBlock := by
 have e : ({ p with vr := v, db := p.db ++ [dv] } : PV).fp.Perm (dv.ownBlock :: p.fp.set 2 v.ownBlock) := by
  simp only [PV.fp, List.map_append, List.map_cons, List.map_nil]
  rw [List.set_append, if_pos (by simp), List.set_append, if_pos (by simp)]
  rw [← List.append_assoc, List.append_assoc]
  exact List.perm_middle
 rw [e.mem_iff, List.mem_cons]
section
variable {w w5 : World} {R : Nat} {ts : List Tk} {s : Rd} {p : PV}
theorem RdW.pushD (h : RdW w R ts s p) (hg : w.grownBy w5 p.vd.ownBlock) {v' : Value} {nm : List UInt8} {z : List Int} (ho : w5.ownsRow 0 63 8 v' (s.d.dems.length + 1) ((s.d.dems.zip p.ds).flatMap encD ++ encD ((nm, z, []), .slice none 0 0))) {m : Nat} (hm : w.heap.size ≤ m) (hl : v'.ownBlock = p.vd.ownBlock ∨ v'.ownBlock = some m) :
  At w5 R 139 (rdC s p) ∧ RdW (w5.setCell ⟨R, 11, none⟩ v') R ts { s with d := { s.d with dems := s.d.dems ++ [(nm, z, [])] } } { p with vd := v', ds := p.ds ++ [Value.slice none 0 0] } ∧ Below R w (w5.setCell ⟨R, 11, none⟩ v') := by
 have h6 := fp_six (p := p)
 refine h.store hg (fun b e => h.young b (by simp [PV.fp, e])) (by omega) (h.vals.pushD hg ho hm hl) (fun b hb => ?_) (by simp [rdC, encK, List.range, List.range.loop])
 rw [fp_pushD, List.mem_append] at hb
 rcases hb with hb | hb
 ·exact fp_young (p := p) (k := 5) (by omega) h.young hl (by have := h.tok.own.lt; omega) b hb
 ·simp at hb
theorem RdW.pushR (h : RdW w R ts s p) (hg : w.grownBy w5 p.vr.ownBlock) {v' dv : Value} {n : List UInt8 × List Int} (ho : w5.ownsRow 0 56 5 v' (s.d.bars.length + 1) ((s.d.bars.zip p.db).flatMap encR ++ encR (n, dv))) {m : Nat} (hm : w.heap.size ≤ m) (hl : v'.ownBlock = p.vr.ownBlock ∨ v'.ownBlock = some m)
  (hd : Row w5 3 1 encZ dv (n.2.drop 3)) (hdj : ∀ b, dv.ownBlock = some b → some b ∉ p.fp ∧ b ≠ m ∧ R < b) :
  At w5 R 139 (rdC s p) ∧ RdW (w5.setCell ⟨R, 8, none⟩ v') R ts { s with d := { s.d with bars := s.d.bars ++ [n] } } { p with vr := v', db := p.db ++ [dv] } ∧ Below R w (w5.setCell ⟨R, 8, none⟩ v') := by
 have h6 := fp_six (p := p)
 refine h.store hg (fun b e => h.young b (by simp [PV.fp, e])) (by omega) (h.vals.pushR hg ho hm hl hd fun b hb => ⟨(hdj b hb).1, (hdj b hb).2.1⟩) (fun b hb => ?_) (by simp [rdC, encK, List.range, List.range.loop])
 rw [fp_pushR] at hb
 rcases hb with hb | hb
 ·exact (hdj b hb.symm).2.2
 ·exact fp_young (p := p) (k := 2) (by omega) h.young hl (by have := h.tok.own.lt; omega) b hb
end
end Go.Proofs.YtccakklnbhcbdaaGreatDoor
set_option linter.unusedVariables false
namespace Go.Proofs.YtccakklnbhcbdaaGreatDoor
open Go.ChangeShapes Go.WideShapes Go.ChangeAt Go.RowKit
set_option maxRecDepth 100000 in
set_option maxHeartbeats 1000000 in
theorem other_demand (w : World) (R : Nat) (ts : List Tk) (s : Rd) (p : PV) (h : RdW w R ts s p) (hi : s.i < ts.length) (hE : Ends ts) (he : EnvR R w) (hm : manyD s.d ≤ 1000000) (hk : (tk ts s.i).kind = 1) (hx : (tk ts s.i).text = wDemand) :
  Calls Tryz.prog 96 #[.pointer (some ⟨R, 0, none⟩)] w (OthE ts R w (bodyT ts wDemand s)) := by
 obtain ⟨Rx, hRx⟩ : ∃ r, bodyT ts wDemand s = r := ⟨_, rfl⟩
 rw [hRx]
 replace hRx := Lib.hid hRx
 obtain ⟨Rn, hRn⟩ : ∃ r, nameT ts (s.i + 1) = r := ⟨_, rfl⟩
 have hj : s.i + 1 < ts.length := hE.more s.i hi (by rw [hk]; decide)
 have HN := nextH (R := R) (t := 139) s.i hi
 obtain ⟨XS, hX, eT⟩ := tkV_mk (tk ts s.i)
 rw [eT, hk] at HN
 rw [hx, show wDemand = [100, 101, 109, 97, 110, 100] from rfl] at hX
 subst hX
 generalize (tk ts s.i).line = L at HN
 generalize (tk ts s.i).col = C at HN
 clear eT hk hx
 obtain ⟨g0, g1, g2, g3, g4, g8, g9, g10, g11, g21, gz⟩ := rdC_get s p
 obtain ⟨dao, dcap, hvd, -⟩ := h.vals.dems.view encD_len
 obtain ⟨nd, hnd⟩ : ∃ nd, nd = (s.d.dems.zip p.ds).length := ⟨_, rfl⟩
 rw [← hnd] at hvd
 replace hnd := Lib.hid hnd
 go_enter Tryz.func96, Tryz.ntmps96
 go_wp2_with fail
 refine (HN.out w _ h.tok).mono ?_
 rintro e w1 ⟨rfl, HB⟩
 have h1 := h.bel HB
 have x11 : w1.cell? ⟨R, 11, none⟩ = some (.slice dao nd dcap) := by rw [h1.tok.own.c, g11, hvd]
 have x1 : w1.cell? ⟨R, 1, none⟩ = some (.int .i64 (s.i : Int)) := by rw [h1.tok.own.c, g1]
 have x21 : w1.cell? ⟨R, 21, none⟩ = some (.bool s.ruled) := by rw [h1.tok.own.c, g21]
 have fr : w1.frozen? ⟨R, 1, none⟩ = false := h1.tok.own.f 1
 have hR1 : R < w1.heap.size := h1.tok.own.lt
 have hR2 : R ≠ w1.heap.size := by omega
 have hR3 : w1.heap.size ≠ R := by omega
 have hw : IntKind.i64.wrap ((s.i : Int) + 1) = ((s.i + 1 : Nat) : Int) := wrap_in (by have := hE.len; omega)
 go_upto_region 9 with fail
 have hA := h1.tok.step (Below.refl _ _) (s.i + 1) (v := (s.i : Int) + 1) (by omega) (below_al (Below.refl _ _) (.cells #[.int .i64 1, .string ⟨#[100, 101, 109, 97, 110, 100]⟩, .int .i64 L, .int .i64 C] 107))
 have h2 := h1.adv hA
 have he2 := ((he.bel HB).adv hA)
 have hb2 := Lib.hid ((HB.mono (Nat.le_of_lt h.tok.own.lt)).trans (hA.belowR (Nat.le_of_lt hR1)))
 generalize hWW : World.alloc _ _ = WW at *
 have q60 : True := trivial
 clear h1 hA HB HN x11 x1 x21 fr hR1 hR2 hR3 hWW he
 replace he2 := Lib.hid he2
 have hRB : R < WW.heap.size := h2.tok.own.lt
 have hRB2 : R ≠ WW.heap.size := by omega
 obtain ⟨nb, hnb⟩ : ∃ nb, nb = s.d.dems.length := ⟨_, rfl⟩
 have hzl : nd = nb := by rw [hnd.out, List.length_zip, h.vals.ns, hnb]; simp
 have hvb : p.vd = .slice dao nb dcap := by rw [← hzl]; exact hvd
 have y3 : WW.cell? ⟨R, 11, none⟩ = some (.slice dao nb dcap) := by
  have q := h2.tok.own.c 11
  rw [← hvb]
  exact q.trans (by simp [rdC, encK, List.range, List.range.loop])
 have HNm : Hid (∀ w', TokR w' R 139 (rdC { s with i := s.i + 1 } p) ts (s.i + 1) → Calls Tryz.prog 93 #[.pointer (some ⟨R, 0, none⟩)] w' (TwoE ts R 139 (rdC { s with i := s.i + 1 } p) w' (fun l => .string ⟨l.toArray⟩) Rn)) := Lib.hid fun w' ht => by
  rw [← hRn]
  exact name_any w' R _ _ ts (s.i + 1) ht hj hE
 have h2d : Hid (RdW WW.drew R ts { s with i := s.i + 1 } p) := Lib.hid (h2.bel (below_drew (Below.refl _ _)))
 have he2d : Hid (EnvR R WW.drew) := Lib.hid (he2.out.bel (below_drew (Below.refl _ _)))
 have hbd := Lib.hid (hb2.out.trans ((below_drew (Below.refl WW.heap.size WW)).mono (Nat.le_of_lt h2.tok.own.lt)))
 replace h2 := Lib.hid h2
 replace h := Lib.hid h
 replace hRn := Lib.hid hRn
 clear hvd
 replace hzl := Lib.hid hzl
 replace hvb := Lib.hid hvb
 cases Rn with
 | error j =>
  have hX : Hid (Rx = .error j) := Lib.hid (by rw [← hRx.out, body_demand, hRn.out])
  replace hnb := Lib.hid hnb
  clear hm
  go_wp2_with fail
  go_region_law (first | (go_simp; go_at_call 93; refine (HNm.out _ h2d.out.tok).mono ?_; rintro e w2 ⟨he, hW⟩; have hbe := hbd.out.trans (hW.belowR (Nat.le_of_lt h2d.out.tok.own.lt)); subst he; refine idle (P := Tryz.prog) (a := { tmps := #[], defers := [] }) (w := w2) ?_ ?_; focus (unfold panE; go_wp2_with fail; exact ⟨rfl, by rw [hX.out]; exact OthE.bad rfl hbe⟩)))
  all_goals trivial
 | ok q =>
  obtain ⟨nm, i1⟩ := q
  have hi1 := (name_lt hE hj hRn.out).2
  obtain ⟨NM, hNM⟩ : ∃ NM : ByteArray, NM = ⟨nm.toArray⟩ := ⟨_, rfl⟩
  replace hNM := Lib.hid hNM
  have HN2 : Hid (∀ w', TokR w' R 139 (rdC { s with i := s.i + 1 } p) ts (s.i + 1) → Calls Tryz.prog 93 #[.pointer (some ⟨R, 0, none⟩)] w' fun e w2 => e = .returned (.string NM) ∧ Adv ts R 139 (rdC { s with i := s.i + 1 } p) w' i1 w2) := Lib.hid fun w' ht => (HNm.out w' ht).mono fun e w2 hq => ⟨by rw [hNM.out]; exact hq.1, hq.2⟩
  have hAf1 : Hid (∀ wn, Adv ts R 139 (rdC { s with i := s.i + 1 } p) WW.drew i1 wn → Hid (RdW wn R ts { s with i := i1 } p) ∧ Hid (EnvR R wn) ∧ Hid (Below R w wn) ∧ R < wn.heap.size ∧ R ≠ wn.heap.size ∧ wn.cell? ⟨R, 11, none⟩ = some (.slice dao nb dcap)) := Lib.hid fun wn hA0 => by
   have h3 := h2d.out.adv hA0
   have hRl := h3.tok.own.lt
   refine ⟨Lib.hid h3, Lib.hid (he2d.out.adv hA0), Lib.hid (hbd.out.trans (hA0.belowR (Nat.le_of_lt h2d.out.tok.own.lt))), hRl, by omega, ?_⟩
   rw [h3.tok.own.c, ← hvb.out]
   simp [rdC, encK, List.range, List.range.loop]
  obtain ⟨Res, hRes⟩ : ∃ r, numsT ts 6 i1 = r := ⟨_, rfl⟩
  have HBx : Hid (∀ w', EnvR R w' → TokR w' R 139 (rdC { s with i := i1 } p) ts i1 → Calls Tryz.prog 117 #[.pointer (some ⟨R, 0, none⟩)] w' (TwoE ts R 139 (rdC { s with i := i1 } p) w' intsV Res)) := Lib.hid fun w' he ht => by
   rw [← hRes]
   exact box_any w' R _ _ ts i1 ht hi1 hE he
  clear HNm
  replace hRes := Lib.hid hRes
  cases Res with
  | error j =>
   have hX : Hid (Rx = .error j) := Lib.hid (by rw [← hRx.out, body_demand, hRn.out]; dsimp only; rw [hRes.out])
   replace hnb := Lib.hid hnb
   clear hm
   go_wp2_with fail
   go_region_law (first | (go_simp; go_at_call 93; refine (HN2.out _ h2d.out.tok).mono ?_; rintro e wn ⟨rfl, hA0⟩; obtain ⟨h2n, hen, hbn, hRn1, hRn2, y3n⟩ := hAf1.out wn hA0; clear hA0) | (go_simp; go_at_call 117; refine (HBx.out _ hen.out h2n.out.tok).mono ?_; rintro e w2 ⟨he, hW⟩; have hbe := hbn.out.trans (hW.belowR (Nat.le_of_lt h2n.out.tok.own.lt)); subst he; refine idle (P := Tryz.prog) (a := { tmps := #[], defers := [] }) (w := w2) ?_ ?_; focus (unfold panE; go_wp2_with fail; exact ⟨rfl, by rw [hX.out]; exact OthE.bad rfl hbe⟩)))
   all_goals trivial
  | ok q =>
   obtain ⟨n, j⟩ := q
   have hjl : j < ts.length := nums_lt hE 6 _ hi1 hRes.out
   obtain ⟨n0, n1, n2, n3, n4, n5, rfl⟩ := six (nums_len ts 6 _ hRes.out)
   obtain ⟨i0, hi0, hz0, hz1, hz2⟩ := info_parts infoDem
   have HB2 : Hid (∀ w', EnvR R w' → TokR w' R 139 (rdC { s with i := i1 } p) ts i1 → Calls Tryz.prog 117 #[.pointer (some ⟨R, 0, none⟩)] w' fun e w2 => e = .returned (.agg #[.int .i64 n0, .int .i64 n1, .int .i64 n2, .int .i64 n3, .int .i64 n4, .int .i64 n5]) ∧ Adv ts R 139 (rdC { s with i := i1 } p) w' j w2) := HBx
   have hAft : Hid (∀ wn w2, RdW wn R ts { s with i := i1 } p → Adv ts R 139 (rdC { s with i := i1 } p) wn j w2 → Hid (RdW w2 R ts { s with i := j } p) ∧ Hid (Below R wn w2) ∧ R < w2.heap.size ∧ R ≠ w2.heap.size ∧ w2.cell? ⟨R, 11, none⟩ = some (.slice dao nb dcap) ∧ w2.ownsRow 0 63 8 (.slice dao nb dcap) nb ((s.d.dems.zip p.ds).flatMap encD)) := Lib.hid fun wn w2 h2n hA2 => by
    have h3 := h2n.adv hA2
    have hRl := h3.tok.own.lt
    refine ⟨Lib.hid h3, Lib.hid (hA2.belowR (Nat.le_of_lt h2n.tok.own.lt)), hRl, by omega, ?_, ?_⟩
    ·rw [h3.tok.own.c, ← hvb.out]
     simp [rdC, encK, List.range, List.range.loop]
    ·have q := h3.vals.dems
     unfold Row at q
     rw [← hvb.out, ← hzl.out, hnd.out]
     exact q
   have hne : encD ((nm, [n0, n1, n2, n3, n4, n5], []), .slice none 0 0) = [.string NM, .int .i64 n0, .int .i64 n1, .int .i64 n2, .int .i64 n3, .int .i64 n4, .int .i64 n5, .slice none 0 0] := by unfold encD; rw [hNM.out]; rfl
   have hPu : Hid (∀ w2 w5 g5 c5, RdW w2 R ts { s with i := j } p → w5.ownsRow 0 63 8 (.slice g5 (nb + 1) c5) (nb + 1) ((s.d.dems.zip p.ds).flatMap encD ++ [.string NM, .int .i64 n0, .int .i64 n1, .int .i64 n2, .int .i64 n3, .int .i64 n4, .int .i64 n5, .slice none 0 0]) → (w2.alloc (.cells #[.string NM, .int .i64 n0, .int .i64 n1, .int .i64 n2, .int .i64 n3, .int .i64 n4, .int .i64 n5, .slice none 0 0] 63)).grownBy w5 (Value.slice dao nb dcap).ownBlock → ((Value.slice g5 (nb + 1) c5).ownBlock = (Value.slice dao nb dcap).ownBlock ∨ (Value.slice g5 (nb + 1) c5).ownBlock = some (w2.alloc (.cells #[.string NM, .int .i64 n0, .int .i64 n1, .int .i64 n2, .int .i64 n3, .int .i64 n4, .int .i64 n5, .slice none 0 0] 63)).heap.size) →
     w5.cell? ⟨R, 11, none⟩ = some (.slice dao nb dcap) ∧ w5.frozen? ⟨R, 11, none⟩ = false ∧ Hid (RdW (w5.setCell ⟨R, 11, none⟩ (.slice g5 (nb + 1) c5)) R ts { s with i := j, d := { s.d with dems := s.d.dems ++ [(nm, [n0, n1, n2, n3, n4, n5], [])] } } { p with vd := .slice g5 (nb + 1) c5, ds := p.ds ++ [Value.slice none 0 0] }) ∧ Hid (Below R w2 (w5.setCell ⟨R, 11, none⟩ (.slice g5 (nb + 1) c5)))) := Lib.hid fun w2 w5 g5 c5 h3 ho5 hg5 hloc => by
    obtain ⟨hat5, hS5, hb5⟩ := h3.pushD (v' := .slice g5 (nb + 1) c5) (nm := nm) (z := [n0, n1, n2, n3, n4, n5]) (by rw [hvb.out]; exact grown_after (w := w2) (below_al (Below.refl _ _) _) hg5) (by rw [← hnb, hne]; exact ho5) (m := (w2.alloc (.cells #[.string NM, .int .i64 n0, .int .i64 n1, .int .i64 n2, .int .i64 n3, .int .i64 n4, .int .i64 n5, .slice none 0 0] 63)).heap.size) (by simp) (by rw [hvb.out]; exact hloc)
    refine ⟨?_, hat5.f 11, Lib.hid hS5, Lib.hid hb5⟩
    rw [hat5.c 11, ← hvb.out]
    simp [rdC, encK, List.range, List.range.loop]
   have hnb6 : nb ≤ 1000000 := by rw [hnb]; unfold manyD at hm; omega
   have HEn : Hid (∀ w' p', RdW w' R ts { s with i := j, d := { s.d with dems := s.d.dems ++ [(nm, [n0, n1, n2, n3, n4, n5], [])] } } p' → Calls Tryz.prog 95 #[.pointer (some ⟨R, 0, none⟩)] w' (EndE ts R w' { s with i := j, d := { s.d with dems := s.d.dems ++ [(nm, [n0, n1, n2, n3, n4, n5], [])] } } p' (endT ts j))) := Lib.hid fun w' p' h' => end_rd w' R ts _ p' h' hjl hE
   have hFi : Hid (Rx = endRes { s with i := j, d := { s.d with dems := s.d.dems ++ [(nm, [n0, n1, n2, n3, n4, n5], [])] } } (endT ts j)) := Lib.hid (by rw [← hRx.out, body_demand, hRn.out]; dsimp only; rw [hRes.out]; rfl)
   generalize endT ts j = Ee at *
   replace hnb := Lib.hid hnb
   clear hm hne HBx
   go_wp2_with fail
   go_region_law (first | (go_simp; go_at_call 93; refine (HN2.out _ h2d.out.tok).mono ?_; rintro e wn ⟨rfl, hA0⟩; obtain ⟨h2n, hen, hbn, hRn1, hRn2, y3n⟩ := hAf1.out wn hA0; clear hA0) | (go_simp; go_at_call 117; refine (HB2.out _ hen.out h2n.out.tok).mono ?_; rintro e w2 ⟨rfl, hA2⟩; obtain ⟨h3, hbA, hRl2, hRn3, y3w, ho3⟩ := hAft.out wn w2 h2n.out hA2; clear hA2) | (refine step_append_at _ rfl (.tmp 220) (.tmp 230) 30 rfl 0 63 i0 _ 8 88 (by kernel_rfl) hi0 hz0 hz1 hz2 rfl (by decide) (.slice dao nb dcap) nb ((s.d.dems.zip p.ds).flatMap encD) (by simp [Act.eval]) (World.ownsRow.alloc ho3 _) ⟨w2.heap.size, 0, none⟩ 1 1 [.string NM, .int .i64 n0, .int .i64 n1, .int .i64 n2, .int .i64 n3, .int .i64 n4, .int .i64 n5, .slice none 0 0] (by simp [Act.eval]) rfl (new_at (At.new _ _ _)) (by intro u hu; simp at hu; rcases hu with rfl | rfl | rfl | rfl | rfl | rfl | rfl | rfl <;> rfl) (by unfold maxLen; omega) (by omega) (by simp) ?_; intro g5 c5 w5 ho5 hg5 hloc; obtain ⟨y4, f4, hS5, hb5⟩ := hPu.out w2 w5 g5 c5 h3.out ho5 hg5 hloc; clear ho5 hg5 hloc))
   all_goals
    have b7 := hbn.out.trans (hbA.out.trans hb5.out)
    go_wp2_with fail
    refine (HEn.out _ _ hS5.out).mono ?_
    intro e w6 hq
    cases Ee with
    | error j2 =>
     have hf := OthE.bad hq.1 (b7.trans hq.2)
     obtain ⟨he, -⟩ := hq
     subst he
     unfold panE
     go_wp2_with fail
     refine ⟨rfl, ?_⟩
     rw [hFi.out]
     exact hf
    | ok j2 =>
     have hf : OthE ts R w (endRes _ (.ok j2)) e w6 := OthE.fin hq b7
     obtain ⟨rfl, -⟩ := hq
     go_wp2_with fail
     go_end0
     rw [hFi.out]
     exact hf
end Go.Proofs.YtccakklnbhcbdaaGreatDoor
