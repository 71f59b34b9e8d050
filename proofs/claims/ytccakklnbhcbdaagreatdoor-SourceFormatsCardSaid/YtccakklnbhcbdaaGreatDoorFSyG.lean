import Derived.Test.YtccakklnbhcbdaaGreatDoorFQj
import Derived.Test.YtccakklnbhcbdaaGreatDoorFSxC
import Derived.Test.YtccakklnbhcbdaaGreatDoorFA
set_option linter.unusedVariables false
set_option linter.unusedSimpArgs false
namespace Go.Proofs.YtccakklnbhcbdaaGreatDoor
open Go.ChangeShapes Go.WideShapes Go.ChangeAt Go.RowKit
set_option maxRecDepth 100000 in
set_option maxHeartbeats 4000000 in
theorem rtext_any (d : Det) (p : PV) (hs : d.sh) (w : World) (hv : DetV w d p) (hwr : wrD d = true) : Calls Tryz.prog 14 #[.agg (detC d p)] w fun e w' => e = .returned (.string ⟨(textD d).toArray⟩) ∧ Below w.heap.size w w' := by
 have hWr := (wrD_iff d).1 hwr
 have hTL := textD_len hs hWr
 have hSb : ∀ n ∈ d.boxes, n.length = 6 ∧ fitB n = true := fun n hn => ⟨hs.boxes n hn, hWr.boxes n hn⟩
 have hSh : ∀ n ∈ d.holes, n.length = 6 ∧ fitB n = true := fun n hn => ⟨hs.holes n hn, hWr.holes n hn⟩
 have hSl : ∀ n ∈ d.laps, n.length = 2 ∧ fitB n = true := fun n hn => ⟨hs.laps n hn, hWr.laps n hn⟩
 have hSr : ∀ b ∈ d.bars, 3 ≤ b.2.length ∧ 4 ≤ b.2.length ∧ b.2.length ≤ 11 ∧ nameB b.1 = true ∧ fitB b.2 = true := fun b hb => ⟨hs.bars b hb, (hWr.bars b hb).2.1, (hWr.bars b hb).2.2.1, (hWr.bars b hb).1, (hWr.bars b hb).2.2.2⟩
 have hSu : ∀ b ∈ d.runs, b.2.length = 9 ∧ nameB b.1 = true ∧ fitB b.2 = true := fun b hb => ⟨hs.runs b hb, (hWr.runs b hb).1, (hWr.runs b hb).2⟩
 have hSdm : ∀ x ∈ d.dems, x.2.1.length = 6 ∧ (∀ n ∈ x.2.2, n.length = 2) ∧ nameB x.1 = true ∧ fitB x.2.1 = true ∧ x.2.2.length ≤ 200 ∧ ∀ n ∈ x.2.2, fitB n = true := fun x hx => ⟨(hs.dems x hx).1, (hs.dems x hx).2, (hWr.dems x hx).1, (hWr.dems x hx).2.1, (hWr.dems x hx).2.2.1, (hWr.dems x hx).2.2.2⟩
 have hnmN := name_len hWr.nm
 have hrM := hWr.mem
 have hrR := hWr.rule
 have hqb := hWr.nb
 have hqh := hWr.nh
 have hqr := hWr.nr
 have hqu := hWr.nu
 have hql := hWr.nl
 have hqd := hWr.nd
 clear hWr hwr
 obtain ⟨ab, cb, eb, -, -, hRb⟩ := hv.boxes
 obtain ⟨ah, ch, eh, -, -, hRh⟩ := hv.holes
 obtain ⟨ar, cr, er, -, -, hRr⟩ := hv.bars
 obtain ⟨au, cu, eu, -, -, hRu⟩ := hv.runs
 obtain ⟨al, cl, el, -, -, hRl⟩ := hv.laps
 obtain ⟨ad, cd, ed, -, -, hRd⟩ := hv.dems
 have hnbr := hv.nb
 have hnsd := hv.ns
 have hSd := hv.dims
 have hSt := hv.steps
 have hzr : (d.bars.zip p.db).length = d.bars.length := by rw [List.length_zip, hv.nb]; simp
 have hzd : (d.dems.zip p.ds).length = d.dems.length := by rw [List.length_zip, hv.ns]; simp
 rw [hzr] at er
 rw [hzd] at ed
 have hmem := hs.mem
 have hrule := hs.rule
 clear hs hv
 obtain ⟨name, mem, boxes, holes, rule, bars, runs, laps, dems⟩ := d
 obtain ⟨vt, vb, vh, vr, vn, vl, vd, db, ds⟩ := p
 dsimp only at *
 obtain ⟨m0, m1, m2, rfl⟩ := three hmem
 obtain ⟨r0, r1, r2, r3, r4, r5, r6, r7, r8, rfl⟩ := nine hrule
 obtain ⟨NM, hNM⟩ : ∃ NM : ByteArray, NM = ⟨name.toArray⟩ := ⟨_, rfl⟩
 obtain ⟨nb, hnb⟩ : ∃ n, boxes.length = n := ⟨_, rfl⟩
 rw [hnb] at eb
 obtain ⟨nh, hnh⟩ : ∃ n, holes.length = n := ⟨_, rfl⟩
 rw [hnh] at eh
 obtain ⟨nr, hnr⟩ : ∃ n, bars.length = n := ⟨_, rfl⟩
 rw [hnr] at er
 obtain ⟨nu, hnu⟩ : ∃ n, runs.length = n := ⟨_, rfl⟩
 rw [hnu] at eu
 obtain ⟨nl, hnl⟩ : ∃ n, laps.length = n := ⟨_, rfl⟩
 rw [hnl] at el
 obtain ⟨nd, hnd⟩ : ∃ n, dems.length = n := ⟨_, rfl⟩
 rw [hnd] at ed
 subst eb eh er eu el ed
 rw [hnb] at hqb
 rw [hnh] at hqh
 rw [hnr] at hqr
 rw [hnu] at hqu
 rw [hnl] at hql
 rw [hnd] at hqd
 obtain ⟨A1, hA1⟩ : ∃ A, A = lnB (wMember ++ 32 :: name) [m0, m1, m2] := ⟨_, rfl⟩
 obtain ⟨A2, hA2⟩ : ∃ A, A = A1 ++ boxes.flatMap (lnB wBox) := ⟨_, rfl⟩
 obtain ⟨A3, hA3⟩ : ∃ A, A = A2 ++ holes.flatMap (lnB wHole) := ⟨_, rfl⟩
 obtain ⟨A4, hA4⟩ : ∃ A, A = A3 ++ lnB wRule [r0, r1, r2, r3, r4, r5, r6, r7, r8] := ⟨_, rfl⟩
 obtain ⟨A5, hA5⟩ : ∃ A, A = A4 ++ bars.flatMap (fun b => lnB (wBar ++ 32 :: b.1) b.2) := ⟨_, rfl⟩
 obtain ⟨A6, hA6⟩ : ∃ A, A = A5 ++ runs.flatMap (fun b => lnB (wRun ++ 32 :: b.1) b.2) := ⟨_, rfl⟩
 obtain ⟨A7, hA7⟩ : ∃ A, A = A6 ++ laps.flatMap (lnB wLap) := ⟨_, rfl⟩
 obtain ⟨A8, hA8⟩ : ∃ A, A = A7 ++ dems.flatMap (fun x => lnB (wDemand ++ 32 :: x.1) x.2.1 ++ x.2.2.flatMap (lnB wStep)) := ⟨_, rfl⟩
 have hTD : textD ⟨name, [m0, m1, m2], boxes, holes, [r0, r1, r2, r3, r4, r5, r6, r7, r8], bars, runs, laps, dems⟩ = A8 := by rw [hA8, hA7, hA6, hA5, hA4, hA3, hA2, hA1]; rfl
 rw [hTD] at hTL
 have g1 := congrArg List.length hA1
 have g2 := congrArg List.length hA2
 have g3 := congrArg List.length hA3
 have g4 := congrArg List.length hA4
 have g5 := congrArg List.length hA5
 have g6 := congrArg List.length hA6
 have g7 := congrArg List.length hA7
 have g8 := congrArg List.length hA8
 rw [List.length_append] at g2 g3 g4 g5 g6 g7 g8
 have hl1 : Hid (A1.length + (boxes.flatMap (lnB wBox)).length ≤ 1000000) := Lib.hid (by omega)
 have hl2 : Hid (A2.length + (holes.flatMap (lnB wHole)).length ≤ 1000000) := Lib.hid (by omega)
 have hl3 : Hid (A4.length ≤ 1000000) := Lib.hid (by omega)
 have hl4 : Hid (A4.length + (bars.flatMap (fun b => lnB (wBar ++ 32 :: b.1) b.2)).length ≤ 1000000) := Lib.hid (by omega)
 have hl5 : Hid (A5.length + (runs.flatMap (fun b => lnB (wRun ++ 32 :: b.1) b.2)).length ≤ 1000000) := Lib.hid (by omega)
 have hl6 : Hid (A6.length + (laps.flatMap (lnB wLap)).length ≤ 1000000) := Lib.hid (by omega)
 have hl7 : Hid (A7.length + (dems.flatMap (fun x => lnB (wDemand ++ 32 :: x.1) x.2.1 ++ x.2.2.flatMap (lnB wStep))).length ≤ 1000000) := Lib.hid (by omega)
 have hl0 : Hid (A1.length ≤ 1000000) := Lib.hid (by omega)
 have hlT : Hid (A8.length ≤ 1000000) := Lib.hid hTL
 replace hTD := Lib.hid hTD
 have hNMs : NM.size ≤ 20 := by rw [hNM, mk_size]; exact hnmN
 have hwd : by_ (⟨#[109, 101, 109, 98, 101, 114, 32]⟩ ++ NM : ByteArray) = wMember ++ 32 :: name := by rw [by_append, hNM, mk_by]; rfl
 have HLn : Hid (∀ w2 (ws : ByteArray) (ns : List Int) v, IsI ns v w2 → ws.size ≤ 1000000 → ns.length ≤ 1000 → fitB ns = true → ∀ I : ByteArray, by_ I = lnB (by_ ws) ns → Calls Tryz.prog 57 #[.string ws, v] w2 fun e w' => e = .returned (.string I) ∧ w2 = w') := Lib.hid fun w2 ws ns v h h1 h2 h3 I hI =>
  (rline_any ws ns v w2 h h1 h2 fun n hn => by have := fit_all h3 n hn; omega).mono fun e w' ⟨q1, q2⟩ => ⟨by rw [q1, ← hI], q2.symm⟩
 rw [show detC ⟨name, [m0, m1, m2], boxes, holes, [r0, r1, r2, r3, r4, r5, r6, r7, r8], bars, runs, laps, dems⟩ ⟨vt, .slice ab nb cb, .slice ah nh ch, .slice ar nr cr, .slice au nu cu, .slice al nl cl, .slice ad nd cd, db, ds⟩ = #[.string NM, .slice ab nb cb, .slice ah nh ch, .int .i64 m0, .int .i64 m1, .int .i64 m2, .slice ar nr cr, .slice au nu cu, .slice al nl cl, .slice ad nd cd, .int .i64 r0, .int .i64 r1, .int .i64 r2, .int .i64 r3, .int .i64 r4, .int .i64 r5, .int .i64 r6, .int .i64 r7, .int .i64 r8] by rw [hNM]; rfl]
 obtain ⟨S1, hS1⟩ : ∃ S : ByteArray, by_ S = A1 := ⟨⟨A1.toArray⟩, mk_by _⟩
 have HL1 : Hid (∀ w2 v, IsI [m0, m1, m2] v w2 → Calls Tryz.prog 57 #[.string (⟨#[109, 101, 109, 98, 101, 114, 32]⟩ ++ NM), v] w2 fun e w' => e = .returned (.string S1) ∧ w2 = w') := Lib.hid fun w2 v h => HLn.out w2 _ [m0, m1, m2] v h (by rw [ByteArray.size_append]; have : (⟨#[109, 101, 109, 98, 101, 114, 32]⟩ : ByteArray).size = 7 := rfl; omega) (by simp) hrM S1 (by rw [hS1, hwd, hA1])
 have hS0 := Lib.hid hS1
 replace hA1 := Lib.hid hA1
 replace hA2 := Lib.hid hA2
 replace hA3 := Lib.hid hA3
 replace hA4 := Lib.hid hA4
 replace hA5 := Lib.hid hA5
 replace hA6 := Lib.hid hA6
 replace hA7 := Lib.hid hA7
 replace hA8 := Lib.hid hA8
 replace hSb := Lib.hid hSb
 replace hSh := Lib.hid hSh
 replace hSl := Lib.hid hSl
 replace hSr := Lib.hid hSr
 replace hSu := Lib.hid hSu
 replace hSdm := Lib.hid hSdm
 replace hSd := Lib.hid hSd
 replace hSt := Lib.hid hSt
 replace hRb := Lib.hid hRb
 replace hRh := Lib.hid hRh
 replace hRr := Lib.hid hRr
 replace hRu := Lib.hid hRu
 replace hRl := Lib.hid hRl
 replace hRd := Lib.hid hRd
 replace hnbr := Lib.hid hnbr
 replace hnsd := Lib.hid hnsd
 replace hzr := Lib.hid hzr
 replace hzd := Lib.hid hzd
 replace hrM := Lib.hid hrM
 replace hrR := Lib.hid hrR
 replace hNM := Lib.hid hNM
 replace hnb := Lib.hid hnb
 replace hnh := Lib.hid hnh
 replace hnr := Lib.hid hnr
 replace hnu := Lib.hid hnu
 replace hnl := Lib.hid hnl
 replace hnd := Lib.hid hnd
 clear hmem hrule hnmN hwd hS1
 go_enter Tryz.func14, Tryz.ntmps14
 go_upto_region 2 with fail
 generalize hWW : World.alloc (World.alloc w _) _ = WW
 have kt : At WW w.heap.size 34 #[.string NM, .slice ab nb cb, .slice ah nh ch, .int .i64 m0, .int .i64 m1, .int .i64 m2, .slice ar nr cr, .slice au nu cu, .slice al nl cl, .slice ad nd cd, .int .i64 r0, .int .i64 r1, .int .i64 r2, .int .i64 r3, .int .i64 r4, .int .i64 r5, .int .i64 r6, .int .i64 r7, .int .i64 r8] := by rw [← hWW]; repeat (first | (with_reducible apply At.new'; (focus (simp; done))) | with_reducible apply At.al | with_reducible apply At.drw | with_reducible apply At.dr)
 have km : At WW (w.heap.size + 1) 26 #[.string NM, .slice ab nb cb, .slice ah nh ch, .int .i64 m0, .int .i64 m1, .int .i64 m2] := by rw [← hWW]; repeat (first | (with_reducible apply At.new'; (focus (simp; done))) | with_reducible apply At.al | with_reducible apply At.drw | with_reducible apply At.dr)
 have HB : Below w.heap.size w WW := by rw [← hWW]; repeat (first | with_reducible assumption | with_reducible exact Below.refl _ _ | with_reducible refine below_al ?_ _ | with_reducible refine below_drew ?_ | with_reducible refine below_drewN ?_ _ | with_reducible refine below_set ?_ (by dsimp only; omega) _)
 clear hWW
 have y0 : WW.cell? ⟨w.heap.size + 1, 0, none⟩ = some (.string NM) := km.c 0
 have y3 : WW.cell? ⟨w.heap.size + 1, 3, none⟩ = some (.int .i64 m0) := km.c 3
 have y4 : WW.cell? ⟨w.heap.size + 1, 4, none⟩ = some (.int .i64 m1) := km.c 4
 have y5 : WW.cell? ⟨w.heap.size + 1, 5, none⟩ = some (.int .i64 m2) := km.c 5
 have hsb : (⟨#[109, 101, 109, 98, 101, 114, 32]⟩ : ByteArray).size = 7 := rfl
 have hcat : (⟨#[109, 101, 109, 98, 101, 114, 32]⟩ ++ NM : ByteArray).size ≤ 27 := by rw [ByteArray.size_append]; omega
 go_wp2_with fail
 generalize hWL : World.alloc WW _ = WL
 have kz : At WL WW.heap.size 3 #[.int .i64 m0, .int .i64 m1, .int .i64 m2] := by rw [← hWL]; apply At.new'; rfl
 have HW : Below WW.heap.size WW WL := by rw [← hWL]; exact below_al (Below.refl _ _) _
 have kt2 := kt.bel HW
 have km2 := km.bel HW
 clear hWL y0 y3 y4 y5
 have hWL := Lib.hid (below_then HB HW)
 refine (HL1.out WL _ (isI_new (l := [m0, m1, m2]) kz (by simp))).mono ?_
 rintro e w3 ⟨rfl, rfl⟩
 have X6 : Hid (WL.cell? ⟨w.heap.size, 6, none⟩ = some (.slice ar nr cr)) := Lib.hid (kt2.c 6)
 have X7 : Hid (WL.cell? ⟨w.heap.size, 7, none⟩ = some (.slice au nu cu)) := Lib.hid (kt2.c 7)
 have X8 : Hid (WL.cell? ⟨w.heap.size, 8, none⟩ = some (.slice al nl cl)) := Lib.hid (kt2.c 8)
 have X9 : Hid (WL.cell? ⟨w.heap.size, 9, none⟩ = some (.slice ad nd cd)) := Lib.hid (kt2.c 9)
 have X10 : Hid (WL.cell? ⟨w.heap.size, 10, none⟩ = some (.int .i64 r0)) := Lib.hid (kt2.c 10)
 have X11 : Hid (WL.cell? ⟨w.heap.size, 11, none⟩ = some (.int .i64 r1)) := Lib.hid (kt2.c 11)
 have X12 : Hid (WL.cell? ⟨w.heap.size, 12, none⟩ = some (.int .i64 r2)) := Lib.hid (kt2.c 12)
 have X13 : Hid (WL.cell? ⟨w.heap.size, 13, none⟩ = some (.int .i64 r3)) := Lib.hid (kt2.c 13)
 have X14 : Hid (WL.cell? ⟨w.heap.size, 14, none⟩ = some (.int .i64 r4)) := Lib.hid (kt2.c 14)
 have X15 : Hid (WL.cell? ⟨w.heap.size, 15, none⟩ = some (.int .i64 r5)) := Lib.hid (kt2.c 15)
 have X16 : Hid (WL.cell? ⟨w.heap.size, 16, none⟩ = some (.int .i64 r6)) := Lib.hid (kt2.c 16)
 have X17 : Hid (WL.cell? ⟨w.heap.size, 17, none⟩ = some (.int .i64 r7)) := Lib.hid (kt2.c 17)
 have X18 : Hid (WL.cell? ⟨w.heap.size, 18, none⟩ = some (.int .i64 r8)) := Lib.hid (kt2.c 18)
 have Y1 : Hid (WL.cell? ⟨w.heap.size + 1, 1, none⟩ = some (.slice ab nb cb)) := Lib.hid (km2.c 1)
 have Y2 : Hid (WL.cell? ⟨w.heap.size + 1, 2, none⟩ = some (.slice ah nh ch)) := Lib.hid (km2.c 2)
 have hb0 := Lib.hid (Below.refl WL.heap.size WL)
 clear kt km kt2 km2 HB HW kz HL1 hsb hcat
 have y1 := Y1.out
 go_wp2_with fail
 clear y1
 go_loopg [4, 5] nb (fun g s i wr => ∃ (k : Nat) (S : ByteArray), k ≤ nb ∧ s = .string S ∧ i = .int .i64 (k : Int) ∧ Hid (g = nb - k ∧ by_ S = A1 ++ (boxes.take k).flatMap (lnB wBox)) ∧ Hid (Below WL.heap.size WL wr))
 case atStart => exact ⟨0, _, Nat.zero_le _, rfl, rfl, Lib.hid ⟨rfl, by rw [List.take_zero, List.flatMap_nil, List.append_nil]; exact hS0.out⟩, hb0⟩
 case round =>
  clear hb0 hS0
  obtain ⟨k, S, hk, rfl, rfl, hr, hb⟩ := hrel
  have y1 : wr.cell? ⟨w.heap.size + 1, 1, none⟩ = some (.slice ab nb cb) := (hb.out.cell (block_lt_of_cell Y1.out)).trans Y1.out
  by_cases hlt : k < nb
  ·have hkl : k < boxes.length := by rw [hnb.out]; exact hlt
   have hW := below_then hWL.out hb.out
   have hmem : boxes[k] ∈ boxes := List.getElem_mem hkl
   have hsuc : A1 ++ (boxes.take (k + 1)).flatMap (lnB wBox) = by_ S ++ (lnB wBox) boxes[k] := by
    rw [hr.out.2, List.take_succ_eq_append_getElem hkl, List.flatMap_append, List.flatMap_singleton, List.append_assoc]
   have hlen2 : (by_ S ++ (lnB wBox) boxes[k]).length ≤ 1000000 := by
    rw [← hsuc]
    have h1 := hl1.out
    have h2 := flat_take (lnB wBox) boxes (k + 1)
    rw [List.length_append]
    omega
   have hSz : S.size ≤ 1000000 := by
    have h : (by_ S).length = S.size := rfl
    rw [List.length_append] at hlen2
    omega
   obtain ⟨bb, off, rfl, hbl, hc⟩ := hRb.out k hkl
   obtain ⟨hx6, hfx⟩ := hSb.out _ hmem
   obtain ⟨e0, e1, e2, e3, e4, e5, hx⟩ := six hx6
   have q0 : wr.cell? ⟨bb, off + k * 6, none⟩ = some (.int .i64 e0) := (hW.cell hbl).trans (hc 0 _ (by rw [hx]; rfl))
   have q1 : wr.cell? ⟨bb, off + k * 6 + 1, none⟩ = some (.int .i64 e1) := (hW.cell hbl).trans (hc 1 _ (by rw [hx]; rfl))
   have q2 : wr.cell? ⟨bb, off + k * 6 + 2, none⟩ = some (.int .i64 e2) := (hW.cell hbl).trans (hc 2 _ (by rw [hx]; rfl))
   have q3 : wr.cell? ⟨bb, off + k * 6 + 3, none⟩ = some (.int .i64 e3) := (hW.cell hbl).trans (hc 3 _ (by rw [hx]; rfl))
   have q4 : wr.cell? ⟨bb, off + k * 6 + 4, none⟩ = some (.int .i64 e4) := (hW.cell hbl).trans (hc 4 _ (by rw [hx]; rfl))
   have q5 : wr.cell? ⟨bb, off + k * 6 + 5, none⟩ = some (.int .i64 e5) := (hW.cell hbl).trans (hc 5 _ (by rw [hx]; rfl))
   rw [hx] at hsuc hfx hlen2
   obtain ⟨I, hI⟩ : ∃ I : ByteArray, by_ I = lnB wBox [e0, e1, e2, e3, e4, e5] := ⟨⟨(lnB wBox [e0, e1, e2, e3, e4, e5]).toArray⟩, mk_by _⟩
   have hIz : I.size ≤ 1000000 := by
    have h : (by_ I).length = I.size := rfl
    rw [← h, hI]
    rw [List.length_append] at hlen2
    omega
   have hnx : Hid (by_ (S ++ I) = A1 ++ (boxes.take (k + 1)).flatMap (lnB wBox)) := Lib.hid (by rw [by_append, hI, hsuc])
   have hcat : (S ++ I : ByteArray).size ≤ 2000000 := by rw [ByteArray.size_append]; omega
   have hct2 : (9223372036854775807 < S.size + I.size) = False := eq_false (by omega)
   have HL := Lib.hid fun (w2 : World) (v : Value) (h : IsI [e0, e1, e2, e3, e4, e5] v w2) => HLn.out w2 ⟨#[98, 111, 120]⟩ [e0, e1, e2, e3, e4, e5] v h (by decide) (by simp) hfx I hI
   clear hx6 hfx hc hx hmem hsuc hlen2 hI hW hbl
   go_wp2_with fail
   refine (cornersJ e0 e1 e2 e3 e4 e5 _).mono ?_
   rintro e w2 ⟨⟨v, rfl, hv⟩, hb2⟩
   have hb3 := Lib.hid (below_then hb.out hb2)
   clear hb2 hb q0 q1 q2 q3 q4 q5
   go_wp2_with fail
   refine (HL.out w2 v hv.isI).mono ?_
   rintro e w3 ⟨rfl, rfl⟩
   go_wp2_with fail
   go_roundg (nb - (k + 1))
   case measure => have := hr.out.1; omega
   case rel => exact ⟨k + 1, S ++ I, by omega, rfl, by go_num, Lib.hid ⟨rfl, hnx.out⟩, hb3⟩
  ·have hS0 : Hid (by_ S = A2) := Lib.hid (by
    have := hr.out.2
    rw [List.take_of_length_le (by have := hnb.out; omega)] at this
    rw [hA2.out]
    exact this)
   have hSz : S.size ≤ 1000000 := by
    have h : (by_ S).length = S.size := rfl
    have h2 := hl1.out
    rw [← h, hS0.out, hA2.out, List.length_append]
    omega
   have hb0 := hb
   go_wp2_with fail
   clear hb hr y1
   go_loopg [4, 6] nh (fun g s i wr => ∃ (k : Nat) (S : ByteArray), k ≤ nh ∧ s = .string S ∧ i = .int .i64 (k : Int) ∧ Hid (g = nh - k ∧ by_ S = A2 ++ (holes.take k).flatMap (lnB wHole)) ∧ Hid (Below WL.heap.size WL wr))
   case atStart => exact ⟨0, _, Nat.zero_le _, rfl, rfl, Lib.hid ⟨rfl, by rw [List.take_zero, List.flatMap_nil, List.append_nil]; exact hS0.out⟩, hb0⟩
   case round =>
    clear hb0 hS0
    obtain ⟨k, S, hk, rfl, rfl, hr, hb⟩ := hrel
    have y2 : wr.cell? ⟨w.heap.size + 1, 2, none⟩ = some (.slice ah nh ch) := (hb.out.cell (block_lt_of_cell Y2.out)).trans Y2.out
    by_cases hlt : k < nh
    ·have hkl : k < holes.length := by rw [hnh.out]; exact hlt
     have hW := below_then hWL.out hb.out
     have hmem : holes[k] ∈ holes := List.getElem_mem hkl
     have hsuc : A2 ++ (holes.take (k + 1)).flatMap (lnB wHole) = by_ S ++ (lnB wHole) holes[k] := by
      rw [hr.out.2, List.take_succ_eq_append_getElem hkl, List.flatMap_append, List.flatMap_singleton, List.append_assoc]
     have hlen2 : (by_ S ++ (lnB wHole) holes[k]).length ≤ 1000000 := by
      rw [← hsuc]
      have h1 := hl2.out
      have h2 := flat_take (lnB wHole) holes (k + 1)
      rw [List.length_append]
      omega
     have hSz : S.size ≤ 1000000 := by
      have h : (by_ S).length = S.size := rfl
      rw [List.length_append] at hlen2
      omega
     obtain ⟨bb, off, rfl, hbl, hc⟩ := hRh.out k hkl
     obtain ⟨hx6, hfx⟩ := hSh.out _ hmem
     obtain ⟨e0, e1, e2, e3, e4, e5, hx⟩ := six hx6
     have q0 : wr.cell? ⟨bb, off + k * 6, none⟩ = some (.int .i64 e0) := (hW.cell hbl).trans (hc 0 _ (by rw [hx]; rfl))
     have q1 : wr.cell? ⟨bb, off + k * 6 + 1, none⟩ = some (.int .i64 e1) := (hW.cell hbl).trans (hc 1 _ (by rw [hx]; rfl))
     have q2 : wr.cell? ⟨bb, off + k * 6 + 2, none⟩ = some (.int .i64 e2) := (hW.cell hbl).trans (hc 2 _ (by rw [hx]; rfl))
     have q3 : wr.cell? ⟨bb, off + k * 6 + 3, none⟩ = some (.int .i64 e3) := (hW.cell hbl).trans (hc 3 _ (by rw [hx]; rfl))
     have q4 : wr.cell? ⟨bb, off + k * 6 + 4, none⟩ = some (.int .i64 e4) := (hW.cell hbl).trans (hc 4 _ (by rw [hx]; rfl))
     have q5 : wr.cell? ⟨bb, off + k * 6 + 5, none⟩ = some (.int .i64 e5) := (hW.cell hbl).trans (hc 5 _ (by rw [hx]; rfl))
     rw [hx] at hsuc hfx hlen2
     obtain ⟨I, hI⟩ : ∃ I : ByteArray, by_ I = lnB wHole [e0, e1, e2, e3, e4, e5] := ⟨⟨(lnB wHole [e0, e1, e2, e3, e4, e5]).toArray⟩, mk_by _⟩
     have hIz : I.size ≤ 1000000 := by
      have h : (by_ I).length = I.size := rfl
      rw [← h, hI]
      rw [List.length_append] at hlen2
      omega
     have hnx : Hid (by_ (S ++ I) = A2 ++ (holes.take (k + 1)).flatMap (lnB wHole)) := Lib.hid (by rw [by_append, hI, hsuc])
     have hcat : (S ++ I : ByteArray).size ≤ 2000000 := by rw [ByteArray.size_append]; omega
     have hct2 : (9223372036854775807 < S.size + I.size) = False := eq_false (by omega)
     have HL := Lib.hid fun (w2 : World) (v : Value) (h : IsI [e0, e1, e2, e3, e4, e5] v w2) => HLn.out w2 ⟨#[104, 111, 108, 101]⟩ [e0, e1, e2, e3, e4, e5] v h (by decide) (by simp) hfx I hI
     clear hx6 hfx hc hx hmem hsuc hlen2 hI hW hbl
     go_wp2_with fail
     refine (cornersJ e0 e1 e2 e3 e4 e5 _).mono ?_
     rintro e w2 ⟨⟨v, rfl, hv⟩, hb2⟩
     have hb3 := Lib.hid (below_then hb.out hb2)
     clear hb2 hb q0 q1 q2 q3 q4 q5
     go_wp2_with fail
     refine (HL.out w2 v hv.isI).mono ?_
     rintro e w3 ⟨rfl, rfl⟩
     go_wp2_with fail
     go_roundg (nh - (k + 1))
     case measure => have := hr.out.1; omega
     case rel => exact ⟨k + 1, S ++ I, by omega, rfl, by go_num, Lib.hid ⟨rfl, hnx.out⟩, hb3⟩
    ·have hS0 : Hid (by_ S = A3) := Lib.hid (by
      have := hr.out.2
      rw [List.take_of_length_le (by have := hnh.out; omega)] at this
      rw [hA3.out]
      exact this)
     have hSz : S.size ≤ 1000000 := by
      have h : (by_ S).length = S.size := rfl
      have h2 := hl2.out
      rw [← h, hS0.out, hA3.out, List.length_append]
      omega
     have hb0 := hb
     have x10 : wr.cell? ⟨w.heap.size, 10, none⟩ = some (.int .i64 r0) := (hb0.out.cell (block_lt_of_cell X10.out)).trans X10.out
     have x11 : wr.cell? ⟨w.heap.size, 11, none⟩ = some (.int .i64 r1) := (hb0.out.cell (block_lt_of_cell X11.out)).trans X11.out
     have x12 : wr.cell? ⟨w.heap.size, 12, none⟩ = some (.int .i64 r2) := (hb0.out.cell (block_lt_of_cell X12.out)).trans X12.out
     have x13 : wr.cell? ⟨w.heap.size, 13, none⟩ = some (.int .i64 r3) := (hb0.out.cell (block_lt_of_cell X13.out)).trans X13.out
     have x14 : wr.cell? ⟨w.heap.size, 14, none⟩ = some (.int .i64 r4) := (hb0.out.cell (block_lt_of_cell X14.out)).trans X14.out
     have x15 : wr.cell? ⟨w.heap.size, 15, none⟩ = some (.int .i64 r5) := (hb0.out.cell (block_lt_of_cell X15.out)).trans X15.out
     have x16 : wr.cell? ⟨w.heap.size, 16, none⟩ = some (.int .i64 r6) := (hb0.out.cell (block_lt_of_cell X16.out)).trans X16.out
     have x17 : wr.cell? ⟨w.heap.size, 17, none⟩ = some (.int .i64 r7) := (hb0.out.cell (block_lt_of_cell X17.out)).trans X17.out
     have x18 : wr.cell? ⟨w.heap.size, 18, none⟩ = some (.int .i64 r8) := (hb0.out.cell (block_lt_of_cell X18.out)).trans X18.out
     go_wp2_with fail
     clear hb hr y2
     obtain ⟨I, hI⟩ : ∃ I : ByteArray, by_ I = lnB wRule [r0, r1, r2, r3, r4, r5, r6, r7, r8] := ⟨⟨(lnB wRule [r0, r1, r2, r3, r4, r5, r6, r7, r8]).toArray⟩, mk_by _⟩
     have hS1 : Hid (by_ (S ++ I) = A4) := Lib.hid (by rw [by_append, hS0.out, hI, hA4.out])
     have hIz : I.size ≤ 1000000 := by
      have h : (by_ (S ++ I)).length = S.size + I.size := by rw [← ByteArray.size_append]; rfl
      have h2 := hl3.out
      rw [hS1.out] at h
      omega
     have hcat : (S ++ I : ByteArray).size ≤ 2000000 := by rw [ByteArray.size_append]; omega
     have hct2 : (9223372036854775807 < S.size + I.size) = False := eq_false (by omega)
     have HL : Hid (∀ w2 v, IsI [r0, r1, r2, r3, r4, r5, r6, r7, r8] v w2 → Calls Tryz.prog 57 #[.string ⟨#[114, 117, 108, 101]⟩, v] w2 fun e w' => e = .returned (.string I) ∧ w2 = w') := Lib.hid fun w2 v h => HLn.out w2 _ [r0, r1, r2, r3, r4, r5, r6, r7, r8] v h (by decide) (by simp) hrR.out I hI
     refine (rruleJ r0 r1 r2 r3 r4 r5 r6 r7 r8 wr).mono ?_
     rintro e w2 ⟨⟨v, rfl, hv⟩, hb2⟩
     have hb3 := Lib.hid (below_then hb0.out hb2)
     clear hb2 hb0 hI hS0 x10 x11 x12 x13 x14 x15 x16 x17 x18
     go_wp2_with fail
     refine (HL.out w2 v hv.isI).mono ?_
     rintro e w3 ⟨rfl, rfl⟩
     have hS0 := hS1
     have hb0 := hb3
     go_wp2_with fail
     clear hS1 hb3 hv HL
     go_loopg [4, 7] nr (fun g s i wr => ∃ (k : Nat) (S : ByteArray), k ≤ nr ∧ s = .string S ∧ i = .int .i64 (k : Int) ∧ Hid (g = nr - k ∧ by_ S = A4 ++ (bars.take k).flatMap (fun b => lnB (wBar ++ 32 :: b.1) b.2)) ∧ Hid (Below WL.heap.size WL wr))
     case atStart => exact ⟨0, _, Nat.zero_le _, rfl, rfl, Lib.hid ⟨rfl, by rw [List.take_zero, List.flatMap_nil, List.append_nil]; exact hS0.out⟩, hb0⟩
     case round =>
      clear hb0 hS0
      obtain ⟨k, S, hk, rfl, rfl, hr, hb⟩ := hrel
      have x6 : wr.cell? ⟨w.heap.size, 6, none⟩ = some (.slice ar nr cr) := (hb.out.cell (block_lt_of_cell X6.out)).trans X6.out
      by_cases hlt : k < nr
      ·have hkl : k < bars.length := by rw [hnr.out]; exact hlt
       have hW := below_then hWL.out hb.out
       have hmem : bars[k] ∈ bars := List.getElem_mem hkl
       have hsuc : A4 ++ (bars.take (k + 1)).flatMap (fun b => lnB (wBar ++ 32 :: b.1) b.2) = by_ S ++ (fun b => lnB (wBar ++ 32 :: b.1) b.2) bars[k] := by
        rw [hr.out.2, List.take_succ_eq_append_getElem hkl, List.flatMap_append, List.flatMap_singleton, List.append_assoc]
       have hlen2 : (by_ S ++ (fun b => lnB (wBar ++ 32 :: b.1) b.2) bars[k]).length ≤ 1000000 := by
        rw [← hsuc]
        have h1 := hl4.out
        have h2 := flat_take (fun b => lnB (wBar ++ 32 :: b.1) b.2) bars (k + 1)
        rw [List.length_append]
        omega
       have hSz : S.size ≤ 1000000 := by
        have h : (by_ S).length = S.size := rfl
        rw [List.length_append] at hlen2
        omega
       obtain ⟨bb, off, rfl, hbl, hc⟩ := hRr.out k (by rw [hzr.out]; exact hkl)
       rw [List.getElem_zip] at hc
       obtain ⟨hx3, hx4, hx5, hxn, hfx⟩ := hSr.out _ hmem
       have hds := hSd.out k hkl (by rw [hnbr.out]; exact hkl)
       obtain ⟨x, hxx⟩ : ∃ x, bars[k] = x := ⟨_, rfl⟩
       rw [hxx] at hx3 hx4 hx5 hxn hfx hc hds hsuc hlen2
       obtain ⟨nm, l⟩ := x
       obtain ⟨e0, e1, e2, ds, rfl⟩ := three_more hx3
       dsimp only at hsuc hlen2 hfx hxn
       obtain ⟨sa, sc, hdv, h2, h3, h4⟩ := hds
       have h4 : RowAt encZ 1 w.heap.size w sa ds := h4
       obtain ⟨n, hn⟩ : ∃ n, ds.length = n := ⟨_, rfl⟩
       have hdv : db[k]'(by rw [hnbr.out]; exact hkl) = .slice sa n sc := by rw [← hn]; exact hdv
       rw [hdv] at hc
       have hn1 : 1 ≤ n := by simp at hx4; omega
       have hn8 : n ≤ 8 := by simp at hx5; omega
       obtain ⟨db1, do1, hsa, hdl, hdc0⟩ := h4 0 (by omega)
       subst hsa
       have hds1 : Hid (∀ j, j < n → ∀ u, (ds.map (Value.int .i64 ·))[j]? = some u → w.cell? ⟨db1, do1 + j, none⟩ = some u) := Lib.hid fun j hj u hu => by
        obtain ⟨q1, q2, q3, _, q5⟩ := h4 j (by omega)
        injection q3 with q3
        injection q3 with q3 q4
        subst q3 q4
        have := q5 0 u (by rw [← hu]; simp [encZ, show j < ds.length by omega])
        rwa [Nat.mul_one, Nat.add_zero] at this
       obtain ⟨NM, hNMk⟩ : ∃ NM : ByteArray, NM = ⟨nm.toArray⟩ := ⟨_, rfl⟩
       have hNMs : NM.size ≤ 20 := by rw [hNMk, mk_size]; exact name_len hxn
       have hsb : (⟨#[98, 97, 114, 32]⟩ : ByteArray).size = 4 := rfl
       have hct : (9223372036854775807 < 4 + NM.size) = False := eq_false (by omega)
       have hcatn : (⟨#[98, 97, 114, 32]⟩ ++ NM : ByteArray).size ≤ 24 := by rw [ByteArray.size_append]; omega
       have hwd : by_ (⟨#[98, 97, 114, 32]⟩ ++ NM : ByteArray) = wBar ++ 32 :: nm := by rw [by_append, hNMk, mk_by]; rfl
       obtain ⟨I, hI⟩ : ∃ I : ByteArray, by_ I = lnB (wBar ++ 32 :: nm) (e0 :: e1 :: e2 :: ds) := ⟨⟨(lnB (wBar ++ 32 :: nm) (e0 :: e1 :: e2 :: ds)).toArray⟩, mk_by _⟩
       have hIz : I.size ≤ 1000000 := by
        have h : (by_ I).length = I.size := rfl
        rw [← h, hI]
        rw [List.length_append] at hlen2
        omega
       have hnx : Hid (by_ (S ++ I) = A4 ++ (bars.take (k + 1)).flatMap (fun b => lnB (wBar ++ 32 :: b.1) b.2)) := Lib.hid (by rw [by_append, hI, hsuc])
       have hcat : (S ++ I : ByteArray).size ≤ 2000000 := by rw [ByteArray.size_append]; omega
       have hct2 : (9223372036854775807 < S.size + I.size) = False := eq_false (by omega)
       have HL := Lib.hid fun (w2 : World) (v : Value) (h : IsI (e0 :: e1 :: e2 :: ds) v w2) => HLn.out w2 (⟨#[98, 97, 114, 32]⟩ ++ NM) (e0 :: e1 :: e2 :: ds) v h (Nat.le_trans hcatn (by decide)) (Nat.le_trans hx5 (by decide)) hfx I (by rw [hI, hwd])
       have q0 : wr.cell? ⟨bb, off + k * 5, none⟩ = some (.string NM) := by rw [hNMk]; exact (hW.cell hbl).trans (hc 0 _ rfl)
       have q1 : wr.cell? ⟨bb, off + k * 5 + 1, none⟩ = some (.int .i64 e0) := (hW.cell hbl).trans (hc 1 _ rfl)
       have q2 : wr.cell? ⟨bb, off + k * 5 + 2, none⟩ = some (.int .i64 e1) := (hW.cell hbl).trans (hc 2 _ rfl)
       have q3 : wr.cell? ⟨bb, off + k * 5 + 3, none⟩ = some (.int .i64 e2) := (hW.cell hbl).trans (hc 3 _ rfl)
       have q4 : wr.cell? ⟨bb, off + k * 5 + 4, none⟩ = some (.slice (some ⟨db1, do1, none⟩) n sc) := (hW.cell hbl).trans (hc 4 _ rfl)
       replace hNMk := Lib.hid hNMk
       replace hn := Lib.hid hn
       have hWl := hW.size
       clear hx3 hx4 hx5 hxn hfx hc hdv h2 h4 hdc0 hxx hmem hbl hW hsuc hlen2 hI hwd
       go_upto_region 16 with fail
       generalize hWW : World.alloc wr _ = W1
       have kb : At W1 wr.heap.size 56 #[.string NM, .int .i64 e0, .int .i64 e1, .int .i64 e2, .slice (some ⟨db1, do1, none⟩) n sc] := by rw [← hWW]; exact At.new' rfl
       have hbW1 : Hid (Below WL.heap.size WL W1) := Lib.hid (by rw [← hWW]; exact below_al hb.out _)
       have hW1 : Hid (Below w.heap.size w W1) := Lib.hid (below_then hWL.out hbW1.out)
       have hsz1 : wr.heap.size < W1.heap.size := kb.lt
       clear hWW q0 q1 q2 q3 q4 hb x6
       have hSc : Hid (∀ W, Below W1.heap.size W1 W → W.cell? ⟨wr.heap.size, 0, none⟩ = some (.string NM) ∧ W.cell? ⟨wr.heap.size, 1, none⟩ = some (.int .i64 e0) ∧ W.cell? ⟨wr.heap.size, 2, none⟩ = some (.int .i64 e1) ∧ W.cell? ⟨wr.heap.size, 3, none⟩ = some (.int .i64 e2) ∧ W.cell? ⟨wr.heap.size, 4, none⟩ = some (.slice (some ⟨db1, do1, none⟩) n sc)) := Lib.hid fun W hb => ⟨(kb.bel hb).c 0, (kb.bel hb).c 1, (kb.bel hb).c 2, (kb.bel hb).c 3, (kb.bel hb).c 4⟩
       have hAp : Hid (∀ W w5 g5 c5, Below W1.heap.size W1 W → W1.heap.size < W.heap.size → w5.ownsRow 0 3 1 (.slice g5 (3 + n) c5) (3 + n) ([.int .i64 e0, .int .i64 e1, .int .i64 e2] ++ ds.map (Value.int .i64 ·)) → W.grownBy w5 (some W1.heap.size) → Below W1.heap.size W1 w5 ∧ Hid (IsJ (e0 :: e1 :: e2 :: ds) (.slice g5 (3 + n) c5) w5)) := Lib.hid fun W w5 g5 c5 hb hsz ho hg => by
        refine ⟨below_grown hb hg (fun j hj => by injection hj with hj; omega), Lib.hid ?_⟩
        have := own_isJ (l := e0 :: e1 :: e2 :: ds) (n := 3 + n) (by simp [hn.out]; omega) ho (by omega)
        exact this
       have HLb : Hid (∀ w5 v, Below W1.heap.size W1 w5 → IsJ (e0 :: e1 :: e2 :: ds) v w5 → Calls Tryz.prog 57 #[.string (⟨#[98, 97, 114, 32]⟩ ++ NM), v] w5 fun e w' => e = .returned (.string I) ∧ Hid (Below WL.heap.size WL w') ∧ w'.cell? ⟨wr.heap.size, 0, none⟩ = some (.string NM) ∧ w'.cell? ⟨wr.heap.size, 1, none⟩ = some (.int .i64 e0) ∧ w'.cell? ⟨wr.heap.size, 2, none⟩ = some (.int .i64 e1) ∧ w'.cell? ⟨wr.heap.size, 3, none⟩ = some (.int .i64 e2) ∧ w'.cell? ⟨wr.heap.size, 4, none⟩ = some (.slice (some ⟨db1, do1, none⟩) n sc)) := Lib.hid fun w5 v hb hJ =>
        (HL.out w5 v hJ.isI).mono fun e w' ⟨q1, q2⟩ => by
         subst q2
         exact ⟨q1, Lib.hid (below_then hbW1.out hb), hSc.out _ hb⟩
       have hds2 : Hid (∀ W, Below W1.heap.size W1 W → ∀ (j : Nat) (u : Value), (ds.map (Value.int .i64 ·))[j]? = some u → W.cell? ((⟨db1, do1, none⟩ : Addr).add j) = some u) := Lib.hid fun W hb j u hu => by
        rw [Addr.add_mid]
        have hj : j < n := by have := (List.getElem?_eq_some_iff.1 hu).1; rw [List.length_map, hn.out] at this; exact this
        exact (hb.cell (Nat.lt_of_lt_of_le hdl (Nat.le_trans hWl (Nat.le_of_lt hsz1)))).trans ((hW1.out.cell hdl).trans (hds1.out j hj u hu))
       have hdn : (ds.map (Value.int .i64 ·)).length = n * 1 := by rw [List.length_map, hn.out, Nat.mul_one]
       have hd1 : ∀ u ∈ ds.map (Value.int .i64 ·), u.oneCell' = true := fun u hu => by
        obtain ⟨c, _, rfl⟩ := List.mem_map.1 hu
        rfl
       replace hdn := Lib.hid hdn
       obtain ⟨iz, hiz0, hiz1, hiz2, hiz3⟩ := info_parts infoInt
       clear kb HL
       refine wp_region_noPanic ?_
       refine wp_region_held_drew (S := fun W => W.cell? ⟨wr.heap.size, 0, none⟩ = some (.string NM) ∧ W.cell? ⟨wr.heap.size, 1, none⟩ = some (.int .i64 e0) ∧ W.cell? ⟨wr.heap.size, 2, none⟩ = some (.int .i64 e1) ∧ W.cell? ⟨wr.heap.size, 3, none⟩ = some (.int .i64 e2) ∧ W.cell? ⟨wr.heap.size, 4, none⟩ = some (.slice (some ⟨db1, do1, none⟩) n sc)) (by kernel_rfl) ?_ (fun hHeld => ?_)
       ·(try dsimp only); (first | with_reducible exact hS6 | exact hSc.out _ (by first | with_reducible exact hbw5 | with_reducible exact below_drew (Below.refl _ _) | with_reducible exact below_al (below_drew (Below.refl _ _)) _ | with_reducible exact below_drew (below_al (Below.refl _ _) _)))
       refine tak (i := 0) (v := ?_) (gt rfl) ?_ ?_
       rotate_left
       focus (intro W hSW; (try dsimp only at hSW); obtain ⟨z0, z1, z2, z3, z4⟩ := hSW; go_simp; first | done | with_reducible rfl)
       (try simp only [pu, pn, si, s0, sn])
       refine tak (i := 1) (v := ?_) (gt rfl) ?_ ?_
       rotate_left
       focus (intro W hSW; (try dsimp only at hSW); obtain ⟨z0, z1, z2, z3, z4⟩ := hSW; go_simp; first | done | with_reducible rfl)
       (try simp only [pu, pn, si, s0, sn])
       refine tak (i := 2) (v := ?_) (gt rfl) ?_ ?_
       rotate_left
       focus (intro W hSW; (try dsimp only at hSW); obtain ⟨z0, z1, z2, z3, z4⟩ := hSW; go_simp; first | done | with_reducible rfl)
       (try simp only [pu, pn, si, s0, sn])
       refine tak (i := 3) (v := ?_) (gt rfl) ?_ ?_
       rotate_left
       focus (intro W hSW; (try dsimp only at hSW); obtain ⟨z0, z1, z2, z3, z4⟩ := hSW; go_simp; first | done | with_reducible rfl)
       (try simp only [pu, pn, si, s0, sn])
       refine tak (i := 4) (v := ?_) (gt rfl) ?_ ?_
       rotate_left
       focus (intro W hSW; (try dsimp only at hSW); obtain ⟨z0, z1, z2, z3, z4⟩ := hSW; go_simp; first | done | with_reducible rfl)
       (try simp only [pu, pn, si, s0, sn])
       refine tak (i := 5) (v := ?_) (gt rfl) ?_ ?_
       rotate_left
       focus (intro W hSW; (try dsimp only at hSW); obtain ⟨z0, z1, z2, z3, z4⟩ := hSW; go_simp; first | done | with_reducible rfl)
       (try simp only [pu, pn, si, s0, sn])
       refine tak (i := 6) (v := ?_) (gt rfl) ?_ ?_
       rotate_left
       focus (intro W hSW; (try dsimp only at hSW); obtain ⟨z0, z1, z2, z3, z4⟩ := hSW; go_simp; first | done | with_reducible rfl)
       (try simp only [pu, pn, si, s0, sn])
       refine tak (i := 7) (v := ?_) (gt rfl) ?_ ?_
       rotate_left
       focus (intro W hSW; (try dsimp only at hSW); obtain ⟨z0, z1, z2, z3, z4⟩ := hSW; go_simp; first | done | with_reducible rfl)
       (try simp only [pu, pn, si, s0, sn])
       refine tak (i := 8) (v := ?_) (gt rfl) ?_ ?_
       rotate_left
       focus (intro W hSW; (try dsimp only at hSW); obtain ⟨z0, z1, z2, z3, z4⟩ := hSW; go_simp; first | done | with_reducible rfl)
       (try simp only [pu, pn, si, s0, sn])
       refine tak (i := 9) (v := ?_) (gt rfl) ?_ ?_
       rotate_left
       focus (intro W hSW; (try dsimp only at hSW); obtain ⟨z0, z1, z2, z3, z4⟩ := hSW; go_simp; first | done | with_reducible rfl)
       (try simp only [pu, pn, si, s0, sn])
       refine tak (i := 11) (v := ?_) (gt rfl) ?_ ?_
       rotate_left
       focus (intro W hSW; (try dsimp only at hSW); obtain ⟨z0, z1, z2, z3, z4⟩ := hSW; go_simp; first | done | with_reducible rfl)
       (try simp only [pu, pn, si, s0, sn])
       refine tak (i := 12) (v := ?_) (gt rfl) ?_ ?_
       rotate_left
       focus (intro W hSW; (try dsimp only at hSW); obtain ⟨z0, z1, z2, z3, z4⟩ := hSW; go_simp; first | done | with_reducible rfl)
       (try simp only [pu, pn, si, s0, sn])
       refine wpAnyH_ready (rs := [10]) (by kernel_rfl) (by simp) ?_
       refine AllReadyH.cons (i := 10) (gt rfl) (fun K hK => ?_) ?_
       ·go_simp
        refine hK.out _ _ ?_ (fun hHeld => ?_)
        ·(try dsimp only); (first | with_reducible exact hS6 | exact hSc.out _ (by first | with_reducible exact hbw5 | with_reducible exact below_drew (Below.refl _ _) | with_reducible exact below_al (below_drew (Below.refl _ _)) _ | with_reducible exact below_drew (below_al (Below.refl _ _) _)))
        clear hK K
        (try simp only [pu, pn, si, s0, sn])
        refine wpAnyH_ready (rs := [13]) (by kernel_rfl) (by simp) ?_
        refine AllReadyH.cons (i := 13) (gt rfl) (fun K hK => ?_) ?_
        ·refine step_append_w _ (by rfl) (.tmp 91) (.tmp 93) 54 rfl 0 3 iz _ 1 8 Tryz.underlying54 hiz0 hiz1 hiz2 hiz3 rfl (by decide) (.slice (some ⟨W1.heap.size, 0, none⟩) 3 3) 3 [.int .i64 e0, .int .i64 e1, .int .i64 e2] (by first | rfl | (simp [Act.eval]; done)) (own_three (At.new' rfl)) ⟨db1, do1, none⟩ n sc (ds.map (Value.int .i64 ·)) (by first | rfl | (simp [Act.eval]; done)) hdn.out (hds2.out _ (below_al (below_drew (Below.refl _ _)) _)) hd1 (by unfold maxLen; omega) (by omega) (Nat.zero_le _) ?_
         intro g5 c5 w5 ho5 hg5 _
         obtain ⟨hbw5, hJ5⟩ := hAp.out _ w5 g5 c5 (below_al (below_drew (Below.refl _ _)) _) (by simp) ho5 hg5
         clear ho5 hg5
         refine hK.out _ _ ?_ (fun hHeld => ?_)
         ·(try dsimp only); (first | with_reducible exact hS6 | exact hSc.out _ (by first | with_reducible exact hbw5 | with_reducible exact below_drew (Below.refl _ _) | with_reducible exact below_al (below_drew (Below.refl _ _)) _ | with_reducible exact below_drew (below_al (Below.refl _ _) _)))
         clear hK K
         (try simp only [pu, pn, si, s0, sn])
         refine wpAnyH_ready (rs := [14]) (by kernel_rfl) (by simp) ?_
         refine AllReadyH.cons (i := 14) (gt rfl) (fun K hK => ?_) ?_
         ·go_simp
          go_at_call 57
          refine (HLb.out w5 _ hbw5 hJ5.out).mono ?_
          rintro e w6 ⟨rfl, hb3, hS6⟩
          (try go_wp2_with fail)
          refine hK.out _ _ ?_ (fun hHeld => ?_)
          ·(try dsimp only); (first | with_reducible exact hS6 | exact hSc.out _ (by first | with_reducible exact hbw5 | with_reducible exact below_drew (Below.refl _ _) | with_reducible exact below_al (below_drew (Below.refl _ _)) _ | with_reducible exact below_drew (below_al (Below.refl _ _) _)))
          clear hK K
          (try simp only [pu, pn, si, s0, sn])
          refine wpAnyH_ready (rs := [15]) (by kernel_rfl) (by simp) ?_
          refine AllReadyH.cons (i := 15) (gt rfl) (fun K hK => ?_) ?_
          ·go_simp
           refine hK.out _ _ ?_ (fun hHeld => ?_)
           ·(try dsimp only); (first | with_reducible exact hS6 | exact hSc.out _ (by first | with_reducible exact hbw5 | with_reducible exact below_drew (Below.refl _ _) | with_reducible exact below_al (below_drew (Below.refl _ _)) _ | with_reducible exact below_drew (below_al (Below.refl _ _) _)))
           clear hK K
           (try simp only [pu, pn, si, s0, sn])
           refine wpAnyH_ready (rs := [16]) (by kernel_rfl) (by simp) ?_
           refine AllReadyH.cons (i := 16) (gt rfl) (fun K hK => ?_) ?_
           ·go_simp
            refine hK.out _ _ ?_ (fun hHeld => ?_)
            ·(try dsimp only); (first | with_reducible exact hS6 | exact hSc.out _ (by first | with_reducible exact hbw5 | with_reducible exact below_drew (Below.refl _ _) | with_reducible exact below_al (below_drew (Below.refl _ _)) _ | with_reducible exact below_drew (below_al (Below.refl _ _) _)))
            clear hK K
            (try simp only [pu, pn, si, s0, sn])
            refine wpAnyH_done (by kernel_rfl) ?_ _
            refine NoPanic.normal ?_
            go_wp2_with fail
            go_roundg (nr - (k + 1))
            case measure => have := hr.out.1; omega
            case rel => exact ⟨k + 1, S ++ I, by omega, rfl, by go_num, Lib.hid ⟨rfl, hnx.out⟩, hb3⟩
           exact AllReadyH.nil
          exact AllReadyH.nil
         exact AllReadyH.nil
        exact AllReadyH.nil
       exact AllReadyH.nil
      ·have hS0 : Hid (by_ S = A5) := Lib.hid (by
        have := hr.out.2
        rw [List.take_of_length_le (by have := hnr.out; omega)] at this
        rw [hA5.out]
        exact this)
       have hSz : S.size ≤ 1000000 := by
        have h : (by_ S).length = S.size := rfl
        have h2 := hl4.out
        rw [← h, hS0.out, hA5.out, List.length_append]
        omega
       have hb0 := hb
       go_wp2_with fail
       clear hb hr x6
       go_loopg [4, 9] nu (fun g s i wr => ∃ (k : Nat) (S : ByteArray), k ≤ nu ∧ s = .string S ∧ i = .int .i64 (k : Int) ∧ Hid (g = nu - k ∧ by_ S = A5 ++ (runs.take k).flatMap (fun b => lnB (wRun ++ 32 :: b.1) b.2)) ∧ Hid (Below WL.heap.size WL wr))
       case atStart => exact ⟨0, _, Nat.zero_le _, rfl, rfl, Lib.hid ⟨rfl, by rw [List.take_zero, List.flatMap_nil, List.append_nil]; exact hS0.out⟩, hb0⟩
       case round =>
        clear hb0 hS0
        obtain ⟨k, S, hk, rfl, rfl, hr, hb⟩ := hrel
        have x7 : wr.cell? ⟨w.heap.size, 7, none⟩ = some (.slice au nu cu) := (hb.out.cell (block_lt_of_cell X7.out)).trans X7.out
        by_cases hlt : k < nu
        ·have hkl : k < runs.length := by rw [hnu.out]; exact hlt
         have hW := below_then hWL.out hb.out
         have hmem : runs[k] ∈ runs := List.getElem_mem hkl
         have hsuc : A5 ++ (runs.take (k + 1)).flatMap (fun b => lnB (wRun ++ 32 :: b.1) b.2) = by_ S ++ (fun b => lnB (wRun ++ 32 :: b.1) b.2) runs[k] := by
          rw [hr.out.2, List.take_succ_eq_append_getElem hkl, List.flatMap_append, List.flatMap_singleton, List.append_assoc]
         have hlen2 : (by_ S ++ (fun b => lnB (wRun ++ 32 :: b.1) b.2) runs[k]).length ≤ 1000000 := by
          rw [← hsuc]
          have h1 := hl5.out
          have h2 := flat_take (fun b => lnB (wRun ++ 32 :: b.1) b.2) runs (k + 1)
          rw [List.length_append]
          omega
         have hSz : S.size ≤ 1000000 := by
          have h : (by_ S).length = S.size := rfl
          rw [List.length_append] at hlen2
          omega
         obtain ⟨bb, off, rfl, hbl, hc⟩ := hRu.out k hkl
         obtain ⟨hx9, hxn, hfx⟩ := hSu.out _ hmem
         obtain ⟨x, hxx⟩ : ∃ x, runs[k] = x := ⟨_, rfl⟩
         rw [hxx] at hx9 hxn hfx hc hsuc hlen2
         obtain ⟨nm, l⟩ := x
         obtain ⟨e0, e1, e2, e3, e4, e5, e6, e7, e8, rfl⟩ := nine hx9
         dsimp only at hsuc hlen2 hfx hxn
         obtain ⟨NM, hNMk⟩ : ∃ NM : ByteArray, NM = ⟨nm.toArray⟩ := ⟨_, rfl⟩
         have hNMs : NM.size ≤ 20 := by rw [hNMk, mk_size]; exact name_len hxn
         have hsb : (⟨#[114, 117, 110, 32]⟩ : ByteArray).size = 4 := rfl
         have hct : (9223372036854775807 < 4 + NM.size) = False := eq_false (by omega)
         have hcatn : (⟨#[114, 117, 110, 32]⟩ ++ NM : ByteArray).size ≤ 24 := by rw [ByteArray.size_append]; omega
         have hwd : by_ (⟨#[114, 117, 110, 32]⟩ ++ NM : ByteArray) = wRun ++ 32 :: nm := by rw [by_append, hNMk, mk_by]; rfl
         obtain ⟨I, hI⟩ : ∃ I : ByteArray, by_ I = lnB (wRun ++ 32 :: nm) [e0, e1, e2, e3, e4, e5, e6, e7, e8] := ⟨⟨(lnB (wRun ++ 32 :: nm) [e0, e1, e2, e3, e4, e5, e6, e7, e8]).toArray⟩, mk_by _⟩
         have hIz : I.size ≤ 1000000 := by
          have h : (by_ I).length = I.size := rfl
          rw [← h, hI]
          rw [List.length_append] at hlen2
          omega
         have hnx : Hid (by_ (S ++ I) = A5 ++ (runs.take (k + 1)).flatMap (fun b => lnB (wRun ++ 32 :: b.1) b.2)) := Lib.hid (by rw [by_append, hI, hsuc])
         have hcat : (S ++ I : ByteArray).size ≤ 2000000 := by rw [ByteArray.size_append]; omega
         have hct2 : (9223372036854775807 < S.size + I.size) = False := eq_false (by omega)
         have HL := Lib.hid fun (w2 : World) (v : Value) (h : IsI [e0, e1, e2, e3, e4, e5, e6, e7, e8] v w2) => HLn.out w2 (⟨#[114, 117, 110, 32]⟩ ++ NM) [e0, e1, e2, e3, e4, e5, e6, e7, e8] v h (Nat.le_trans hcatn (by decide)) (by simp) hfx I (by rw [hI, hwd])
         have hSc : Hid (∀ W, Below WL.heap.size WL W → W.cell? ⟨w.heap.size, 7, none⟩ = some (.slice (some ⟨bb, off, none⟩) nu cu) ∧ W.cell? ⟨bb, off + k * 10, none⟩ = some (.string NM) ∧ W.cell? ⟨bb, off + k * 10 + 1, none⟩ = some (.int .i64 e0) ∧ W.cell? ⟨bb, off + k * 10 + 2, none⟩ = some (.int .i64 e1) ∧ W.cell? ⟨bb, off + k * 10 + 3, none⟩ = some (.int .i64 e2) ∧ W.cell? ⟨bb, off + k * 10 + 4, none⟩ = some (.int .i64 e3) ∧ W.cell? ⟨bb, off + k * 10 + 5, none⟩ = some (.int .i64 e4) ∧ W.cell? ⟨bb, off + k * 10 + 6, none⟩ = some (.int .i64 e5) ∧ W.cell? ⟨bb, off + k * 10 + 7, none⟩ = some (.int .i64 e6) ∧ W.cell? ⟨bb, off + k * 10 + 8, none⟩ = some (.int .i64 e7) ∧ W.cell? ⟨bb, off + k * 10 + 9, none⟩ = some (.int .i64 e8)) := Lib.hid fun W h => ⟨(h.cell (block_lt_of_cell X7.out)).trans X7.out, (by rw [hNMk]; exact ((below_then hWL.out h).cell hbl).trans (hc 0 _ rfl)), ((below_then hWL.out h).cell hbl).trans (hc 1 _ rfl), ((below_then hWL.out h).cell hbl).trans (hc 2 _ rfl), ((below_then hWL.out h).cell hbl).trans (hc 3 _ rfl), ((below_then hWL.out h).cell hbl).trans (hc 4 _ rfl), ((below_then hWL.out h).cell hbl).trans (hc 5 _ rfl), ((below_then hWL.out h).cell hbl).trans (hc 6 _ rfl), ((below_then hWL.out h).cell hbl).trans (hc 7 _ rfl), ((below_then hWL.out h).cell hbl).trans (hc 8 _ rfl), ((below_then hWL.out h).cell hbl).trans (hc 9 _ rfl)⟩
         replace hNMk := Lib.hid hNMk
         clear hx9 hxn hfx hc hxx hmem hbl hW hsuc hlen2 hI hwd
         go_upto_region 20 with fail
         refine wp_region_noPanic ?_
         refine wp_region_held_drew (S := fun W => W.cell? ⟨w.heap.size, 7, none⟩ = some (.slice (some ⟨bb, off, none⟩) nu cu) ∧ W.cell? ⟨bb, off + k * 10, none⟩ = some (.string NM) ∧ W.cell? ⟨bb, off + k * 10 + 1, none⟩ = some (.int .i64 e0) ∧ W.cell? ⟨bb, off + k * 10 + 2, none⟩ = some (.int .i64 e1) ∧ W.cell? ⟨bb, off + k * 10 + 3, none⟩ = some (.int .i64 e2) ∧ W.cell? ⟨bb, off + k * 10 + 4, none⟩ = some (.int .i64 e3) ∧ W.cell? ⟨bb, off + k * 10 + 5, none⟩ = some (.int .i64 e4) ∧ W.cell? ⟨bb, off + k * 10 + 6, none⟩ = some (.int .i64 e5) ∧ W.cell? ⟨bb, off + k * 10 + 7, none⟩ = some (.int .i64 e6) ∧ W.cell? ⟨bb, off + k * 10 + 8, none⟩ = some (.int .i64 e7) ∧ W.cell? ⟨bb, off + k * 10 + 9, none⟩ = some (.int .i64 e8)) (by kernel_rfl) ?_ (fun hHeld => ?_)
         ·(try dsimp only); exact hSc.out _ (by first | with_reducible exact hb3.out | with_reducible exact below_drew hb.out | with_reducible exact below_al (below_drew hb.out) _ | with_reducible exact below_drew (below_al hb.out _))
         refine tak (i := 0) (v := ?_) (gt rfl) ?_ ?_
         rotate_left
         focus (intro W hSW; (try dsimp only at hSW); obtain ⟨z0, z1, z2, z3, z4, z5, z6, z7, z8, z9, z10⟩ := hSW; go_simp; first | done | with_reducible rfl)
         (try simp only [pu, pn, si, s0, sn])
         refine tak (i := 1) (v := ?_) (gt rfl) ?_ ?_
         rotate_left
         focus (intro W hSW; (try dsimp only at hSW); obtain ⟨z0, z1, z2, z3, z4, z5, z6, z7, z8, z9, z10⟩ := hSW; go_simp; first | done | with_reducible rfl)
         (try simp only [pu, pn, si, s0, sn])
         refine tak (i := 2) (v := ?_) (gt rfl) ?_ ?_
         rotate_left
         focus (intro W hSW; (try dsimp only at hSW); obtain ⟨z0, z1, z2, z3, z4, z5, z6, z7, z8, z9, z10⟩ := hSW; go_simp; first | done | with_reducible rfl)
         (try simp only [pu, pn, si, s0, sn])
         refine tak (i := 3) (v := ?_) (gt rfl) ?_ ?_
         rotate_left
         focus (intro W hSW; (try dsimp only at hSW); obtain ⟨z0, z1, z2, z3, z4, z5, z6, z7, z8, z9, z10⟩ := hSW; go_simp; first | done | with_reducible rfl)
         (try simp only [pu, pn, si, s0, sn])
         refine tak (i := 4) (v := ?_) (gt rfl) ?_ ?_
         rotate_left
         focus (intro W hSW; (try dsimp only at hSW); obtain ⟨z0, z1, z2, z3, z4, z5, z6, z7, z8, z9, z10⟩ := hSW; go_simp; first | done | with_reducible rfl)
         (try simp only [pu, pn, si, s0, sn])
         refine tak (i := 5) (v := ?_) (gt rfl) ?_ ?_
         rotate_left
         focus (intro W hSW; (try dsimp only at hSW); obtain ⟨z0, z1, z2, z3, z4, z5, z6, z7, z8, z9, z10⟩ := hSW; go_simp; first | done | with_reducible rfl)
         (try simp only [pu, pn, si, s0, sn])
         refine tak (i := 6) (v := ?_) (gt rfl) ?_ ?_
         rotate_left
         focus (intro W hSW; (try dsimp only at hSW); obtain ⟨z0, z1, z2, z3, z4, z5, z6, z7, z8, z9, z10⟩ := hSW; go_simp; first | done | with_reducible rfl)
         (try simp only [pu, pn, si, s0, sn])
         refine tak (i := 7) (v := ?_) (gt rfl) ?_ ?_
         rotate_left
         focus (intro W hSW; (try dsimp only at hSW); obtain ⟨z0, z1, z2, z3, z4, z5, z6, z7, z8, z9, z10⟩ := hSW; go_simp; first | done | with_reducible rfl)
         (try simp only [pu, pn, si, s0, sn])
         refine tak (i := 8) (v := ?_) (gt rfl) ?_ ?_
         rotate_left
         focus (intro W hSW; (try dsimp only at hSW); obtain ⟨z0, z1, z2, z3, z4, z5, z6, z7, z8, z9, z10⟩ := hSW; go_simp; first | done | with_reducible rfl)
         (try simp only [pu, pn, si, s0, sn])
         refine tak (i := 9) (v := ?_) (gt rfl) ?_ ?_
         rotate_left
         focus (intro W hSW; (try dsimp only at hSW); obtain ⟨z0, z1, z2, z3, z4, z5, z6, z7, z8, z9, z10⟩ := hSW; go_simp; first | done | with_reducible rfl)
         (try simp only [pu, pn, si, s0, sn])
         refine tak (i := 10) (v := ?_) (gt rfl) ?_ ?_
         rotate_left
         focus (intro W hSW; (try dsimp only at hSW); obtain ⟨z0, z1, z2, z3, z4, z5, z6, z7, z8, z9, z10⟩ := hSW; go_simp; first | done | with_reducible rfl)
         (try simp only [pu, pn, si, s0, sn])
         refine tak (i := 11) (v := ?_) (gt rfl) ?_ ?_
         rotate_left
         focus (intro W hSW; (try dsimp only at hSW); obtain ⟨z0, z1, z2, z3, z4, z5, z6, z7, z8, z9, z10⟩ := hSW; go_simp; first | done | with_reducible rfl)
         (try simp only [pu, pn, si, s0, sn])
         refine tak (i := 12) (v := ?_) (gt rfl) ?_ ?_
         rotate_left
         focus (intro W hSW; (try dsimp only at hSW); obtain ⟨z0, z1, z2, z3, z4, z5, z6, z7, z8, z9, z10⟩ := hSW; go_simp; first | done | with_reducible rfl)
         (try simp only [pu, pn, si, s0, sn])
         refine wpAnyH_ready (rs := [13]) (by kernel_rfl) (by simp) ?_
         refine AllReadyH.cons (i := 13) (gt rfl) (fun K hK => ?_) ?_
         ·go_simp
          go_at_call 55
          refine (rrunJ e0 e1 e2 e3 e4 e5 e6 e7 e8 NM _).mono ?_
          rintro e w5 ⟨⟨v, rfl, hJ5⟩, hbn⟩
          have hb3 := Lib.hid (below_then (below_drew hb.out) hbn)
          replace hJ5 := Lib.hid hJ5.isI
          clear hbn
          (try go_wp2_with fail)
          refine hK.out _ _ ?_ (fun hHeld => ?_)
          ·(try dsimp only); exact hSc.out _ (by first | with_reducible exact hb3.out | with_reducible exact below_drew hb.out | with_reducible exact below_al (below_drew hb.out) _ | with_reducible exact below_drew (below_al hb.out _))
          clear hK K
          (try simp only [pu, pn, si, s0, sn])
          refine wpAnyH_ready (rs := [14]) (by kernel_rfl) (by simp) ?_
          refine AllReadyH.cons (i := 14) (gt rfl) (fun K hK => ?_) ?_
          ·go_simp
           go_at_call 57
           refine (HL.out w5 v hJ5.out).mono ?_
           rintro e w6 ⟨rfl, rfl⟩
           (try go_wp2_with fail)
           refine hK.out _ _ ?_ (fun hHeld => ?_)
           ·(try dsimp only); exact hSc.out _ (by first | with_reducible exact hb3.out | with_reducible exact below_drew hb.out | with_reducible exact below_al (below_drew hb.out) _ | with_reducible exact below_drew (below_al hb.out _))
           clear hK K
           (try simp only [pu, pn, si, s0, sn])
           refine wpAnyH_ready (rs := [15]) (by kernel_rfl) (by simp) ?_
           refine AllReadyH.cons (i := 15) (gt rfl) (fun K hK => ?_) ?_
           ·go_simp
            refine hK.out _ _ ?_ (fun hHeld => ?_)
            ·(try dsimp only); exact hSc.out _ (by first | with_reducible exact hb3.out | with_reducible exact below_drew hb.out | with_reducible exact below_al (below_drew hb.out) _ | with_reducible exact below_drew (below_al hb.out _))
            clear hK K
            (try simp only [pu, pn, si, s0, sn])
            refine wpAnyH_ready (rs := [16]) (by kernel_rfl) (by simp) ?_
            refine AllReadyH.cons (i := 16) (gt rfl) (fun K hK => ?_) ?_
            ·go_simp
             refine hK.out _ _ ?_ (fun hHeld => ?_)
             ·(try dsimp only); exact hSc.out _ (by first | with_reducible exact hb3.out | with_reducible exact below_drew hb.out | with_reducible exact below_al (below_drew hb.out) _ | with_reducible exact below_drew (below_al hb.out _))
             clear hK K
             (try simp only [pu, pn, si, s0, sn])
             refine wpAnyH_done (by kernel_rfl) ?_ _
             refine NoPanic.normal ?_
             go_wp2_with fail
             go_roundg (nu - (k + 1))
             case measure => have := hr.out.1; omega
             case rel => exact ⟨k + 1, S ++ I, by omega, rfl, by go_num, Lib.hid ⟨rfl, hnx.out⟩, hb3⟩
            exact AllReadyH.nil
           exact AllReadyH.nil
          exact AllReadyH.nil
         exact AllReadyH.nil
        ·have hS0 : Hid (by_ S = A6) := Lib.hid (by
          have := hr.out.2
          rw [List.take_of_length_le (by have := hnu.out; omega)] at this
          rw [hA6.out]
          exact this)
         have hSz : S.size ≤ 1000000 := by
          have h : (by_ S).length = S.size := rfl
          have h2 := hl5.out
          rw [← h, hS0.out, hA6.out, List.length_append]
          omega
         have hb0 := hb
         go_wp2_with fail
         clear hb hr x7
         go_loopg [4, 10] nl (fun g s i wr => ∃ (k : Nat) (S : ByteArray), k ≤ nl ∧ s = .string S ∧ i = .int .i64 (k : Int) ∧ Hid (g = nl - k ∧ by_ S = A6 ++ (laps.take k).flatMap (lnB wLap)) ∧ Hid (Below WL.heap.size WL wr))
         case atStart => exact ⟨0, _, Nat.zero_le _, rfl, rfl, Lib.hid ⟨rfl, by rw [List.take_zero, List.flatMap_nil, List.append_nil]; exact hS0.out⟩, hb0⟩
         case round =>
          clear hb0 hS0
          obtain ⟨k, S, hk, rfl, rfl, hr, hb⟩ := hrel
          have x8 : wr.cell? ⟨w.heap.size, 8, none⟩ = some (.slice al nl cl) := (hb.out.cell (block_lt_of_cell X8.out)).trans X8.out
          by_cases hlt : k < nl
          ·have hkl : k < laps.length := by rw [hnl.out]; exact hlt
           have hW := below_then hWL.out hb.out
           have hmem : laps[k] ∈ laps := List.getElem_mem hkl
           have hsuc : A6 ++ (laps.take (k + 1)).flatMap (lnB wLap) = by_ S ++ (lnB wLap) laps[k] := by
            rw [hr.out.2, List.take_succ_eq_append_getElem hkl, List.flatMap_append, List.flatMap_singleton, List.append_assoc]
           have hlen2 : (by_ S ++ (lnB wLap) laps[k]).length ≤ 1000000 := by
            rw [← hsuc]
            have h1 := hl6.out
            have h2 := flat_take (lnB wLap) laps (k + 1)
            rw [List.length_append]
            omega
           have hSz : S.size ≤ 1000000 := by
            have h : (by_ S).length = S.size := rfl
            rw [List.length_append] at hlen2
            omega
           obtain ⟨bb, off, rfl, hbl, hc⟩ := hRl.out k hkl
           obtain ⟨hx6, hfx⟩ := hSl.out _ hmem
           obtain ⟨e0, e1, hx⟩ := two hx6
           have hSc : Hid (∀ W, Below WL.heap.size WL W → W.cell? ⟨w.heap.size, 8, none⟩ = some (.slice (some ⟨bb, off, none⟩) nl cl) ∧ W.cell? ⟨bb, off + k * 2, none⟩ = some (.int .i64 e0) ∧ W.cell? ⟨bb, off + k * 2 + 1, none⟩ = some (.int .i64 e1)) := Lib.hid fun W h => ⟨(h.cell (block_lt_of_cell X8.out)).trans X8.out, ((below_then hWL.out h).cell hbl).trans (hc 0 _ (by rw [hx]; rfl)), ((below_then hWL.out h).cell hbl).trans (hc 1 _ (by rw [hx]; rfl))⟩
           have hKI : Hid (IsI [e0, e1] (.slice (some ⟨wr.heap.size, 0, none⟩) 2 2) (World.drew (wr.alloc (.cells #[.int .i64 e0, .int .i64 e1] 3)))) := Lib.hid (isI_new (l := [e0, e1]) ((At.new' rfl : At (wr.alloc (.cells #[.int .i64 e0, .int .i64 e1] 3)) wr.heap.size 3 #[.int .i64 e0, .int .i64 e1]).bel (below_drew (Below.refl _ _))) (by simp))
           have hb3 : Hid (Below WL.heap.size WL (World.drew (wr.alloc (.cells #[.int .i64 e0, .int .i64 e1] 3)))) := Lib.hid (below_drew (below_al hb.out _))
           rw [hx] at hsuc hfx hlen2
           obtain ⟨I, hI⟩ : ∃ I : ByteArray, by_ I = lnB wLap [e0, e1] := ⟨⟨(lnB wLap [e0, e1]).toArray⟩, mk_by _⟩
           have hIz : I.size ≤ 1000000 := by
            have h : (by_ I).length = I.size := rfl
            rw [← h, hI]
            rw [List.length_append] at hlen2
            omega
           have hnx : Hid (by_ (S ++ I) = A6 ++ (laps.take (k + 1)).flatMap (lnB wLap)) := Lib.hid (by rw [by_append, hI, hsuc])
           have hcat : (S ++ I : ByteArray).size ≤ 2000000 := by rw [ByteArray.size_append]; omega
           have hct2 : (9223372036854775807 < S.size + I.size) = False := eq_false (by omega)
           have HL := Lib.hid fun (w2 : World) (v : Value) (h : IsI [e0, e1] v w2) => HLn.out w2 ⟨#[108, 97, 112]⟩ [e0, e1] v h (by decide) (by simp) hfx I hI
           clear hx6 hfx hc hx hmem hsuc hlen2 hI hW hbl
           go_upto_region 24 with fail
           refine wp_region_noPanic ?_
           refine wp_region_held_drew (S := fun W => W.cell? ⟨w.heap.size, 8, none⟩ = some (.slice (some ⟨bb, off, none⟩) nl cl) ∧ W.cell? ⟨bb, off + k * 2, none⟩ = some (.int .i64 e0) ∧ W.cell? ⟨bb, off + k * 2 + 1, none⟩ = some (.int .i64 e1)) (by kernel_rfl) ?_ (fun hHeld => ?_)
           ·(try dsimp only); exact hSc.out _ (by first | with_reducible exact hb3.out | with_reducible exact below_drew hb.out | with_reducible exact below_al (below_drew hb.out) _ | with_reducible exact below_drew (below_al hb.out _))
           refine tak (i := 0) (v := ?_) (gt rfl) ?_ ?_
           rotate_left
           focus (intro W hSW; (try dsimp only at hSW); obtain ⟨z0, z1, z2⟩ := hSW; go_simp; first | done | with_reducible rfl)
           (try simp only [pu, pn, si, s0, sn])
           refine tak (i := 1) (v := ?_) (gt rfl) ?_ ?_
           rotate_left
           focus (intro W hSW; (try dsimp only at hSW); obtain ⟨z0, z1, z2⟩ := hSW; go_simp; first | done | with_reducible rfl)
           (try simp only [pu, pn, si, s0, sn])
           refine tak (i := 2) (v := ?_) (gt rfl) ?_ ?_
           rotate_left
           focus (intro W hSW; (try dsimp only at hSW); obtain ⟨z0, z1, z2⟩ := hSW; go_simp; first | done | with_reducible rfl)
           (try simp only [pu, pn, si, s0, sn])
           refine tak (i := 3) (v := ?_) (gt rfl) ?_ ?_
           rotate_left
           focus (intro W hSW; (try dsimp only at hSW); obtain ⟨z0, z1, z2⟩ := hSW; go_simp; first | done | with_reducible rfl)
           (try simp only [pu, pn, si, s0, sn])
           refine tak (i := 4) (v := ?_) (gt rfl) ?_ ?_
           rotate_left
           focus (intro W hSW; (try dsimp only at hSW); obtain ⟨z0, z1, z2⟩ := hSW; go_simp; first | done | with_reducible rfl)
           (try simp only [pu, pn, si, s0, sn])
           refine tak (i := 5) (v := ?_) (gt rfl) ?_ ?_
           rotate_left
           focus (intro W hSW; (try dsimp only at hSW); obtain ⟨z0, z1, z2⟩ := hSW; go_simp; first | done | with_reducible rfl)
           (try simp only [pu, pn, si, s0, sn])
           refine tak (i := 6) (v := ?_) (gt rfl) ?_ ?_
           rotate_left
           focus (intro W hSW; (try dsimp only at hSW); obtain ⟨z0, z1, z2⟩ := hSW; go_simp; first | done | with_reducible rfl)
           (try simp only [pu, pn, si, s0, sn])
           refine tak (i := 7) (v := ?_) (gt rfl) ?_ ?_
           rotate_left
           focus (intro W hSW; (try dsimp only at hSW); obtain ⟨z0, z1, z2⟩ := hSW; go_simp; first | done | with_reducible rfl)
           (try simp only [pu, pn, si, s0, sn])
           refine tak (i := 8) (v := ?_) (gt rfl) ?_ ?_
           rotate_left
           focus (intro W hSW; (try dsimp only at hSW); obtain ⟨z0, z1, z2⟩ := hSW; go_simp; first | done | with_reducible rfl)
           (try simp only [pu, pn, si, s0, sn])
           refine tak (i := 9) (v := ?_) (gt rfl) ?_ ?_
           rotate_left
           focus (intro W hSW; (try dsimp only at hSW); obtain ⟨z0, z1, z2⟩ := hSW; go_simp; first | done | with_reducible rfl)
           (try simp only [pu, pn, si, s0, sn])
           refine tak (i := 10) (v := ?_) (gt rfl) ?_ ?_
           rotate_left
           focus (intro W hSW; (try dsimp only at hSW); obtain ⟨z0, z1, z2⟩ := hSW; go_simp; first | done | with_reducible rfl)
           (try simp only [pu, pn, si, s0, sn])
           refine tak (i := 11) (v := ?_) (gt rfl) ?_ ?_
           rotate_left
           focus (intro W hSW; (try dsimp only at hSW); obtain ⟨z0, z1, z2⟩ := hSW; go_simp; first | done | with_reducible rfl)
           (try simp only [pu, pn, si, s0, sn])
           refine tak (i := 12) (v := ?_) (gt rfl) ?_ ?_
           rotate_left
           focus (intro W hSW; (try dsimp only at hSW); obtain ⟨z0, z1, z2⟩ := hSW; go_simp; first | done | with_reducible rfl)
           (try simp only [pu, pn, si, s0, sn])
           refine wpAnyH_ready (rs := [13]) (by kernel_rfl) (by simp) ?_
           refine AllReadyH.cons (i := 13) (gt rfl) (fun K hK => ?_) ?_
           ·go_simp
            refine hK.out _ _ ?_ (fun hHeld => ?_)
            ·(try dsimp only); exact hSc.out _ (by first | with_reducible exact hb3.out | with_reducible exact below_drew hb.out | with_reducible exact below_al (below_drew hb.out) _ | with_reducible exact below_drew (below_al hb.out _))
            clear hK K
            (try simp only [pu, pn, si, s0, sn])
            refine wpAnyH_ready (rs := [14]) (by kernel_rfl) (by simp) ?_
            refine AllReadyH.cons (i := 14) (gt rfl) (fun K hK => ?_) ?_
            ·go_simp
             go_at_call 57
             refine (HL.out _ _ hKI.out).mono ?_
             rintro e w6 ⟨rfl, rfl⟩
             (try go_wp2_with fail)
             refine hK.out _ _ ?_ (fun hHeld => ?_)
             ·(try dsimp only); exact hSc.out _ (by first | with_reducible exact hb3.out | with_reducible exact below_drew hb.out | with_reducible exact below_al (below_drew hb.out) _ | with_reducible exact below_drew (below_al hb.out _))
             clear hK K
             (try simp only [pu, pn, si, s0, sn])
             refine wpAnyH_ready (rs := [15]) (by kernel_rfl) (by simp) ?_
             refine AllReadyH.cons (i := 15) (gt rfl) (fun K hK => ?_) ?_
             ·go_simp
              refine hK.out _ _ ?_ (fun hHeld => ?_)
              ·(try dsimp only); exact hSc.out _ (by first | with_reducible exact hb3.out | with_reducible exact below_drew hb.out | with_reducible exact below_al (below_drew hb.out) _ | with_reducible exact below_drew (below_al hb.out _))
              clear hK K
              (try simp only [pu, pn, si, s0, sn])
              refine wpAnyH_ready (rs := [16]) (by kernel_rfl) (by simp) ?_
              refine AllReadyH.cons (i := 16) (gt rfl) (fun K hK => ?_) ?_
              ·go_simp
               refine hK.out _ _ ?_ (fun hHeld => ?_)
               ·(try dsimp only); exact hSc.out _ (by first | with_reducible exact hb3.out | with_reducible exact below_drew hb.out | with_reducible exact below_al (below_drew hb.out) _ | with_reducible exact below_drew (below_al hb.out _))
               clear hK K
               (try simp only [pu, pn, si, s0, sn])
               refine wpAnyH_done (by kernel_rfl) ?_ _
               refine NoPanic.normal ?_
               go_wp2_with fail
               go_roundg (nl - (k + 1))
               case measure => have := hr.out.1; omega
               case rel => exact ⟨k + 1, S ++ I, by omega, rfl, by go_num, Lib.hid ⟨rfl, hnx.out⟩, hb3⟩
              exact AllReadyH.nil
             exact AllReadyH.nil
            exact AllReadyH.nil
           exact AllReadyH.nil
          ·have hS0 : Hid (by_ S = A7) := Lib.hid (by
            have := hr.out.2
            rw [List.take_of_length_le (by have := hnl.out; omega)] at this
            rw [hA7.out]
            exact this)
           have hSz : S.size ≤ 1000000 := by
            have h : (by_ S).length = S.size := rfl
            have h2 := hl6.out
            rw [← h, hS0.out, hA7.out, List.length_append]
            omega
           have hb0 := hb
           go_wp2_with fail
           clear hb hr x8
           go_loopg [4, 11] nd (fun g s i wr => ∃ (k : Nat) (S : ByteArray), k ≤ nd ∧ s = .string S ∧ i = .int .i64 (k : Int) ∧ Hid (g = nd - k ∧ by_ S = A7 ++ (dems.take k).flatMap (fun x => lnB (wDemand ++ 32 :: x.1) x.2.1 ++ x.2.2.flatMap (lnB wStep))) ∧ Hid (Below WL.heap.size WL wr))
           case atStart => exact ⟨0, _, Nat.zero_le _, rfl, rfl, Lib.hid ⟨rfl, by rw [List.take_zero, List.flatMap_nil, List.append_nil]; exact hS0.out⟩, hb0⟩
           case round =>
            clear hb0 hS0
            obtain ⟨k, S, hk, rfl, rfl, hr, hb⟩ := hrel
            have x9 : wr.cell? ⟨w.heap.size, 9, none⟩ = some (.slice ad nd cd) := (hb.out.cell (block_lt_of_cell X9.out)).trans X9.out
            by_cases hlt : k < nd
            ·have hkl : k < dems.length := by rw [hnd.out]; exact hlt
             have hW := below_then hWL.out hb.out
             have hmem : dems[k] ∈ dems := List.getElem_mem hkl
             have hsuc : A7 ++ (dems.take (k + 1)).flatMap (fun x => lnB (wDemand ++ 32 :: x.1) x.2.1 ++ x.2.2.flatMap (lnB wStep)) = by_ S ++ (fun x => lnB (wDemand ++ 32 :: x.1) x.2.1 ++ x.2.2.flatMap (lnB wStep)) dems[k] := by
              rw [hr.out.2, List.take_succ_eq_append_getElem hkl, List.flatMap_append, List.flatMap_singleton, List.append_assoc]
             have hlen2 : (by_ S ++ (fun x => lnB (wDemand ++ 32 :: x.1) x.2.1 ++ x.2.2.flatMap (lnB wStep)) dems[k]).length ≤ 1000000 := by
              rw [← hsuc]
              have h1 := hl7.out
              have h2 := flat_take (fun x => lnB (wDemand ++ 32 :: x.1) x.2.1 ++ x.2.2.flatMap (lnB wStep)) dems (k + 1)
              rw [List.length_append]
              omega
             have hSz : S.size ≤ 1000000 := by
              have h : (by_ S).length = S.size := rfl
              rw [List.length_append] at hlen2
              omega
             obtain ⟨bb, off, rfl, hbl, hc⟩ := hRd.out k (by rw [hzd.out]; exact hkl)
             rw [List.getElem_zip] at hc
             obtain ⟨hx6, hxs, hxn, hfx, hxl, hxg⟩ := hSdm.out _ hmem
             have hst := hSt.out k hkl (by rw [hnsd.out]; exact hkl)
             obtain ⟨x, hxx⟩ : ∃ x, dems[k] = x := ⟨_, rfl⟩
             rw [hxx] at hx6 hxs hxn hfx hxl hxg hc hst hsuc hlen2
             obtain ⟨nm, z, st⟩ := x
             obtain ⟨e0, e1, e2, e3, e4, e5, rfl⟩ := six hx6
             dsimp only at hsuc hlen2 hfx hxn
             obtain ⟨sta, stc, hdv, h2, h3, h4⟩ := hst
             have hst4 : Hid (RowAt (encK 2) 2 w.heap.size w sta st) := Lib.hid h4
             have hSs : Hid (∀ n ∈ st, n.length = 2 ∧ fitB n = true) := Lib.hid fun n hn => ⟨hxs n hn, hxg n hn⟩
             obtain ⟨stn, hstn⟩ : ∃ n, st.length = n := ⟨_, rfl⟩
             have hstl : stn ≤ 200 := by rw [← hstn]; exact hxl
             have hdv : ds[k]'(by rw [hnsd.out]; exact hkl) = .slice sta stn stc := by rw [← hstn]; exact hdv
             rw [hdv] at hc
             obtain ⟨NM, hNMk⟩ : ∃ NM : ByteArray, NM = ⟨nm.toArray⟩ := ⟨_, rfl⟩
             have hNMs : NM.size ≤ 20 := by rw [hNMk, mk_size]; exact name_len hxn
             have hsb : (⟨#[100, 101, 109, 97, 110, 100, 32]⟩ : ByteArray).size = 7 := rfl
             have hct : (9223372036854775807 < 7 + NM.size) = False := eq_false (by omega)
             have hcatn : (⟨#[100, 101, 109, 97, 110, 100, 32]⟩ ++ NM : ByteArray).size ≤ 27 := by rw [ByteArray.size_append]; omega
             have hwd : by_ (⟨#[100, 101, 109, 97, 110, 100, 32]⟩ ++ NM : ByteArray) = wDemand ++ 32 :: nm := by rw [by_append, hNMk, mk_by]; rfl
             obtain ⟨I, hI⟩ : ∃ I : ByteArray, by_ I = lnB (wDemand ++ 32 :: nm) [e0, e1, e2, e3, e4, e5] := ⟨⟨(lnB (wDemand ++ 32 :: nm) [e0, e1, e2, e3, e4, e5]).toArray⟩, mk_by _⟩
             obtain ⟨AD, hAD⟩ : ∃ AD, AD = by_ S ++ lnB (wDemand ++ 32 :: nm) [e0, e1, e2, e3, e4, e5] := ⟨_, rfl⟩
             have hsuc2 : Hid (A7 ++ (dems.take (k + 1)).flatMap (fun x => lnB (wDemand ++ 32 :: x.1) x.2.1 ++ x.2.2.flatMap (lnB wStep)) = AD ++ st.flatMap (lnB wStep)) := Lib.hid (by rw [hsuc, hAD, List.append_assoc])
             have hlenD : Hid (AD.length + (st.flatMap (lnB wStep)).length ≤ 1000000) := Lib.hid (by
              rw [← List.append_assoc, ← hAD, List.length_append] at hlen2
              exact hlen2)
             have hSI : Hid (by_ (S ++ I) = AD) := Lib.hid (by rw [by_append, hI, hAD])
             have hIz : I.size ≤ 1000000 := by
              have h : (by_ I).length = I.size := rfl
              have h2 := hlenD.out
              rw [hAD, List.length_append, ← hI] at h2
              omega
             have hcat : (S ++ I : ByteArray).size ≤ 2000000 := by rw [ByteArray.size_append]; omega
             have hct2 : (9223372036854775807 < S.size + I.size) = False := eq_false (by omega)
             have HL := Lib.hid fun (w2 : World) (v : Value) (h : IsI [e0, e1, e2, e3, e4, e5] v w2) => HLn.out w2 (⟨#[100, 101, 109, 97, 110, 100, 32]⟩ ++ NM) [e0, e1, e2, e3, e4, e5] v h (Nat.le_trans hcatn (by decide)) (by simp) hfx I (by rw [hI, hwd])
             have q0 : wr.cell? ⟨bb, off + k * 8, none⟩ = some (.string NM) := by rw [hNMk]; exact (hW.cell hbl).trans (hc 0 _ rfl)
             have q1 : wr.cell? ⟨bb, off + k * 8 + 1, none⟩ = some (.int .i64 e0) := (hW.cell hbl).trans (hc 1 _ rfl)
             have q2 : wr.cell? ⟨bb, off + k * 8 + 2, none⟩ = some (.int .i64 e1) := (hW.cell hbl).trans (hc 2 _ rfl)
             have q3 : wr.cell? ⟨bb, off + k * 8 + 3, none⟩ = some (.int .i64 e2) := (hW.cell hbl).trans (hc 3 _ rfl)
             have q4 : wr.cell? ⟨bb, off + k * 8 + 4, none⟩ = some (.int .i64 e3) := (hW.cell hbl).trans (hc 4 _ rfl)
             have q5 : wr.cell? ⟨bb, off + k * 8 + 5, none⟩ = some (.int .i64 e4) := (hW.cell hbl).trans (hc 5 _ rfl)
             have q6 : wr.cell? ⟨bb, off + k * 8 + 6, none⟩ = some (.int .i64 e5) := (hW.cell hbl).trans (hc 6 _ rfl)
             have q7 : wr.cell? ⟨bb, off + k * 8 + 7, none⟩ = some (.slice sta stn stc) := (hW.cell hbl).trans (hc 7 _ rfl)
             replace hNMk := Lib.hid hNMk
             replace hstn := Lib.hid hstn
             replace hAD := Lib.hid hAD
             clear hx6 hxs hxn hfx hxl hxg hc hxx hmem hbl hW hdv h2 h3 h4 hsuc hlen2 hI hwd
             go_upto_region 29 with fail
             generalize hWW : World.alloc wr _ = W1
             obtain ⟨B, hB⟩ : ∃ B, wr.heap.size = B := ⟨_, rfl⟩
             rw [hB]
             have kb : At W1 B 63 #[.string NM, .int .i64 e0, .int .i64 e1, .int .i64 e2, .int .i64 e3, .int .i64 e4, .int .i64 e5, .slice sta stn stc] := by rw [← hWW]; exact At.new' hB.symm
             have hbW1 : Hid (Below WL.heap.size WL W1) := Lib.hid (by rw [← hWW]; exact below_al hb.out _)
             clear hWW q0 q1 q2 q3 q4 q5 q6 q7 hb x9 hB
             have hSc : Hid (∀ W, Below W1.heap.size W1 W → W.cell? ⟨B, 0, none⟩ = some (.string NM) ∧ W.cell? ⟨B, 1, none⟩ = some (.int .i64 e0) ∧ W.cell? ⟨B, 2, none⟩ = some (.int .i64 e1) ∧ W.cell? ⟨B, 3, none⟩ = some (.int .i64 e2) ∧ W.cell? ⟨B, 4, none⟩ = some (.int .i64 e3) ∧ W.cell? ⟨B, 5, none⟩ = some (.int .i64 e4) ∧ W.cell? ⟨B, 6, none⟩ = some (.int .i64 e5) ∧ W.cell? ⟨B, 7, none⟩ = some (.slice sta stn stc)) := Lib.hid fun W hb => ⟨(kb.bel hb).c 0, (kb.bel hb).c 1, (kb.bel hb).c 2, (kb.bel hb).c 3, (kb.bel hb).c 4, (kb.bel hb).c 5, (kb.bel hb).c 6, (kb.bel hb).c 7⟩
             refine wp_region_noPanic ?_
             refine wp_region_held_drew (S := fun W => W.cell? ⟨B, 0, none⟩ = some (.string NM) ∧ W.cell? ⟨B, 1, none⟩ = some (.int .i64 e0) ∧ W.cell? ⟨B, 2, none⟩ = some (.int .i64 e1) ∧ W.cell? ⟨B, 3, none⟩ = some (.int .i64 e2) ∧ W.cell? ⟨B, 4, none⟩ = some (.int .i64 e3) ∧ W.cell? ⟨B, 5, none⟩ = some (.int .i64 e4) ∧ W.cell? ⟨B, 6, none⟩ = some (.int .i64 e5) ∧ W.cell? ⟨B, 7, none⟩ = some (.slice sta stn stc)) (by kernel_rfl) ?_ (fun hHeld => ?_)
             ·(try dsimp only); (first | with_reducible exact hS6 | exact hSc.out _ (by first | with_reducible exact hbw5 | with_reducible exact below_drew (Below.refl _ _) | with_reducible exact below_al (below_drew (Below.refl _ _)) _ | with_reducible exact below_drew (below_al (Below.refl _ _) _)))
             refine tak (i := 0) (v := ?_) (gt rfl) ?_ ?_
             rotate_left
             focus (intro W hSW; (try dsimp only at hSW); obtain ⟨z0, z1, z2, z3, z4, z5, z6, z7⟩ := hSW; go_simp; first | done | with_reducible rfl)
             (try simp only [pu, pn, si, s0, sn])
             refine tak (i := 1) (v := ?_) (gt rfl) ?_ ?_
             rotate_left
             focus (intro W hSW; (try dsimp only at hSW); obtain ⟨z0, z1, z2, z3, z4, z5, z6, z7⟩ := hSW; go_simp; first | done | with_reducible rfl)
             (try simp only [pu, pn, si, s0, sn])
             refine tak (i := 2) (v := ?_) (gt rfl) ?_ ?_
             rotate_left
             focus (intro W hSW; (try dsimp only at hSW); obtain ⟨z0, z1, z2, z3, z4, z5, z6, z7⟩ := hSW; go_simp; first | done | with_reducible rfl)
             (try simp only [pu, pn, si, s0, sn])
             refine tak (i := 3) (v := ?_) (gt rfl) ?_ ?_
             rotate_left
             focus (intro W hSW; (try dsimp only at hSW); obtain ⟨z0, z1, z2, z3, z4, z5, z6, z7⟩ := hSW; go_simp; first | done | with_reducible rfl)
             (try simp only [pu, pn, si, s0, sn])
             refine tak (i := 4) (v := ?_) (gt rfl) ?_ ?_
             rotate_left
             focus (intro W hSW; (try dsimp only at hSW); obtain ⟨z0, z1, z2, z3, z4, z5, z6, z7⟩ := hSW; go_simp; first | done | with_reducible rfl)
             (try simp only [pu, pn, si, s0, sn])
             refine tak (i := 5) (v := ?_) (gt rfl) ?_ ?_
             rotate_left
             focus (intro W hSW; (try dsimp only at hSW); obtain ⟨z0, z1, z2, z3, z4, z5, z6, z7⟩ := hSW; go_simp; first | done | with_reducible rfl)
             (try simp only [pu, pn, si, s0, sn])
             refine wpAnyH_ready (rs := [6]) (by kernel_rfl) (by simp) ?_
             refine AllReadyH.cons (i := 6) (gt rfl) (fun K hK => ?_) ?_
             ·go_simp
              go_at_call 56
              refine (cornersJ e0 e1 e2 e3 e4 e5 _).mono ?_
              rintro e w5 ⟨⟨v, rfl, hJ5⟩, hbn⟩
              have hbw5 : Below W1.heap.size W1 w5 := below_then (below_drew (Below.refl _ _)) hbn
              replace hJ5 := Lib.hid hJ5.isI
              clear hbn
              (try go_wp2_with fail)
              refine hK.out _ _ ?_ (fun hHeld => ?_)
              ·(try dsimp only); (first | with_reducible exact hS6 | exact hSc.out _ (by first | with_reducible exact hbw5 | with_reducible exact below_drew (Below.refl _ _) | with_reducible exact below_al (below_drew (Below.refl _ _)) _ | with_reducible exact below_drew (below_al (Below.refl _ _) _)))
              clear hK K
              (try simp only [pu, pn, si, s0, sn])
              refine wpAnyH_ready (rs := [7]) (by kernel_rfl) (by simp) ?_
              refine AllReadyH.cons (i := 7) (gt rfl) (fun K hK => ?_) ?_
              ·go_simp
               go_at_call 57
               refine (HL.out w5 v hJ5.out).mono ?_
               rintro e w6 ⟨rfl, rfl⟩
               (try go_wp2_with fail)
               refine hK.out _ _ ?_ (fun hHeld => ?_)
               ·(try dsimp only); (first | with_reducible exact hS6 | exact hSc.out _ (by first | with_reducible exact hbw5 | with_reducible exact below_drew (Below.refl _ _) | with_reducible exact below_al (below_drew (Below.refl _ _)) _ | with_reducible exact below_drew (below_al (Below.refl _ _) _)))
               clear hK K
               (try simp only [pu, pn, si, s0, sn])
               refine wpAnyH_ready (rs := [8]) (by kernel_rfl) (by simp) ?_
               refine AllReadyH.cons (i := 8) (gt rfl) (fun K hK => ?_) ?_
               ·go_simp
                refine hK.out _ _ ?_ (fun hHeld => ?_)
                ·(try dsimp only); (first | with_reducible exact hS6 | exact hSc.out _ (by first | with_reducible exact hbw5 | with_reducible exact below_drew (Below.refl _ _) | with_reducible exact below_al (below_drew (Below.refl _ _)) _ | with_reducible exact below_drew (below_al (Below.refl _ _) _)))
                clear hK K
                (try simp only [pu, pn, si, s0, sn])
                refine wpAnyH_ready (rs := [9]) (by kernel_rfl) (by simp) ?_
                refine AllReadyH.cons (i := 9) (gt rfl) (fun K hK => ?_) ?_
                ·go_simp
                 refine hK.out _ _ ?_ (fun hHeld => ?_)
                 ·(try dsimp only); (first | with_reducible exact hS6 | exact hSc.out _ (by first | with_reducible exact hbw5 | with_reducible exact below_drew (Below.refl _ _) | with_reducible exact below_al (below_drew (Below.refl _ _)) _ | with_reducible exact below_drew (below_al (Below.refl _ _) _)))
                 clear hK K
                 (try simp only [pu, pn, si, s0, sn])
                 refine wpAnyH_done (by kernel_rfl) ?_ _
                 refine NoPanic.normal ?_
                 have k4 := Lib.hid (kb.bel hbw5)
                 have hb4 := Lib.hid (below_then hbW1.out hbw5)
                 have hW4 := Lib.hid (below_then hWL.out hb4.out)
                 have hAS := hSI
                 obtain ⟨S4, hS4⟩ : ∃ S4, S ++ I = S4 := ⟨_, rfl⟩
                 rw [hS4] at hSI ⊢
                 have hb0s := Lib.hid (Below.refl w5.heap.size w5)
                 clear HL hSc hbw5 hJ5 kb hcat hIz hct hsb hcatn hNMs hSz hAS hHeld hS4
                 have z7 := k4.out.c 7
                 go_wp2_with fail
                 go_loopg [4, 13] stn (fun g s i wr => ∃ (j : Nat) (S : ByteArray), j ≤ stn ∧ s = .string S ∧ i = .int .i64 (j : Int) ∧ Hid (g = stn - j ∧ by_ S = AD ++ (st.take j).flatMap (lnB wStep)) ∧ Hid (Below w5.heap.size w5 wr))
                 case atStart => exact ⟨0, _, Nat.zero_le _, rfl, rfl, Lib.hid ⟨rfl, by rw [List.take_zero, List.flatMap_nil, List.append_nil]; exact hSI.out⟩, hb0s⟩
                 case round =>
                  clear hb0s hSI z7
                  obtain ⟨j, S, hj, rfl, rfl, hr2, hb⟩ := hrel
                  have z7 := (k4.out.bel hb.out).c 7
                  by_cases hlt2 : j < stn
                  ·have hkl : j < st.length := by rw [hstn.out]; exact hlt2
                   have hW := below_then hW4.out hb.out
                   have hmem : st[j] ∈ st := List.getElem_mem hkl
                   have hsuc : AD ++ (st.take (j + 1)).flatMap (lnB wStep) = by_ S ++ lnB wStep st[j] := by
                    rw [hr2.out.2, List.take_succ_eq_append_getElem hkl, List.flatMap_append, List.flatMap_singleton, List.append_assoc]
                   have hlen2 : (by_ S ++ lnB wStep st[j]).length ≤ 1000000 := by
                    rw [← hsuc]
                    have h1 := hlenD.out
                    have h2 := flat_take (lnB wStep) st (j + 1)
                    rw [List.length_append]
                    omega
                   have hSz : S.size ≤ 1000000 := by
                    have h : (by_ S).length = S.size := rfl
                    rw [List.length_append] at hlen2
                    omega
                   obtain ⟨bb, off, rfl, hbl, hc⟩ := hst4.out j hkl
                   obtain ⟨hx6, hfx⟩ := hSs.out _ hmem
                   obtain ⟨e0, e1, hx⟩ := two hx6
                   have hSc : Hid (∀ W, Below w5.heap.size w5 W → W.cell? ⟨B, 7, none⟩ = some (.slice (some ⟨bb, off, none⟩) stn stc) ∧ W.cell? ⟨bb, off + j * 2, none⟩ = some (.int .i64 e0) ∧ W.cell? ⟨bb, off + j * 2 + 1, none⟩ = some (.int .i64 e1)) := Lib.hid fun W h => ⟨(k4.out.bel h).c 7, ((below_then hW4.out h).cell hbl).trans (hc 0 _ (by rw [hx]; rfl)), ((below_then hW4.out h).cell hbl).trans (hc 1 _ (by rw [hx]; rfl))⟩
                   have hKI : Hid (IsI [e0, e1] (.slice (some ⟨wr.heap.size, 0, none⟩) 2 2) (World.drew (wr.alloc (.cells #[.int .i64 e0, .int .i64 e1] 3)))) := Lib.hid (isI_new (l := [e0, e1]) ((At.new' rfl : At (wr.alloc (.cells #[.int .i64 e0, .int .i64 e1] 3)) wr.heap.size 3 #[.int .i64 e0, .int .i64 e1]).bel (below_drew (Below.refl _ _))) (by simp))
                   have hb3 : Hid (Below w5.heap.size w5 (World.drew (wr.alloc (.cells #[.int .i64 e0, .int .i64 e1] 3)))) := Lib.hid (below_drew (below_al hb.out _))
                   rw [hx] at hsuc hfx hlen2
                   obtain ⟨I, hI⟩ : ∃ I : ByteArray, by_ I = lnB wStep [e0, e1] := ⟨⟨(lnB wStep [e0, e1]).toArray⟩, mk_by _⟩
                   have hIz : I.size ≤ 1000000 := by
                    have h : (by_ I).length = I.size := rfl
                    rw [← h, hI]
                    rw [List.length_append] at hlen2
                    omega
                   have hnx : Hid (by_ (S ++ I) = AD ++ (st.take (j + 1)).flatMap (lnB wStep)) := Lib.hid (by rw [by_append, hI, hsuc])
                   have hcat : (S ++ I : ByteArray).size ≤ 2000000 := by rw [ByteArray.size_append]; omega
                   have hct2 : (9223372036854775807 < S.size + I.size) = False := eq_false (by omega)
                   have HL := Lib.hid fun (w2 : World) (v : Value) (h : IsI [e0, e1] v w2) => HLn.out w2 ⟨#[115, 116, 101, 112]⟩ [e0, e1] v h (by decide) (by simp) hfx I hI
                   clear hx6 hfx hc hx hmem hsuc hlen2 hI hW hbl
                   go_upto_region 33 with fail
                   refine wp_region_noPanic ?_
                   refine wp_region_held_drew (S := fun W => W.cell? ⟨B, 7, none⟩ = some (.slice (some ⟨bb, off, none⟩) stn stc) ∧ W.cell? ⟨bb, off + j * 2, none⟩ = some (.int .i64 e0) ∧ W.cell? ⟨bb, off + j * 2 + 1, none⟩ = some (.int .i64 e1)) (by kernel_rfl) ?_ (fun hHeld => ?_)
                   ·(try dsimp only); exact hSc.out _ (by first | with_reducible exact hb3.out | with_reducible exact below_drew hb.out | with_reducible exact below_al (below_drew hb.out) _ | with_reducible exact below_drew (below_al hb.out _))
                   refine tak (i := 0) (v := ?_) (gt rfl) ?_ ?_
                   rotate_left
                   focus (intro W hSW; (try dsimp only at hSW); obtain ⟨z0, z1, z2⟩ := hSW; go_simp; first | done | with_reducible rfl)
                   (try simp only [pu, pn, si, s0, sn])
                   refine tak (i := 1) (v := ?_) (gt rfl) ?_ ?_
                   rotate_left
                   focus (intro W hSW; (try dsimp only at hSW); obtain ⟨z0, z1, z2⟩ := hSW; go_simp; first | done | with_reducible rfl)
                   (try simp only [pu, pn, si, s0, sn])
                   refine tak (i := 2) (v := ?_) (gt rfl) ?_ ?_
                   rotate_left
                   focus (intro W hSW; (try dsimp only at hSW); obtain ⟨z0, z1, z2⟩ := hSW; go_simp; first | done | with_reducible rfl)
                   (try simp only [pu, pn, si, s0, sn])
                   refine tak (i := 3) (v := ?_) (gt rfl) ?_ ?_
                   rotate_left
                   focus (intro W hSW; (try dsimp only at hSW); obtain ⟨z0, z1, z2⟩ := hSW; go_simp; first | done | with_reducible rfl)
                   (try simp only [pu, pn, si, s0, sn])
                   refine tak (i := 4) (v := ?_) (gt rfl) ?_ ?_
                   rotate_left
                   focus (intro W hSW; (try dsimp only at hSW); obtain ⟨z0, z1, z2⟩ := hSW; go_simp; first | done | with_reducible rfl)
                   (try simp only [pu, pn, si, s0, sn])
                   refine tak (i := 5) (v := ?_) (gt rfl) ?_ ?_
                   rotate_left
                   focus (intro W hSW; (try dsimp only at hSW); obtain ⟨z0, z1, z2⟩ := hSW; go_simp; first | done | with_reducible rfl)
                   (try simp only [pu, pn, si, s0, sn])
                   refine tak (i := 6) (v := ?_) (gt rfl) ?_ ?_
                   rotate_left
                   focus (intro W hSW; (try dsimp only at hSW); obtain ⟨z0, z1, z2⟩ := hSW; go_simp; first | done | with_reducible rfl)
                   (try simp only [pu, pn, si, s0, sn])
                   refine tak (i := 7) (v := ?_) (gt rfl) ?_ ?_
                   rotate_left
                   focus (intro W hSW; (try dsimp only at hSW); obtain ⟨z0, z1, z2⟩ := hSW; go_simp; first | done | with_reducible rfl)
                   (try simp only [pu, pn, si, s0, sn])
                   refine tak (i := 8) (v := ?_) (gt rfl) ?_ ?_
                   rotate_left
                   focus (intro W hSW; (try dsimp only at hSW); obtain ⟨z0, z1, z2⟩ := hSW; go_simp; first | done | with_reducible rfl)
                   (try simp only [pu, pn, si, s0, sn])
                   refine tak (i := 9) (v := ?_) (gt rfl) ?_ ?_
                   rotate_left
                   focus (intro W hSW; (try dsimp only at hSW); obtain ⟨z0, z1, z2⟩ := hSW; go_simp; first | done | with_reducible rfl)
                   (try simp only [pu, pn, si, s0, sn])
                   refine tak (i := 10) (v := ?_) (gt rfl) ?_ ?_
                   rotate_left
                   focus (intro W hSW; (try dsimp only at hSW); obtain ⟨z0, z1, z2⟩ := hSW; go_simp; first | done | with_reducible rfl)
                   (try simp only [pu, pn, si, s0, sn])
                   refine tak (i := 11) (v := ?_) (gt rfl) ?_ ?_
                   rotate_left
                   focus (intro W hSW; (try dsimp only at hSW); obtain ⟨z0, z1, z2⟩ := hSW; go_simp; first | done | with_reducible rfl)
                   (try simp only [pu, pn, si, s0, sn])
                   refine tak (i := 12) (v := ?_) (gt rfl) ?_ ?_
                   rotate_left
                   focus (intro W hSW; (try dsimp only at hSW); obtain ⟨z0, z1, z2⟩ := hSW; go_simp; first | done | with_reducible rfl)
                   (try simp only [pu, pn, si, s0, sn])
                   refine wpAnyH_ready (rs := [13]) (by kernel_rfl) (by simp) ?_
                   refine AllReadyH.cons (i := 13) (gt rfl) (fun K hK => ?_) ?_
                   ·go_simp
                    refine hK.out _ _ ?_ (fun hHeld => ?_)
                    ·(try dsimp only); exact hSc.out _ (by first | with_reducible exact hb3.out | with_reducible exact below_drew hb.out | with_reducible exact below_al (below_drew hb.out) _ | with_reducible exact below_drew (below_al hb.out _))
                    clear hK K
                    (try simp only [pu, pn, si, s0, sn])
                    refine wpAnyH_ready (rs := [14]) (by kernel_rfl) (by simp) ?_
                    refine AllReadyH.cons (i := 14) (gt rfl) (fun K hK => ?_) ?_
                    ·go_simp
                     go_at_call 57
                     refine (HL.out _ _ hKI.out).mono ?_
                     rintro e w6 ⟨rfl, rfl⟩
                     (try go_wp2_with fail)
                     refine hK.out _ _ ?_ (fun hHeld => ?_)
                     ·(try dsimp only); exact hSc.out _ (by first | with_reducible exact hb3.out | with_reducible exact below_drew hb.out | with_reducible exact below_al (below_drew hb.out) _ | with_reducible exact below_drew (below_al hb.out _))
                     clear hK K
                     (try simp only [pu, pn, si, s0, sn])
                     refine wpAnyH_ready (rs := [15]) (by kernel_rfl) (by simp) ?_
                     refine AllReadyH.cons (i := 15) (gt rfl) (fun K hK => ?_) ?_
                     ·go_simp
                      refine hK.out _ _ ?_ (fun hHeld => ?_)
                      ·(try dsimp only); exact hSc.out _ (by first | with_reducible exact hb3.out | with_reducible exact below_drew hb.out | with_reducible exact below_al (below_drew hb.out) _ | with_reducible exact below_drew (below_al hb.out _))
                      clear hK K
                      (try simp only [pu, pn, si, s0, sn])
                      refine wpAnyH_ready (rs := [16]) (by kernel_rfl) (by simp) ?_
                      refine AllReadyH.cons (i := 16) (gt rfl) (fun K hK => ?_) ?_
                      ·go_simp
                       refine hK.out _ _ ?_ (fun hHeld => ?_)
                       ·(try dsimp only); exact hSc.out _ (by first | with_reducible exact hb3.out | with_reducible exact below_drew hb.out | with_reducible exact below_al (below_drew hb.out) _ | with_reducible exact below_drew (below_al hb.out _))
                       clear hK K
                       (try simp only [pu, pn, si, s0, sn])
                       refine wpAnyH_done (by kernel_rfl) ?_ _
                       refine NoPanic.normal ?_
                       go_wp2_with fail
                       go_roundg (stn - (j + 1))
                       case measure => have := hr2.out.1; omega
                       case rel => exact ⟨j + 1, S ++ I, by omega, rfl, by go_num, Lib.hid ⟨rfl, hnx.out⟩, hb3⟩
                      exact AllReadyH.nil
                     exact AllReadyH.nil
                    exact AllReadyH.nil
                   exact AllReadyH.nil
                  ·have hSE : Hid (by_ S = AD ++ st.flatMap (lnB wStep)) := Lib.hid (by
                    have := hr2.out.2
                    rw [List.take_of_length_le (by have := hstn.out; omega)] at this
                    exact this)
                   have hSz : S.size ≤ 1000000 := by
                    have h : (by_ S).length = S.size := rfl
                    have h2 := hlenD.out
                    rw [← h, hSE.out, List.length_append]
                    omega
                   have hbE := Lib.hid (below_then hb4.out hb.out)
                   go_wp2_with fail
                   go_roundg (nd - (k + 1))
                   case measure => have := hr.out.1; omega
                   case rel => exact ⟨k + 1, S, by omega, rfl, by go_num, Lib.hid ⟨rfl, by rw [hSE.out, hsuc2.out]⟩, hbE⟩
                exact AllReadyH.nil
               exact AllReadyH.nil
              exact AllReadyH.nil
             exact AllReadyH.nil
            ·have hS0 : Hid (by_ S = A8) := Lib.hid (by
              have := hr.out.2
              rw [List.take_of_length_le (by have := hnd.out; omega)] at this
              rw [hA8.out]
              exact this)
             have hSz : S.size ≤ 1000000 := by
              have h : (by_ S).length = S.size := rfl
              have h2 := hl7.out
              rw [← h, hS0.out, hA8.out, List.length_append]
              omega
             have hb0 := hb
             go_wp2_with fail
             clear hb hr x9
             go_ret
             have : S = ⟨A8.toArray⟩ := by_inj (by rw [hS0.out, mk_by])
             exact ⟨by rw [hTD.out, ← this]; rfl, below_then hWL.out hb0.out⟩
end Go.Proofs.YtccakklnbhcbdaaGreatDoor
