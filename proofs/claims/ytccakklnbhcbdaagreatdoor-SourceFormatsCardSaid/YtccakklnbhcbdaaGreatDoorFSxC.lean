import Derived.Test.YtccakklnbhcbdaaGreatDoorFMTxt
import Derived.Deep.RegionHeld3
import Derived.Test.YtccakklnbhcbdaaGreatDoorFA
set_option linter.unusedVariables false
set_option linter.unusedSimpArgs false
namespace Go.Proofs.YtccakklnbhcbdaaGreatDoor
open Go.ChangeShapes Go.WideShapes Go.ChangeAt Go.RowKit
theorem own_three {w : World} {g : Nat} {x y z : Value} (h : At w g 3 #[x, y, z]) : w.ownsRow 0 3 1 (.slice (some ⟨g, 0, none⟩) 3 3) 3 [x, y, z] := ⟨rfl, .inr ⟨g, 3, #[x, y, z], rfl, Nat.zero_le _, h, Nat.le_refl _, by unfold maxLen; decide, rfl, rfl⟩⟩
theorem own_isJ {w : World} {l : List Int} {n : Nat} {ao : Option Addr} {c : Nat} (hn : l.length = n) (ho : w.ownsRow 0 3 1 (.slice ao n c) n (l.map (Value.int .i64 ·))) (h0 : 0 < n) : IsJ l (.slice ao n c) w := by
 obtain ⟨_, ⟨_, h2⟩ | ⟨g, cap, cur, h1, _, h3, h4, h5, h6, h7⟩⟩ := ho
 ·omega
 ·injection h1 with e1 e2 e3
  subst e1 e3
  refine ⟨g, c, cur, by rw [hn], by omega, by have : c ≤ 2 ^ 63 - 1 := h5; omega, h3, fun k hk => ?_⟩
  have e : (cur.toList.take (l.length * 1))[k]? = (l.map (Value.int .i64 ·))[k]? := by rw [hn, h7]
  rw [List.getElem?_take_of_lt (by omega), List.getElem?_map, List.getElem?_eq_getElem hk] at e
  simpa using e
set_option maxRecDepth 100000 in
set_option maxHeartbeats 8000000 in
theorem text_no (d : Det) (p : PV) (hs : d.sh) (w : World) (hv : DetV w d p) (hwr : wrD d = false) : Calls Tryz.prog 11 #[.agg (detC d p)] w fun e w' => e = .returned (.tuple #[.string ⟨(textR d).1.toArray⟩, .int .i64 (textR d).2]) ∧ Below w.heap.size w w' := by
 have hR : textR d = ([], 1) := by unfold textR; rw [hwr]; rfl
 have HW : Hid (∀ w', Below w.heap.size w w' → Calls Tryz.prog 12 #[.agg (detC d p)] w' fun e w2 => e = .returned (.bool false) ∧ Below w'.heap.size w' w2) := Lib.hid fun w' hb => by
  have := writable_any d p hs w' (hv.up hb)
  rwa [hwr] at this
 rw [hR]
 obtain ⟨ab, cb, eb, -, -, hRb⟩ := hv.boxes
 obtain ⟨ah, ch, eh, -, -, hRh⟩ := hv.holes
 obtain ⟨ar, cr, er, -, -, hRr⟩ := hv.bars
 obtain ⟨au, cu, eu, -, -, hRu⟩ := hv.runs
 obtain ⟨al, cl, el, -, -, hRl⟩ := hv.laps
 obtain ⟨ad, cd, ed, -, -, hRd⟩ := hv.dems
 have hnbr := hv.nb
 have hnsd := hv.ns
 have hSd := hv.dims
 have hSt := hv.steps
 have hzr : (d.bars.zip p.db).length = d.bars.length := by rw [List.length_zip, hv.nb]; simp
 have hzd : (d.dems.zip p.ds).length = d.dems.length := by rw [List.length_zip, hv.ns]; simp
 rw [hzr] at er
 rw [hzd] at ed
 have hmem := hs.mem
 have hrule := hs.rule
 clear hs hv
 obtain ⟨name, mem, boxes, holes, rule, bars, runs, laps, dems⟩ := d
 obtain ⟨vt, vb, vh, vr, vn, vl, vd, db, ds⟩ := p
 dsimp only at *
 obtain ⟨m0, m1, m2, rfl⟩ := three hmem
 obtain ⟨r0, r1, r2, r3, r4, r5, r6, r7, r8, rfl⟩ := nine hrule
 obtain ⟨NM, hNM⟩ : ∃ NM : ByteArray, NM = ⟨name.toArray⟩ := ⟨_, rfl⟩
 obtain ⟨nb, hnb⟩ : ∃ n, boxes.length = n := ⟨_, rfl⟩
 rw [hnb] at eb
 obtain ⟨nh, hnh⟩ : ∃ n, holes.length = n := ⟨_, rfl⟩
 rw [hnh] at eh
 obtain ⟨nr, hnr⟩ : ∃ n, bars.length = n := ⟨_, rfl⟩
 rw [hnr] at er
 obtain ⟨nu, hnu⟩ : ∃ n, runs.length = n := ⟨_, rfl⟩
 rw [hnu] at eu
 obtain ⟨nl, hnl⟩ : ∃ n, laps.length = n := ⟨_, rfl⟩
 rw [hnl] at el
 obtain ⟨nd, hnd⟩ : ∃ n, dems.length = n := ⟨_, rfl⟩
 rw [hnd] at ed
 subst eb eh er eu el ed
 rw [show detC ⟨name, [m0, m1, m2], boxes, holes, [r0, r1, r2, r3, r4, r5, r6, r7, r8], bars, runs, laps, dems⟩ ⟨vt, .slice ab nb cb, .slice ah nh ch, .slice ar nr cr, .slice au nu cu, .slice al nl cl, .slice ad nd cd, db, ds⟩ = #[.string NM, .slice ab nb cb, .slice ah nh ch, .int .i64 m0, .int .i64 m1, .int .i64 m2, .slice ar nr cr, .slice au nu cu, .slice al nl cl, .slice ad nd cd, .int .i64 r0, .int .i64 r1, .int .i64 r2, .int .i64 r3, .int .i64 r4, .int .i64 r5, .int .i64 r6, .int .i64 r7, .int .i64 r8] by rw [hNM]; rfl] at HW ⊢
 clear hNM hmem hrule hwr hR
 go_enter Tryz.func11, Tryz.ntmps11
 go_wp2_with (first | (refine wpList_load_row rfl 34 (.tmp 1) rfl w.heap.size (by simp [Act.eval]) 34 #[.string NM, .slice ab nb cb, .slice ah nh ch, .int .i64 m0, .int .i64 m1, .int .i64 m2, .slice ar nr cr, .slice au nu cu, .slice al nl cl, .slice ad nd cd, .int .i64 r0, .int .i64 r1, .int .i64 r2, .int .i64 r3, .int .i64 r4, .int .i64 r5, .int .i64 r6, .int .i64 r7, .int .i64 r8] (0, 0) _ (At.new w _ _) Tryz.underlying34 rfl (by kernel_rfl) ?_) | fail)
 refine (HW.out _ (below_al (Below.refl _ _) _)).mono ?_
 rintro e w1 ⟨rfl, HB⟩
 replace HB := below_then (below_al (Below.refl _ _) _) HB
 go_wp2_with fail
 exact bodyPost_ret (v := .tuple #[.string ⟨#[]⟩, .int .i64 1]) (by simp [results, Tryz.results11, go_sem]) rfl ⟨rfl, HB⟩
set_option maxRecDepth 100000 in
set_option maxHeartbeats 8000000 in
theorem text_yes (d : Det) (p : PV) (hs : d.sh) (w : World) (hv : DetV w d p) (he : Env w) (hwr : wrD d = true) : Calls Tryz.prog 11 #[.agg (detC d p)] w fun e w' => e = .returned (.tuple #[.string ⟨(textR d).1.toArray⟩, .int .i64 (textR d).2]) ∧ Below w.heap.size w w' := by
 have hWr := (wrD_iff d).1 hwr
 have hTL := textD_len hs hWr
 have hSb : ∀ n ∈ d.boxes, n.length = 6 ∧ fitB n = true := fun n hn => ⟨hs.boxes n hn, hWr.boxes n hn⟩
 have hSh : ∀ n ∈ d.holes, n.length = 6 ∧ fitB n = true := fun n hn => ⟨hs.holes n hn, hWr.holes n hn⟩
 have hSl : ∀ n ∈ d.laps, n.length = 2 ∧ fitB n = true := fun n hn => ⟨hs.laps n hn, hWr.laps n hn⟩
 have hSr : ∀ b ∈ d.bars, 3 ≤ b.2.length ∧ 4 ≤ b.2.length ∧ b.2.length ≤ 11 ∧ nameB b.1 = true ∧ fitB b.2 = true := fun b hb => ⟨hs.bars b hb, (hWr.bars b hb).2.1, (hWr.bars b hb).2.2.1, (hWr.bars b hb).1, (hWr.bars b hb).2.2.2⟩
 have hSu : ∀ b ∈ d.runs, b.2.length = 9 ∧ nameB b.1 = true ∧ fitB b.2 = true := fun b hb => ⟨hs.runs b hb, (hWr.runs b hb).1, (hWr.runs b hb).2⟩
 have hSdm : ∀ x ∈ d.dems, x.2.1.length = 6 ∧ (∀ n ∈ x.2.2, n.length = 2) ∧ nameB x.1 = true ∧ fitB x.2.1 = true ∧ x.2.2.length ≤ 200 ∧ ∀ n ∈ x.2.2, fitB n = true := fun x hx => ⟨(hs.dems x hx).1, (hs.dems x hx).2, (hWr.dems x hx).1, (hWr.dems x hx).2.1, (hWr.dems x hx).2.2.1, (hWr.dems x hx).2.2.2⟩
 have hnmN := name_len hWr.nm
 have hrM := fit_rng hWr.mem
 have hrR := fit_rng hWr.rule
 have HW : Hid (∀ w', Below w.heap.size w w' → Calls Tryz.prog 12 #[.agg (detC d p)] w' fun e w2 => e = .returned (.bool true) ∧ Below w'.heap.size w' w2) := Lib.hid fun w' hb => by
  have := writable_any d p hs w' (hv.up hb)
  rwa [hwr] at this
 have hT1 : 262144 < (textD d).length → textR d = ([], 4) := fun h => by unfold textR; rw [if_pos hwr, if_pos h]
 have hT2 : ¬ 262144 < (textD d).length → textR d = (textD d, 0) := fun h => by unfold textR; rw [if_pos hwr, if_neg h]
 have hqb := hWr.nb
 have hqh := hWr.nh
 have hqr := hWr.nr
 have hqu := hWr.nu
 have hql := hWr.nl
 have hqd := hWr.nd
 clear hWr hwr
 obtain ⟨ab, cb, eb, -, -, hRb⟩ := hv.boxes
 obtain ⟨ah, ch, eh, -, -, hRh⟩ := hv.holes
 obtain ⟨ar, cr, er, -, -, hRr⟩ := hv.bars
 obtain ⟨au, cu, eu, -, -, hRu⟩ := hv.runs
 obtain ⟨al, cl, el, -, -, hRl⟩ := hv.laps
 obtain ⟨ad, cd, ed, -, -, hRd⟩ := hv.dems
 have hnbr := hv.nb
 have hnsd := hv.ns
 have hSd := hv.dims
 have hSt := hv.steps
 have hzr : (d.bars.zip p.db).length = d.bars.length := by rw [List.length_zip, hv.nb]; simp
 have hzd : (d.dems.zip p.ds).length = d.dems.length := by rw [List.length_zip, hv.ns]; simp
 rw [hzr] at er
 rw [hzd] at ed
 have hmem := hs.mem
 have hrule := hs.rule
 clear hs hv
 obtain ⟨name, mem, boxes, holes, rule, bars, runs, laps, dems⟩ := d
 obtain ⟨vt, vb, vh, vr, vn, vl, vd, db, ds⟩ := p
 dsimp only at *
 obtain ⟨m0, m1, m2, rfl⟩ := three hmem
 obtain ⟨r0, r1, r2, r3, r4, r5, r6, r7, r8, rfl⟩ := nine hrule
 obtain ⟨NM, hNM⟩ : ∃ NM : ByteArray, NM = ⟨name.toArray⟩ := ⟨_, rfl⟩
 obtain ⟨nb, hnb⟩ : ∃ n, boxes.length = n := ⟨_, rfl⟩
 rw [hnb] at eb
 obtain ⟨nh, hnh⟩ : ∃ n, holes.length = n := ⟨_, rfl⟩
 rw [hnh] at eh
 obtain ⟨nr, hnr⟩ : ∃ n, bars.length = n := ⟨_, rfl⟩
 rw [hnr] at er
 obtain ⟨nu, hnu⟩ : ∃ n, runs.length = n := ⟨_, rfl⟩
 rw [hnu] at eu
 obtain ⟨nl, hnl⟩ : ∃ n, laps.length = n := ⟨_, rfl⟩
 rw [hnl] at el
 obtain ⟨nd, hnd⟩ : ∃ n, dems.length = n := ⟨_, rfl⟩
 rw [hnd] at ed
 subst eb eh er eu el ed
 rw [hnb] at hqb
 rw [hnh] at hqh
 rw [hnr] at hqr
 rw [hnu] at hqu
 rw [hnl] at hql
 rw [hnd] at hqd
 rw [show detC ⟨name, [m0, m1, m2], boxes, holes, [r0, r1, r2, r3, r4, r5, r6, r7, r8], bars, runs, laps, dems⟩ ⟨vt, .slice ab nb cb, .slice ah nh ch, .slice ar nr cr, .slice au nu cu, .slice al nl cl, .slice ad nd cd, db, ds⟩ = #[.string NM, .slice ab nb cb, .slice ah nh ch, .int .i64 m0, .int .i64 m1, .int .i64 m2, .slice ar nr cr, .slice au nu cu, .slice al nl cl, .slice ad nd cd, .int .i64 r0, .int .i64 r1, .int .i64 r2, .int .i64 r3, .int .i64 r4, .int .i64 r5, .int .i64 r6, .int .i64 r7, .int .i64 r8] by rw [hNM]; rfl] at HW ⊢
 generalize textR ⟨name, [m0, m1, m2], boxes, holes, [r0, r1, r2, r3, r4, r5, r6, r7, r8], bars, runs, laps, dems⟩ = TR at *
 obtain ⟨A1, hA1⟩ : ∃ A, A = lnB (wMember ++ 32 :: name) [m0, m1, m2] := ⟨_, rfl⟩
 obtain ⟨A2, hA2⟩ : ∃ A, A = A1 ++ boxes.flatMap (lnB wBox) := ⟨_, rfl⟩
 obtain ⟨A3, hA3⟩ : ∃ A, A = A2 ++ holes.flatMap (lnB wHole) := ⟨_, rfl⟩
 obtain ⟨A4, hA4⟩ : ∃ A, A = A3 ++ lnB wRule [r0, r1, r2, r3, r4, r5, r6, r7, r8] := ⟨_, rfl⟩
 obtain ⟨A5, hA5⟩ : ∃ A, A = A4 ++ bars.flatMap (fun b => lnB (wBar ++ 32 :: b.1) b.2) := ⟨_, rfl⟩
 obtain ⟨A6, hA6⟩ : ∃ A, A = A5 ++ runs.flatMap (fun b => lnB (wRun ++ 32 :: b.1) b.2) := ⟨_, rfl⟩
 obtain ⟨A7, hA7⟩ : ∃ A, A = A6 ++ laps.flatMap (lnB wLap) := ⟨_, rfl⟩
 obtain ⟨A8, hA8⟩ : ∃ A, A = A7 ++ dems.flatMap (fun x => lnB (wDemand ++ 32 :: x.1) x.2.1 ++ x.2.2.flatMap (lnB wStep)) := ⟨_, rfl⟩
 have hTD : textD ⟨name, [m0, m1, m2], boxes, holes, [r0, r1, r2, r3, r4, r5, r6, r7, r8], bars, runs, laps, dems⟩ = A8 := by rw [hA8, hA7, hA6, hA5, hA4, hA3, hA2, hA1]; rfl
 rw [hTD] at hTL hT1 hT2
 have g1 := congrArg List.length hA1
 have g2 := congrArg List.length hA2
 have g3 := congrArg List.length hA3
 have g4 := congrArg List.length hA4
 have g5 := congrArg List.length hA5
 have g6 := congrArg List.length hA6
 have g7 := congrArg List.length hA7
 have g8 := congrArg List.length hA8
 rw [List.length_append] at g2 g3 g4 g5 g6 g7 g8
 have hl1 : Hid (A1.length + (boxes.flatMap (lnB wBox)).length ≤ 1000000) := Lib.hid (by omega)
 have hl2 : Hid (A2.length + (holes.flatMap (lnB wHole)).length ≤ 1000000) := Lib.hid (by omega)
 have hl3 : Hid (A3.length ≤ 10000000000) := Lib.hid (by omega)
 have hl4 : Hid (A4.length + (bars.flatMap (fun b => lnB (wBar ++ 32 :: b.1) b.2)).length ≤ 1000000) := Lib.hid (by omega)
 have hl5 : Hid (A5.length + (runs.flatMap (fun b => lnB (wRun ++ 32 :: b.1) b.2)).length ≤ 1000000) := Lib.hid (by omega)
 have hl6 : Hid (A6.length + (laps.flatMap (lnB wLap)).length ≤ 1000000) := Lib.hid (by omega)
 have hl7 : Hid (A7.length + (dems.flatMap (fun x => lnB (wDemand ++ 32 :: x.1) x.2.1 ++ x.2.2.flatMap (lnB wStep))).length ≤ 1000000) := Lib.hid (by omega)
 have hlT : Hid (A8.length ≤ 1000000) := Lib.hid hTL
 have hA8n : Hid (A8 ≠ []) := Lib.hid (fun e => by
  have h1 : 1 ≤ A1.length := by rw [g1]; unfold lnB; simp; omega
  have h8 : A8.length = 0 := by rw [e]; rfl
  omega)
 clear g1 g2 g3 g4 g5 g6 g7 g8 hTL hTD
 have hNMs : NM.size ≤ 20 := by rw [hNM, mk_size]; exact hnmN
 have hwd : Hid (by_ (⟨#[109, 101, 109, 98, 101, 114, 32]⟩ ++ NM : ByteArray) = wMember ++ 32 :: name) := Lib.hid (by rw [by_append, hNM, mk_by]; rfl)
 replace hA1 := Lib.hid hA1
 replace hA2 := Lib.hid hA2
 replace hA3 := Lib.hid hA3
 replace hA4 := Lib.hid hA4
 replace hA5 := Lib.hid hA5
 replace hA6 := Lib.hid hA6
 replace hA7 := Lib.hid hA7
 replace hA8 := Lib.hid hA8
 replace hT1 := Lib.hid hT1
 replace hT2 := Lib.hid hT2
 replace hSb := Lib.hid hSb
 replace hSh := Lib.hid hSh
 replace hSl := Lib.hid hSl
 replace hSr := Lib.hid hSr
 replace hSu := Lib.hid hSu
 replace hSdm := Lib.hid hSdm
 replace hSd := Lib.hid hSd
 replace hSt := Lib.hid hSt
 replace hRb := Lib.hid hRb
 replace hRh := Lib.hid hRh
 replace hRr := Lib.hid hRr
 replace hRu := Lib.hid hRu
 replace hRl := Lib.hid hRl
 replace hRd := Lib.hid hRd
 replace hnbr := Lib.hid hnbr
 replace hnsd := Lib.hid hnsd
 replace hzr := Lib.hid hzr
 replace hzd := Lib.hid hzd
 replace hrM := Lib.hid hrM
 replace hrR := Lib.hid hrR
 replace hNM := Lib.hid hNM
 replace hnb := Lib.hid hnb
 replace hnh := Lib.hid hnh
 replace hnr := Lib.hid hnr
 replace hnu := Lib.hid hnu
 replace hnl := Lib.hid hnl
 replace hnd := Lib.hid hnd
 clear hmem hrule hnmN
 go_enter Tryz.func11, Tryz.ntmps11
 go_wp2_with (first | (refine wpList_load_row rfl 34 (.tmp 1) rfl w.heap.size (by simp [Act.eval]) 34 #[.string NM, .slice ab nb cb, .slice ah nh ch, .int .i64 m0, .int .i64 m1, .int .i64 m2, .slice ar nr cr, .slice au nu cu, .slice al nl cl, .slice ad nd cd, .int .i64 r0, .int .i64 r1, .int .i64 r2, .int .i64 r3, .int .i64 r4, .int .i64 r5, .int .i64 r6, .int .i64 r7, .int .i64 r8] (0, 0) _ (At.new w _ _) Tryz.underlying34 rfl (by kernel_rfl) ?_) | fail)
 refine (HW.out _ (below_al (Below.refl _ _) _)).mono ?_
 rintro e w1 ⟨rfl, hb1⟩
 have kX1 : At w1 w.heap.size 34 #[.string NM, .slice ab nb cb, .slice ah nh ch, .int .i64 m0, .int .i64 m1, .int .i64 m2, .slice ar nr cr, .slice au nu cu, .slice al nl cl, .slice ad nd cd, .int .i64 r0, .int .i64 r1, .int .i64 r2, .int .i64 r3, .int .i64 r4, .int .i64 r5, .int .i64 r6, .int .i64 r7, .int .i64 r8] := (At.new' rfl).bel hb1
 have hw1 := below_then (below_al (Below.refl _ _) _) hb1
 have hX1l := kX1.lt
 have x0 : w1.cell? ⟨w.heap.size, 0, none⟩ = some (.string NM) := kX1.c 0
 have x1 : w1.cell? ⟨w.heap.size, 1, none⟩ = some (.slice ab nb cb) := kX1.c 1
 have x2 : w1.cell? ⟨w.heap.size, 2, none⟩ = some (.slice ah nh ch) := kX1.c 2
 have x3 : w1.cell? ⟨w.heap.size, 3, none⟩ = some (.int .i64 m0) := kX1.c 3
 have x4 : w1.cell? ⟨w.heap.size, 4, none⟩ = some (.int .i64 m1) := kX1.c 4
 have x5 : w1.cell? ⟨w.heap.size, 5, none⟩ = some (.int .i64 m2) := kX1.c 5
 clear HW hb1
 go_upto_region 5 with fail
 obtain ⟨b, hbe⟩ : ∃ b, w1.heap.size = b := ⟨_, rfl⟩
 generalize hWB : World.alloc (World.alloc w1 _) _ = WB
 have kX : At WB w.heap.size 34 #[.string NM, .slice ab nb cb, .slice ah nh ch, .int .i64 m0, .int .i64 m1, .int .i64 m2, .slice ar nr cr, .slice au nu cu, .slice al nl cl, .slice ad nd cd, .int .i64 r0, .int .i64 r1, .int .i64 r2, .int .i64 r3, .int .i64 r4, .int .i64 r5, .int .i64 r6, .int .i64 r7, .int .i64 r8] := by rw [← hWB]; exact (kX1.al _).al _
 have kM : At WB (b + 1) 26 #[.string NM, .slice ab nb cb, .slice ah nh ch, .int .i64 m0, .int .i64 m1, .int .i64 m2] := by rw [← hWB, ← hbe]; exact At.new' (by simp)
 have hBl : Bld WB b [] WB := by
  rw [← hWB, ← hbe]
  exact Bld.of ((Bld.start w1).bel (below_al (Below.refl _ _) _)).bld
 have hwWB : Below w.heap.size w WB := by rw [← hWB]; exact below_al (below_al hw1 _) _
 have hXb : w.heap.size < b := by rw [← hbe]; exact hX1l
 clear hWB x0 x1 x2 x3 x4 x5
 rw [hbe]
 have hBX : Hid (∀ w1 l, Bld WB b l w1 → At w1 w.heap.size 34 #[.string NM, .slice ab nb cb, .slice ah nh ch, .int .i64 m0, .int .i64 m1, .int .i64 m2, .slice ar nr cr, .slice au nu cu, .slice al nl cl, .slice ad nd cd, .int .i64 r0, .int .i64 r1, .int .i64 r2, .int .i64 r3, .int .i64 r4, .int .i64 r5, .int .i64 r6, .int .i64 r7, .int .i64 r8] ∧ At w1 (b + 1) 26 #[.string NM, .slice ab nb cb, .slice ah nh ch, .int .i64 m0, .int .i64 m1, .int .i64 m2]) := Lib.hid fun w1 l h => ⟨h.at kX (by decide) (by omega), h.at kM (by decide) (by omega)⟩
 have hBw : Hid (∀ w1 l, Bld WB b l w1 → Below w.heap.size w w1) := Lib.hid fun w1 l h => hwWB.trans (h.fr.mono (Nat.le_of_lt hXb))
 have hBe : Hid (∀ w1 l, Bld WB b l w1 → EnvR b w1) := Lib.hid fun w1 l h => ⟨w, he, hBw.out w1 l h, Nat.le_of_lt hXb⟩
 have hwb : Hid (w.heap.size ≤ b) := Lib.hid (Nat.le_of_lt hXb)
 have HLn : Hid (∀ w2 acc (ws : ByteArray) (ns : List Int) v, Bld WB b acc w2 → IsJ ns v w2 → acc.length ≤ 10000000000 → ws.size ≤ 1000000 → ns.length ≤ 1000 → (∀ n ∈ ns, -9223372036854775808 ≤ n ∧ n ≤ 9223372036854775807) → Calls Tryz.prog 32 #[.pointer (some ⟨b, 0, none⟩), .string ws, v] w2 fun e w' => e = .returned (.tuple #[]) ∧ Bld WB b (acc ++ lnB (by_ ws) ns) w') := Lib.hid fun w2 acc ws ns v h hj h1 h2 h3 h4 =>
  (line_any w2 b acc ws ns v h.bld hj (hBe.out _ _ h) h1 h2 h3 h4).mono fun e w' ⟨q1, q2⟩ => ⟨q1, h.trans q2⟩
 have hb00 := Lib.hid hBl
 have kM0 := kM
 have y0 : WB.cell? ⟨b + 1, 0, none⟩ = some (.string NM) := kM0.c 0
 have y3 : WB.cell? ⟨b + 1, 3, none⟩ = some (.int .i64 m0) := kM0.c 3
 have y4 : WB.cell? ⟨b + 1, 4, none⟩ = some (.int .i64 m1) := kM0.c 4
 have y5 : WB.cell? ⟨b + 1, 5, none⟩ = some (.int .i64 m2) := kM0.c 5
 clear kX kM kM0 hwWB hBl hX1l kX1 he hw1 hXb hbe
 have hsb : (⟨#[109, 101, 109, 98, 101, 114, 32]⟩ : ByteArray).size = 7 := rfl
 have hcat : (⟨#[109, 101, 109, 98, 101, 114, 32]⟩ ++ NM : ByteArray).size ≤ 27 := by rw [ByteArray.size_append]; omega
 go_wp2_with fail
 generalize hWW : World.alloc WB _ = w2
 have kz : At w2 WB.heap.size 3 #[.int .i64 m0, .int .i64 m1, .int .i64 m2] := by rw [← hWW]; exact At.new' rfl
 have hb2 : Below WB.heap.size WB w2 := by rw [← hWW]; exact below_al (Below.refl _ _) _
 clear hWW
 have hv := isJ_new (l := [m0, m1, m2]) kz (by simp)
 have hB2 := Lib.hid (hb00.out.bel hb2)
 have HL := Lib.hid (HLn.out w2 _ (⟨#[109, 101, 109, 98, 101, 114, 32]⟩ ++ NM) [m0, m1, m2] _ hB2.out hv (by simp) (by omega) (by simp) hrM.out)
 rw [hwd.out] at HL
 clear hb00 hb2 hv kz y0 y3 y4 y5
 refine HL.out.mono ?_
 rintro e wr ⟨rfl, hb3⟩
 have hb0 : Hid (Bld WB b A1 wr) := Lib.hid (by rw [hA1.out]; exact hb3)
 clear hb3 HL hB2 hsb hcat
 obtain ⟨kX, kM⟩ := hBX.out _ _ hb0.out
 have y1 : wr.cell? ⟨b + 1, 1, none⟩ = some (.slice ab nb cb) := kM.c 1
 clear kX kM
 go_wp2_with fail
 go_loopg [40] nb (fun g i wr => ∃ k : Nat, k ≤ nb ∧ i = .int .i64 (k : Int) ∧ Hid (g = nb - k) ∧ Hid (Bld WB b (A1 ++ (boxes.take k).flatMap (lnB wBox)) wr))
 case atStart => exact ⟨0, Nat.zero_le _, rfl, Lib.hid rfl, Lib.hid (by rw [List.take_zero, List.flatMap_nil, List.append_nil]; exact hb0.out)⟩
 case round =>
  clear hb0
  obtain ⟨k, hk, rfl, hg, hb⟩ := hrel
  by_cases hlt : k < nb
  ·have hkl : k < boxes.length := by rw [hnb.out]; exact hlt
   have hlen : (A1 ++ (boxes.take k).flatMap (lnB wBox)).length ≤ 10000000000 := by
    have h1 := hl1.out
    have h2 := flat_take (lnB wBox) boxes k
    rw [List.length_append]
    omega
   have hsuc : A1 ++ (boxes.take (k + 1)).flatMap (lnB wBox) = A1 ++ (boxes.take k).flatMap (lnB wBox) ++ (lnB wBox) boxes[k] := by
    rw [List.take_succ_eq_append_getElem hkl, List.flatMap_append, List.flatMap_singleton, List.append_assoc]
   have hmem : boxes[k] ∈ boxes := List.getElem_mem hkl
   have hW := hBw.out _ _ hb.out
   obtain ⟨bb, off, rfl, hbl, hc⟩ := hRb.out k hkl
   obtain ⟨hx6, hfx⟩ := hSb.out _ hmem
   obtain ⟨e0, e1, e2, e3, e4, e5, hx⟩ := six hx6
   have q0 : wr.cell? ⟨bb, off + k * 6, none⟩ = some (.int .i64 e0) := (hW.cell hbl).trans (hc 0 _ (by rw [hx]; rfl))
   have q1 : wr.cell? ⟨bb, off + k * 6 + 1, none⟩ = some (.int .i64 e1) := (hW.cell hbl).trans (hc 1 _ (by rw [hx]; rfl))
   have q2 : wr.cell? ⟨bb, off + k * 6 + 2, none⟩ = some (.int .i64 e2) := (hW.cell hbl).trans (hc 2 _ (by rw [hx]; rfl))
   have q3 : wr.cell? ⟨bb, off + k * 6 + 3, none⟩ = some (.int .i64 e3) := (hW.cell hbl).trans (hc 3 _ (by rw [hx]; rfl))
   have q4 : wr.cell? ⟨bb, off + k * 6 + 4, none⟩ = some (.int .i64 e4) := (hW.cell hbl).trans (hc 4 _ (by rw [hx]; rfl))
   have q5 : wr.cell? ⟨bb, off + k * 6 + 5, none⟩ = some (.int .i64 e5) := (hW.cell hbl).trans (hc 5 _ (by rw [hx]; rfl))
   rw [hx] at hsuc hfx
   have hrg := fit_rng hfx
   clear hx6 hfx hc hx hmem
   replace hsuc := Lib.hid hsuc
   go_wp2_with fail
   refine (coordsJ e0 e1 e2 e3 e4 e5 _).mono ?_
   rintro e w2 ⟨⟨v, rfl, hv⟩, hb2⟩
   have hB2 := Lib.hid ((hb.out.bel (below_al (Below.refl _ _) _)).bel hb2)
   have HL := Lib.hid (HLn.out w2 _ ⟨#[98, 111, 120]⟩ [e0, e1, e2, e3, e4, e5] v hB2.out hv hlen (by decide) (by simp) hrg)
   clear hb2 hv hb hW hbl hlen hrg q0 q1 q2 q3 q4 q5
   go_wp2_with fail
   refine HL.out.mono ?_
   rintro e w3 ⟨rfl, hb3⟩
   have hnx : Hid (Bld WB b (A1 ++ (boxes.take (k + 1)).flatMap (lnB wBox)) w3) := Lib.hid (by rw [hsuc.out]; exact hb3)
   clear hb3 HL hsuc hB2
   go_wp2_with fail
   go_roundg (nb - (k + 1))
   case measure => have := hg.out; omega
   case rel => exact ⟨k + 1, by omega, by go_num, Lib.hid rfl, hnx⟩
  ·have hb0 : Hid (Bld WB b A2 wr) := Lib.hid (by
    have := hb.out
    rw [List.take_of_length_le (by have := hnb.out; omega)] at this
    rw [hA2.out]
    exact this)
   clear hb
   obtain ⟨kX, kM⟩ := hBX.out _ _ hb0.out
   have y2 : wr.cell? ⟨b + 1, 2, none⟩ = some (.slice ah nh ch) := kM.c 2
   clear kX kM
   go_wp2_with fail
   go_loopg [52] nh (fun g i wr => ∃ k : Nat, k ≤ nh ∧ i = .int .i64 (k : Int) ∧ Hid (g = nh - k) ∧ Hid (Bld WB b (A2 ++ (holes.take k).flatMap (lnB wHole)) wr))
   case atStart => exact ⟨0, Nat.zero_le _, rfl, Lib.hid rfl, Lib.hid (by rw [List.take_zero, List.flatMap_nil, List.append_nil]; exact hb0.out)⟩
   case round =>
    clear hb0
    obtain ⟨k, hk, rfl, hg, hb⟩ := hrel
    by_cases hlt : k < nh
    ·have hkl : k < holes.length := by rw [hnh.out]; exact hlt
     have hlen : (A2 ++ (holes.take k).flatMap (lnB wHole)).length ≤ 10000000000 := by
      have h1 := hl2.out
      have h2 := flat_take (lnB wHole) holes k
      rw [List.length_append]
      omega
     have hsuc : A2 ++ (holes.take (k + 1)).flatMap (lnB wHole) = A2 ++ (holes.take k).flatMap (lnB wHole) ++ (lnB wHole) holes[k] := by
      rw [List.take_succ_eq_append_getElem hkl, List.flatMap_append, List.flatMap_singleton, List.append_assoc]
     have hmem : holes[k] ∈ holes := List.getElem_mem hkl
     have hW := hBw.out _ _ hb.out
     obtain ⟨bb, off, rfl, hbl, hc⟩ := hRh.out k hkl
     obtain ⟨hx6, hfx⟩ := hSh.out _ hmem
     obtain ⟨e0, e1, e2, e3, e4, e5, hx⟩ := six hx6
     have q0 : wr.cell? ⟨bb, off + k * 6, none⟩ = some (.int .i64 e0) := (hW.cell hbl).trans (hc 0 _ (by rw [hx]; rfl))
     have q1 : wr.cell? ⟨bb, off + k * 6 + 1, none⟩ = some (.int .i64 e1) := (hW.cell hbl).trans (hc 1 _ (by rw [hx]; rfl))
     have q2 : wr.cell? ⟨bb, off + k * 6 + 2, none⟩ = some (.int .i64 e2) := (hW.cell hbl).trans (hc 2 _ (by rw [hx]; rfl))
     have q3 : wr.cell? ⟨bb, off + k * 6 + 3, none⟩ = some (.int .i64 e3) := (hW.cell hbl).trans (hc 3 _ (by rw [hx]; rfl))
     have q4 : wr.cell? ⟨bb, off + k * 6 + 4, none⟩ = some (.int .i64 e4) := (hW.cell hbl).trans (hc 4 _ (by rw [hx]; rfl))
     have q5 : wr.cell? ⟨bb, off + k * 6 + 5, none⟩ = some (.int .i64 e5) := (hW.cell hbl).trans (hc 5 _ (by rw [hx]; rfl))
     rw [hx] at hsuc hfx
     have hrg := fit_rng hfx
     clear hx6 hfx hc hx hmem
     replace hsuc := Lib.hid hsuc
     go_wp2_with fail
     refine (coordsJ e0 e1 e2 e3 e4 e5 _).mono ?_
     rintro e w2 ⟨⟨v, rfl, hv⟩, hb2⟩
     have hB2 := Lib.hid ((hb.out.bel (below_al (Below.refl _ _) _)).bel hb2)
     have HL := Lib.hid (HLn.out w2 _ ⟨#[104, 111, 108, 101]⟩ [e0, e1, e2, e3, e4, e5] v hB2.out hv hlen (by decide) (by simp) hrg)
     clear hb2 hv hb hW hbl hlen hrg q0 q1 q2 q3 q4 q5
     go_wp2_with fail
     refine HL.out.mono ?_
     rintro e w3 ⟨rfl, hb3⟩
     have hnx : Hid (Bld WB b (A2 ++ (holes.take (k + 1)).flatMap (lnB wHole)) w3) := Lib.hid (by rw [hsuc.out]; exact hb3)
     clear hb3 HL hsuc hB2
     go_wp2_with fail
     go_roundg (nh - (k + 1))
     case measure => have := hg.out; omega
     case rel => exact ⟨k + 1, by omega, by go_num, Lib.hid rfl, hnx⟩
    ·have hb0 : Hid (Bld WB b A3 wr) := Lib.hid (by
      have := hb.out
      rw [List.take_of_length_le (by have := hnh.out; omega)] at this
      rw [hA3.out]
      exact this)
     clear hb
     obtain ⟨kX, kM⟩ := hBX.out _ _ hb0.out
     have x10 : wr.cell? ⟨w.heap.size, 10, none⟩ = some (.int .i64 r0) := kX.c 10
     have x11 : wr.cell? ⟨w.heap.size, 11, none⟩ = some (.int .i64 r1) := kX.c 11
     have x12 : wr.cell? ⟨w.heap.size, 12, none⟩ = some (.int .i64 r2) := kX.c 12
     have x13 : wr.cell? ⟨w.heap.size, 13, none⟩ = some (.int .i64 r3) := kX.c 13
     have x14 : wr.cell? ⟨w.heap.size, 14, none⟩ = some (.int .i64 r4) := kX.c 14
     have x15 : wr.cell? ⟨w.heap.size, 15, none⟩ = some (.int .i64 r5) := kX.c 15
     have x16 : wr.cell? ⟨w.heap.size, 16, none⟩ = some (.int .i64 r6) := kX.c 16
     have x17 : wr.cell? ⟨w.heap.size, 17, none⟩ = some (.int .i64 r7) := kX.c 17
     have x18 : wr.cell? ⟨w.heap.size, 18, none⟩ = some (.int .i64 r8) := kX.c 18
     clear kX kM
     have HR := Lib.hid (ruleJ r0 r1 r2 r3 r4 r5 r6 r7 r8 wr)
     go_wp2_with fail
     refine HR.out.mono ?_
     rintro e w2 ⟨⟨v, rfl, hv⟩, hb2⟩
     have hB2 := Lib.hid (hb0.out.bel hb2)
     have HL := Lib.hid (HLn.out w2 _ ⟨#[114, 117, 108, 101]⟩ [r0, r1, r2, r3, r4, r5, r6, r7, r8] v hB2.out hv hl3.out (by decide) (by simp) hrR.out)
     clear hb0 hb2 hv HR x10 x11 x12 x13 x14 x15 x16 x17 x18
     go_wp2_with fail
     refine HL.out.mono ?_
     rintro e wr ⟨rfl, hb3⟩
     have hb0 : Hid (Bld WB b A4 wr) := Lib.hid (by rw [hA4.out]; exact hb3)
     clear hb3 HL hB2
     obtain ⟨kX, kM⟩ := hBX.out _ _ hb0.out
     have x6 : wr.cell? ⟨w.heap.size, 6, none⟩ = some (.slice ar nr cr) := kX.c 6
     clear kX kM
     go_wp2_with fail
     go_loopg [67] nr (fun g i wr => ∃ k : Nat, k ≤ nr ∧ i = .int .i64 (k : Int) ∧ Hid (g = nr - k) ∧ Hid (Bld WB b (A4 ++ (bars.take k).flatMap (fun b => lnB (wBar ++ 32 :: b.1) b.2)) wr))
     case atStart => exact ⟨0, Nat.zero_le _, rfl, Lib.hid rfl, Lib.hid (by rw [List.take_zero, List.flatMap_nil, List.append_nil]; exact hb0.out)⟩
     case round =>
      clear hb0
      obtain ⟨k, hk, rfl, hg, hb⟩ := hrel
      by_cases hlt : k < nr
      ·have hkl : k < bars.length := by rw [hnr.out]; exact hlt
       have hlen : (A4 ++ (bars.take k).flatMap (fun b => lnB (wBar ++ 32 :: b.1) b.2)).length ≤ 10000000000 := by
        have h1 := hl4.out
        have h2 := flat_take (fun b => lnB (wBar ++ 32 :: b.1) b.2) bars k
        rw [List.length_append]
        omega
       have hsuc : A4 ++ (bars.take (k + 1)).flatMap (fun b => lnB (wBar ++ 32 :: b.1) b.2) = A4 ++ (bars.take k).flatMap (fun b => lnB (wBar ++ 32 :: b.1) b.2) ++ (fun b => lnB (wBar ++ 32 :: b.1) b.2) bars[k] := by
        rw [List.take_succ_eq_append_getElem hkl, List.flatMap_append, List.flatMap_singleton, List.append_assoc]
       have hmem : bars[k] ∈ bars := List.getElem_mem hkl
       have hW := hBw.out _ _ hb.out
       obtain ⟨bb, off, rfl, hbl, hc⟩ := hRr.out k (by rw [hzr.out]; exact hkl)
       rw [List.getElem_zip] at hc
       obtain ⟨hx3, hx4, hx5, hxn, hxf⟩ := hSr.out _ hmem
       have hds := hSd.out k hkl (by rw [hnbr.out]; exact hkl)
       obtain ⟨x, hxx⟩ : ∃ x, bars[k] = x := ⟨_, rfl⟩
       rw [hxx] at hx3 hx4 hx5 hxn hxf hc hds hsuc
       obtain ⟨nm, l⟩ := x
       obtain ⟨e0, e1, e2, ds, rfl⟩ := three_more hx3
       obtain ⟨sa, sc, hdv, h2, h3, h4⟩ := hds
       have h4 : RowAt encZ 1 w.heap.size w sa ds := h4
       obtain ⟨n, hn⟩ : ∃ n, ds.length = n := ⟨_, rfl⟩
       have hdv : db[k]'(by rw [hnbr.out]; exact hkl) = .slice sa n sc := by rw [← hn]; exact hdv
       rw [hdv] at hc
       have hn1 : 1 ≤ n := by simp at hx4; omega
       have hn8 : n ≤ 8 := by simp at hx5; omega
       obtain ⟨db1, do1, hsa, hdl, hdc0⟩ := h4 0 (by omega)
       subst hsa
       have hds1 : Hid (∀ j, j < n → ∀ u, (ds.map (Value.int .i64 ·))[j]? = some u → w.cell? ⟨db1, do1 + j, none⟩ = some u) := Lib.hid fun j hj u hu => by
        obtain ⟨q1, q2, q3, _, q5⟩ := h4 j (by omega)
        injection q3 with q3
        injection q3 with q3 q4
        subst q3 q4
        have := q5 0 u (by rw [← hu]; simp [encZ, show j < ds.length by omega])
        rwa [Nat.mul_one, Nat.add_zero] at this
       obtain ⟨NM, hNMk⟩ : ∃ NM : ByteArray, NM = ⟨nm.toArray⟩ := ⟨_, rfl⟩
       have hNMs : NM.size ≤ 20 := by rw [hNMk, mk_size]; exact name_len hxn
       have hsb : (⟨#[98, 97, 114, 32]⟩ : ByteArray).size = 4 := rfl
       have hct : (9223372036854775807 < 4 + NM.size) = False := eq_false (by omega)
       have hcat : (⟨#[98, 97, 114, 32]⟩ ++ NM : ByteArray).size ≤ 24 := by rw [ByteArray.size_append]; omega
       have hwd : Hid (by_ (⟨#[98, 97, 114, 32]⟩ ++ NM : ByteArray) = wBar ++ 32 :: nm) := Lib.hid (by rw [by_append, hNMk, mk_by]; rfl)
       have q0 : wr.cell? ⟨bb, off + k * 5, none⟩ = some (.string NM) := (hW.cell hbl).trans (hc 0 _ (by rw [hNMk]; rfl))
       have q1 : wr.cell? ⟨bb, off + k * 5 + 1, none⟩ = some (.int .i64 e0) := (hW.cell hbl).trans (hc 1 _ rfl)
       have q2 : wr.cell? ⟨bb, off + k * 5 + 2, none⟩ = some (.int .i64 e1) := (hW.cell hbl).trans (hc 2 _ rfl)
       have q3 : wr.cell? ⟨bb, off + k * 5 + 3, none⟩ = some (.int .i64 e2) := (hW.cell hbl).trans (hc 3 _ rfl)
       have q4 : wr.cell? ⟨bb, off + k * 5 + 4, none⟩ = some (.slice (some ⟨db1, do1, none⟩) n sc) := (hW.cell hbl).trans (hc 4 _ rfl)
       have hrg := fit_rng hxf
       replace hNMk := Lib.hid hNMk
       replace hn := Lib.hid hn
       replace hsuc := Lib.hid hsuc
       have hWl := hW.size
       replace hrg := Lib.hid hrg
       replace hWd := Lib.hid hW
       clear hx3 hx4 hx5 hxn hxf hc hdv h2 h4 hdc0 hxx hmem hbl hW
       go_upto_region 20 with fail
       generalize hWW : World.alloc wr _ = W1
       have kb : At W1 wr.heap.size 56 #[.string NM, .int .i64 e0, .int .i64 e1, .int .i64 e2, .slice (some ⟨db1, do1, none⟩) n sc] := by rw [← hWW]; exact At.new' rfl
       have hB1 := Lib.hid (hb.out.bel (by rw [← hWW]; exact below_al (Below.refl _ _) _ : Below wr.heap.size wr W1))
       have hW1 : Hid (Below w.heap.size w W1) := Lib.hid (hBw.out _ _ hB1.out)
       have hsz1 : wr.heap.size < W1.heap.size := kb.lt
       clear hWW q0 q1 q2 q3 q4 hb
       have hSc : Hid (∀ W, Below W1.heap.size W1 W → W.cell? ⟨wr.heap.size, 0, none⟩ = some (.string NM) ∧ W.cell? ⟨wr.heap.size, 1, none⟩ = some (.int .i64 e0) ∧ W.cell? ⟨wr.heap.size, 2, none⟩ = some (.int .i64 e1) ∧ W.cell? ⟨wr.heap.size, 3, none⟩ = some (.int .i64 e2) ∧ W.cell? ⟨wr.heap.size, 4, none⟩ = some (.slice (some ⟨db1, do1, none⟩) n sc)) := Lib.hid fun W hb => ⟨(kb.bel hb).c 0, (kb.bel hb).c 1, (kb.bel hb).c 2, (kb.bel hb).c 3, (kb.bel hb).c 4⟩
       have hAp : Hid (∀ W w5 g5 c5, Below W1.heap.size W1 W → W1.heap.size < W.heap.size → w5.ownsRow 0 3 1 (.slice g5 (3 + n) c5) (3 + n) ([.int .i64 e0, .int .i64 e1, .int .i64 e2] ++ ds.map (Value.int .i64 ·)) → W.grownBy w5 (some W1.heap.size) → Below W1.heap.size W1 w5 ∧ Hid (IsJ (e0 :: e1 :: e2 :: ds) (.slice g5 (3 + n) c5) w5)) := Lib.hid fun W w5 g5 c5 hb hsz ho hg => by
        refine ⟨below_grown hb hg (fun j hj => by injection hj with hj; omega), Lib.hid ?_⟩
        have := own_isJ (l := e0 :: e1 :: e2 :: ds) (n := 3 + n) (by simp [hn.out]; omega) ho (by omega)
        exact this
       have HLb : Hid (∀ w5 v, Below W1.heap.size W1 w5 → IsJ (e0 :: e1 :: e2 :: ds) v w5 → Calls Tryz.prog 32 #[.pointer (some ⟨b, 0, none⟩), .string (⟨#[98, 97, 114, 32]⟩ ++ NM), v] w5 fun e w' => e = .returned (.tuple #[]) ∧ Bld WB b (A4 ++ (bars.take (k + 1)).flatMap (fun b => lnB (wBar ++ 32 :: b.1) b.2)) w' ∧ w'.cell? ⟨wr.heap.size, 0, none⟩ = some (.string NM) ∧ w'.cell? ⟨wr.heap.size, 1, none⟩ = some (.int .i64 e0) ∧ w'.cell? ⟨wr.heap.size, 2, none⟩ = some (.int .i64 e1) ∧ w'.cell? ⟨wr.heap.size, 3, none⟩ = some (.int .i64 e2) ∧ w'.cell? ⟨wr.heap.size, 4, none⟩ = some (.slice (some ⟨db1, do1, none⟩) n sc)) := Lib.hid fun w5 v hb hJ => by
        have hB5 := hB1.out.bel hb
        have k5 := kb.bel hb
        have h := line_any w5 b _ (⟨#[98, 97, 114, 32]⟩ ++ NM) (e0 :: e1 :: e2 :: ds) v hB5.bld hJ (hBe.out _ _ hB5) hlen (by omega) (by simp [hn.out]; omega) hrg.out
        refine h.mono fun e w' ⟨q1, q2⟩ => ?_
        have k6 := q2.at k5 (by decide) (hB5.ne k5 (by decide))
        refine ⟨q1, ?_, k6.c 0, k6.c 1, k6.c 2, k6.c 3, k6.c 4⟩
        rw [hsuc.out]
        dsimp only
        rw [← hwd.out]
        exact hB5.trans q2
       have hds2 : Hid (∀ W, Below W1.heap.size W1 W → ∀ (j : Nat) (u : Value), (ds.map (Value.int .i64 ·))[j]? = some u → W.cell? ((⟨db1, do1, none⟩ : Addr).add j) = some u) := Lib.hid fun W hb j u hu => by
        rw [Addr.add_mid]
        have hj : j < n := by have := (List.getElem?_eq_some_iff.1 hu).1; rw [List.length_map, hn.out] at this; exact this
        exact (hb.cell (Nat.lt_of_lt_of_le hdl (Nat.le_trans hWl (Nat.le_of_lt hsz1)))).trans ((hW1.out.cell hdl).trans (hds1.out j hj u hu))
       have hdn : (ds.map (Value.int .i64 ·)).length = n * 1 := by rw [List.length_map, hn.out, Nat.mul_one]
       have hd1 : ∀ u ∈ ds.map (Value.int .i64 ·), u.oneCell' = true := fun u hu => by
        obtain ⟨c, _, rfl⟩ := List.mem_map.1 hu
        rfl
       replace hdn := Lib.hid hdn
       obtain ⟨iz, hiz0, hiz1, hiz2, hiz3⟩ := info_parts infoInt
       clear kb hsuc hWd hlen
       refine wp_region_noPanic ?_
       refine wp_region_held_drew (S := fun W => W.cell? ⟨wr.heap.size, 0, none⟩ = some (.string NM) ∧ W.cell? ⟨wr.heap.size, 1, none⟩ = some (.int .i64 e0) ∧ W.cell? ⟨wr.heap.size, 2, none⟩ = some (.int .i64 e1) ∧ W.cell? ⟨wr.heap.size, 3, none⟩ = some (.int .i64 e2) ∧ W.cell? ⟨wr.heap.size, 4, none⟩ = some (.slice (some ⟨db1, do1, none⟩) n sc)) (by kernel_rfl) ?_ (fun hHeld => ?_)
       ·(try dsimp only); (first | exact hS6 | exact hSc.out _ (by repeat (first | with_reducible assumption | with_reducible exact Below.refl _ _ | with_reducible refine below_al ?_ _ | with_reducible refine below_drew ?_ | with_reducible refine below_drewN ?_ _ | with_reducible refine below_set ?_ (by dsimp only; omega) _)))
       refine tak (i := 0) (v := ?_) (gt rfl) ?_ ?_
       rotate_left
       focus (intro W hSW; (try dsimp only at hSW); obtain ⟨z0, z1, z2, z3, z4⟩ := hSW; go_simp; first | done | with_reducible rfl)
       (try simp only [pu, pn, si, s0, sn])
       refine tak (i := 1) (v := ?_) (gt rfl) ?_ ?_
       rotate_left
       focus (intro W hSW; (try dsimp only at hSW); obtain ⟨z0, z1, z2, z3, z4⟩ := hSW; go_simp; first | done | with_reducible rfl)
       (try simp only [pu, pn, si, s0, sn])
       refine tak (i := 2) (v := ?_) (gt rfl) ?_ ?_
       rotate_left
       focus (intro W hSW; (try dsimp only at hSW); obtain ⟨z0, z1, z2, z3, z4⟩ := hSW; go_simp; first | done | with_reducible rfl)
       (try simp only [pu, pn, si, s0, sn])
       refine tak (i := 3) (v := ?_) (gt rfl) ?_ ?_
       rotate_left
       focus (intro W hSW; (try dsimp only at hSW); obtain ⟨z0, z1, z2, z3, z4⟩ := hSW; go_simp; first | done | with_reducible rfl)
       (try simp only [pu, pn, si, s0, sn])
       refine tak (i := 4) (v := ?_) (gt rfl) ?_ ?_
       rotate_left
       focus (intro W hSW; (try dsimp only at hSW); obtain ⟨z0, z1, z2, z3, z4⟩ := hSW; go_simp; first | done | with_reducible rfl)
       (try simp only [pu, pn, si, s0, sn])
       refine tak (i := 5) (v := ?_) (gt rfl) ?_ ?_
       rotate_left
       focus (intro W hSW; (try dsimp only at hSW); obtain ⟨z0, z1, z2, z3, z4⟩ := hSW; go_simp; first | done | with_reducible rfl)
       (try simp only [pu, pn, si, s0, sn])
       refine tak (i := 6) (v := ?_) (gt rfl) ?_ ?_
       rotate_left
       focus (intro W hSW; (try dsimp only at hSW); obtain ⟨z0, z1, z2, z3, z4⟩ := hSW; go_simp; first | done | with_reducible rfl)
       (try simp only [pu, pn, si, s0, sn])
       refine tak (i := 7) (v := ?_) (gt rfl) ?_ ?_
       rotate_left
       focus (intro W hSW; (try dsimp only at hSW); obtain ⟨z0, z1, z2, z3, z4⟩ := hSW; go_simp; first | done | with_reducible rfl)
       (try simp only [pu, pn, si, s0, sn])
       refine tak (i := 8) (v := ?_) (gt rfl) ?_ ?_
       rotate_left
       focus (intro W hSW; (try dsimp only at hSW); obtain ⟨z0, z1, z2, z3, z4⟩ := hSW; go_simp; first | done | with_reducible rfl)
       (try simp only [pu, pn, si, s0, sn])
       refine tak (i := 10) (v := ?_) (gt rfl) ?_ ?_
       rotate_left
       focus (intro W hSW; (try dsimp only at hSW); obtain ⟨z0, z1, z2, z3, z4⟩ := hSW; go_simp; first | done | with_reducible rfl)
       (try simp only [pu, pn, si, s0, sn])
       refine tak (i := 11) (v := ?_) (gt rfl) ?_ ?_
       rotate_left
       focus (intro W hSW; (try dsimp only at hSW); obtain ⟨z0, z1, z2, z3, z4⟩ := hSW; go_simp; first | done | with_reducible rfl)
       (try simp only [pu, pn, si, s0, sn])
       refine wpAnyH_ready (rs := [9]) (by kernel_rfl) (by simp) ?_
       refine AllReadyH.cons (i := 9) (gt rfl) (fun K hK => ?_) ?_
       ·go_simp
        refine hK.out _ _ ?_ (fun hHeld => ?_)
        ·(try dsimp only); (first | exact hS6 | exact hSc.out _ (by repeat (first | with_reducible assumption | with_reducible exact Below.refl _ _ | with_reducible refine below_al ?_ _ | with_reducible refine below_drew ?_ | with_reducible refine below_drewN ?_ _ | with_reducible refine below_set ?_ (by dsimp only; omega) _)))
        clear hK K
        (try simp only [pu, pn, si, s0, sn])
        refine wpAnyH_ready (rs := [12]) (by kernel_rfl) (by simp) ?_
        refine AllReadyH.cons (i := 12) (gt rfl) (fun K hK => ?_) ?_
        ·refine step_append_w _ (by rfl) (.tmp 80) (.tmp 82) 54 rfl 0 3 iz _ 1 8 Tryz.underlying54 hiz0 hiz1 hiz2 hiz3 rfl (by decide) (.slice (some ⟨W1.heap.size, 0, none⟩) 3 3) 3 [.int .i64 e0, .int .i64 e1, .int .i64 e2] (by first | rfl | (simp [Act.eval]; done)) (own_three (At.new' rfl)) ⟨db1, do1, none⟩ n sc (ds.map (Value.int .i64 ·)) (by first | rfl | (simp [Act.eval]; done)) hdn.out (hds2.out _ (below_al (below_drew (Below.refl _ _)) _)) hd1 (by unfold maxLen; omega) (by omega) (Nat.zero_le _) ?_
         intro g5 c5 w5 ho5 hg5 _
         obtain ⟨hbw5, hJ5⟩ := hAp.out _ w5 g5 c5 (below_al (below_drew (Below.refl _ _)) _) (by simp) ho5 hg5
         clear ho5 hg5
         refine hK.out _ _ ?_ (fun hHeld => ?_)
         ·(try dsimp only); (first | exact hS6 | exact hSc.out _ (by repeat (first | with_reducible assumption | with_reducible exact Below.refl _ _ | with_reducible refine below_al ?_ _ | with_reducible refine below_drew ?_ | with_reducible refine below_drewN ?_ _ | with_reducible refine below_set ?_ (by dsimp only; omega) _)))
         clear hK K
         (try simp only [pu, pn, si, s0, sn])
         refine wpAnyH_ready (rs := [13]) (by kernel_rfl) (by simp) ?_
         refine AllReadyH.cons (i := 13) (gt rfl) (fun K hK => ?_) ?_
         ·go_simp
          go_at_call 32
          refine (HLb.out w5 _ hbw5 hJ5.out).mono ?_
          rintro e w6 ⟨rfl, hnx, hS6⟩
          replace hnx := Lib.hid hnx
          (try go_wp2_with fail)
          refine hK.out _ _ ?_ (fun hHeld => ?_)
          ·(try dsimp only); (first | exact hS6 | exact hSc.out _ (by repeat (first | with_reducible assumption | with_reducible exact Below.refl _ _ | with_reducible refine below_al ?_ _ | with_reducible refine below_drew ?_ | with_reducible refine below_drewN ?_ _ | with_reducible refine below_set ?_ (by dsimp only; omega) _)))
          clear hK K
          (try simp only [pu, pn, si, s0, sn])
          refine wpAnyH_done (by kernel_rfl) ?_ _
          refine NoPanic.normal ?_
          go_wp2_with fail
          go_roundg (nr - (k + 1))
          case measure => have := hg.out; omega
          case rel => exact ⟨k + 1, by omega, by go_num, Lib.hid rfl, hnx⟩
         exact AllReadyH.nil
        exact AllReadyH.nil
       exact AllReadyH.nil
      ·have hb0 : Hid (Bld WB b A5 wr) := Lib.hid (by
        have := hb.out
        rw [List.take_of_length_le (by have := hnr.out; omega)] at this
        rw [hA5.out]
        exact this)
       clear hb
       obtain ⟨kX, kM⟩ := hBX.out _ _ hb0.out
       have x7 : wr.cell? ⟨w.heap.size, 7, none⟩ = some (.slice au nu cu) := kX.c 7
       clear kX kM
       go_wp2_with fail
       go_loopg [89] nu (fun g i wr => ∃ k : Nat, k ≤ nu ∧ i = .int .i64 (k : Int) ∧ Hid (g = nu - k) ∧ Hid (Bld WB b (A5 ++ (runs.take k).flatMap (fun b => lnB (wRun ++ 32 :: b.1) b.2)) wr))
       case atStart => exact ⟨0, Nat.zero_le _, rfl, Lib.hid rfl, Lib.hid (by rw [List.take_zero, List.flatMap_nil, List.append_nil]; exact hb0.out)⟩
       case round =>
        clear hb0
        obtain ⟨k, hk, rfl, hg, hb⟩ := hrel
        by_cases hlt : k < nu
        ·have hkl : k < runs.length := by rw [hnu.out]; exact hlt
         have hlen : (A5 ++ (runs.take k).flatMap (fun b => lnB (wRun ++ 32 :: b.1) b.2)).length ≤ 10000000000 := by
          have h1 := hl5.out
          have h2 := flat_take (fun b => lnB (wRun ++ 32 :: b.1) b.2) runs k
          rw [List.length_append]
          omega
         have hsuc : A5 ++ (runs.take (k + 1)).flatMap (fun b => lnB (wRun ++ 32 :: b.1) b.2) = A5 ++ (runs.take k).flatMap (fun b => lnB (wRun ++ 32 :: b.1) b.2) ++ (fun b => lnB (wRun ++ 32 :: b.1) b.2) runs[k] := by
          rw [List.take_succ_eq_append_getElem hkl, List.flatMap_append, List.flatMap_singleton, List.append_assoc]
         have hmem : runs[k] ∈ runs := List.getElem_mem hkl
         have hW := hBw.out _ _ hb.out
         obtain ⟨bb, off, rfl, hbl, hc⟩ := hRu.out k hkl
         obtain ⟨hx9, hxn, hxf⟩ := hSu.out _ hmem
         obtain ⟨x, hxx⟩ : ∃ x, runs[k] = x := ⟨_, rfl⟩
         rw [hxx] at hx9 hxn hxf hc hsuc
         obtain ⟨nm, l⟩ := x
         obtain ⟨e0, e1, e2, e3, e4, e5, e6, e7, e8, rfl⟩ := nine hx9
         obtain ⟨NM, hNMk⟩ : ∃ NM : ByteArray, NM = ⟨nm.toArray⟩ := ⟨_, rfl⟩
         have hNMs : NM.size ≤ 20 := by rw [hNMk, mk_size]; exact name_len hxn
         have hsb : (⟨#[114, 117, 110, 32]⟩ : ByteArray).size = 4 := rfl
         have hct : (9223372036854775807 < 4 + NM.size) = False := eq_false (by omega)
         have hcat : (⟨#[114, 117, 110, 32]⟩ ++ NM : ByteArray).size ≤ 24 := by rw [ByteArray.size_append]; omega
         have hwd : Hid (by_ (⟨#[114, 117, 110, 32]⟩ ++ NM : ByteArray) = wRun ++ 32 :: nm) := Lib.hid (by rw [by_append, hNMk, mk_by]; rfl)
         have q0 : wr.cell? ⟨bb, off + k * 10, none⟩ = some (.string NM) := (hW.cell hbl).trans (hc 0 _ (by rw [hNMk]; rfl))
         have q1 : wr.cell? ⟨bb, off + k * 10 + 1, none⟩ = some (.int .i64 e0) := (hW.cell hbl).trans (hc 1 _ (by rfl))
         have q2 : wr.cell? ⟨bb, off + k * 10 + 2, none⟩ = some (.int .i64 e1) := (hW.cell hbl).trans (hc 2 _ (by rfl))
         have q3 : wr.cell? ⟨bb, off + k * 10 + 3, none⟩ = some (.int .i64 e2) := (hW.cell hbl).trans (hc 3 _ (by rfl))
         have q4 : wr.cell? ⟨bb, off + k * 10 + 4, none⟩ = some (.int .i64 e3) := (hW.cell hbl).trans (hc 4 _ (by rfl))
         have q5 : wr.cell? ⟨bb, off + k * 10 + 5, none⟩ = some (.int .i64 e4) := (hW.cell hbl).trans (hc 5 _ (by rfl))
         have q6 : wr.cell? ⟨bb, off + k * 10 + 6, none⟩ = some (.int .i64 e5) := (hW.cell hbl).trans (hc 6 _ (by rfl))
         have q7 : wr.cell? ⟨bb, off + k * 10 + 7, none⟩ = some (.int .i64 e6) := (hW.cell hbl).trans (hc 7 _ (by rfl))
         have q8 : wr.cell? ⟨bb, off + k * 10 + 8, none⟩ = some (.int .i64 e7) := (hW.cell hbl).trans (hc 8 _ (by rfl))
         have q9 : wr.cell? ⟨bb, off + k * 10 + 9, none⟩ = some (.int .i64 e8) := (hW.cell hbl).trans (hc 9 _ (by rfl))
         have hrg := Lib.hid (fit_rng hxf)
         replace hNMk := Lib.hid hNMk
         replace hsuc := Lib.hid hsuc
         clear hx9 hxn hxf hc hxx hmem hbl hW
         go_upto_region 25 with fail
         generalize hWW : World.alloc wr _ = W1
         have kb : At W1 wr.heap.size 81 #[.string NM, .int .i64 e0, .int .i64 e1, .int .i64 e2, .int .i64 e3, .int .i64 e4, .int .i64 e5, .int .i64 e6, .int .i64 e7, .int .i64 e8] := by rw [← hWW]; exact At.new' rfl
         have hB1 := Lib.hid (hb.out.bel (by rw [← hWW]; exact below_al (Below.refl _ _) _ : Below wr.heap.size wr W1))
         clear hWW q0 q1 q2 q3 q4 q5 q6 q7 q8 q9 hb
         have hSc : Hid (∀ W, Below W1.heap.size W1 W → W.cell? ⟨wr.heap.size, 0, none⟩ = some (.string NM) ∧ W.cell? ⟨wr.heap.size, 1, none⟩ = some (.int .i64 e0) ∧ W.cell? ⟨wr.heap.size, 2, none⟩ = some (.int .i64 e1) ∧ W.cell? ⟨wr.heap.size, 3, none⟩ = some (.int .i64 e2) ∧ W.cell? ⟨wr.heap.size, 4, none⟩ = some (.int .i64 e3) ∧ W.cell? ⟨wr.heap.size, 5, none⟩ = some (.int .i64 e4) ∧ W.cell? ⟨wr.heap.size, 6, none⟩ = some (.int .i64 e5) ∧ W.cell? ⟨wr.heap.size, 7, none⟩ = some (.int .i64 e6) ∧ W.cell? ⟨wr.heap.size, 8, none⟩ = some (.int .i64 e7) ∧ W.cell? ⟨wr.heap.size, 9, none⟩ = some (.int .i64 e8)) := Lib.hid fun W hb => ⟨(kb.bel hb).c 0, (kb.bel hb).c 1, (kb.bel hb).c 2, (kb.bel hb).c 3, (kb.bel hb).c 4, (kb.bel hb).c 5, (kb.bel hb).c 6, (kb.bel hb).c 7, (kb.bel hb).c 8, (kb.bel hb).c 9⟩
         have HLb : Hid (∀ w5 v, Below W1.heap.size W1 w5 → IsJ [e0, e1, e2, e3, e4, e5, e6, e7, e8] v w5 → Calls Tryz.prog 32 #[.pointer (some ⟨b, 0, none⟩), .string (⟨#[114, 117, 110, 32]⟩ ++ NM), v] w5 fun e w' => e = .returned (.tuple #[]) ∧ Bld WB b (A5 ++ (runs.take (k + 1)).flatMap (fun b => lnB (wRun ++ 32 :: b.1) b.2)) w' ∧ w'.cell? ⟨wr.heap.size, 0, none⟩ = some (.string NM) ∧ w'.cell? ⟨wr.heap.size, 1, none⟩ = some (.int .i64 e0) ∧ w'.cell? ⟨wr.heap.size, 2, none⟩ = some (.int .i64 e1) ∧ w'.cell? ⟨wr.heap.size, 3, none⟩ = some (.int .i64 e2) ∧ w'.cell? ⟨wr.heap.size, 4, none⟩ = some (.int .i64 e3) ∧ w'.cell? ⟨wr.heap.size, 5, none⟩ = some (.int .i64 e4) ∧ w'.cell? ⟨wr.heap.size, 6, none⟩ = some (.int .i64 e5) ∧ w'.cell? ⟨wr.heap.size, 7, none⟩ = some (.int .i64 e6) ∧ w'.cell? ⟨wr.heap.size, 8, none⟩ = some (.int .i64 e7) ∧ w'.cell? ⟨wr.heap.size, 9, none⟩ = some (.int .i64 e8)) := Lib.hid fun w5 v hb hJ => by
          have hB5 := hB1.out.bel hb
          have k5 := kb.bel hb
          have h := line_any w5 b _ (⟨#[114, 117, 110, 32]⟩ ++ NM) [e0, e1, e2, e3, e4, e5, e6, e7, e8] v hB5.bld hJ (hBe.out _ _ hB5) hlen (by omega) (by simp) hrg.out
          refine h.mono fun e w' ⟨q1, q2⟩ => ?_
          have k6 := q2.at k5 (by decide) (hB5.ne k5 (by decide))
          refine ⟨q1, ?_, k6.c 0, k6.c 1, k6.c 2, k6.c 3, k6.c 4, k6.c 5, k6.c 6, k6.c 7, k6.c 8, k6.c 9⟩
          rw [hsuc.out]
          dsimp only
          rw [← hwd.out]
          exact hB5.trans q2
         clear kb hsuc hlen
         refine wp_region_noPanic ?_
         refine wp_region_held_drew (S := fun W => W.cell? ⟨wr.heap.size, 0, none⟩ = some (.string NM) ∧ W.cell? ⟨wr.heap.size, 1, none⟩ = some (.int .i64 e0) ∧ W.cell? ⟨wr.heap.size, 2, none⟩ = some (.int .i64 e1) ∧ W.cell? ⟨wr.heap.size, 3, none⟩ = some (.int .i64 e2) ∧ W.cell? ⟨wr.heap.size, 4, none⟩ = some (.int .i64 e3) ∧ W.cell? ⟨wr.heap.size, 5, none⟩ = some (.int .i64 e4) ∧ W.cell? ⟨wr.heap.size, 6, none⟩ = some (.int .i64 e5) ∧ W.cell? ⟨wr.heap.size, 7, none⟩ = some (.int .i64 e6) ∧ W.cell? ⟨wr.heap.size, 8, none⟩ = some (.int .i64 e7) ∧ W.cell? ⟨wr.heap.size, 9, none⟩ = some (.int .i64 e8)) (by kernel_rfl) ?_ (fun hHeld => ?_)
         ·(try dsimp only); (first | exact hS6 | exact hSc.out _ (by repeat (first | with_reducible assumption | with_reducible exact Below.refl _ _ | with_reducible refine below_al ?_ _ | with_reducible refine below_drew ?_ | with_reducible refine below_drewN ?_ _ | with_reducible refine below_set ?_ (by dsimp only; omega) _)))
         refine tak (i := 0) (v := ?_) (gt rfl) ?_ ?_
         rotate_left
         focus (intro W hSW; (try dsimp only at hSW); obtain ⟨z0, z1, z2, z3, z4, z5, z6, z7, z8, z9⟩ := hSW; go_simp; first | done | with_reducible rfl)
         (try simp only [pu, pn, si, s0, sn])
         refine tak (i := 1) (v := ?_) (gt rfl) ?_ ?_
         rotate_left
         focus (intro W hSW; (try dsimp only at hSW); obtain ⟨z0, z1, z2, z3, z4, z5, z6, z7, z8, z9⟩ := hSW; go_simp; first | done | with_reducible rfl)
         (try simp only [pu, pn, si, s0, sn])
         refine tak (i := 2) (v := ?_) (gt rfl) ?_ ?_
         rotate_left
         focus (intro W hSW; (try dsimp only at hSW); obtain ⟨z0, z1, z2, z3, z4, z5, z6, z7, z8, z9⟩ := hSW; go_simp; first | done | with_reducible rfl)
         (try simp only [pu, pn, si, s0, sn])
         refine tak (i := 3) (v := ?_) (gt rfl) ?_ ?_
         rotate_left
         focus (intro W hSW; (try dsimp only at hSW); obtain ⟨z0, z1, z2, z3, z4, z5, z6, z7, z8, z9⟩ := hSW; go_simp; first | done | with_reducible rfl)
         (try simp only [pu, pn, si, s0, sn])
         refine wpAnyH_ready (rs := [4]) (by kernel_rfl) (by simp) ?_
         refine AllReadyH.cons (i := 4) (gt rfl) (fun K hK => ?_) ?_
         ·go_simp
          go_at_call 35
          refine (runJ e0 e1 e2 e3 e4 e5 e6 e7 e8 NM _).mono ?_
          rintro e w5 ⟨⟨v, rfl, hJ5⟩, hbn⟩
          have hbw5 : Below W1.heap.size W1 w5 := below_then (below_drew (Below.refl _ _)) hbn
          replace hJ5 := Lib.hid hJ5
          clear hbn
          (try go_wp2_with fail)
          refine hK.out _ _ ?_ (fun hHeld => ?_)
          ·(try dsimp only); (first | exact hS6 | exact hSc.out _ (by repeat (first | with_reducible assumption | with_reducible exact Below.refl _ _ | with_reducible refine below_al ?_ _ | with_reducible refine below_drew ?_ | with_reducible refine below_drewN ?_ _ | with_reducible refine below_set ?_ (by dsimp only; omega) _)))
          clear hK K
          (try simp only [pu, pn, si, s0, sn])
          refine wpAnyH_ready (rs := [5]) (by kernel_rfl) (by simp) ?_
          refine AllReadyH.cons (i := 5) (gt rfl) (fun K hK => ?_) ?_
          ·go_simp
           go_at_call 32
           refine (HLb.out w5 v hbw5 hJ5.out).mono ?_
           rintro e w6 ⟨rfl, hnx, hS6⟩
           replace hnx := Lib.hid hnx
           (try go_wp2_with fail)
           refine hK.out _ _ ?_ (fun hHeld => ?_)
           ·(try dsimp only); (first | exact hS6 | exact hSc.out _ (by repeat (first | with_reducible assumption | with_reducible exact Below.refl _ _ | with_reducible refine below_al ?_ _ | with_reducible refine below_drew ?_ | with_reducible refine below_drewN ?_ _ | with_reducible refine below_set ?_ (by dsimp only; omega) _)))
           clear hK K
           (try simp only [pu, pn, si, s0, sn])
           refine wpAnyH_done (by kernel_rfl) ?_ _
           refine NoPanic.normal ?_
           go_wp2_with fail
           go_roundg (nu - (k + 1))
           case measure => have := hg.out; omega
           case rel => exact ⟨k + 1, by omega, by go_num, Lib.hid rfl, hnx⟩
          exact AllReadyH.nil
         exact AllReadyH.nil
        ·have hb0 : Hid (Bld WB b A6 wr) := Lib.hid (by
          have := hb.out
          rw [List.take_of_length_le (by have := hnu.out; omega)] at this
          rw [hA6.out]
          exact this)
         clear hb
         obtain ⟨kX, kM⟩ := hBX.out _ _ hb0.out
         have x8 : wr.cell? ⟨w.heap.size, 8, none⟩ = some (.slice al nl cl) := kX.c 8
         clear kX kM
         go_wp2_with fail
         go_loopg [103] nl (fun g i wr => ∃ k : Nat, k ≤ nl ∧ i = .int .i64 (k : Int) ∧ Hid (g = nl - k) ∧ Hid (Bld WB b (A6 ++ (laps.take k).flatMap (lnB wLap)) wr))
         case atStart => exact ⟨0, Nat.zero_le _, rfl, Lib.hid rfl, Lib.hid (by rw [List.take_zero, List.flatMap_nil, List.append_nil]; exact hb0.out)⟩
         case round =>
          clear hb0
          obtain ⟨k, hk, rfl, hg, hb⟩ := hrel
          by_cases hlt : k < nl
          ·have hkl : k < laps.length := by rw [hnl.out]; exact hlt
           have hlen : (A6 ++ (laps.take k).flatMap (lnB wLap)).length ≤ 10000000000 := by
            have h1 := hl6.out
            have h2 := flat_take (lnB wLap) laps k
            rw [List.length_append]
            omega
           have hsuc : A6 ++ (laps.take (k + 1)).flatMap (lnB wLap) = A6 ++ (laps.take k).flatMap (lnB wLap) ++ (lnB wLap) laps[k] := by
            rw [List.take_succ_eq_append_getElem hkl, List.flatMap_append, List.flatMap_singleton, List.append_assoc]
           have hmem : laps[k] ∈ laps := List.getElem_mem hkl
           have hW := hBw.out _ _ hb.out
           obtain ⟨bb, off, rfl, hbl, hc⟩ := hRl.out k hkl
           obtain ⟨hx6, hfx⟩ := hSl.out _ hmem
           obtain ⟨e0, e1, hx⟩ := two hx6
           have q0 : wr.cell? ⟨bb, off + k * 2, none⟩ = some (.int .i64 e0) := (hW.cell hbl).trans (hc 0 _ (by rw [hx]; rfl))
           have q1 : wr.cell? ⟨bb, off + k * 2 + 1, none⟩ = some (.int .i64 e1) := (hW.cell hbl).trans (hc 1 _ (by rw [hx]; rfl))
           rw [hx] at hsuc hfx
           have hrg := fit_rng hfx
           clear hx6 hfx hc hx hmem
           replace hsuc := Lib.hid hsuc
           go_wp2_with fail
           generalize hWW : World.alloc (World.alloc wr _) _ = w2
           have kz : At w2 (wr.heap.size + 1) 3 #[.int .i64 e0, .int .i64 e1] := by rw [← hWW]; repeat (first | (with_reducible apply At.new'; (focus (simp; done))) | with_reducible apply At.al | with_reducible apply At.drw | with_reducible apply At.dr)
           have hb2 : Below wr.heap.size wr w2 := by rw [← hWW]; repeat (first | with_reducible assumption | with_reducible exact Below.refl _ _ | with_reducible refine below_al ?_ _ | with_reducible refine below_drew ?_ | with_reducible refine below_drewN ?_ _ | with_reducible refine below_set ?_ (by dsimp only; omega) _)
           clear hWW
           have hv := isJ_new (l := [e0, e1]) kz (by simp)
           have hB2 := Lib.hid (hb.out.bel hb2)
           have HL := Lib.hid (HLn.out w2 _ ⟨#[108, 97, 112]⟩ [e0, e1] _ hB2.out hv hlen (by decide) (by simp) hrg)
           clear hb2 hv hb hW hbl hlen hrg q0 q1 kz
           refine HL.out.mono ?_
           rintro e w3 ⟨rfl, hb3⟩
           have hnx : Hid (Bld WB b (A6 ++ (laps.take (k + 1)).flatMap (lnB wLap)) w3) := Lib.hid (by rw [hsuc.out]; exact hb3)
           clear hb3 HL hsuc hB2
           go_wp2_with fail
           go_roundg (nl - (k + 1))
           case measure => have := hg.out; omega
           case rel => exact ⟨k + 1, by omega, by go_num, Lib.hid rfl, hnx⟩
          ·have hb0 : Hid (Bld WB b A7 wr) := Lib.hid (by
            have := hb.out
            rw [List.take_of_length_le (by have := hnl.out; omega)] at this
            rw [hA7.out]
            exact this)
           clear hb
           obtain ⟨kX, kM⟩ := hBX.out _ _ hb0.out
           have x9 : wr.cell? ⟨w.heap.size, 9, none⟩ = some (.slice ad nd cd) := kX.c 9
           clear kX kM
           go_wp2_with fail
           go_loopg [117] nd (fun g i wr => ∃ k : Nat, k ≤ nd ∧ i = .int .i64 (k : Int) ∧ Hid (g = nd - k) ∧ Hid (Bld WB b (A7 ++ (dems.take k).flatMap (fun x => lnB (wDemand ++ 32 :: x.1) x.2.1 ++ x.2.2.flatMap (lnB wStep))) wr))
           case atStart => exact ⟨0, Nat.zero_le _, rfl, Lib.hid rfl, Lib.hid (by rw [List.take_zero, List.flatMap_nil, List.append_nil]; exact hb0.out)⟩
           case round =>
            clear hb0
            obtain ⟨k, hk, rfl, hg, hb⟩ := hrel
            by_cases hlt : k < nd
            ·have hkl : k < dems.length := by rw [hnd.out]; exact hlt
             have hlen : (A7 ++ (dems.take k).flatMap (fun x => lnB (wDemand ++ 32 :: x.1) x.2.1 ++ x.2.2.flatMap (lnB wStep))).length ≤ 10000000000 := by
              have h1 := hl7.out
              have h2 := flat_take (fun x => lnB (wDemand ++ 32 :: x.1) x.2.1 ++ x.2.2.flatMap (lnB wStep)) dems k
              rw [List.length_append]
              omega
             have hsuc : A7 ++ (dems.take (k + 1)).flatMap (fun x => lnB (wDemand ++ 32 :: x.1) x.2.1 ++ x.2.2.flatMap (lnB wStep)) = A7 ++ (dems.take k).flatMap (fun x => lnB (wDemand ++ 32 :: x.1) x.2.1 ++ x.2.2.flatMap (lnB wStep)) ++ (fun x => lnB (wDemand ++ 32 :: x.1) x.2.1 ++ x.2.2.flatMap (lnB wStep)) dems[k] := by
              rw [List.take_succ_eq_append_getElem hkl, List.flatMap_append, List.flatMap_singleton, List.append_assoc]
             have hmem : dems[k] ∈ dems := List.getElem_mem hkl
             have hW := hBw.out _ _ hb.out
             obtain ⟨bb, off, rfl, hbl, hc⟩ := hRd.out k (by rw [hzd.out]; exact hkl)
             rw [List.getElem_zip] at hc
             obtain ⟨hx6, hxs, hxn, hxf, hxl, hxg⟩ := hSdm.out _ hmem
             have hst := hSt.out k hkl (by rw [hnsd.out]; exact hkl)
             obtain ⟨x, hxx⟩ : ∃ x, dems[k] = x := ⟨_, rfl⟩
             rw [hxx] at hx6 hxs hxn hxf hxl hxg hc hst hsuc
             obtain ⟨nm, z, st⟩ := x
             obtain ⟨e0, e1, e2, e3, e4, e5, rfl⟩ := six hx6
             obtain ⟨sta, stc, hdv, h2, h3, h4⟩ := hst
             have hst4 : Hid (RowAt (encK 2) 2 w.heap.size w sta st) := Lib.hid h4
             have hSs : Hid (∀ n ∈ st, n.length = 2 ∧ fitB n = true) := Lib.hid fun n hn => ⟨hxs n hn, hxg n hn⟩
             obtain ⟨stn, hstn⟩ : ∃ n, st.length = n := ⟨_, rfl⟩
             have hstl : stn ≤ 200 := by rw [← hstn]; exact hxl
             have hdv : ds[k]'(by rw [hnsd.out]; exact hkl) = .slice sta stn stc := by rw [← hstn]; exact hdv
             rw [hdv] at hc
             obtain ⟨NM, hNMk⟩ : ∃ NM : ByteArray, NM = ⟨nm.toArray⟩ := ⟨_, rfl⟩
             have hNMs : NM.size ≤ 20 := by rw [hNMk, mk_size]; exact name_len hxn
             have hsb : (⟨#[100, 101, 109, 97, 110, 100, 32]⟩ : ByteArray).size = 7 := rfl
             have hct : (9223372036854775807 < 7 + NM.size) = False := eq_false (by omega)
             have hcat : (⟨#[100, 101, 109, 97, 110, 100, 32]⟩ ++ NM : ByteArray).size ≤ 27 := by rw [ByteArray.size_append]; omega
             have hwd : Hid (by_ (⟨#[100, 101, 109, 97, 110, 100, 32]⟩ ++ NM : ByteArray) = wDemand ++ 32 :: nm) := Lib.hid (by rw [by_append, hNMk, mk_by]; rfl)
             have q0 : wr.cell? ⟨bb, off + k * 8, none⟩ = some (.string NM) := (hW.cell hbl).trans (hc 0 _ (by rw [hNMk]; rfl))
             have q1 : wr.cell? ⟨bb, off + k * 8 + 1, none⟩ = some (.int .i64 e0) := (hW.cell hbl).trans (hc 1 _ (by rfl))
             have q2 : wr.cell? ⟨bb, off + k * 8 + 2, none⟩ = some (.int .i64 e1) := (hW.cell hbl).trans (hc 2 _ (by rfl))
             have q3 : wr.cell? ⟨bb, off + k * 8 + 3, none⟩ = some (.int .i64 e2) := (hW.cell hbl).trans (hc 3 _ (by rfl))
             have q4 : wr.cell? ⟨bb, off + k * 8 + 4, none⟩ = some (.int .i64 e3) := (hW.cell hbl).trans (hc 4 _ (by rfl))
             have q5 : wr.cell? ⟨bb, off + k * 8 + 5, none⟩ = some (.int .i64 e4) := (hW.cell hbl).trans (hc 5 _ (by rfl))
             have q6 : wr.cell? ⟨bb, off + k * 8 + 6, none⟩ = some (.int .i64 e5) := (hW.cell hbl).trans (hc 6 _ (by rfl))
             have q7 : wr.cell? ⟨bb, off + k * 8 + 7, none⟩ = some (.slice sta stn stc) := (hW.cell hbl).trans (hc 7 _ (by rfl))
             have hrg := Lib.hid (fit_rng hxf)
             replace hNMk := Lib.hid hNMk
             replace hsuc := Lib.hid hsuc
             have hlm : (A7 ++ (dems.take k).flatMap (fun x => lnB (wDemand ++ 32 :: x.1) x.2.1 ++ x.2.2.flatMap (lnB wStep)) ++ (lnB (wDemand ++ 32 :: nm) [e0, e1, e2, e3, e4, e5] ++ st.flatMap (lnB wStep))).length ≤ 1000000 := by
              have h1 := hl7.out
              have h2 := flat_take (fun x => lnB (wDemand ++ 32 :: x.1) x.2.1 ++ x.2.2.flatMap (lnB wStep)) dems (k + 1)
              rw [← show A7 ++ (dems.take (k + 1)).flatMap (fun x => lnB (wDemand ++ 32 :: x.1) x.2.1 ++ x.2.2.flatMap (lnB wStep)) = A7 ++ (dems.take k).flatMap (fun x => lnB (wDemand ++ 32 :: x.1) x.2.1 ++ x.2.2.flatMap (lnB wStep)) ++ (lnB (wDemand ++ 32 :: nm) [e0, e1, e2, e3, e4, e5] ++ st.flatMap (lnB wStep)) from hsuc.out, List.length_append]
              omega
             replace hlm := Lib.hid hlm
             replace hstn := Lib.hid hstn
             clear hx6 hxs hxn hxf hxl hxg hc hxx hmem hbl hW hdv h2 h4
             go_upto_region 35 with fail
             generalize hWW : World.alloc wr _ = W1
             have kb : At W1 wr.heap.size 63 #[.string NM, .int .i64 e0, .int .i64 e1, .int .i64 e2, .int .i64 e3, .int .i64 e4, .int .i64 e5, .slice sta stn stc] := by rw [← hWW]; exact At.new' rfl
             have hB1 := Lib.hid (hb.out.bel (by rw [← hWW]; exact below_al (Below.refl _ _) _ : Below wr.heap.size wr W1))
             clear hWW q0 q1 q2 q3 q4 q5 q6 q7 hb
             have hSc : Hid (∀ W, Below W1.heap.size W1 W → W.cell? ⟨wr.heap.size, 0, none⟩ = some (.string NM) ∧ W.cell? ⟨wr.heap.size, 1, none⟩ = some (.int .i64 e0) ∧ W.cell? ⟨wr.heap.size, 2, none⟩ = some (.int .i64 e1) ∧ W.cell? ⟨wr.heap.size, 3, none⟩ = some (.int .i64 e2) ∧ W.cell? ⟨wr.heap.size, 4, none⟩ = some (.int .i64 e3) ∧ W.cell? ⟨wr.heap.size, 5, none⟩ = some (.int .i64 e4) ∧ W.cell? ⟨wr.heap.size, 6, none⟩ = some (.int .i64 e5) ∧ W.cell? ⟨wr.heap.size, 7, none⟩ = some (.slice sta stn stc)) := Lib.hid fun W hb => ⟨(kb.bel hb).c 0, (kb.bel hb).c 1, (kb.bel hb).c 2, (kb.bel hb).c 3, (kb.bel hb).c 4, (kb.bel hb).c 5, (kb.bel hb).c 6, (kb.bel hb).c 7⟩
             obtain ⟨AD, hAD⟩ : ∃ AD, AD = A7 ++ (dems.take k).flatMap (fun x => lnB (wDemand ++ 32 :: x.1) x.2.1 ++ x.2.2.flatMap (lnB wStep)) ++ lnB (wDemand ++ 32 :: nm) [e0, e1, e2, e3, e4, e5] := ⟨_, rfl⟩
             have HLb : Hid (∀ w5 v, Below W1.heap.size W1 w5 → IsJ [e0, e1, e2, e3, e4, e5] v w5 → Calls Tryz.prog 32 #[.pointer (some ⟨b, 0, none⟩), .string (⟨#[100, 101, 109, 97, 110, 100, 32]⟩ ++ NM), v] w5 fun e w' => e = .returned (.tuple #[]) ∧ Bld WB b AD w' ∧ w'.cell? ⟨wr.heap.size, 0, none⟩ = some (.string NM) ∧ w'.cell? ⟨wr.heap.size, 1, none⟩ = some (.int .i64 e0) ∧ w'.cell? ⟨wr.heap.size, 2, none⟩ = some (.int .i64 e1) ∧ w'.cell? ⟨wr.heap.size, 3, none⟩ = some (.int .i64 e2) ∧ w'.cell? ⟨wr.heap.size, 4, none⟩ = some (.int .i64 e3) ∧ w'.cell? ⟨wr.heap.size, 5, none⟩ = some (.int .i64 e4) ∧ w'.cell? ⟨wr.heap.size, 6, none⟩ = some (.int .i64 e5) ∧ w'.cell? ⟨wr.heap.size, 7, none⟩ = some (.slice sta stn stc)) := Lib.hid fun w5 v hb hJ => by
              have hB5 := hB1.out.bel hb
              have k5 := kb.bel hb
              have h := line_any w5 b _ (⟨#[100, 101, 109, 97, 110, 100, 32]⟩ ++ NM) [e0, e1, e2, e3, e4, e5] v hB5.bld hJ (hBe.out _ _ hB5) hlen (by omega) (by simp) hrg.out
              refine h.mono fun e w' ⟨q1, q2⟩ => ?_
              have k6 := q2.at k5 (by decide) (hB5.ne k5 (by decide))
              refine ⟨q1, ?_, k6.c 0, k6.c 1, k6.c 2, k6.c 3, k6.c 4, k6.c 5, k6.c 6, k6.c 7⟩
              rw [hAD, ← hwd.out]
              exact hB5.trans q2
             replace hAD := Lib.hid hAD
             clear kb hlen
             refine wp_region_noPanic ?_
             refine wp_region_held_drew (S := fun W => W.cell? ⟨wr.heap.size, 0, none⟩ = some (.string NM) ∧ W.cell? ⟨wr.heap.size, 1, none⟩ = some (.int .i64 e0) ∧ W.cell? ⟨wr.heap.size, 2, none⟩ = some (.int .i64 e1) ∧ W.cell? ⟨wr.heap.size, 3, none⟩ = some (.int .i64 e2) ∧ W.cell? ⟨wr.heap.size, 4, none⟩ = some (.int .i64 e3) ∧ W.cell? ⟨wr.heap.size, 5, none⟩ = some (.int .i64 e4) ∧ W.cell? ⟨wr.heap.size, 6, none⟩ = some (.int .i64 e5) ∧ W.cell? ⟨wr.heap.size, 7, none⟩ = some (.slice sta stn stc)) (by kernel_rfl) ?_ (fun hHeld => ?_)
             ·(try dsimp only); (first | exact hS6 | exact hSc.out _ (by repeat (first | with_reducible assumption | with_reducible exact Below.refl _ _ | with_reducible refine below_al ?_ _ | with_reducible refine below_drew ?_ | with_reducible refine below_drewN ?_ _ | with_reducible refine below_set ?_ (by dsimp only; omega) _)))
             refine tak (i := 0) (v := ?_) (gt rfl) ?_ ?_
             rotate_left
             focus (intro W hSW; (try dsimp only at hSW); obtain ⟨z0, z1, z2, z3, z4, z5, z6, z7⟩ := hSW; go_simp; first | done | with_reducible rfl)
             (try simp only [pu, pn, si, s0, sn])
             refine tak (i := 1) (v := ?_) (gt rfl) ?_ ?_
             rotate_left
             focus (intro W hSW; (try dsimp only at hSW); obtain ⟨z0, z1, z2, z3, z4, z5, z6, z7⟩ := hSW; go_simp; first | done | with_reducible rfl)
             (try simp only [pu, pn, si, s0, sn])
             refine tak (i := 2) (v := ?_) (gt rfl) ?_ ?_
             rotate_left
             focus (intro W hSW; (try dsimp only at hSW); obtain ⟨z0, z1, z2, z3, z4, z5, z6, z7⟩ := hSW; go_simp; first | done | with_reducible rfl)
             (try simp only [pu, pn, si, s0, sn])
             refine tak (i := 3) (v := ?_) (gt rfl) ?_ ?_
             rotate_left
             focus (intro W hSW; (try dsimp only at hSW); obtain ⟨z0, z1, z2, z3, z4, z5, z6, z7⟩ := hSW; go_simp; first | done | with_reducible rfl)
             (try simp only [pu, pn, si, s0, sn])
             refine tak (i := 4) (v := ?_) (gt rfl) ?_ ?_
             rotate_left
             focus (intro W hSW; (try dsimp only at hSW); obtain ⟨z0, z1, z2, z3, z4, z5, z6, z7⟩ := hSW; go_simp; first | done | with_reducible rfl)
             (try simp only [pu, pn, si, s0, sn])
             refine wpAnyH_ready (rs := [5]) (by kernel_rfl) (by simp) ?_
             refine AllReadyH.cons (i := 5) (gt rfl) (fun K hK => ?_) ?_
             ·go_simp
              go_at_call 33
              refine (coordsJ e0 e1 e2 e3 e4 e5 _).mono ?_
              rintro e w5 ⟨⟨v, rfl, hJ5⟩, hbn⟩
              have hbw5 : Below W1.heap.size W1 w5 := below_then (below_drew (Below.refl _ _)) hbn
              replace hJ5 := Lib.hid hJ5
              clear hbn
              (try go_wp2_with fail)
              refine hK.out _ _ ?_ (fun hHeld => ?_)
              ·(try dsimp only); (first | exact hS6 | exact hSc.out _ (by repeat (first | with_reducible assumption | with_reducible exact Below.refl _ _ | with_reducible refine below_al ?_ _ | with_reducible refine below_drew ?_ | with_reducible refine below_drewN ?_ _ | with_reducible refine below_set ?_ (by dsimp only; omega) _)))
              clear hK K
              (try simp only [pu, pn, si, s0, sn])
              refine wpAnyH_ready (rs := [6]) (by kernel_rfl) (by simp) ?_
              refine AllReadyH.cons (i := 6) (gt rfl) (fun K hK => ?_) ?_
              ·go_simp
               go_at_call 32
               refine (HLb.out w5 v hbw5 hJ5.out).mono ?_
               rintro e w6 ⟨rfl, hbD, hS6⟩
               replace hbD := Lib.hid hbD
               (try go_wp2_with fail)
               refine hK.out _ _ ?_ (fun hHeld => ?_)
               ·(try dsimp only); (first | exact hS6 | exact hSc.out _ (by repeat (first | with_reducible assumption | with_reducible exact Below.refl _ _ | with_reducible refine below_al ?_ _ | with_reducible refine below_drew ?_ | with_reducible refine below_drewN ?_ _ | with_reducible refine below_set ?_ (by dsimp only; omega) _)))
               clear hK K
               (try simp only [pu, pn, si, s0, sn])
               refine wpAnyH_done (by kernel_rfl) ?_ _
               refine NoPanic.normal ?_
               obtain ⟨-, -, -, -, -, -, -, z7w⟩ := hS6
               clear HLb hSc hB1
               go_wp2_with fail
               go_loopg [131] stn (fun g i wr => ∃ j : Nat, j ≤ stn ∧ i = .int .i64 (j : Int) ∧ Hid (g = stn - j) ∧ Hid (Bld WB b (AD ++ (st.take j).flatMap (lnB wStep)) wr))
               case atStart => exact ⟨0, Nat.zero_le _, rfl, Lib.hid rfl, Lib.hid (by rw [List.take_zero, List.flatMap_nil, List.append_nil]; exact hbD.out)⟩
               case round =>
                clear hbD z7w
                obtain ⟨j, hj, rfl, hg2, hb⟩ := hrel
                by_cases hlt2 : j < stn
                ·have hkl : j < st.length := by rw [hstn.out]; exact hlt2
                 have hlen : (AD ++ (st.take j).flatMap (lnB wStep)).length ≤ 10000000000 := by
                  have h1 := hlm.out
                  have h2 := flat_take (lnB wStep) st j
                  rw [hAD.out, List.length_append]
                  simp only [List.length_append] at h1 ⊢
                  omega
                 have hsuc : AD ++ (st.take (j + 1)).flatMap (lnB wStep) = AD ++ (st.take j).flatMap (lnB wStep) ++ lnB wStep st[j] := by
                  rw [List.take_succ_eq_append_getElem hkl, List.flatMap_append, List.flatMap_singleton, List.append_assoc]
                 have hmem : st[j] ∈ st := List.getElem_mem hkl
                 have hW := hBw.out _ _ hb.out
                 obtain ⟨bb, off, rfl, hbl, hc⟩ := hst4.out j hkl
                 obtain ⟨hx6, hfx⟩ := hSs.out _ hmem
                 obtain ⟨i0, i1, hx⟩ := two hx6
                 have q0 : wr.cell? ⟨bb, off + j * 2, none⟩ = some (.int .i64 i0) := (hW.cell hbl).trans (hc 0 _ (by rw [hx]; rfl))
                 have q1 : wr.cell? ⟨bb, off + j * 2 + 1, none⟩ = some (.int .i64 i1) := (hW.cell hbl).trans (hc 1 _ (by rw [hx]; rfl))
                 rw [hx] at hsuc hfx
                 have hrg := fit_rng hfx
                 clear hx6 hfx hc hx hmem
                 replace hsuc := Lib.hid hsuc
                 go_wp2_with fail
                 generalize hWW : World.alloc (World.alloc wr _) _ = w2
                 have kz : At w2 (wr.heap.size + 1) 3 #[.int .i64 i0, .int .i64 i1] := by rw [← hWW]; repeat (first | (with_reducible apply At.new'; (focus (simp; done))) | with_reducible apply At.al | with_reducible apply At.drw | with_reducible apply At.dr)
                 have hb2 : Below wr.heap.size wr w2 := by rw [← hWW]; repeat (first | with_reducible assumption | with_reducible exact Below.refl _ _ | with_reducible refine below_al ?_ _ | with_reducible refine below_drew ?_ | with_reducible refine below_drewN ?_ _ | with_reducible refine below_set ?_ (by dsimp only; omega) _)
                 clear hWW
                 have hv := isJ_new (l := [i0, i1]) kz (by simp)
                 have hB2 := Lib.hid (hb.out.bel hb2)
                 have HL := Lib.hid (HLn.out w2 _ ⟨#[115, 116, 101, 112]⟩ [i0, i1] _ hB2.out hv hlen (by decide) (by simp) hrg)
                 clear hb2 hv hb hW hbl hlen hrg q0 q1 kz
                 refine HL.out.mono ?_
                 rintro e w3 ⟨rfl, hb3⟩
                 have hnx2 : Hid (Bld WB b (AD ++ (st.take (j + 1)).flatMap (lnB wStep)) w3) := Lib.hid (by rw [hsuc.out]; exact hb3)
                 clear hb3 HL hsuc hB2
                 go_wp2_with fail
                 go_roundg (stn - (j + 1))
                 case measure => have := hg2.out; omega
                 case rel => exact ⟨j + 1, by omega, by go_num, Lib.hid rfl, hnx2⟩
                ·have hnx : Hid (Bld WB b (A7 ++ (dems.take (k + 1)).flatMap (fun x => lnB (wDemand ++ 32 :: x.1) x.2.1 ++ x.2.2.flatMap (lnB wStep))) wr) := Lib.hid (by
                  have := hb.out
                  rw [List.take_of_length_le (by have := hstn.out; omega), hAD.out, List.append_assoc] at this
                  rw [hsuc.out]
                  exact this)
                 clear hb
                 go_wp2_with fail
                 go_roundg (nd - (k + 1))
                 case measure => have := hg.out; omega
                 case rel => exact ⟨k + 1, by omega, by go_num, Lib.hid rfl, hnx⟩
              exact AllReadyH.nil
             exact AllReadyH.nil
            ·have hb0 : Hid (Bld WB b A8 wr) := Lib.hid (by
              have := hb.out
              rw [List.take_of_length_le (by have := hnd.out; omega)] at this
              rw [hA8.out]
              exact this)
             clear hb
             have hA8l : A8.length ≤ 1000000 := hlT.out
             have HLen := Lib.hid (Tryz.Builder_Len_f b b _ wr hb0.out.bld)
             rw [Lib.byteCells_length] at HLen
             have hbw := Lib.hid (hBw.out _ _ hb0.out)
             obtain ⟨n8, hn8⟩ : ∃ n, A8.length = n := ⟨_, rfl⟩
             rw [hn8] at HLen hA8l
             replace hn8 := Lib.hid hn8
             by_cases hbig : 262144 < n8
             ·have f0 : decide ((262144 : Int) < (n8 : Int)) = true := decide_eq_true (by omega)
              have hR := Lib.hid (hT1.out (by rw [hn8.out]; exact hbig))
              clear hbig
              go_wp2_with fail
              refine HLen.out.mono ?_
              rintro e w3 ⟨rfl, rfl⟩
              go_wp2_with fail
              exact bodyPost_ret (v := .tuple #[.string ⟨#[]⟩, .int .i64 4]) (by simp [results, Tryz.results11, go_sem]) rfl ⟨by rw [hR.out], hbw.out⟩
             ·have f0 : decide ((262144 : Int) < (n8 : Int)) = false := decide_eq_false (by omega)
              have hR := Lib.hid (hT2.out (by rw [hn8.out]; exact hbig))
              have HStr := Lib.hid (Tryz.Builder_String_f b b A8 wr hb0.out.bld hA8n.out)
              have hbb := Lib.hid (Nat.le_trans hwb.out (Nat.le_refl b))
              clear hbig
              go_wp2_with fail
              refine HLen.out.mono ?_
              rintro e w3 ⟨rfl, rfl⟩
              go_wp2_with fail
              refine HStr.out.mono ?_
              rintro e w4 ⟨rfl, -, hb4⟩
              have hf := hbw.out.trans (hb4.mono hbb.out)
              clear hb4
              go_wp2_with fail
              exact bodyPost_ret (v := .tuple #[.string ⟨A8.toArray⟩, .int .i64 0]) (by simp [results, Tryz.results11, go_sem]) rfl ⟨by rw [hR.out], hf⟩
theorem text_any (d : Det) (p : PV) (hs : d.sh) (w : World) (hv : DetV w d p) (he : Env w) : Calls Tryz.prog 11 #[.agg (detC d p)] w fun e w' => e = .returned (.tuple #[.string ⟨(textR d).1.toArray⟩, .int .i64 (textR d).2]) ∧ Below w.heap.size w w' := by
 cases hwr : wrD d with
 | false => exact text_no d p hs w hv hwr
 | true => exact text_yes d p hs w hv he hwr
end Go.Proofs.YtccakklnbhcbdaaGreatDoor
