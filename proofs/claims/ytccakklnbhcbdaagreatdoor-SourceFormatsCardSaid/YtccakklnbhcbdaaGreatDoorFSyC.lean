import Derived.Test.YtccakklnbhcbdaaGreatDoorFQj
import Derived.Test.YtccakklnbhcbdaaGreatDoorFMTxt
set_option linter.unusedVariables false
set_option linter.unusedSimpArgs false
namespace Go.Proofs.YtccakklnbhcbdaaGreatDoor
open Go.ChangeShapes Go.WideShapes Go.ChangeAt Go.RowKit
theorem rnameH (nm : List UInt8) (hm : nm.length ≤ 1000000) (NM : ByteArray) (hN : NM = ⟨nm.toArray⟩) : Hid (∀ w, Calls Tryz.prog 51 #[.string NM] w fun e w' => e = .returned (.bool (nameB nm)) ∧ Below w.heap.size w w') := Lib.hid fun w => by
 have hs : NM.size = nm.length := by rw [hN, mk_size]
 have h := refisName_any NM (by rw [hs]; omega) w
 have e : by_ NM = nm := by subst hN; exact mk_by nm
 rw [e] at h
 exact h
theorem rshortH (l : List Int) : Hid (∀ v w, IsI l v w → Calls Tryz.prog 52 #[v] w fun e w' => e = .returned (.bool (fitB l)) ∧ Below w.heap.size w w') := Lib.hid fun v w h => (short_any l v w h).mono fun e w' ⟨q1, q2⟩ => ⟨q1, by rw [q2]; exact Below.refl _ _⟩
theorem barOk_split (nm : List UInt8) (a b c : Int) (ds : List Int) : barOk (nm, a :: b :: c :: ds) = (nameB nm && decide (1 ≤ ds.length) && decide (ds.length ≤ 8) && fitB [a, b, c] && fitB ds) := by
 have e1 : decide (4 ≤ (a :: b :: c :: ds).length) = decide (1 ≤ ds.length) := decide_eq_decide.2 (by simp)
 have e2 : decide ((a :: b :: c :: ds).length ≤ 11) = decide (ds.length ≤ 8) := decide_eq_decide.2 (by simp)
 have e3 : fitB (a :: b :: c :: ds) = (fitB [a, b, c] && fitB ds) := fitB_two [a, b, c] ds
 unfold barOk
 dsimp only
 rw [e1, e2, e3, Bool.and_assoc (nameB nm && decide (1 ≤ ds.length) && decide (ds.length ≤ 8))]
theorem all_next {α : Type} (l : List α) (f : α → Bool) (k : Nat) (hk : k < l.length) : (l.take (k + 1)).all f = ((l.take k).all f && f l[k]) := by
 rw [List.take_succ_eq_append_getElem hk, List.all_append, List.all_cons, List.all_nil, Bool.and_true]
theorem all_bad {α : Type} (l : List α) (f : α → Bool) (k : Nat) (hk : k < l.length) (h : f l[k] = false) : l.all f = false := by
 cases h2 : l.all f
 ·rfl
 ·rw [List.all_eq_true.1 h2 _ (List.getElem_mem hk)] at h
  cases h
set_option maxRecDepth 100000 in
set_option maxHeartbeats 4000000 in
theorem rwritable_any (d : Det) (p : PV) (hs : d.sh) (w : World) (hv : DetV w d p) : Calls Tryz.prog 13 #[.agg (detC d p)] w fun e w' => e = .returned (.bool (wrD d)) ∧ Below w.heap.size w w' := by
 have HcB : Hid (∀ w', Below w.heap.size w w' → Calls Tryz.prog 53 #[p.vb] w' fun e w2 => e = .returned (.bool (decide (d.boxes.length ≤ 20) && d.boxes.all fitB)) ∧ Below w'.heap.size w' w2) := Lib.hid fun w' hb => rboxes_any d.boxes p.vb w' hs.boxes (hv.boxes.up hb)
 have HcH : Hid (∀ w', Below w.heap.size w w' → Calls Tryz.prog 53 #[p.vh] w' fun e w2 => e = .returned (.bool (decide (d.holes.length ≤ 20) && d.holes.all fitB)) ∧ Below w'.heap.size w' w2) := Lib.hid fun w' hb => rboxes_any d.holes p.vh w' hs.holes (hv.holes.up hb)
 have hSr := hs.bars
 have hSu := hs.runs
 have hSl := hs.laps
 have hSm := hs.dems
 have hMr := hs.bnm
 have hMu := hs.rnm
 have hMd := hs.dnm
 have hnm := hs.nm
 obtain ⟨ab, cb, eb, -, -, -⟩ := hv.boxes
 obtain ⟨ah, ch, eh, -, -, -⟩ := hv.holes
 obtain ⟨ar, cr, er, -, -, hRr⟩ := hv.bars
 obtain ⟨au, cu, eu, -, -, hRu⟩ := hv.runs
 obtain ⟨al, cl, el, -, -, hRl⟩ := hv.laps
 obtain ⟨ad, cd, ed, -, -, hRd⟩ := hv.dems
 have hnbr := hv.nb
 have hnsd := hv.ns
 have hSd := hv.dims
 have hSt := hv.steps
 have hzr : (d.bars.zip p.db).length = d.bars.length := by rw [List.length_zip, hv.nb]; simp
 have hzd : (d.dems.zip p.ds).length = d.dems.length := by rw [List.length_zip, hv.ns]; simp
 rw [hzr] at er
 rw [hzd] at ed
 have hmem := hs.mem
 have hrule := hs.rule
 clear hs hv
 obtain ⟨name, mem, boxes, holes, rule, bars, runs, laps, dems⟩ := d
 obtain ⟨vt, vb, vh, vr, vn, vl, vd, db, ds⟩ := p
 dsimp only at *
 obtain ⟨m0, m1, m2, rfl⟩ := three hmem
 obtain ⟨r0, r1, r2, r3, r4, r5, r6, r7, r8, rfl⟩ := nine hrule
 obtain ⟨NM, hNM⟩ : ∃ NM : ByteArray, NM = ⟨name.toArray⟩ := ⟨_, rfl⟩
 obtain ⟨nb, hnb⟩ : ∃ n, boxes.length = n := ⟨_, rfl⟩
 rw [hnb] at eb
 obtain ⟨nh, hnh⟩ : ∃ n, holes.length = n := ⟨_, rfl⟩
 rw [hnh] at eh
 obtain ⟨nr, hnr⟩ : ∃ n, bars.length = n := ⟨_, rfl⟩
 rw [hnr] at er
 obtain ⟨nu, hnu⟩ : ∃ n, runs.length = n := ⟨_, rfl⟩
 rw [hnu] at eu
 obtain ⟨nl, hnl⟩ : ∃ n, laps.length = n := ⟨_, rfl⟩
 rw [hnl] at el
 obtain ⟨nd, hnd⟩ : ∃ n, dems.length = n := ⟨_, rfl⟩
 rw [hnd] at ed
 subst eb eh er eu el ed
 have HN := rnameH name hnm NM hNM
 have HM := rshortH [m0, m1, m2]
 have HR := rshortH [r0, r1, r2, r3, r4, r5, r6, r7, r8]
 obtain ⟨Wr, hWr⟩ : ∃ r, wrD ⟨name, [m0, m1, m2], boxes, holes, [r0, r1, r2, r3, r4, r5, r6, r7, r8], bars, runs, laps, dems⟩ = r := ⟨_, rfl⟩
 rw [hWr]
 have hres : Wr = (nameB name && (fitB [m0, m1, m2] && ((decide (boxes.length ≤ 20) && boxes.all fitB) && ((decide (holes.length ≤ 20) && holes.all fitB) && (fitB [r0, r1, r2, r3, r4, r5, r6, r7, r8]
  && (decide (bars.length ≤ 60) && (bars.all barOk && (decide (runs.length ≤ 60) && (runs.all runOk && (decide (laps.length ≤ 1000) && (laps.all fitB && (decide (dems.length ≤ 20) && dems.all demOk)))))))))))) := by
  rw [← hWr]
  unfold wrD
  simp only [Bool.and_assoc]
 generalize (decide (boxes.length ≤ 20) && boxes.all fitB) = aB at *
 generalize (decide (holes.length ≤ 20) && holes.all fitB) = aH at *
 rw [hnr, hnu, hnl, hnd] at hres
 obtain ⟨L3, hL3⟩ : ∃ b, decide (nr ≤ 60) = b := ⟨_, rfl⟩
 rw [hL3] at hres
 replace hL3 := Lib.hid hL3
 obtain ⟨L4, hL4⟩ : ∃ b, decide (nu ≤ 60) = b := ⟨_, rfl⟩
 rw [hL4] at hres
 replace hL4 := Lib.hid hL4
 obtain ⟨L5, hL5⟩ : ∃ b, decide (nl ≤ 1000) = b := ⟨_, rfl⟩
 rw [hL5] at hres
 replace hL5 := Lib.hid hL5
 obtain ⟨L6, hL6⟩ : ∃ b, decide (nd ≤ 20) = b := ⟨_, rfl⟩
 rw [hL6] at hres
 replace hL6 := Lib.hid hL6
 obtain ⟨aR, haR⟩ : ∃ b, bars.all barOk = b := ⟨_, rfl⟩
 obtain ⟨aN, haN⟩ : ∃ b, runs.all runOk = b := ⟨_, rfl⟩
 obtain ⟨aL, haL⟩ : ∃ b, laps.all fitB = b := ⟨_, rfl⟩
 obtain ⟨aD, haD⟩ : ∃ b, dems.all demOk = b := ⟨_, rfl⟩
 rw [haR, haN, haL, haD] at hres
 generalize nameB name = nB at *
 generalize fitB [m0, m1, m2] = fM at *
 generalize fitB [r0, r1, r2, r3, r4, r5, r6, r7, r8] = fR at *
 replace hres := Lib.hid hres
 replace haR := Lib.hid haR
 replace haN := Lib.hid haN
 replace haL := Lib.hid haL
 replace haD := Lib.hid haD
 rw [show detC ⟨name, [m0, m1, m2], boxes, holes, [r0, r1, r2, r3, r4, r5, r6, r7, r8], bars, runs, laps, dems⟩ ⟨vt, .slice ab nb cb, .slice ah nh ch, .slice ar nr cr, .slice au nu cu, .slice al nl cl, .slice ad nd cd, db, ds⟩ = #[.string NM, .slice ab nb cb, .slice ah nh ch, .int .i64 m0, .int .i64 m1, .int .i64 m2, .slice ar nr cr, .slice au nu cu, .slice al nl cl, .slice ad nd cd, .int .i64 r0, .int .i64 r1, .int .i64 r2, .int .i64 r3, .int .i64 r4, .int .i64 r5, .int .i64 r6, .int .i64 r7, .int .i64 r8] by rw [hNM]; rfl]
 replace hSr := Lib.hid hSr
 replace hSu := Lib.hid hSu
 replace hSl := Lib.hid hSl
 replace hSm := Lib.hid hSm
 replace hMr := Lib.hid hMr
 replace hMu := Lib.hid hMu
 replace hMd := Lib.hid hMd
 replace hSd := Lib.hid hSd
 replace hSt := Lib.hid hSt
 replace hRr := Lib.hid hRr
 replace hRu := Lib.hid hRu
 replace hRl := Lib.hid hRl
 replace hRd := Lib.hid hRd
 replace hnbr := Lib.hid hnbr
 replace hnsd := Lib.hid hnsd
 replace hzr := Lib.hid hzr
 replace hzd := Lib.hid hzd
 replace hNM := Lib.hid hNM
 replace hnb := Lib.hid hnb
 replace hnh := Lib.hid hnh
 replace hnr := Lib.hid hnr
 replace hnu := Lib.hid hnu
 replace hnl := Lib.hid hnl
 replace hnd := Lib.hid hnd
 clear hmem hrule hnm hWr
 go_enter Tryz.func13, Tryz.ntmps13
 go_upto_region 2 with fail
 generalize hWW : World.alloc (World.alloc w _) _ = WW
 have kt : At WW w.heap.size 34 #[.string NM, .slice ab nb cb, .slice ah nh ch, .int .i64 m0, .int .i64 m1, .int .i64 m2, .slice ar nr cr, .slice au nu cu, .slice al nl cl, .slice ad nd cd, .int .i64 r0, .int .i64 r1, .int .i64 r2, .int .i64 r3, .int .i64 r4, .int .i64 r5, .int .i64 r6, .int .i64 r7, .int .i64 r8] := by rw [← hWW]; repeat (first | (with_reducible apply At.new'; (focus (simp; done))) | with_reducible apply At.al | with_reducible apply At.drw | with_reducible apply At.dr)
 have km : At WW (w.heap.size + 1) 26 #[.string NM, .slice ab nb cb, .slice ah nh ch, .int .i64 m0, .int .i64 m1, .int .i64 m2] := by rw [← hWW]; repeat (first | (with_reducible apply At.new'; (focus (simp; done))) | with_reducible apply At.al | with_reducible apply At.drw | with_reducible apply At.dr)
 have HB : Below w.heap.size w WW := by rw [← hWW]; repeat (first | with_reducible assumption | with_reducible exact Below.refl _ _ | with_reducible refine below_al ?_ _ | with_reducible refine below_drew ?_ | with_reducible refine below_drewN ?_ _ | with_reducible refine below_set ?_ (by dsimp only; omega) _)
 clear hWW
 have x6 : WW.cell? ⟨w.heap.size, 6, none⟩ = some (.slice ar nr cr) := kt.c 6
 have x7 : WW.cell? ⟨w.heap.size, 7, none⟩ = some (.slice au nu cu) := kt.c 7
 have x8 : WW.cell? ⟨w.heap.size, 8, none⟩ = some (.slice al nl cl) := kt.c 8
 have x9 : WW.cell? ⟨w.heap.size, 9, none⟩ = some (.slice ad nd cd) := kt.c 9
 have x10 : WW.cell? ⟨w.heap.size, 10, none⟩ = some (.int .i64 r0) := kt.c 10
 have x11 : WW.cell? ⟨w.heap.size, 11, none⟩ = some (.int .i64 r1) := kt.c 11
 have x12 : WW.cell? ⟨w.heap.size, 12, none⟩ = some (.int .i64 r2) := kt.c 12
 have x13 : WW.cell? ⟨w.heap.size, 13, none⟩ = some (.int .i64 r3) := kt.c 13
 have x14 : WW.cell? ⟨w.heap.size, 14, none⟩ = some (.int .i64 r4) := kt.c 14
 have x15 : WW.cell? ⟨w.heap.size, 15, none⟩ = some (.int .i64 r5) := kt.c 15
 have x16 : WW.cell? ⟨w.heap.size, 16, none⟩ = some (.int .i64 r6) := kt.c 16
 have x17 : WW.cell? ⟨w.heap.size, 17, none⟩ = some (.int .i64 r7) := kt.c 17
 have x18 : WW.cell? ⟨w.heap.size, 18, none⟩ = some (.int .i64 r8) := kt.c 18
 have y0 : WW.cell? ⟨w.heap.size + 1, 0, none⟩ = some (.string NM) := km.c 0
 have y1 : WW.cell? ⟨w.heap.size + 1, 1, none⟩ = some (.slice ab nb cb) := km.c 1
 have y2 : WW.cell? ⟨w.heap.size + 1, 2, none⟩ = some (.slice ah nh ch) := km.c 2
 have y3 : WW.cell? ⟨w.heap.size + 1, 3, none⟩ = some (.int .i64 m0) := km.c 3
 have y4 : WW.cell? ⟨w.heap.size + 1, 4, none⟩ = some (.int .i64 m1) := km.c 4
 have y5 : WW.cell? ⟨w.heap.size + 1, 5, none⟩ = some (.int .i64 m2) := km.c 5
 clear kt km
 go_wp2_with fail
 refine (HN.out WW).mono ?_
 rintro e w1 ⟨rfl, HBn⟩
 have py1 : w1.cell? ⟨w.heap.size + 1, 1, none⟩ = some (.slice ab nb cb) := (HBn.cell (block_lt_of_cell y1)).trans y1
 have py2 : w1.cell? ⟨w.heap.size + 1, 2, none⟩ = some (.slice ah nh ch) := (HBn.cell (block_lt_of_cell y2)).trans y2
 have py3 : w1.cell? ⟨w.heap.size + 1, 3, none⟩ = some (.int .i64 m0) := (HBn.cell (block_lt_of_cell y3)).trans y3
 have py4 : w1.cell? ⟨w.heap.size + 1, 4, none⟩ = some (.int .i64 m1) := (HBn.cell (block_lt_of_cell y4)).trans y4
 have py5 : w1.cell? ⟨w.heap.size + 1, 5, none⟩ = some (.int .i64 m2) := (HBn.cell (block_lt_of_cell y5)).trans y5
 have px10 : w1.cell? ⟨w.heap.size, 10, none⟩ = some (.int .i64 r0) := (HBn.cell (block_lt_of_cell x10)).trans x10
 have px11 : w1.cell? ⟨w.heap.size, 11, none⟩ = some (.int .i64 r1) := (HBn.cell (block_lt_of_cell x11)).trans x11
 have px12 : w1.cell? ⟨w.heap.size, 12, none⟩ = some (.int .i64 r2) := (HBn.cell (block_lt_of_cell x12)).trans x12
 have px13 : w1.cell? ⟨w.heap.size, 13, none⟩ = some (.int .i64 r3) := (HBn.cell (block_lt_of_cell x13)).trans x13
 have px14 : w1.cell? ⟨w.heap.size, 14, none⟩ = some (.int .i64 r4) := (HBn.cell (block_lt_of_cell x14)).trans x14
 have px15 : w1.cell? ⟨w.heap.size, 15, none⟩ = some (.int .i64 r5) := (HBn.cell (block_lt_of_cell x15)).trans x15
 have px16 : w1.cell? ⟨w.heap.size, 16, none⟩ = some (.int .i64 r6) := (HBn.cell (block_lt_of_cell x16)).trans x16
 have px17 : w1.cell? ⟨w.heap.size, 17, none⟩ = some (.int .i64 r7) := (HBn.cell (block_lt_of_cell x17)).trans x17
 have px18 : w1.cell? ⟨w.heap.size, 18, none⟩ = some (.int .i64 r8) := (HBn.cell (block_lt_of_cell x18)).trans x18
 have px6 : w1.cell? ⟨w.heap.size, 6, none⟩ = some (.slice ar nr cr) := (HBn.cell (block_lt_of_cell x6)).trans x6
 have px7 : w1.cell? ⟨w.heap.size, 7, none⟩ = some (.slice au nu cu) := (HBn.cell (block_lt_of_cell x7)).trans x7
 have px8 : w1.cell? ⟨w.heap.size, 8, none⟩ = some (.slice al nl cl) := (HBn.cell (block_lt_of_cell x8)).trans x8
 have px9 : w1.cell? ⟨w.heap.size, 9, none⟩ = some (.slice ad nd cd) := (HBn.cell (block_lt_of_cell x9)).trans x9
 replace HB := below_then HB HBn
 clear HBn y0 y1 y2 y3 y4 y5 x10 x11 x12 x13 x14 x15 x16 x17 x18 x6 x7 x8 x9
 cases nB
 ·have hE2 : Hid (Wr = false) := Lib.hid (by rw [hres.out]; simp)
  go_wp2_with fail
  go_ret
  exact ⟨by rw [hE2.out]; rfl, HB⟩
 ·go_wp2_with fail
  generalize hWW2 : World.alloc w1 _ = W2
  have kz : At W2 w1.heap.size 3 #[.int .i64 m0, .int .i64 m1, .int .i64 m2] := by rw [← hWW2]; apply At.new'; rfl
  have HW : Below w1.heap.size w1 W2 := by rw [← hWW2]; exact below_al (Below.refl _ _) _
  have ry1 : W2.cell? ⟨w.heap.size + 1, 1, none⟩ = some (.slice ab nb cb) := (HW.cell (block_lt_of_cell py1)).trans py1
  have ry2 : W2.cell? ⟨w.heap.size + 1, 2, none⟩ = some (.slice ah nh ch) := (HW.cell (block_lt_of_cell py2)).trans py2
  have rx10 : W2.cell? ⟨w.heap.size, 10, none⟩ = some (.int .i64 r0) := (HW.cell (block_lt_of_cell px10)).trans px10
  have rx11 : W2.cell? ⟨w.heap.size, 11, none⟩ = some (.int .i64 r1) := (HW.cell (block_lt_of_cell px11)).trans px11
  have rx12 : W2.cell? ⟨w.heap.size, 12, none⟩ = some (.int .i64 r2) := (HW.cell (block_lt_of_cell px12)).trans px12
  have rx13 : W2.cell? ⟨w.heap.size, 13, none⟩ = some (.int .i64 r3) := (HW.cell (block_lt_of_cell px13)).trans px13
  have rx14 : W2.cell? ⟨w.heap.size, 14, none⟩ = some (.int .i64 r4) := (HW.cell (block_lt_of_cell px14)).trans px14
  have rx15 : W2.cell? ⟨w.heap.size, 15, none⟩ = some (.int .i64 r5) := (HW.cell (block_lt_of_cell px15)).trans px15
  have rx16 : W2.cell? ⟨w.heap.size, 16, none⟩ = some (.int .i64 r6) := (HW.cell (block_lt_of_cell px16)).trans px16
  have rx17 : W2.cell? ⟨w.heap.size, 17, none⟩ = some (.int .i64 r7) := (HW.cell (block_lt_of_cell px17)).trans px17
  have rx18 : W2.cell? ⟨w.heap.size, 18, none⟩ = some (.int .i64 r8) := (HW.cell (block_lt_of_cell px18)).trans px18
  have rx6 : W2.cell? ⟨w.heap.size, 6, none⟩ = some (.slice ar nr cr) := (HW.cell (block_lt_of_cell px6)).trans px6
  have rx7 : W2.cell? ⟨w.heap.size, 7, none⟩ = some (.slice au nu cu) := (HW.cell (block_lt_of_cell px7)).trans px7
  have rx8 : W2.cell? ⟨w.heap.size, 8, none⟩ = some (.slice al nl cl) := (HW.cell (block_lt_of_cell px8)).trans px8
  have rx9 : W2.cell? ⟨w.heap.size, 9, none⟩ = some (.slice ad nd cd) := (HW.cell (block_lt_of_cell px9)).trans px9
  replace HB := below_then HB HW
  clear hWW2 HW py1 py2 py3 py4 py5 px10 px11 px12 px13 px14 px15 px16 px17 px18 px6 px7 px8 px9
  refine (HM.out _ W2 (isI_new (l := [m0, m1, m2]) kz (by simp))).mono ?_
  rintro e w2 ⟨rfl, HBn⟩
  have qy1 : w2.cell? ⟨w.heap.size + 1, 1, none⟩ = some (.slice ab nb cb) := (HBn.cell (block_lt_of_cell ry1)).trans ry1
  have qy2 : w2.cell? ⟨w.heap.size + 1, 2, none⟩ = some (.slice ah nh ch) := (HBn.cell (block_lt_of_cell ry2)).trans ry2
  have qx10 : w2.cell? ⟨w.heap.size, 10, none⟩ = some (.int .i64 r0) := (HBn.cell (block_lt_of_cell rx10)).trans rx10
  have qx11 : w2.cell? ⟨w.heap.size, 11, none⟩ = some (.int .i64 r1) := (HBn.cell (block_lt_of_cell rx11)).trans rx11
  have qx12 : w2.cell? ⟨w.heap.size, 12, none⟩ = some (.int .i64 r2) := (HBn.cell (block_lt_of_cell rx12)).trans rx12
  have qx13 : w2.cell? ⟨w.heap.size, 13, none⟩ = some (.int .i64 r3) := (HBn.cell (block_lt_of_cell rx13)).trans rx13
  have qx14 : w2.cell? ⟨w.heap.size, 14, none⟩ = some (.int .i64 r4) := (HBn.cell (block_lt_of_cell rx14)).trans rx14
  have qx15 : w2.cell? ⟨w.heap.size, 15, none⟩ = some (.int .i64 r5) := (HBn.cell (block_lt_of_cell rx15)).trans rx15
  have qx16 : w2.cell? ⟨w.heap.size, 16, none⟩ = some (.int .i64 r6) := (HBn.cell (block_lt_of_cell rx16)).trans rx16
  have qx17 : w2.cell? ⟨w.heap.size, 17, none⟩ = some (.int .i64 r7) := (HBn.cell (block_lt_of_cell rx17)).trans rx17
  have qx18 : w2.cell? ⟨w.heap.size, 18, none⟩ = some (.int .i64 r8) := (HBn.cell (block_lt_of_cell rx18)).trans rx18
  have qx6 : w2.cell? ⟨w.heap.size, 6, none⟩ = some (.slice ar nr cr) := (HBn.cell (block_lt_of_cell rx6)).trans rx6
  have qx7 : w2.cell? ⟨w.heap.size, 7, none⟩ = some (.slice au nu cu) := (HBn.cell (block_lt_of_cell rx7)).trans rx7
  have qx8 : w2.cell? ⟨w.heap.size, 8, none⟩ = some (.slice al nl cl) := (HBn.cell (block_lt_of_cell rx8)).trans rx8
  have qx9 : w2.cell? ⟨w.heap.size, 9, none⟩ = some (.slice ad nd cd) := (HBn.cell (block_lt_of_cell rx9)).trans rx9
  replace HB := below_then HB HBn
  clear HBn ry1 ry2 rx10 rx11 rx12 rx13 rx14 rx15 rx16 rx17 rx18 rx6 rx7 rx8 rx9
  clear kz
  cases fM
  ·have hE2 : Hid (Wr = false) := Lib.hid (by rw [hres.out]; simp)
   go_wp2_with fail
   go_ret
   exact ⟨by rw [hE2.out]; rfl, HB⟩
  ·go_wp2_with fail
   refine (HcB.out w2 HB).mono ?_
   rintro e w3 ⟨rfl, HBn⟩
   have py2 : w3.cell? ⟨w.heap.size + 1, 2, none⟩ = some (.slice ah nh ch) := (HBn.cell (block_lt_of_cell qy2)).trans qy2
   have px10 : w3.cell? ⟨w.heap.size, 10, none⟩ = some (.int .i64 r0) := (HBn.cell (block_lt_of_cell qx10)).trans qx10
   have px11 : w3.cell? ⟨w.heap.size, 11, none⟩ = some (.int .i64 r1) := (HBn.cell (block_lt_of_cell qx11)).trans qx11
   have px12 : w3.cell? ⟨w.heap.size, 12, none⟩ = some (.int .i64 r2) := (HBn.cell (block_lt_of_cell qx12)).trans qx12
   have px13 : w3.cell? ⟨w.heap.size, 13, none⟩ = some (.int .i64 r3) := (HBn.cell (block_lt_of_cell qx13)).trans qx13
   have px14 : w3.cell? ⟨w.heap.size, 14, none⟩ = some (.int .i64 r4) := (HBn.cell (block_lt_of_cell qx14)).trans qx14
   have px15 : w3.cell? ⟨w.heap.size, 15, none⟩ = some (.int .i64 r5) := (HBn.cell (block_lt_of_cell qx15)).trans qx15
   have px16 : w3.cell? ⟨w.heap.size, 16, none⟩ = some (.int .i64 r6) := (HBn.cell (block_lt_of_cell qx16)).trans qx16
   have px17 : w3.cell? ⟨w.heap.size, 17, none⟩ = some (.int .i64 r7) := (HBn.cell (block_lt_of_cell qx17)).trans qx17
   have px18 : w3.cell? ⟨w.heap.size, 18, none⟩ = some (.int .i64 r8) := (HBn.cell (block_lt_of_cell qx18)).trans qx18
   have px6 : w3.cell? ⟨w.heap.size, 6, none⟩ = some (.slice ar nr cr) := (HBn.cell (block_lt_of_cell qx6)).trans qx6
   have px7 : w3.cell? ⟨w.heap.size, 7, none⟩ = some (.slice au nu cu) := (HBn.cell (block_lt_of_cell qx7)).trans qx7
   have px8 : w3.cell? ⟨w.heap.size, 8, none⟩ = some (.slice al nl cl) := (HBn.cell (block_lt_of_cell qx8)).trans qx8
   have px9 : w3.cell? ⟨w.heap.size, 9, none⟩ = some (.slice ad nd cd) := (HBn.cell (block_lt_of_cell qx9)).trans qx9
   replace HB := below_then HB HBn
   clear HBn qy1 qy2 qx10 qx11 qx12 qx13 qx14 qx15 qx16 qx17 qx18 qx6 qx7 qx8 qx9
   cases aB
   ·have hE2 : Hid (Wr = false) := Lib.hid (by rw [hres.out]; simp)
    go_wp2_with fail
    go_ret
    exact ⟨by rw [hE2.out]; rfl, HB⟩
   ·go_wp2_with fail
    refine (HcH.out w3 HB).mono ?_
    rintro e w4 ⟨rfl, HBn⟩
    have qx10 : w4.cell? ⟨w.heap.size, 10, none⟩ = some (.int .i64 r0) := (HBn.cell (block_lt_of_cell px10)).trans px10
    have qx11 : w4.cell? ⟨w.heap.size, 11, none⟩ = some (.int .i64 r1) := (HBn.cell (block_lt_of_cell px11)).trans px11
    have qx12 : w4.cell? ⟨w.heap.size, 12, none⟩ = some (.int .i64 r2) := (HBn.cell (block_lt_of_cell px12)).trans px12
    have qx13 : w4.cell? ⟨w.heap.size, 13, none⟩ = some (.int .i64 r3) := (HBn.cell (block_lt_of_cell px13)).trans px13
    have qx14 : w4.cell? ⟨w.heap.size, 14, none⟩ = some (.int .i64 r4) := (HBn.cell (block_lt_of_cell px14)).trans px14
    have qx15 : w4.cell? ⟨w.heap.size, 15, none⟩ = some (.int .i64 r5) := (HBn.cell (block_lt_of_cell px15)).trans px15
    have qx16 : w4.cell? ⟨w.heap.size, 16, none⟩ = some (.int .i64 r6) := (HBn.cell (block_lt_of_cell px16)).trans px16
    have qx17 : w4.cell? ⟨w.heap.size, 17, none⟩ = some (.int .i64 r7) := (HBn.cell (block_lt_of_cell px17)).trans px17
    have qx18 : w4.cell? ⟨w.heap.size, 18, none⟩ = some (.int .i64 r8) := (HBn.cell (block_lt_of_cell px18)).trans px18
    have qx6 : w4.cell? ⟨w.heap.size, 6, none⟩ = some (.slice ar nr cr) := (HBn.cell (block_lt_of_cell px6)).trans px6
    have qx7 : w4.cell? ⟨w.heap.size, 7, none⟩ = some (.slice au nu cu) := (HBn.cell (block_lt_of_cell px7)).trans px7
    have qx8 : w4.cell? ⟨w.heap.size, 8, none⟩ = some (.slice al nl cl) := (HBn.cell (block_lt_of_cell px8)).trans px8
    have qx9 : w4.cell? ⟨w.heap.size, 9, none⟩ = some (.slice ad nd cd) := (HBn.cell (block_lt_of_cell px9)).trans px9
    replace HB := below_then HB HBn
    clear HBn py2 px10 px11 px12 px13 px14 px15 px16 px17 px18 px6 px7 px8 px9
    cases aH
    ·have hE2 : Hid (Wr = false) := Lib.hid (by rw [hres.out]; simp)
     go_wp2_with fail
     go_ret
     exact ⟨by rw [hE2.out]; rfl, HB⟩
    ·go_wp2_with fail
     refine (rruleJ r0 r1 r2 r3 r4 r5 r6 r7 r8 w4).mono ?_
     rintro e w5 ⟨⟨v, rfl, hv⟩, HBn⟩
     have px6 : w5.cell? ⟨w.heap.size, 6, none⟩ = some (.slice ar nr cr) := (HBn.cell (block_lt_of_cell qx6)).trans qx6
     have px7 : w5.cell? ⟨w.heap.size, 7, none⟩ = some (.slice au nu cu) := (HBn.cell (block_lt_of_cell qx7)).trans qx7
     have px8 : w5.cell? ⟨w.heap.size, 8, none⟩ = some (.slice al nl cl) := (HBn.cell (block_lt_of_cell qx8)).trans qx8
     have px9 : w5.cell? ⟨w.heap.size, 9, none⟩ = some (.slice ad nd cd) := (HBn.cell (block_lt_of_cell qx9)).trans qx9
     replace HB := below_then HB HBn
     clear HBn qx10 qx11 qx12 qx13 qx14 qx15 qx16 qx17 qx18 qx6 qx7 qx8 qx9
     go_wp2_with fail
     refine (HR.out v w5 hv.isI).mono ?_
     rintro e WL ⟨rfl, HBn⟩
     have qx6 : WL.cell? ⟨w.heap.size, 6, none⟩ = some (.slice ar nr cr) := (HBn.cell (block_lt_of_cell px6)).trans px6
     have qx7 : WL.cell? ⟨w.heap.size, 7, none⟩ = some (.slice au nu cu) := (HBn.cell (block_lt_of_cell px7)).trans px7
     have qx8 : WL.cell? ⟨w.heap.size, 8, none⟩ = some (.slice al nl cl) := (HBn.cell (block_lt_of_cell px8)).trans px8
     have qx9 : WL.cell? ⟨w.heap.size, 9, none⟩ = some (.slice ad nd cd) := (HBn.cell (block_lt_of_cell px9)).trans px9
     replace HB := below_then HB HBn
     clear HBn px6 px7 px8 px9
     clear hv
     cases fR
     ·have hE2 : Hid (Wr = false) := Lib.hid (by rw [hres.out]; simp)
      go_wp2_with fail
      go_ret
      exact ⟨by rw [hE2.out]; rfl, HB⟩
     ·have X6 := Lib.hid qx6
      have x6 := qx6
      have X7 := Lib.hid qx7
      have x7 := qx7
      have X8 := Lib.hid qx8
      have x8 := qx8
      have X9 := Lib.hid qx9
      have x9 := qx9
      clear qx6 qx7 qx8 qx9
      have hWL := Lib.hid HB
      have hb0 := Lib.hid (Below.refl WL.heap.size WL)
      clear HB
      by_cases kr : 60 < nr
      ·have fr : decide ((60 : Int) < (nr : Int)) = true := decide_eq_true (by omega)
       have gr : L3 = false := by rw [← hL3.out]; exact decide_eq_false (by omega)
       replace hres := Lib.hid (show Wr = false by rw [hres.out, gr]; simp)
       clear gr
       go_wp2_with fail
       go_ret
       exact ⟨by rw [hres.out]; rfl, hWL.out⟩
      ·have fr : decide ((60 : Int) < (nr : Int)) = false := decide_eq_false (by omega)
       have gr : L3 = true := by rw [← hL3.out]; exact decide_eq_true (by omega)
       replace hres := Lib.hid (hres.out.trans (by rw [gr]))
       clear gr
       by_cases ku : 60 < nu
       ·have fu : decide ((60 : Int) < (nu : Int)) = true := decide_eq_true (by omega)
        have gu : L4 = false := by rw [← hL4.out]; exact decide_eq_false (by omega)
        replace hres := Lib.hid (show Wr = false by rw [hres.out, gu]; simp)
        clear gu
        go_wp2_with fail
        go_ret
        exact ⟨by rw [hres.out]; rfl, hWL.out⟩
       ·have fu : decide ((60 : Int) < (nu : Int)) = false := decide_eq_false (by omega)
        have gu : L4 = true := by rw [← hL4.out]; exact decide_eq_true (by omega)
        replace hres := Lib.hid (hres.out.trans (by rw [gu]))
        clear gu
        by_cases kl : 1000 < nl
        ·have fl : decide ((1000 : Int) < (nl : Int)) = true := decide_eq_true (by omega)
         have gl : L5 = false := by rw [← hL5.out]; exact decide_eq_false (by omega)
         replace hres := Lib.hid (show Wr = false by rw [hres.out, gl]; simp)
         clear gl
         go_wp2_with fail
         go_ret
         exact ⟨by rw [hres.out]; rfl, hWL.out⟩
        ·have fl : decide ((1000 : Int) < (nl : Int)) = false := decide_eq_false (by omega)
         have gl : L5 = true := by rw [← hL5.out]; exact decide_eq_true (by omega)
         replace hres := Lib.hid (hres.out.trans (by rw [gl]))
         clear gl
         by_cases kd : 20 < nd
         ·have fd : decide ((20 : Int) < (nd : Int)) = true := decide_eq_true (by omega)
          have gd : L6 = false := by rw [← hL6.out]; exact decide_eq_false (by omega)
          replace hres := Lib.hid (show Wr = false by rw [hres.out, gd]; simp)
          clear gd
          go_wp2_with fail
          go_ret
          exact ⟨by rw [hres.out]; rfl, hWL.out⟩
         ·have fd : decide ((20 : Int) < (nd : Int)) = false := decide_eq_false (by omega)
          have gd : L6 = true := by rw [← hL6.out]; exact decide_eq_true (by omega)
          replace hres := Lib.hid (hres.out.trans (by rw [gd]))
          clear gd
          replace hres := Lib.hid (show Wr = (aR && (aN && (aL && (aD && true)))) by rw [hres.out]; simp)
          go_wp2_with fail
          clear x6 x7 x8 x9
          go_loopg [4] nr (fun g i wr => ∃ k : Nat, k ≤ nr ∧ i = .int .i64 (k : Int) ∧ Hid (g = nr - k ∧ (bars.take k).all barOk = true) ∧ Hid (Below WL.heap.size WL wr))
          case atStart => exact ⟨0, Nat.zero_le _, rfl, Lib.hid ⟨rfl, rfl⟩, hb0⟩
          case round =>
           clear hb0
           obtain ⟨k, hk, rfl, hr, hb⟩ := hrel
           have x6 : wr.cell? ⟨w.heap.size, 6, none⟩ = some (.slice ar nr cr) := (hb.out.cell (block_lt_of_cell X6.out)).trans X6.out
           by_cases hlt : k < nr
           ·have hkl : k < bars.length := by rw [hnr.out]; exact hlt
            have hW := below_then hWL.out hb.out
            have hsuc := all_next bars barOk k hkl
            have hfalse := fun h => (haR.out).symm.trans (all_bad bars barOk k hkl h)
            obtain ⟨bb, off, rfl, hbl, hc⟩ := hRr.out k (by rw [hzr.out]; exact hkl)
            rw [List.getElem_zip] at hc
            have hx3 := hSr.out _ (List.getElem_mem hkl)
            have hxm := hMr.out _ (List.getElem_mem hkl)
            have hds := hSd.out k hkl (by rw [hnbr.out]; exact hkl)
            obtain ⟨x, hxx⟩ : ∃ x, bars[k] = x := ⟨_, rfl⟩
            rw [hxx] at hx3 hxm hc hds hsuc hfalse
            obtain ⟨nm, l⟩ := x
            obtain ⟨e0, e1, e2, ds, rfl⟩ := three_more hx3
            obtain ⟨sa, sc, hdv, h2, h3, h4⟩ := hds
            have h4 : RowAt encZ 1 w.heap.size w sa ds := h4
            have HD : Hid (∀ w', Below w.heap.size w w' → Calls Tryz.prog 52 #[.slice sa ds.length sc] w' fun e w2 => e = .returned (.bool (fitB ds)) ∧ Below w'.heap.size w' w2) := Lib.hid fun w' hb => (rshortH ds).out _ w' (IsI.up ⟨sa, sc, rfl, h2, h3, h4⟩ hb)
            rw [barOk_split] at hsuc hfalse
            obtain ⟨n, hn⟩ : ∃ n, ds.length = n := ⟨_, rfl⟩
            have hdv : db[k]'(by rw [hnbr.out]; exact hkl) = .slice sa n sc := by rw [← hn]; exact hdv
            rw [hdv] at hc
            rw [hn] at HD hsuc hfalse
            obtain ⟨NM, hNMk⟩ : ∃ NM : ByteArray, NM = ⟨nm.toArray⟩ := ⟨_, rfl⟩
            have HN := rnameH nm hxm NM hNMk
            have HF := rshortH [e0, e1, e2]
            have q0 : wr.cell? ⟨bb, off + k * 5, none⟩ = some (.string NM) := (hW.cell hbl).trans (hc 0 _ (by rw [hNMk]; rfl))
            have q1 : wr.cell? ⟨bb, off + k * 5 + 1, none⟩ = some (.int .i64 e0) := (hW.cell hbl).trans (hc 1 _ (by rfl))
            have q2 : wr.cell? ⟨bb, off + k * 5 + 2, none⟩ = some (.int .i64 e1) := (hW.cell hbl).trans (hc 2 _ (by rfl))
            have q3 : wr.cell? ⟨bb, off + k * 5 + 3, none⟩ = some (.int .i64 e2) := (hW.cell hbl).trans (hc 3 _ (by rfl))
            have q4 : wr.cell? ⟨bb, off + k * 5 + 4, none⟩ = some (.slice sa n sc) := (hW.cell hbl).trans (hc 4 _ (by rfl))
            generalize nameB nm = N1 at *
            generalize fitB [e0, e1, e2] = F1 at *
            generalize fitB ds = F2 at *
            replace hsuc := Lib.hid hsuc
            replace hfalse := Lib.hid hfalse
            clear hx3 hxm hc h2 h3 h4 hxx hdv hNMk hn hbl hW
            go_upto_region 10 with fail
            generalize hWW : World.alloc wr _ = W1
            have kb : At W1 wr.heap.size 56 #[.string NM, .int .i64 e0, .int .i64 e1, .int .i64 e2, .slice sa n sc] := by rw [← hWW]; exact At.new' rfl
            have hW1 : Below WL.heap.size WL W1 := by rw [← hWW]; exact below_al hb.out _
            clear hWW q0 q1 q2 q3 q4 hb x6
            have r0 := kb.c 0
            go_wp2_with fail
            refine (HN.out W1).mono ?_
            rintro e w1 ⟨rfl, hbn⟩
            have hW2 := below_then hW1 hbn
            have k2 := kb.bel hbn
            have s1 := k2.c 1
            have s2 := k2.c 2
            have s3 := k2.c 3
            have s4 := k2.c 4
            clear hbn r0 hW1 kb
            cases N1
            ·have hE2 : Hid (Wr = false) := Lib.hid (by rw [hres.out, hfalse.out (by rfl)]; simp)
             go_wp2_with fail
             go_ret
             exact ⟨by rw [hE2.out]; rfl, below_then hWL.out hW2⟩
            ·by_cases l1 : n < 1
             ·have l1' : decide ((n : Int) < 1) = true := decide_eq_true (by omega)
              have e0' : decide (1 ≤ n) = false := decide_eq_false (by omega)
              replace hfalse := Lib.hid (hfalse.out (by rw [e0']; rfl))
              clear e0'
              have hE2 : Hid (Wr = false) := Lib.hid (by rw [hres.out, hfalse.out]; simp)
              go_wp2_with fail
              go_ret
              exact ⟨by rw [hE2.out]; rfl, below_then hWL.out hW2⟩
             ·have l1' : decide ((n : Int) < 1) = false := decide_eq_false (by omega)
              have g0 : Hid (decide (1 ≤ n) = true) := Lib.hid (decide_eq_true (by omega))
              by_cases l2 : 8 < n
              ·have l2' : decide ((8 : Int) < (n : Int)) = true := decide_eq_true (by omega)
               have e1' : decide (n ≤ 8) = false := decide_eq_false (by omega)
               replace hfalse := Lib.hid (hfalse.out (by rw [e1', g0.out]; rfl))
               clear e1'
               have hE2 : Hid (Wr = false) := Lib.hid (by rw [hres.out, hfalse.out]; simp)
               go_wp2_with fail
               go_ret
               exact ⟨by rw [hE2.out]; rfl, below_then hWL.out hW2⟩
              ·have l2' : decide ((8 : Int) < (n : Int)) = false := decide_eq_false (by omega)
               have g1 : Hid (decide (n ≤ 8) = true) := Lib.hid (decide_eq_true (by omega))
               go_wp2_with fail
               generalize hWW : World.alloc w1 _ = W3
               have kz : At W3 w1.heap.size 3 #[.int .i64 e0, .int .i64 e1, .int .i64 e2] := by rw [← hWW]; apply At.new'; rfl
               have hb3 : Below w1.heap.size w1 W3 := by rw [← hWW]; exact below_al (Below.refl _ _) _
               have t4 := (k2.bel hb3).c 4
               have k3 := k2.bel hb3
               have hW3 := below_then hW2 hb3
               clear hWW s1 s2 s3 s4 k2 hW2 t4
               refine (HF.out _ W3 (isI_new (l := [e0, e1, e2]) kz (by simp))).mono ?_
               rintro e w4 ⟨rfl, hb4⟩
               have u4 := (k3.bel hb4).c 4
               have hW4 := below_then hW3 hb4
               clear hb3 hb4 k3 hW3 kz
               cases F1
               ·have hE2 : Hid (Wr = false) := Lib.hid (by rw [hres.out, hfalse.out (by rw [g0.out, g1.out]; rfl)]; simp)
                go_wp2_with fail
                go_ret
                exact ⟨by rw [hE2.out]; rfl, below_then hWL.out hW4⟩
               ·go_wp2_with fail
                refine (HD.out w4 (below_then hWL.out hW4)).mono ?_
                rintro e w5 ⟨rfl, hb5⟩
                have hW5 := below_then hW4 hb5
                clear hb5
                cases F2
                ·have hE2 : Hid (Wr = false) := Lib.hid (by rw [hres.out, hfalse.out (by rw [g0.out, g1.out]; rfl)]; simp)
                 go_wp2_with fail
                 go_ret
                 exact ⟨by rw [hE2.out]; rfl, below_then hWL.out hW5⟩
                ·go_wp2_with fail
                 go_roundg (nr - (k + 1))
                 case measure => have := hr.out.1; omega
                 case rel => exact ⟨k + 1, by omega, by go_num, Lib.hid ⟨rfl, by rw [hsuc.out, hr.out.2, g0.out, g1.out] <;> rfl⟩, Lib.hid hW5⟩
           ·have hE2 : Hid (aR = true) := Lib.hid (by
             have := hr.out.2
             rw [List.take_of_length_le (by have := hnr.out; omega)] at this
             rw [← haR.out]
             exact this)
            have hres := Lib.hid (show Wr = _ by rw [hres.out, hE2.out, Bool.true_and])
            have hb0 := hb
            go_wp2_with fail
            clear hb hr hE2 x6
            go_loopg [6] nu (fun g i wr => ∃ k : Nat, k ≤ nu ∧ i = .int .i64 (k : Int) ∧ Hid (g = nu - k ∧ (runs.take k).all runOk = true) ∧ Hid (Below WL.heap.size WL wr))
            case atStart => exact ⟨0, Nat.zero_le _, rfl, Lib.hid ⟨rfl, rfl⟩, hb0⟩
            case round =>
             clear hb0
             obtain ⟨k, hk, rfl, hr, hb⟩ := hrel
             have x7 : wr.cell? ⟨w.heap.size, 7, none⟩ = some (.slice au nu cu) := (hb.out.cell (block_lt_of_cell X7.out)).trans X7.out
             by_cases hlt : k < nu
             ·have hkl : k < runs.length := by rw [hnu.out]; exact hlt
              have hW := below_then hWL.out hb.out
              have hsuc := all_next runs runOk k hkl
              have hfalse := fun h => (haN.out).symm.trans (all_bad runs runOk k hkl h)
              obtain ⟨bb, off, rfl, hbl, hc⟩ := hRu.out k hkl
              have hx9 := hSu.out _ (List.getElem_mem hkl)
              have hxm := hMu.out _ (List.getElem_mem hkl)
              obtain ⟨x, hxx⟩ : ∃ x, runs[k] = x := ⟨_, rfl⟩
              rw [hxx] at hx9 hxm hc hsuc hfalse
              obtain ⟨nm, l⟩ := x
              obtain ⟨e0, e1, e2, e3, e4, e5, e6, e7, e8, rfl⟩ := nine hx9
              obtain ⟨NM, hNMk⟩ : ∃ NM : ByteArray, NM = ⟨nm.toArray⟩ := ⟨_, rfl⟩
              have HN := rnameH nm hxm NM hNMk
              have HF := rshortH [e0, e1, e2, e3, e4, e5, e6, e7, e8]
              rw [show runOk (nm, [e0, e1, e2, e3, e4, e5, e6, e7, e8]) = (nameB nm && fitB [e0, e1, e2, e3, e4, e5, e6, e7, e8]) from rfl] at hsuc hfalse
              have hcs : Hid (∀ W, Below w.heap.size w W → W.cell? ⟨bb, off + k * 10, none⟩ = some (.string NM) ∧ W.cell? ⟨bb, off + k * 10 + 1, none⟩ = some (.int .i64 e0) ∧ W.cell? ⟨bb, off + k * 10 + 2, none⟩ = some (.int .i64 e1) ∧ W.cell? ⟨bb, off + k * 10 + 3, none⟩ = some (.int .i64 e2) ∧ W.cell? ⟨bb, off + k * 10 + 4, none⟩ = some (.int .i64 e3) ∧ W.cell? ⟨bb, off + k * 10 + 5, none⟩ = some (.int .i64 e4) ∧ W.cell? ⟨bb, off + k * 10 + 6, none⟩ = some (.int .i64 e5) ∧ W.cell? ⟨bb, off + k * 10 + 7, none⟩ = some (.int .i64 e6) ∧ W.cell? ⟨bb, off + k * 10 + 8, none⟩ = some (.int .i64 e7) ∧ W.cell? ⟨bb, off + k * 10 + 9, none⟩ = some (.int .i64 e8)) := Lib.hid fun W h => ⟨(h.cell hbl).trans (hc 0 _ (by rw [hNMk]; rfl)), (h.cell hbl).trans (hc 1 _ (by rfl)), (h.cell hbl).trans (hc 2 _ (by rfl)), (h.cell hbl).trans (hc 3 _ (by rfl)), (h.cell hbl).trans (hc 4 _ (by rfl)), (h.cell hbl).trans (hc 5 _ (by rfl)), (h.cell hbl).trans (hc 6 _ (by rfl)), (h.cell hbl).trans (hc 7 _ (by rfl)), (h.cell hbl).trans (hc 8 _ (by rfl)), (h.cell hbl).trans (hc 9 _ (by rfl))⟩
              obtain ⟨q0, q1, q2, q3, q4, q5, q6, q7, q8, q9⟩ := hcs.out wr hW
              generalize nameB nm = N1 at *
              generalize fitB [e0, e1, e2, e3, e4, e5, e6, e7, e8] = F1 at *
              replace hsuc := Lib.hid hsuc
              replace hfalse := Lib.hid hfalse
              clear hx9 hxm hc hxx hNMk hbl hW
              go_wp2_with fail
              refine (HN.out wr).mono ?_
              rintro e w1 ⟨rfl, hbn⟩
              have hW2 := below_then hb.out hbn
              have x7 : w1.cell? ⟨w.heap.size, 7, none⟩ = some (.slice (some ⟨bb, off, none⟩) nu cu) := (hbn.cell (block_lt_of_cell x7)).trans x7
              clear hbn q0 q1 q2 q3 q4 q5 q6 q7 q8 q9 hb
              obtain ⟨q0, q1, q2, q3, q4, q5, q6, q7, q8, q9⟩ := hcs.out w1 (below_then hWL.out hW2)
              cases N1
              ·have hE2 : Hid (Wr = false) := Lib.hid (by rw [hres.out, hfalse.out (by rfl)]; simp)
               go_wp2_with fail
               go_ret
               exact ⟨by rw [hE2.out]; rfl, below_then hWL.out hW2⟩
              ·go_wp2_with fail
               refine (rrunJ e0 e1 e2 e3 e4 e5 e6 e7 e8 NM _).mono ?_
               rintro e w2 ⟨⟨v, rfl, hv⟩, hb3⟩
               have hW3 := below_then hW2 hb3
               clear hb3 hW2 q0 q1 q2 q3 q4 q5 q6 q7 q8 q9
               go_wp2_with fail
               refine (HF.out v w2 hv.isI).mono ?_
               rintro e w3 ⟨rfl, hb4⟩
               have hW4 := below_then hW3 hb4
               clear hb4 hW3
               cases F1
               ·have hE2 : Hid (Wr = false) := Lib.hid (by rw [hres.out, hfalse.out (by rfl)]; simp)
                go_wp2_with fail
                go_ret
                exact ⟨by rw [hE2.out]; rfl, below_then hWL.out hW4⟩
               ·go_wp2_with fail
                go_roundg (nu - (k + 1))
                case measure => have := hr.out.1; omega
                case rel => exact ⟨k + 1, by omega, by go_num, Lib.hid ⟨rfl, by rw [hsuc.out, hr.out.2, Bool.true_and] <;> rfl⟩, Lib.hid hW4⟩
             ·have hE2 : Hid (aN = true) := Lib.hid (by
               have := hr.out.2
               rw [List.take_of_length_le (by have := hnu.out; omega)] at this
               rw [← haN.out]
               exact this)
              have hres := Lib.hid (show Wr = _ by rw [hres.out, hE2.out, Bool.true_and])
              have hb0 := hb
              go_wp2_with fail
              clear hb hr hE2 x7
              go_loopg [7] nl (fun g i wr => ∃ k : Nat, k ≤ nl ∧ i = .int .i64 (k : Int) ∧ Hid (g = nl - k ∧ (laps.take k).all fitB = true) ∧ Hid (Below WL.heap.size WL wr))
              case atStart => exact ⟨0, Nat.zero_le _, rfl, Lib.hid ⟨rfl, rfl⟩, hb0⟩
              case round =>
               clear hb0
               obtain ⟨k, hk, rfl, hr, hb⟩ := hrel
               have x8 : wr.cell? ⟨w.heap.size, 8, none⟩ = some (.slice al nl cl) := (hb.out.cell (block_lt_of_cell X8.out)).trans X8.out
               by_cases hlt : k < nl
               ·have hkl : k < laps.length := by rw [hnl.out]; exact hlt
                have hW := below_then hWL.out hb.out
                have hsuc := all_next laps fitB k hkl
                have hfalse := fun h => (haL.out).symm.trans (all_bad laps fitB k hkl h)
                obtain ⟨bb, off, rfl, hbl, hc⟩ := hRl.out k hkl
                have hx2 := hSl.out _ (List.getElem_mem hkl)
                obtain ⟨x, hxx⟩ : ∃ x, laps[k] = x := ⟨_, rfl⟩
                rw [hxx] at hx2 hc hsuc hfalse
                obtain ⟨e0, e1, rfl⟩ := two hx2
                have HF := rshortH [e0, e1]
                have q0 : wr.cell? ⟨bb, off + k * 2, none⟩ = some (.int .i64 e0) := (hW.cell hbl).trans (hc 0 _ rfl)
                have q1 : wr.cell? ⟨bb, off + k * 2 + 1, none⟩ = some (.int .i64 e1) := (hW.cell hbl).trans (hc 1 _ rfl)
                generalize fitB [e0, e1] = F1 at *
                replace hsuc := Lib.hid hsuc
                replace hfalse := Lib.hid hfalse
                clear hx2 hc hxx hbl hW
                go_wp2_with fail
                go_region_law (go_simp; go_at_call 52; refine (HF.out _ _ (isI_new (l := [e0, e1]) ((At.new' rfl).bel (below_drew (Below.refl _ _))) (by simp))).mono ?_; rintro e w2 ⟨rfl, hb2⟩; have hW2 := below_then (below_then hb.out (below_drew (below_al (Below.refl _ _) _))) hb2; clear hb2 hb)
                all_goals
                 cases F1
                 ·have hE2 : Hid (Wr = false) := Lib.hid (by rw [hres.out, hfalse.out (rfl)]; simp)
                  go_wp2_with fail
                  go_ret
                  exact ⟨by rw [hE2.out]; rfl, below_then hWL.out hW2⟩
                 ·go_wp2_with fail
                  go_roundg (nl - (k + 1))
                  case measure => have := hr.out.1; omega
                  case rel => exact ⟨k + 1, by omega, by go_num, Lib.hid ⟨rfl, by rw [hsuc.out, hr.out.2, Bool.true_and] <;> rfl⟩, Lib.hid hW2⟩
               ·have hE2 : Hid (aL = true) := Lib.hid (by
                 have := hr.out.2
                 rw [List.take_of_length_le (by have := hnl.out; omega)] at this
                 rw [← haL.out]
                 exact this)
                have hres := Lib.hid (show Wr = _ by rw [hres.out, hE2.out, Bool.true_and])
                have hb0 := hb
                go_wp2_with fail
                clear hb hr hE2 x8
                go_loopg [8] nd (fun g i wr => ∃ k : Nat, k ≤ nd ∧ i = .int .i64 (k : Int) ∧ Hid (g = nd - k ∧ (dems.take k).all demOk = true) ∧ Hid (Below WL.heap.size WL wr))
                case atStart => exact ⟨0, Nat.zero_le _, rfl, Lib.hid ⟨rfl, rfl⟩, hb0⟩
                case round =>
                 clear hb0
                 obtain ⟨k, hk, rfl, hr, hb⟩ := hrel
                 have x9 : wr.cell? ⟨w.heap.size, 9, none⟩ = some (.slice ad nd cd) := (hb.out.cell (block_lt_of_cell X9.out)).trans X9.out
                 by_cases hlt : k < nd
                 ·have hkl : k < dems.length := by rw [hnd.out]; exact hlt
                  have hW := below_then hWL.out hb.out
                  have hsuc := all_next dems demOk k hkl
                  have hfalse := fun h => (haD.out).symm.trans (all_bad dems demOk k hkl h)
                  obtain ⟨bb, off, rfl, hbl, hc⟩ := hRd.out k (by rw [hzd.out]; exact hkl)
                  rw [List.getElem_zip] at hc
                  obtain ⟨hx6, hx2⟩ := hSm.out _ (List.getElem_mem hkl)
                  have hxm := hMd.out _ (List.getElem_mem hkl)
                  have hst := hSt.out k hkl (by rw [hnsd.out]; exact hkl)
                  obtain ⟨x, hxx⟩ : ∃ x, dems[k] = x := ⟨_, rfl⟩
                  rw [hxx] at hx6 hx2 hxm hc hst hsuc hfalse
                  obtain ⟨nm, z, st⟩ := x
                  dsimp only at hx2 hst
                  obtain ⟨e0, e1, e2, e3, e4, e5, rfl⟩ := six hx6
                  obtain ⟨sta, stc, hdv, h2, h3, h4⟩ := hst
                  obtain ⟨stn, hstn⟩ : ∃ n, st.length = n := ⟨_, rfl⟩
                  have hdv : ds[k]'(by rw [hnsd.out]; exact hkl) = .slice sta stn stc := by rw [← hstn]; exact hdv
                  rw [hdv] at hc
                  obtain ⟨NM, hNMk⟩ : ∃ NM : ByteArray, NM = ⟨nm.toArray⟩ := ⟨_, rfl⟩
                  have HN := rnameH nm hxm NM hNMk
                  have HF := rshortH [e0, e1, e2, e3, e4, e5]
                  rw [show demOk (nm, [e0, e1, e2, e3, e4, e5], st) = (nameB nm && fitB [e0, e1, e2, e3, e4, e5] && decide (st.length ≤ 200) && st.all fitB) from rfl, hstn] at hsuc hfalse
                  have q0 : wr.cell? ⟨bb, off + k * 8, none⟩ = some (.string NM) := (hW.cell hbl).trans (hc 0 _ (by rw [hNMk]; rfl))
                  have q1 : wr.cell? ⟨bb, off + k * 8 + 1, none⟩ = some (.int .i64 e0) := (hW.cell hbl).trans (hc 1 _ (by rfl))
                  have q2 : wr.cell? ⟨bb, off + k * 8 + 2, none⟩ = some (.int .i64 e1) := (hW.cell hbl).trans (hc 2 _ (by rfl))
                  have q3 : wr.cell? ⟨bb, off + k * 8 + 3, none⟩ = some (.int .i64 e2) := (hW.cell hbl).trans (hc 3 _ (by rfl))
                  have q4 : wr.cell? ⟨bb, off + k * 8 + 4, none⟩ = some (.int .i64 e3) := (hW.cell hbl).trans (hc 4 _ (by rfl))
                  have q5 : wr.cell? ⟨bb, off + k * 8 + 5, none⟩ = some (.int .i64 e4) := (hW.cell hbl).trans (hc 5 _ (by rfl))
                  have q6 : wr.cell? ⟨bb, off + k * 8 + 6, none⟩ = some (.int .i64 e5) := (hW.cell hbl).trans (hc 6 _ (by rfl))
                  have q7 : wr.cell? ⟨bb, off + k * 8 + 7, none⟩ = some (.slice sta stn stc) := (hW.cell hbl).trans (hc 7 _ (by rfl))
                  generalize nameB nm = N1 at *
                  generalize fitB [e0, e1, e2, e3, e4, e5] = F1 at *
                  obtain ⟨SB, hSB⟩ : ∃ b, st.all fitB = b := ⟨_, rfl⟩
                  rw [hSB] at hsuc hfalse
                  replace hSB := Lib.hid hSB
                  replace hx2 := Lib.hid hx2
                  replace h4 := Lib.hid h4
                  replace hstn := Lib.hid hstn
                  replace hsuc := Lib.hid hsuc
                  replace hfalse := Lib.hid hfalse
                  clear hx6 hxm hc hxx hdv hNMk hbl hW h2 h3
                  go_upto_region 26 with fail
                  generalize hWW : World.alloc wr _ = W1
                  have kb : At W1 wr.heap.size 63 #[.string NM, .int .i64 e0, .int .i64 e1, .int .i64 e2, .int .i64 e3, .int .i64 e4, .int .i64 e5, .slice sta stn stc] := by rw [← hWW]; exact At.new' rfl
                  have hW1 : Below WL.heap.size WL W1 := by rw [← hWW]; exact below_al hb.out _
                  clear hWW q0 q1 q2 q3 q4 q5 q6 q7 hb x9
                  have r0 := kb.c 0
                  go_wp2_with fail
                  refine (HN.out W1).mono ?_
                  rintro e w1 ⟨rfl, hbn⟩
                  have hW2 := below_then hW1 hbn
                  have k2 := kb.bel hbn
                  have s1 := k2.c 1
                  have s2 := k2.c 2
                  have s3 := k2.c 3
                  have s4 := k2.c 4
                  have s5 := k2.c 5
                  have s6 := k2.c 6
                  have s7 := k2.c 7
                  clear hbn r0 hW1 kb
                  cases N1
                  ·have hE2 : Hid (Wr = false) := Lib.hid (by rw [hres.out, hfalse.out (rfl)]; simp)
                   go_wp2_with fail
                   go_ret
                   exact ⟨by rw [hE2.out]; rfl, below_then hWL.out hW2⟩
                  ·go_wp2_with fail
                   refine (cornersJ e0 e1 e2 e3 e4 e5 _).mono ?_
                   rintro e w3 ⟨⟨v, rfl, hv⟩, hb3⟩
                   have hW3 := below_then hW2 hb3
                   have k3 := k2.bel hb3
                   clear hb3 hW2 k2 s1 s2 s3 s4 s5 s6 s7
                   go_wp2_with fail
                   refine (HF.out v w3 hv.isI).mono ?_
                   rintro e w4 ⟨rfl, hb4⟩
                   have hW4 := below_then hW3 hb4
                   have k4 := Lib.hid (k3.bel hb4)
                   have z7 := k4.out.c 7
                   clear hb4 hW3 k3 hv
                   cases F1
                   ·have hE2 : Hid (Wr = false) := Lib.hid (by rw [hres.out, hfalse.out (rfl)]; simp)
                    go_wp2_with fail
                    go_ret
                    exact ⟨by rw [hE2.out]; rfl, below_then hWL.out hW4⟩
                   ·by_cases l1 : 200 < stn
                    ·have l1' : decide ((200 : Int) < (stn : Int)) = true := decide_eq_true (by omega)
                     have e0' : decide (stn ≤ 200) = false := decide_eq_false (by omega)
                     replace hfalse := Lib.hid (hfalse.out (by rw [e0']; rfl))
                     clear e0'
                     have hE2 : Hid (Wr = false) := Lib.hid (by rw [hres.out, hfalse.out]; simp)
                     go_wp2_with fail
                     go_ret
                     exact ⟨by rw [hE2.out]; rfl, below_then hWL.out hW4⟩
                    ·have l1' : decide ((200 : Int) < (stn : Int)) = false := decide_eq_false (by omega)
                     have g0 : Hid (decide (stn ≤ 200) = true) := Lib.hid (decide_eq_true (by omega))
                     have hb0s := Lib.hid (Below.refl w4.heap.size w4)
                     go_wp2_with fail
                     go_loopg [10] stn (fun g i wr => ∃ j : Nat, j ≤ stn ∧ i = .int .i64 (j : Int) ∧ Hid (g = stn - j ∧ (st.take j).all fitB = true) ∧ Hid (Below w4.heap.size w4 wr))
                     case atStart => exact ⟨0, Nat.zero_le _, rfl, Lib.hid ⟨rfl, rfl⟩, hb0s⟩
                     case round =>
                      clear hb0s z7
                      obtain ⟨j, hj, rfl, hr2, hb⟩ := hrel
                      have z7 := (k4.out.bel hb.out).c 7
                      by_cases hlt2 : j < stn
                      ·have hkl : j < st.length := by rw [hstn.out]; exact hlt2
                       have hW5 := below_then hW4 hb.out
                       have hW := below_then hWL.out hW5
                       have hsuc2 := all_next st fitB j hkl
                       have hfalse2 := fun h => (hSB.out).symm.trans (all_bad st fitB j hkl h)
                       obtain ⟨b2, o2, rfl, hbl, hc⟩ := h4.out j hkl
                       have hx2 := hx2.out _ (List.getElem_mem hkl)
                       obtain ⟨x, hxx⟩ : ∃ x, st[j] = x := ⟨_, rfl⟩
                       rw [hxx] at hx2 hc hsuc2 hfalse2
                       obtain ⟨i0, i1, rfl⟩ := two hx2
                       have HF2 := rshortH [i0, i1]
                       have q0 : wr.cell? ⟨b2, o2 + j * 2, none⟩ = some (.int .i64 i0) := (hW.cell hbl).trans (hc 0 _ rfl)
                       have q1 : wr.cell? ⟨b2, o2 + j * 2 + 1, none⟩ = some (.int .i64 i1) := (hW.cell hbl).trans (hc 1 _ rfl)
                       generalize fitB [i0, i1] = F2 at *
                       replace hsuc2 := Lib.hid hsuc2
                       replace hfalse2 := Lib.hid hfalse2
                       clear hx2 hc hxx hbl hW
                       go_wp2_with fail
                       go_region_law (go_simp; go_at_call 52; refine (HF2.out _ _ (isI_new (l := [i0, i1]) ((At.new' rfl).bel (below_drew (Below.refl _ _))) (by simp))).mono ?_; rintro e w6 ⟨rfl, hb2⟩; have hW7 := below_then (below_then hb.out (below_drew (below_al (Below.refl _ _) _))) hb2; clear hb2 hb)
                       all_goals
                        cases F2
                        ·have hE2 : Hid (Wr = false) := Lib.hid (by rw [hres.out, hfalse.out (by rw [g0.out, hfalse2.out rfl]; rfl)]; simp)
                         go_wp2_with fail
                         go_ret
                         exact ⟨by rw [hE2.out]; rfl, below_then hWL.out (below_then hW4 hW7)⟩
                        ·go_wp2_with fail
                         go_roundg (stn - (j + 1))
                         case measure => have := hr2.out.1; omega
                         case rel => exact ⟨j + 1, by omega, by go_num, Lib.hid ⟨rfl, by rw [hsuc2.out, hr2.out.2]; rfl⟩, Lib.hid hW7⟩
                      ·have hE3 : Hid (SB = true) := Lib.hid (by
                        have := hr2.out.2
                        rw [List.take_of_length_le (by have := hstn.out; omega)] at this
                        rw [← hSB.out]
                        exact this)
                       have hW5 := below_then hW4 hb.out
                       go_wp2_with fail
                       go_roundg (nd - (k + 1))
                       case measure => have := hr.out.1; omega
                       case rel => exact ⟨k + 1, by omega, by go_num, Lib.hid ⟨rfl, by rw [hsuc.out, hr.out.2, g0.out, hE3.out] <;> rfl⟩, Lib.hid hW5⟩
                 ·have hE2 : Hid (aD = true) := Lib.hid (by
                   have := hr.out.2
                   rw [List.take_of_length_le (by have := hnd.out; omega)] at this
                   rw [← haD.out]
                   exact this)
                  have hres := Lib.hid (show Wr = _ by rw [hres.out, hE2.out, Bool.true_and])
                  have hb0 := hb
                  go_wp2_with fail
                  clear hb hr hE2 x9
                  have hE2 : Hid (Wr = true) := hres
                  go_ret
                  exact ⟨by rw [hE2.out]; rfl, below_then hWL.out hb0.out⟩
end Go.Proofs.YtccakklnbhcbdaaGreatDoor
