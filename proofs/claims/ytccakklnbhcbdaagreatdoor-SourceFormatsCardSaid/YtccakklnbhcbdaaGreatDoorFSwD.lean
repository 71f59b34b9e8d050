import Derived.Test.YtccakklnbhcbdaaGreatDoorFQl
import Derived.Test.YtccakklnbhcbdaaGreatDoorFQh
set_option linter.unusedVariables false
set_option linter.unusedSimpArgs false
namespace Go.Proofs.YtccakklnbhcbdaaGreatDoor
open Go.ChangeShapes Go.WideShapes Go.ChangeAt Go.RowKit
def Sl {α : Type} (w : World) (sz : Nat) (enc : α → List Value) (v : Value) (l : List α) : Prop := ∃ a c, v = .slice a l.length c ∧ l.length ≤ c ∧ c ≤ 9223372036854775807 ∧ RowAt enc sz w.heap.size w a l
theorem Sl.up {α : Type} {w w' : World} {sz : Nat} {enc : α → List Value} {v : Value} {l : List α} (h : Sl w sz enc v l) (hb : Below w.heap.size w w') : Sl w' sz enc v l := by
 obtain ⟨a, c, h1, h2, h3, h4⟩ := h
 exact ⟨a, c, h1, h2, h3, (h4.bel (Nat.le_refl _) hb).mono hb.size⟩
theorem Row.sl {α : Type} {w : World} {e : TypeId} {sz : Nat} {enc : α → List Value} {v : Value} {l : List α} (h : Row w e sz enc v l) (henc : ∀ x, (enc x).length = sz) : Sl w sz enc v l := by
 obtain ⟨a, c, h1, h2, h3, h4, _⟩ := h.view henc
 exact ⟨a, c, h1, h2, h3, h4⟩
structure DetV (w : World) (d : Det) (p : PV) : Prop where
 boxes : Sl w 6 (encK 6) p.vb d.boxes
 holes : Sl w 6 (encK 6) p.vh d.holes
 bars : Sl w 5 encR p.vr (d.bars.zip p.db)
 runs : Sl w 10 encU p.vn d.runs
 laps : Sl w 2 (encK 2) p.vl d.laps
 dems : Sl w 8 encD p.vd (d.dems.zip p.ds)
 nb : p.db.length = d.bars.length
 ns : p.ds.length = d.dems.length
 dims : ∀ (k : Nat) (h1 : k < d.bars.length) (h2 : k < p.db.length), IsI (d.bars[k].2.drop 3) p.db[k] w
 steps : ∀ (k : Nat) (h1 : k < d.dems.length) (h2 : k < p.ds.length), IsSt d.dems[k].2.2 p.ds[k] w
theorem DetV.up {w w' : World} {d : Det} {p : PV} (h : DetV w d p) (hb : Below w.heap.size w w') : DetV w' d p :=
 ⟨h.boxes.up hb, h.holes.up hb, h.bars.up hb, h.runs.up hb, h.laps.up hb, h.dems.up hb, h.nb, h.ns, fun k h1 h2 => (h.dims k h1 h2).up hb, fun k h1 h2 => (h.steps k h1 h2).up hb⟩
theorem RdV.view {w : World} {d : Det} {p : PV} (h : RdV w d p) : DetV w d p :=
 ⟨h.boxes.sl (encK_len 6), h.holes.sl (encK_len 6), h.bars.sl encR_len, h.runs.sl encU_len, h.laps.sl (encK_len 2), h.dems.sl encD_len, h.nb, h.ns, fun k h1 h2 => row_isI (h.dims k h1 h2), fun k h1 h2 => row_isSt (h.steps k h1 h2)⟩
structure Det.sh (d : Det) : Prop where
 mem : d.mem.length = 3
 boxes : ∀ n ∈ d.boxes, n.length = 6
 holes : ∀ n ∈ d.holes, n.length = 6
 rule : d.rule.length = 9
 bars : ∀ b ∈ d.bars, 3 ≤ b.2.length
 runs : ∀ b ∈ d.runs, b.2.length = 9
 laps : ∀ n ∈ d.laps, n.length = 2
 dems : ∀ x ∈ d.dems, x.2.1.length = 6 ∧ ∀ n ∈ x.2.2, n.length = 2
 nm : d.name.length ≤ 1000000
 bnm : ∀ b ∈ d.bars, b.1.length ≤ 1000000
 rnm : ∀ b ∈ d.runs, b.1.length ≤ 1000000
 dnm : ∀ x ∈ d.dems, x.1.length ≤ 1000000
theorem zip_mem {α β : Type} {l : List α} {m : List β} {x : α × β} (h : x ∈ l.zip m) : ∃ k, ∃ (h1 : k < l.length) (h2 : k < m.length), x = (l[k], m[k]) := by
 obtain ⟨k, hk, rfl⟩ := List.getElem_of_mem h
 have hk2 := hk
 rw [List.length_zip] at hk2
 exact ⟨k, by omega, by omega, List.getElem_zip⟩
theorem zip_any {α β : Type} (f : α → Bool) : ∀ (l : List α) (m : List β), m.length = l.length → (l.zip m).any (fun x => f x.1) = l.any f
 | [], m, h => by rw [List.zip_nil_left]; rfl
 | a :: l, [], h => by simp at h
 | a :: l, b :: m, h => by rw [List.zip_cons_cons, List.any_cons, List.any_cons, zip_any f l m (by simpa using h)]
section
variable (d : Det) (p : PV) (w : World)
theorem cBox_any (l : List (List Int)) (v : Value) (hl : ∀ n ∈ l, n.length = 6) (h : Sl w 6 (encK 6) v l) : Calls Tryz.prog 41 #[v, .func (.func 38) #[] #[]] w fun e w' => e = .returned (.bool (!l.all fitB)) ∧ Below w.heap.size w w' := by
 obtain ⟨a, c, rfl, h2, h3, h4⟩ := h
 have H := contBox (encK 6) (encK_len 6) l a c h2 h3 _ w (Nat.le_refl _) (Lib.hid h4) 38 (fun args w => by simp [go_sem]) (fun n => !fitB n) (Lib.hid fun x hx W _ => wideB_any x (hl x hx) W)
 rwa [all_any l _ fitB (fun _ => rfl)] at H
theorem cJoint_any (l : List (List Int)) (v : Value) (hl : ∀ n ∈ l, n.length = 2) (h : Sl w 2 (encK 2) v l) : Calls Tryz.prog 46 #[v, .func (.func 47) #[] #[]] w fun e w' => e = .returned (.bool (!l.all fitB)) ∧ Below w.heap.size w w' := by
 obtain ⟨a, c, rfl, h2, h3, h4⟩ := h
 have H := contJoint (encK 2) (encK_len 2) l a c h2 h3 _ w (Nat.le_refl _) (Lib.hid h4) 47 (fun args w => by simp [go_sem]) (fun n => !fitB n) (Lib.hid fun x hx W _ => wideL_any x (hl x hx) W)
 rwa [all_any l _ fitB (fun _ => rfl)] at H
theorem cRun_any (hs : d.sh) (h : DetV w d p) : Calls Tryz.prog 44 #[p.vn, .func (.func 45) #[] #[]] w fun e w' => e = .returned (.bool (!d.runs.all runOk)) ∧ Below w.heap.size w w' := by
 obtain ⟨a, c, e, h2, h3, h4⟩ := h.runs
 rw [e]
 have H := contRun encU encU_len d.runs a c h2 h3 _ w (Nat.le_refl _) (Lib.hid h4) 45 (fun args w => by simp [go_sem]) (fun n => !runOk n) (Lib.hid fun x hx W _ => wideN_any x (hs.runs x hx) (hs.rnm x hx) W)
 rwa [all_any d.runs _ runOk (fun _ => rfl)] at H
theorem cBar_any (hs : d.sh) (h : DetV w d p) : Calls Tryz.prog 42 #[p.vr, .func (.func 43) #[] #[]] w fun e w' => e = .returned (.bool (!d.bars.all barOk)) ∧ Below w.heap.size w w' := by
 obtain ⟨a, c, e, h2, h3, h4⟩ := h.bars
 rw [e]
 have H := contBar encR encR_len (d.bars.zip p.db) a c h2 h3 _ w (Nat.le_refl _) (Lib.hid h4) 43 (fun args w => by simp [go_sem]) (fun x => !barOk x.1) (Lib.hid fun x hx W hb => by
  obtain ⟨k, k1, k2, rfl⟩ := zip_mem hx
  exact wideR_any _ _ (hs.bars _ (List.getElem_mem k1)) (hs.bnm _ (List.getElem_mem k1)) W ((h.dims k k1 k2).up hb))
 rwa [zip_any (fun b => !barOk b) d.bars p.db h.nb, all_any d.bars _ barOk (fun _ => rfl)] at H
theorem cDem_any (hs : d.sh) (h : DetV w d p) : Calls Tryz.prog 48 #[p.vd, .func (.func 49) #[] #[]] w fun e w' => e = .returned (.bool (!d.dems.all demOk)) ∧ Below w.heap.size w w' := by
 obtain ⟨a, c, e, h2, h3, h4⟩ := h.dems
 rw [e]
 have H := contDemand encD encD_len (d.dems.zip p.ds) a c h2 h3 _ w (Nat.le_refl _) (Lib.hid h4) 49 (fun args w => by simp [go_sem]) (fun x => !demOk x.1) (Lib.hid fun x hx W hb => by
  obtain ⟨k, k1, k2, rfl⟩ := zip_mem hx
  have := hs.dems _ (List.getElem_mem k1)
  exact wideD_any _ _ this.1 this.2 (hs.dnm _ (List.getElem_mem k1)) W ((h.steps k k1 k2).up hb))
 rwa [zip_any (fun b => !demOk b) d.dems p.ds h.ns, all_any d.dems _ demOk (fun _ => rfl)] at H
end
set_option maxRecDepth 100000 in
set_option maxHeartbeats 1000000 in
theorem writable_any (d : Det) (p : PV) (hs : d.sh) (w : World) (hv : DetV w d p) : Calls Tryz.prog 12 #[.agg (detC d p)] w fun e w' => e = .returned (.bool (wrD d)) ∧ Below w.heap.size w w' := by
 have HcB : Hid (∀ w', Below w.heap.size w w' → Calls Tryz.prog _ #[p.vb, _] w' _) := Lib.hid fun w' hb => cBox_any w' d.boxes p.vb hs.boxes (hv.boxes.up hb)
 have HcH : Hid (∀ w', Below w.heap.size w w' → Calls Tryz.prog _ #[p.vh, _] w' _) := Lib.hid fun w' hb => cBox_any w' d.holes p.vh hs.holes (hv.holes.up hb)
 have HcL : Hid (∀ w', Below w.heap.size w w' → Calls Tryz.prog _ #[p.vl, _] w' _) := Lib.hid fun w' hb => cJoint_any w' d.laps p.vl hs.laps (hv.laps.up hb)
 have HcR : Hid (∀ w', Below w.heap.size w w' → Calls Tryz.prog _ #[p.vr, _] w' _) := Lib.hid fun w' hb => cBar_any d p w' hs (hv.up hb)
 have HcN : Hid (∀ w', Below w.heap.size w w' → Calls Tryz.prog _ #[p.vn, _] w' _) := Lib.hid fun w' hb => cRun_any d p w' hs (hv.up hb)
 have HcD : Hid (∀ w', Below w.heap.size w w' → Calls Tryz.prog _ #[p.vd, _] w' _) := Lib.hid fun w' hb => cDem_any d p w' hs (hv.up hb)
 have hzr : (d.bars.zip p.db).length = d.bars.length := by rw [List.length_zip, hv.nb]; simp
 have hzd : (d.dems.zip p.ds).length = d.dems.length := by rw [List.length_zip, hv.ns]; simp
 obtain ⟨ab, cb, eb, -⟩ := hv.boxes
 obtain ⟨ah, ch, eh, -⟩ := hv.holes
 obtain ⟨ar, cr, er, -⟩ := hv.bars
 obtain ⟨au, cu, eu, -⟩ := hv.runs
 obtain ⟨al, cl, el, -⟩ := hv.laps
 obtain ⟨ad, cd, ed, -⟩ := hv.dems
 rw [hzr] at er
 rw [hzd] at ed
 have hmem := hs.mem
 have hrule := hs.rule
 have hnm := hs.nm
 clear hs hv hzr hzd
 obtain ⟨name, mem, boxes, holes, rule, bars, runs, laps, dems⟩ := d
 obtain ⟨vt, vb, vh, vr, vn, vl, vd, db, ds⟩ := p
 dsimp only at *
 obtain ⟨m0, m1, m2, rfl⟩ := three hmem
 obtain ⟨r0, r1, r2, r3, r4, r5, r6, r7, r8, rfl⟩ := nine hrule
 obtain ⟨NM, hNM⟩ : ∃ NM : ByteArray, NM = ⟨name.toArray⟩ := ⟨_, rfl⟩
 have HN := nameH name hnm NM hNM
 have HM := fitH [m0, m1, m2]
 have HR := fitH [r0, r1, r2, r3, r4, r5, r6, r7, r8]
 obtain ⟨Wr, hWr⟩ : ∃ r, wrD ⟨name, [m0, m1, m2], boxes, holes, [r0, r1, r2, r3, r4, r5, r6, r7, r8], bars, runs, laps, dems⟩ = r := ⟨_, rfl⟩
 rw [hWr]
 have hres : Wr = (nameB name && fitB [m0, m1, m2] && decide (boxes.length ≤ 20) && boxes.all fitB && decide (holes.length ≤ 20) && holes.all fitB && fitB [r0, r1, r2, r3, r4, r5, r6, r7, r8]
  && decide (bars.length ≤ 60) && bars.all barOk && decide (runs.length ≤ 60) && runs.all runOk && decide (laps.length ≤ 1000) && laps.all fitB && decide (dems.length ≤ 20) && dems.all demOk) := hWr.symm
 generalize hnb : boxes.length = nb at *
 generalize hnh : holes.length = nh at *
 generalize hnr : bars.length = nr at *
 generalize hnu : runs.length = nu at *
 generalize hnl : laps.length = nl at *
 generalize hnd : dems.length = nd at *
 obtain ⟨L1, hL1⟩ : ∃ b, decide (nb ≤ 20) = b := ⟨_, rfl⟩
 rw [hL1] at hres
 replace hL1 := Lib.hid hL1
 obtain ⟨L2, hL2⟩ : ∃ b, decide (nh ≤ 20) = b := ⟨_, rfl⟩
 rw [hL2] at hres
 replace hL2 := Lib.hid hL2
 obtain ⟨L3, hL3⟩ : ∃ b, decide (nr ≤ 60) = b := ⟨_, rfl⟩
 rw [hL3] at hres
 replace hL3 := Lib.hid hL3
 obtain ⟨L4, hL4⟩ : ∃ b, decide (nu ≤ 60) = b := ⟨_, rfl⟩
 rw [hL4] at hres
 replace hL4 := Lib.hid hL4
 obtain ⟨L5, hL5⟩ : ∃ b, decide (nl ≤ 1000) = b := ⟨_, rfl⟩
 rw [hL5] at hres
 replace hL5 := Lib.hid hL5
 obtain ⟨L6, hL6⟩ : ∃ b, decide (nd ≤ 20) = b := ⟨_, rfl⟩
 rw [hL6] at hres
 replace hL6 := Lib.hid hL6
 generalize nameB name = nB at *
 generalize fitB [m0, m1, m2] = fM at *
 generalize fitB [r0, r1, r2, r3, r4, r5, r6, r7, r8] = fR at *
 generalize boxes.all fitB = aB at *
 generalize holes.all fitB = aH at *
 generalize bars.all barOk = aR at *
 generalize runs.all runOk = aN at *
 generalize laps.all fitB = aL at *
 generalize dems.all demOk = aD at *
 replace hres := Lib.hid hres
 subst eb eh er eu el ed
 rw [show detC ⟨name, [m0, m1, m2], boxes, holes, [r0, r1, r2, r3, r4, r5, r6, r7, r8], bars, runs, laps, dems⟩ ⟨vt, .slice ab nb cb, .slice ah nh ch, .slice ar nr cr, .slice au nu cu, .slice al nl cl, .slice ad nd cd, db, ds⟩ = #[.string NM, .slice ab nb cb, .slice ah nh ch, .int .i64 m0, .int .i64 m1, .int .i64 m2, .slice ar nr cr, .slice au nu cu, .slice al nl cl, .slice ad nd cd, .int .i64 r0, .int .i64 r1, .int .i64 r2, .int .i64 r3, .int .i64 r4, .int .i64 r5, .int .i64 r6, .int .i64 r7, .int .i64 r8] by rw [hNM]; rfl]
 clear hNM hnm hWr hmem hrule hnb hnh hnr hnu hnl hnd
 go_enter Tryz.func12, Tryz.ntmps12
 go_upto_region 2 with fail
 generalize hWW : World.alloc (World.alloc w _) _ = WW
 have kt : At WW w.heap.size 34 #[.string NM, .slice ab nb cb, .slice ah nh ch, .int .i64 m0, .int .i64 m1, .int .i64 m2, .slice ar nr cr, .slice au nu cu, .slice al nl cl, .slice ad nd cd, .int .i64 r0, .int .i64 r1, .int .i64 r2, .int .i64 r3, .int .i64 r4, .int .i64 r5, .int .i64 r6, .int .i64 r7, .int .i64 r8] := by rw [← hWW]; repeat (first | (with_reducible apply At.new'; (focus (simp; done))) | with_reducible apply At.al | with_reducible apply At.drw | with_reducible apply At.dr)
 have km : At WW (w.heap.size + 1) 26 #[.string NM, .slice ab nb cb, .slice ah nh ch, .int .i64 m0, .int .i64 m1, .int .i64 m2] := by rw [← hWW]; repeat (first | (with_reducible apply At.new'; (focus (simp; done))) | with_reducible apply At.al | with_reducible apply At.drw | with_reducible apply At.dr)
 have HB : Below w.heap.size w WW := by rw [← hWW]; repeat (first | with_reducible assumption | with_reducible exact Below.refl _ _ | with_reducible refine below_al ?_ _ | with_reducible refine below_drew ?_ | with_reducible refine below_drewN ?_ _ | with_reducible refine below_set ?_ (by dsimp only; omega) _)
 clear hWW
 have x6 : WW.cell? ⟨w.heap.size, 6, none⟩ = some (.slice ar nr cr) := kt.c 6
 have x7 : WW.cell? ⟨w.heap.size, 7, none⟩ = some (.slice au nu cu) := kt.c 7
 have x8 : WW.cell? ⟨w.heap.size, 8, none⟩ = some (.slice al nl cl) := kt.c 8
 have x9 : WW.cell? ⟨w.heap.size, 9, none⟩ = some (.slice ad nd cd) := kt.c 9
 have x10 : WW.cell? ⟨w.heap.size, 10, none⟩ = some (.int .i64 r0) := kt.c 10
 have x11 : WW.cell? ⟨w.heap.size, 11, none⟩ = some (.int .i64 r1) := kt.c 11
 have x12 : WW.cell? ⟨w.heap.size, 12, none⟩ = some (.int .i64 r2) := kt.c 12
 have x13 : WW.cell? ⟨w.heap.size, 13, none⟩ = some (.int .i64 r3) := kt.c 13
 have x14 : WW.cell? ⟨w.heap.size, 14, none⟩ = some (.int .i64 r4) := kt.c 14
 have x15 : WW.cell? ⟨w.heap.size, 15, none⟩ = some (.int .i64 r5) := kt.c 15
 have x16 : WW.cell? ⟨w.heap.size, 16, none⟩ = some (.int .i64 r6) := kt.c 16
 have x17 : WW.cell? ⟨w.heap.size, 17, none⟩ = some (.int .i64 r7) := kt.c 17
 have x18 : WW.cell? ⟨w.heap.size, 18, none⟩ = some (.int .i64 r8) := kt.c 18
 have y0 : WW.cell? ⟨w.heap.size + 1, 0, none⟩ = some (.string NM) := km.c 0
 have y1 : WW.cell? ⟨w.heap.size + 1, 1, none⟩ = some (.slice ab nb cb) := km.c 1
 have y2 : WW.cell? ⟨w.heap.size + 1, 2, none⟩ = some (.slice ah nh ch) := km.c 2
 have y3 : WW.cell? ⟨w.heap.size + 1, 3, none⟩ = some (.int .i64 m0) := km.c 3
 have y4 : WW.cell? ⟨w.heap.size + 1, 4, none⟩ = some (.int .i64 m1) := km.c 4
 have y5 : WW.cell? ⟨w.heap.size + 1, 5, none⟩ = some (.int .i64 m2) := km.c 5
 clear kt km
 by_cases kb : 20 < nb
 ·have fb : decide ((20 : Int) < (nb : Int)) = true := decide_eq_true (by omega)
  have gb : L1 = false := by rw [← hL1.out]; exact decide_eq_false (by omega)
  go_wp2_with fail
  go_ret
  exact ⟨by rw [hres.out]; simp [gb], HB⟩
 ·have fb : decide ((20 : Int) < (nb : Int)) = false := decide_eq_false (by omega)
  have gb : L1 = true := by rw [← hL1.out]; exact decide_eq_true (by omega)
  by_cases kh : 20 < nh
  ·have fh : decide ((20 : Int) < (nh : Int)) = true := decide_eq_true (by omega)
   have gh : L2 = false := by rw [← hL2.out]; exact decide_eq_false (by omega)
   go_wp2_with fail
   go_ret
   exact ⟨by rw [hres.out]; simp [gh], HB⟩
  ·have fh : decide ((20 : Int) < (nh : Int)) = false := decide_eq_false (by omega)
   have gh : L2 = true := by rw [← hL2.out]; exact decide_eq_true (by omega)
   by_cases kr : 60 < nr
   ·have fr : decide ((60 : Int) < (nr : Int)) = true := decide_eq_true (by omega)
    have gr : L3 = false := by rw [← hL3.out]; exact decide_eq_false (by omega)
    go_wp2_with fail
    go_ret
    exact ⟨by rw [hres.out]; simp [gr], HB⟩
   ·have fr : decide ((60 : Int) < (nr : Int)) = false := decide_eq_false (by omega)
    have gr : L3 = true := by rw [← hL3.out]; exact decide_eq_true (by omega)
    by_cases ku : 60 < nu
    ·have fu : decide ((60 : Int) < (nu : Int)) = true := decide_eq_true (by omega)
     have gu : L4 = false := by rw [← hL4.out]; exact decide_eq_false (by omega)
     go_wp2_with fail
     go_ret
     exact ⟨by rw [hres.out]; simp [gu], HB⟩
    ·have fu : decide ((60 : Int) < (nu : Int)) = false := decide_eq_false (by omega)
     have gu : L4 = true := by rw [← hL4.out]; exact decide_eq_true (by omega)
     by_cases kl : 1000 < nl
     ·have fl : decide ((1000 : Int) < (nl : Int)) = true := decide_eq_true (by omega)
      have gl : L5 = false := by rw [← hL5.out]; exact decide_eq_false (by omega)
      go_wp2_with fail
      go_ret
      exact ⟨by rw [hres.out]; simp [gl], HB⟩
     ·have fl : decide ((1000 : Int) < (nl : Int)) = false := decide_eq_false (by omega)
      have gl : L5 = true := by rw [← hL5.out]; exact decide_eq_true (by omega)
      by_cases kd : 20 < nd
      ·have fd : decide ((20 : Int) < (nd : Int)) = true := decide_eq_true (by omega)
       have gd : L6 = false := by rw [← hL6.out]; exact decide_eq_false (by omega)
       go_wp2_with fail
       go_ret
       exact ⟨by rw [hres.out]; simp [gd], HB⟩
      ·have fd : decide ((20 : Int) < (nd : Int)) = false := decide_eq_false (by omega)
       have gd : L6 = true := by rw [← hL6.out]; exact decide_eq_true (by omega)
       replace hres := Lib.hid (show Wr = (nB && fM && aB && aH && fR && aR && aN && aL && aD) by rw [hres.out, gb, gh, gr, gu, gl, gd]; simp)
       clear gb gh gr gu gl gd hL1 hL2 hL3 hL4 hL5 hL6
       go_wp2_with fail
       refine (HN.out WW).mono ?_
       rintro e w1 ⟨rfl, HBn⟩
       have px6 : w1.cell? ⟨w.heap.size, 6, none⟩ = some (.slice ar nr cr) := (HBn.cell (block_lt_of_cell x6)).trans x6
       have px7 : w1.cell? ⟨w.heap.size, 7, none⟩ = some (.slice au nu cu) := (HBn.cell (block_lt_of_cell x7)).trans x7
       have px8 : w1.cell? ⟨w.heap.size, 8, none⟩ = some (.slice al nl cl) := (HBn.cell (block_lt_of_cell x8)).trans x8
       have px9 : w1.cell? ⟨w.heap.size, 9, none⟩ = some (.slice ad nd cd) := (HBn.cell (block_lt_of_cell x9)).trans x9
       have px10 : w1.cell? ⟨w.heap.size, 10, none⟩ = some (.int .i64 r0) := (HBn.cell (block_lt_of_cell x10)).trans x10
       have px11 : w1.cell? ⟨w.heap.size, 11, none⟩ = some (.int .i64 r1) := (HBn.cell (block_lt_of_cell x11)).trans x11
       have px12 : w1.cell? ⟨w.heap.size, 12, none⟩ = some (.int .i64 r2) := (HBn.cell (block_lt_of_cell x12)).trans x12
       have px13 : w1.cell? ⟨w.heap.size, 13, none⟩ = some (.int .i64 r3) := (HBn.cell (block_lt_of_cell x13)).trans x13
       have px14 : w1.cell? ⟨w.heap.size, 14, none⟩ = some (.int .i64 r4) := (HBn.cell (block_lt_of_cell x14)).trans x14
       have px15 : w1.cell? ⟨w.heap.size, 15, none⟩ = some (.int .i64 r5) := (HBn.cell (block_lt_of_cell x15)).trans x15
       have px16 : w1.cell? ⟨w.heap.size, 16, none⟩ = some (.int .i64 r6) := (HBn.cell (block_lt_of_cell x16)).trans x16
       have px17 : w1.cell? ⟨w.heap.size, 17, none⟩ = some (.int .i64 r7) := (HBn.cell (block_lt_of_cell x17)).trans x17
       have px18 : w1.cell? ⟨w.heap.size, 18, none⟩ = some (.int .i64 r8) := (HBn.cell (block_lt_of_cell x18)).trans x18
       have py1 : w1.cell? ⟨w.heap.size + 1, 1, none⟩ = some (.slice ab nb cb) := (HBn.cell (block_lt_of_cell y1)).trans y1
       have py2 : w1.cell? ⟨w.heap.size + 1, 2, none⟩ = some (.slice ah nh ch) := (HBn.cell (block_lt_of_cell y2)).trans y2
       have py3 : w1.cell? ⟨w.heap.size + 1, 3, none⟩ = some (.int .i64 m0) := (HBn.cell (block_lt_of_cell y3)).trans y3
       have py4 : w1.cell? ⟨w.heap.size + 1, 4, none⟩ = some (.int .i64 m1) := (HBn.cell (block_lt_of_cell y4)).trans y4
       have py5 : w1.cell? ⟨w.heap.size + 1, 5, none⟩ = some (.int .i64 m2) := (HBn.cell (block_lt_of_cell y5)).trans y5
       replace HB := below_then HB HBn
       clear HBn
       clear x6 x7 x8 x9 x10 x11 x12 x13 x14 x15 x16 x17 x18 y0 y1 y2 y3 y4 y5
       cases nB
       ·go_wp2_with fail
        go_ret
        exact ⟨by rw [hres.out]; rfl, HB⟩
       ·go_wp2_with fail
        generalize hWW2 : World.alloc w1 _ = W2
        have kz : At W2 w1.heap.size 3 #[.int .i64 m0, .int .i64 m1, .int .i64 m2] := by rw [← hWW2]; apply At.new'; rfl
        have HW : Below w1.heap.size w1 W2 := by rw [← hWW2]; exact below_al (Below.refl _ _) _
        have qx6 : W2.cell? ⟨w.heap.size, 6, none⟩ = some (.slice ar nr cr) := (HW.cell (block_lt_of_cell px6)).trans px6
        have qx7 : W2.cell? ⟨w.heap.size, 7, none⟩ = some (.slice au nu cu) := (HW.cell (block_lt_of_cell px7)).trans px7
        have qx8 : W2.cell? ⟨w.heap.size, 8, none⟩ = some (.slice al nl cl) := (HW.cell (block_lt_of_cell px8)).trans px8
        have qx9 : W2.cell? ⟨w.heap.size, 9, none⟩ = some (.slice ad nd cd) := (HW.cell (block_lt_of_cell px9)).trans px9
        have qx10 : W2.cell? ⟨w.heap.size, 10, none⟩ = some (.int .i64 r0) := (HW.cell (block_lt_of_cell px10)).trans px10
        have qx11 : W2.cell? ⟨w.heap.size, 11, none⟩ = some (.int .i64 r1) := (HW.cell (block_lt_of_cell px11)).trans px11
        have qx12 : W2.cell? ⟨w.heap.size, 12, none⟩ = some (.int .i64 r2) := (HW.cell (block_lt_of_cell px12)).trans px12
        have qx13 : W2.cell? ⟨w.heap.size, 13, none⟩ = some (.int .i64 r3) := (HW.cell (block_lt_of_cell px13)).trans px13
        have qx14 : W2.cell? ⟨w.heap.size, 14, none⟩ = some (.int .i64 r4) := (HW.cell (block_lt_of_cell px14)).trans px14
        have qx15 : W2.cell? ⟨w.heap.size, 15, none⟩ = some (.int .i64 r5) := (HW.cell (block_lt_of_cell px15)).trans px15
        have qx16 : W2.cell? ⟨w.heap.size, 16, none⟩ = some (.int .i64 r6) := (HW.cell (block_lt_of_cell px16)).trans px16
        have qx17 : W2.cell? ⟨w.heap.size, 17, none⟩ = some (.int .i64 r7) := (HW.cell (block_lt_of_cell px17)).trans px17
        have qx18 : W2.cell? ⟨w.heap.size, 18, none⟩ = some (.int .i64 r8) := (HW.cell (block_lt_of_cell px18)).trans px18
        have qy1 : W2.cell? ⟨w.heap.size + 1, 1, none⟩ = some (.slice ab nb cb) := (HW.cell (block_lt_of_cell py1)).trans py1
        have qy2 : W2.cell? ⟨w.heap.size + 1, 2, none⟩ = some (.slice ah nh ch) := (HW.cell (block_lt_of_cell py2)).trans py2
        replace HB := below_then HB HW
        clear hWW2 HW py1 py2 py3 py4 py5 px10 px11 px12 px13 px14 px15 px16 px17 px18 px6 px7 px8 px9
        refine (HM.out _ W2 (isI_new (l := [m0, m1, m2]) kz (by simp))).mono ?_
        rintro e w3 ⟨rfl, HBn⟩
        have px6 : w3.cell? ⟨w.heap.size, 6, none⟩ = some (.slice ar nr cr) := (HBn.cell (block_lt_of_cell qx6)).trans qx6
        have px7 : w3.cell? ⟨w.heap.size, 7, none⟩ = some (.slice au nu cu) := (HBn.cell (block_lt_of_cell qx7)).trans qx7
        have px8 : w3.cell? ⟨w.heap.size, 8, none⟩ = some (.slice al nl cl) := (HBn.cell (block_lt_of_cell qx8)).trans qx8
        have px9 : w3.cell? ⟨w.heap.size, 9, none⟩ = some (.slice ad nd cd) := (HBn.cell (block_lt_of_cell qx9)).trans qx9
        have px10 : w3.cell? ⟨w.heap.size, 10, none⟩ = some (.int .i64 r0) := (HBn.cell (block_lt_of_cell qx10)).trans qx10
        have px11 : w3.cell? ⟨w.heap.size, 11, none⟩ = some (.int .i64 r1) := (HBn.cell (block_lt_of_cell qx11)).trans qx11
        have px12 : w3.cell? ⟨w.heap.size, 12, none⟩ = some (.int .i64 r2) := (HBn.cell (block_lt_of_cell qx12)).trans qx12
        have px13 : w3.cell? ⟨w.heap.size, 13, none⟩ = some (.int .i64 r3) := (HBn.cell (block_lt_of_cell qx13)).trans qx13
        have px14 : w3.cell? ⟨w.heap.size, 14, none⟩ = some (.int .i64 r4) := (HBn.cell (block_lt_of_cell qx14)).trans qx14
        have px15 : w3.cell? ⟨w.heap.size, 15, none⟩ = some (.int .i64 r5) := (HBn.cell (block_lt_of_cell qx15)).trans qx15
        have px16 : w3.cell? ⟨w.heap.size, 16, none⟩ = some (.int .i64 r6) := (HBn.cell (block_lt_of_cell qx16)).trans qx16
        have px17 : w3.cell? ⟨w.heap.size, 17, none⟩ = some (.int .i64 r7) := (HBn.cell (block_lt_of_cell qx17)).trans qx17
        have px18 : w3.cell? ⟨w.heap.size, 18, none⟩ = some (.int .i64 r8) := (HBn.cell (block_lt_of_cell qx18)).trans qx18
        have py1 : w3.cell? ⟨w.heap.size + 1, 1, none⟩ = some (.slice ab nb cb) := (HBn.cell (block_lt_of_cell qy1)).trans qy1
        have py2 : w3.cell? ⟨w.heap.size + 1, 2, none⟩ = some (.slice ah nh ch) := (HBn.cell (block_lt_of_cell qy2)).trans qy2
        replace HB := below_then HB HBn
        clear HBn
        clear kz qy1 qy2 qx10 qx11 qx12 qx13 qx14 qx15 qx16 qx17 qx18 qx6 qx7 qx8 qx9
        cases fM
        ·go_wp2_with fail
         go_ret
         exact ⟨by rw [hres.out]; rfl, HB⟩
        ·go_wp2_with fail
         refine (rule_any r0 r1 r2 r3 r4 r5 r6 r7 r8 _).mono ?_
         rintro e w4 ⟨⟨v, rfl, hv⟩, HBn⟩
         have qx6 : w4.cell? ⟨w.heap.size, 6, none⟩ = some (.slice ar nr cr) := (HBn.cell (block_lt_of_cell px6)).trans px6
         have qx7 : w4.cell? ⟨w.heap.size, 7, none⟩ = some (.slice au nu cu) := (HBn.cell (block_lt_of_cell px7)).trans px7
         have qx8 : w4.cell? ⟨w.heap.size, 8, none⟩ = some (.slice al nl cl) := (HBn.cell (block_lt_of_cell px8)).trans px8
         have qx9 : w4.cell? ⟨w.heap.size, 9, none⟩ = some (.slice ad nd cd) := (HBn.cell (block_lt_of_cell px9)).trans px9
         have qy1 : w4.cell? ⟨w.heap.size + 1, 1, none⟩ = some (.slice ab nb cb) := (HBn.cell (block_lt_of_cell py1)).trans py1
         have qy2 : w4.cell? ⟨w.heap.size + 1, 2, none⟩ = some (.slice ah nh ch) := (HBn.cell (block_lt_of_cell py2)).trans py2
         replace HB := below_then HB HBn
         clear HBn py1 py2 px10 px11 px12 px13 px14 px15 px16 px17 px18 px6 px7 px8 px9
         go_wp2_with fail
         refine (HR.out v w4 hv).mono ?_
         rintro e w5 ⟨rfl, HBn⟩
         have px6 : w5.cell? ⟨w.heap.size, 6, none⟩ = some (.slice ar nr cr) := (HBn.cell (block_lt_of_cell qx6)).trans qx6
         have px7 : w5.cell? ⟨w.heap.size, 7, none⟩ = some (.slice au nu cu) := (HBn.cell (block_lt_of_cell qx7)).trans qx7
         have px8 : w5.cell? ⟨w.heap.size, 8, none⟩ = some (.slice al nl cl) := (HBn.cell (block_lt_of_cell qx8)).trans qx8
         have px9 : w5.cell? ⟨w.heap.size, 9, none⟩ = some (.slice ad nd cd) := (HBn.cell (block_lt_of_cell qx9)).trans qx9
         have py1 : w5.cell? ⟨w.heap.size + 1, 1, none⟩ = some (.slice ab nb cb) := (HBn.cell (block_lt_of_cell qy1)).trans qy1
         have py2 : w5.cell? ⟨w.heap.size + 1, 2, none⟩ = some (.slice ah nh ch) := (HBn.cell (block_lt_of_cell qy2)).trans qy2
         replace HB := below_then HB HBn
         clear HBn
         clear hv qy1 qy2 qx6 qx7 qx8 qx9
         cases fR
         ·go_wp2_with fail
          go_ret
          exact ⟨by rw [hres.out]; simp [], HB⟩
         ·go_wp2_with fail
          refine (HcB.out w5 HB).mono ?_
          rintro e w6 ⟨rfl, HBn⟩
          have qx6 : w6.cell? ⟨w.heap.size, 6, none⟩ = some (.slice ar nr cr) := (HBn.cell (block_lt_of_cell px6)).trans px6
          have qx7 : w6.cell? ⟨w.heap.size, 7, none⟩ = some (.slice au nu cu) := (HBn.cell (block_lt_of_cell px7)).trans px7
          have qx8 : w6.cell? ⟨w.heap.size, 8, none⟩ = some (.slice al nl cl) := (HBn.cell (block_lt_of_cell px8)).trans px8
          have qx9 : w6.cell? ⟨w.heap.size, 9, none⟩ = some (.slice ad nd cd) := (HBn.cell (block_lt_of_cell px9)).trans px9
          have qy2 : w6.cell? ⟨w.heap.size + 1, 2, none⟩ = some (.slice ah nh ch) := (HBn.cell (block_lt_of_cell py2)).trans py2
          replace HB := below_then HB HBn
          clear HBn
          clear py1 py2 px6 px7 px8 px9
          cases aB
          ·go_wp2_with fail
           go_ret
           exact ⟨by rw [hres.out]; simp [], HB⟩
          ·go_wp2_with fail
           refine (HcH.out w6 HB).mono ?_
           rintro e w7 ⟨rfl, HBn⟩
           have px6 : w7.cell? ⟨w.heap.size, 6, none⟩ = some (.slice ar nr cr) := (HBn.cell (block_lt_of_cell qx6)).trans qx6
           have px7 : w7.cell? ⟨w.heap.size, 7, none⟩ = some (.slice au nu cu) := (HBn.cell (block_lt_of_cell qx7)).trans qx7
           have px8 : w7.cell? ⟨w.heap.size, 8, none⟩ = some (.slice al nl cl) := (HBn.cell (block_lt_of_cell qx8)).trans qx8
           have px9 : w7.cell? ⟨w.heap.size, 9, none⟩ = some (.slice ad nd cd) := (HBn.cell (block_lt_of_cell qx9)).trans qx9
           replace HB := below_then HB HBn
           clear HBn
           clear qy2 qx6 qx7 qx8 qx9
           cases aH
           ·go_wp2_with fail
            go_ret
            exact ⟨by rw [hres.out]; simp [], HB⟩
           ·go_wp2_with fail
            refine (HcR.out w7 HB).mono ?_
            rintro e w8 ⟨rfl, HBn⟩
            have qx7 : w8.cell? ⟨w.heap.size, 7, none⟩ = some (.slice au nu cu) := (HBn.cell (block_lt_of_cell px7)).trans px7
            have qx8 : w8.cell? ⟨w.heap.size, 8, none⟩ = some (.slice al nl cl) := (HBn.cell (block_lt_of_cell px8)).trans px8
            have qx9 : w8.cell? ⟨w.heap.size, 9, none⟩ = some (.slice ad nd cd) := (HBn.cell (block_lt_of_cell px9)).trans px9
            replace HB := below_then HB HBn
            clear HBn
            clear px6 px7 px8 px9
            cases aR
            ·go_wp2_with fail
             go_ret
             exact ⟨by rw [hres.out]; simp [], HB⟩
            ·go_wp2_with fail
             refine (HcN.out w8 HB).mono ?_
             rintro e w9 ⟨rfl, HBn⟩
             have px8 : w9.cell? ⟨w.heap.size, 8, none⟩ = some (.slice al nl cl) := (HBn.cell (block_lt_of_cell qx8)).trans qx8
             have px9 : w9.cell? ⟨w.heap.size, 9, none⟩ = some (.slice ad nd cd) := (HBn.cell (block_lt_of_cell qx9)).trans qx9
             replace HB := below_then HB HBn
             clear HBn
             clear qx7 qx8 qx9
             cases aN
             ·go_wp2_with fail
              go_ret
              exact ⟨by rw [hres.out]; simp [], HB⟩
             ·go_wp2_with fail
              refine (HcL.out w9 HB).mono ?_
              rintro e w10 ⟨rfl, HBn⟩
              have qx9 : w10.cell? ⟨w.heap.size, 9, none⟩ = some (.slice ad nd cd) := (HBn.cell (block_lt_of_cell px9)).trans px9
              replace HB := below_then HB HBn
              clear HBn
              clear px8 px9
              cases aL
              ·go_wp2_with fail
               go_ret
               exact ⟨by rw [hres.out]; simp [], HB⟩
              ·go_wp2_with fail
               refine (HcD.out w10 HB).mono ?_
               rintro e w11 ⟨rfl, HBn⟩
               replace HB := below_then HB HBn
               cases aD
               ·go_wp2_with fail
                go_ret
                exact ⟨by rw [hres.out]; simp [], HB⟩
               ·go_wp2_with fail
                go_ret
                exact ⟨by rw [hres.out]; simp [], HB⟩
end Go.Proofs.YtccakklnbhcbdaaGreatDoor
