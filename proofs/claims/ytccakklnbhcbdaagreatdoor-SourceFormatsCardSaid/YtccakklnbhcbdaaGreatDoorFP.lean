import Derived.Test.YtccakklnbhcbdaaGreatDoorFQg
set_option linter.unusedVariables false
namespace Go.Proofs.YtccakklnbhcbdaaGreatDoor
open Go.ChangeShapes Go.WideShapes Go.ChangeAt Go.RowKit
theorem rd_rule {w w' : World} {R : Nat} {ts : List Tk} {s : Rd} {p : PV} (h : RdW w R ts s p) {j : Nat} {l : List Int} {e : Ending} (hl : l.length = 9) (hN : NumsE ts R 139 w p.vt R 12 9 (.ok (l, j)) e w') :
  RdW w' R ts { s with i := j, d := { s.d with rule := l } } p ∧ Below R w w' := by
 obtain ⟨-, ⟨cs2, -, hT⟩, hc, hW⟩ := hN
 obtain ⟨cs', h1, h2, h3⟩ := hW.at h.tok.own
 obtain rfl : cs2 = cs' := by
  have e1 := hT.own.symm.trans h1
  injection e1 with e1
  injection e1
 have hm : ∀ x ∈ nps R R 12 9, x.block = R := fun x hx => by
  rcases nps_mem hx with rfl | ⟨d, _, rfl⟩ <;> rfl
 obtain ⟨a0, a1, a2, a3, a4, a5, a6, a7, a8, rfl⟩ := nine hl
 have e1 := hT.at_
 have e2 : ∀ c (hc2 : c < 9), cs2[12 + c]? = some (.int .i64 [a0, a1, a2, a3, a4, a5, a6, a7, a8][c]) := fun c hc2 => by
  rw [← hT.own.c]
  exact hc c hc2
 have e3 : ∀ m, m ≠ 1 → (m < 12 ∨ 21 ≤ m) → cs2[m]? = (rdC s p)[m]? := fun m hm1 hm2 => h3 m fun hx => by
  rcases nps_mem hx with e | ⟨d, hd, e⟩
  ·injection e with _ e; exact hm1 e
  ·injection e with _ e; omega
 have hcs : cs2 = rdC { s with i := j, d := { s.d with rule := [a0, a1, a2, a3, a4, a5, a6, a7, a8] } } p := by
  apply Array.ext_getElem?
  intro m
  have hmm : m = 0 ∨ m = 1 ∨ m = 2 ∨ m = 3 ∨ m = 4 ∨ m = 5 ∨ m = 6 ∨ m = 7 ∨ m = 8 ∨ m = 9 ∨ m = 10 ∨ m = 11 ∨ m = 12 ∨ m = 13 ∨ m = 14 ∨ m = 15 ∨ m = 16 ∨ m = 17 ∨ m = 18 ∨ m = 19 ∨ m = 20 ∨ m = 21 ∨ 22 ≤ m := by omega
  rcases hmm with rfl | rfl | rfl | rfl | rfl | rfl | rfl | rfl | rfl | rfl | rfl | rfl | rfl | rfl | rfl | rfl | rfl | rfl | rfl | rfl | rfl | rfl | hm
  ·exact (e3 0 (by omega) (by omega)).trans (by simp [rdC, encK, List.range, List.range.loop])
  ·exact e1.trans (by simp [rdC])
  ·exact (e3 2 (by omega) (by omega)).trans (by simp [rdC, encK, List.range, List.range.loop])
  ·exact (e3 3 (by omega) (by omega)).trans (by simp [rdC, encK, List.range, List.range.loop])
  ·exact (e3 4 (by omega) (by omega)).trans (by simp [rdC, encK, List.range, List.range.loop])
  ·exact (e3 5 (by omega) (by omega)).trans (by simp [rdC, encK, List.range, List.range.loop])
  ·exact (e3 6 (by omega) (by omega)).trans (by simp [rdC, encK, List.range, List.range.loop])
  ·exact (e3 7 (by omega) (by omega)).trans (by simp [rdC, encK, List.range, List.range.loop])
  ·exact (e3 8 (by omega) (by omega)).trans (by simp [rdC, encK, List.range, List.range.loop])
  ·exact (e3 9 (by omega) (by omega)).trans (by simp [rdC, encK, List.range, List.range.loop])
  ·exact (e3 10 (by omega) (by omega)).trans (by simp [rdC, encK, List.range, List.range.loop])
  ·exact (e3 11 (by omega) (by omega)).trans (by simp [rdC, encK, List.range, List.range.loop])
  ·exact (e2 0 (by omega)).trans (by simp [rdC, encK, List.range, List.range.loop])
  ·exact (e2 1 (by omega)).trans (by simp [rdC, encK, List.range, List.range.loop])
  ·exact (e2 2 (by omega)).trans (by simp [rdC, encK, List.range, List.range.loop])
  ·exact (e2 3 (by omega)).trans (by simp [rdC, encK, List.range, List.range.loop])
  ·exact (e2 4 (by omega)).trans (by simp [rdC, encK, List.range, List.range.loop])
  ·exact (e2 5 (by omega)).trans (by simp [rdC, encK, List.range, List.range.loop])
  ·exact (e2 6 (by omega)).trans (by simp [rdC, encK, List.range, List.range.loop])
  ·exact (e2 7 (by omega)).trans (by simp [rdC, encK, List.range, List.range.loop])
  ·exact (e2 8 (by omega)).trans (by simp [rdC, encK, List.range, List.range.loop])
  ·exact (e3 21 (by omega) (by omega)).trans (by simp [rdC, encK, List.range, List.range.loop])
  ·rw [Array.getElem?_eq_none (by rw [h2, (rdC_get s p).2.2.2.2.2.2.2.2.2.2]; exact hm), Array.getElem?_eq_none (by rw [(rdC_get _ p).2.2.2.2.2.2.2.2.2.2]; exact hm)]
 refine ⟨⟨hcs ▸ hT, ?_, h.young⟩, hW.below (Nat.le_of_lt h.tok.own.lt) fun x hx => by rw [hm x hx]; exact Nat.le_refl _⟩
 have hv : RdV w' s.d p := h.vals.keep fun b hb => hW.block b (h.vals.lt hb) fun x hx => by
  rw [hm x hx]
  have := h.young b hb
  omega
 exact ⟨hv.boxes, hv.holes, hv.bars, hv.runs, hv.laps, hv.dems, hv.nb, hv.ns, hv.dims, hv.steps, hv.sep⟩
theorem rd_mem {w w' : World} {R : Nat} {ts : List Tk} {s : Rd} {p : PV} (h : RdW w R ts s p) {j : Nat} {l : List Int} {e : Ending} (hl : l.length = 3) (hN : NumsE ts R 139 w p.vt R 5 3 (.ok (l, j)) e w') :
  RdW w' R ts { s with i := j, d := { s.d with mem := l } } p ∧ Below R w w' := by
 obtain ⟨-, ⟨cs2, -, hT⟩, hc, hW⟩ := hN
 obtain ⟨cs', h1, h2, h3⟩ := hW.at h.tok.own
 obtain rfl : cs2 = cs' := by
  have e1 := hT.own.symm.trans h1
  injection e1 with e1
  injection e1
 have hm : ∀ x ∈ nps R R 5 3, x.block = R := fun x hx => by
  rcases nps_mem hx with rfl | ⟨d, _, rfl⟩ <;> rfl
 obtain ⟨a0, a1, a2, rfl⟩ := three hl
 have e1 := hT.at_
 have e2 : ∀ c (hc2 : c < 3), cs2[5 + c]? = some (.int .i64 [a0, a1, a2][c]) := fun c hc2 => by
  rw [← hT.own.c]
  exact hc c hc2
 have e3 : ∀ m, m ≠ 1 → (m < 5 ∨ 8 ≤ m) → cs2[m]? = (rdC s p)[m]? := fun m hm1 hm2 => h3 m fun hx => by
  rcases nps_mem hx with e | ⟨d, hd, e⟩
  ·injection e with _ e; exact hm1 e
  ·injection e with _ e; omega
 have hcs : cs2 = rdC { s with i := j, d := { s.d with mem := [a0, a1, a2] } } p := by
  apply Array.ext_getElem?
  intro m
  have hmm : m = 0 ∨ m = 1 ∨ m = 2 ∨ m = 3 ∨ m = 4 ∨ m = 5 ∨ m = 6 ∨ m = 7 ∨ m = 8 ∨ m = 9 ∨ m = 10 ∨ m = 11 ∨ m = 12 ∨ m = 13 ∨ m = 14 ∨ m = 15 ∨ m = 16 ∨ m = 17 ∨ m = 18 ∨ m = 19 ∨ m = 20 ∨ m = 21 ∨ 22 ≤ m := by omega
  rcases hmm with rfl | rfl | rfl | rfl | rfl | rfl | rfl | rfl | rfl | rfl | rfl | rfl | rfl | rfl | rfl | rfl | rfl | rfl | rfl | rfl | rfl | rfl | hm
  ·exact (e3 0 (by omega) (by omega)).trans (by simp [rdC, encK, List.range, List.range.loop])
  ·exact e1.trans (by simp [rdC])
  ·exact (e3 2 (by omega) (by omega)).trans (by simp [rdC, encK, List.range, List.range.loop])
  ·exact (e3 3 (by omega) (by omega)).trans (by simp [rdC, encK, List.range, List.range.loop])
  ·exact (e3 4 (by omega) (by omega)).trans (by simp [rdC, encK, List.range, List.range.loop])
  ·exact (e2 0 (by omega)).trans (by simp [rdC, encK, List.range, List.range.loop])
  ·exact (e2 1 (by omega)).trans (by simp [rdC, encK, List.range, List.range.loop])
  ·exact (e2 2 (by omega)).trans (by simp [rdC, encK, List.range, List.range.loop])
  ·exact (e3 8 (by omega) (by omega)).trans (by simp [rdC, encK, List.range, List.range.loop])
  ·exact (e3 9 (by omega) (by omega)).trans (by simp [rdC, encK, List.range, List.range.loop])
  ·exact (e3 10 (by omega) (by omega)).trans (by simp [rdC, encK, List.range, List.range.loop])
  ·exact (e3 11 (by omega) (by omega)).trans (by simp [rdC, encK, List.range, List.range.loop])
  ·exact (e3 12 (by omega) (by omega)).trans (by simp [rdC, encK, List.range, List.range.loop])
  ·exact (e3 13 (by omega) (by omega)).trans (by simp [rdC, encK, List.range, List.range.loop])
  ·exact (e3 14 (by omega) (by omega)).trans (by simp [rdC, encK, List.range, List.range.loop])
  ·exact (e3 15 (by omega) (by omega)).trans (by simp [rdC, encK, List.range, List.range.loop])
  ·exact (e3 16 (by omega) (by omega)).trans (by simp [rdC, encK, List.range, List.range.loop])
  ·exact (e3 17 (by omega) (by omega)).trans (by simp [rdC, encK, List.range, List.range.loop])
  ·exact (e3 18 (by omega) (by omega)).trans (by simp [rdC, encK, List.range, List.range.loop])
  ·exact (e3 19 (by omega) (by omega)).trans (by simp [rdC, encK, List.range, List.range.loop])
  ·exact (e3 20 (by omega) (by omega)).trans (by simp [rdC, encK, List.range, List.range.loop])
  ·exact (e3 21 (by omega) (by omega)).trans (by simp [rdC, encK, List.range, List.range.loop])
  ·rw [Array.getElem?_eq_none (by rw [h2, (rdC_get s p).2.2.2.2.2.2.2.2.2.2]; exact hm), Array.getElem?_eq_none (by rw [(rdC_get _ p).2.2.2.2.2.2.2.2.2.2]; exact hm)]
 refine ⟨⟨hcs ▸ hT, ?_, h.young⟩, hW.below (Nat.le_of_lt h.tok.own.lt) fun x hx => by rw [hm x hx]; exact Nat.le_refl _⟩
 have hv : RdV w' s.d p := h.vals.keep fun b hb => hW.block b (h.vals.lt hb) fun x hx => by
  rw [hm x hx]
  have := h.young b hb
  omega
 exact ⟨hv.boxes, hv.holes, hv.bars, hv.runs, hv.laps, hv.dems, hv.nb, hv.ns, hv.dims, hv.steps, hv.sep⟩
theorem RdW.ruled {w : World} {R : Nat} {ts : List Tk} {s : Rd} {p : PV} (h : RdW w R ts s p) (b : Bool) : RdW (w.setCell ⟨R, 21, none⟩ (.bool b)) R ts { s with ruled := b } p ∧ Below R w (w.setCell ⟨R, 21, none⟩ (.bool b)) := by
 refine ⟨⟨?_, h.vals.keep fun c hc => Below.heap_setCell w ⟨R, 21, none⟩ _ c (by have := h.young c hc; dsimp only; omega), h.young⟩, (Below.refl R w).setCell (Nat.le_refl R) _⟩
 have hs := Wrt.set (j := 21) h.tok.own (.bool b)
 have := h.tok.wr hs (fun x hx => by simp only [List.mem_singleton] at hx; subst hx; exact Nat.le_refl _) (h.tok.own.put 21 _) (by simp) (by rw [Array.getElem?_setIfInBounds_ne (by omega)]) s.i (by rw [Array.getElem?_setIfInBounds_ne (by omega)]; exact h.tok.at_)
 rwa [show (rdC s p).setIfInBounds 21 (.bool b) = rdC { s with ruled := b } p from by simp [rdC, encK, List.range, List.range.loop]] at this
theorem RdW.named {w : World} {R : Nat} {ts : List Tk} {s : Rd} {p : PV} (h : RdW w R ts s p) (nm : List UInt8) : RdW (w.setCell ⟨R, 2, none⟩ (.string ⟨nm.toArray⟩)) R ts { s with d := { s.d with name := nm } } p ∧ Below R w (w.setCell ⟨R, 2, none⟩ (.string ⟨nm.toArray⟩)) := by
 have hv : RdV (w.setCell ⟨R, 2, none⟩ (.string ⟨nm.toArray⟩)) s.d p := h.vals.keep fun c hc => Below.heap_setCell w ⟨R, 2, none⟩ _ c (by have := h.young c hc; dsimp only; omega)
 refine ⟨⟨?_, ⟨hv.boxes, hv.holes, hv.bars, hv.runs, hv.laps, hv.dems, hv.nb, hv.ns, hv.dims, hv.steps, hv.sep⟩, h.young⟩, (Below.refl R w).setCell (Nat.le_refl R) _⟩
 have hs := Wrt.set (j := 2) h.tok.own (.string ⟨nm.toArray⟩)
 have := h.tok.wr hs (fun x hx => by simp only [List.mem_singleton] at hx; subst hx; exact Nat.le_refl _) (h.tok.own.put 2 _) (by simp) (by rw [Array.getElem?_setIfInBounds_ne (by omega)]) s.i (by rw [Array.getElem?_setIfInBounds_ne (by omega)]; exact h.tok.at_)
 rwa [show (rdC s p).setIfInBounds 2 (.string ⟨nm.toArray⟩) = rdC { s with d := { s.d with name := nm } } p from by simp [rdC, encK, List.range, List.range.loop]] at this
end Go.Proofs.YtccakklnbhcbdaaGreatDoor
set_option linter.unusedVariables false
namespace Go.Proofs.YtccakklnbhcbdaaGreatDoor
open Go.ChangeShapes Go.WideShapes Go.ChangeAt Go.RowKit
set_option maxRecDepth 100000 in
set_option maxHeartbeats 1000000 in
theorem other_rule (w : World) (R : Nat) (ts : List Tk) (s : Rd) (p : PV) (h : RdW w R ts s p) (hi : s.i < ts.length) (hE : Ends ts) (he : EnvR R w) (hm : manyD s.d ≤ 1000000) (hk : (tk ts s.i).kind = 1) (hx : (tk ts s.i).text = wRule) (hru : s.ruled = false) :
  Calls Tryz.prog 96 #[.pointer (some ⟨R, 0, none⟩)] w (OthE ts R w (bodyT ts wRule s)) := by
 obtain ⟨Rx, hRx⟩ : ∃ r, bodyT ts wRule s = r := ⟨_, rfl⟩
 rw [hRx]
 replace hRx := Lib.hid hRx
 obtain ⟨Res, hRes⟩ : ∃ r, numsT ts 9 (s.i + 1) = r := ⟨_, rfl⟩
 have hj : s.i + 1 < ts.length := hE.more s.i hi (by rw [hk]; decide)
 have HN := nextH (R := R) (t := 139) s.i hi
 obtain ⟨XS, hX, eT⟩ := tkV_mk (tk ts s.i)
 rw [eT, hk] at HN
 rw [hx, show wRule = [114, 117, 108, 101] from rfl] at hX
 subst hX
 generalize (tk ts s.i).line = L at HN
 generalize (tk ts s.i).col = C at HN
 clear eT hk hx
 obtain ⟨g0, g1, g2, g3, g4, g8, g9, g10, g11, g21, gz⟩ := rdC_get s p
 obtain ⟨dao, dcap, hvd, -⟩ := h.vals.dems.view encD_len
 obtain ⟨nd, hnd⟩ : ∃ nd, nd = (s.d.dems.zip p.ds).length := ⟨_, rfl⟩
 rw [← hnd] at hvd
 replace hnd := Lib.hid hnd
 rw [hru] at g21
 go_enter Tryz.func96, Tryz.ntmps96
 go_wp2_with fail
 refine (HN.out w _ h.tok).mono ?_
 rintro e w1 ⟨rfl, HB⟩
 have h1 := h.bel HB
 have x11 : w1.cell? ⟨R, 11, none⟩ = some (.slice dao nd dcap) := by rw [h1.tok.own.c, g11, hvd]
 have x1 : w1.cell? ⟨R, 1, none⟩ = some (.int .i64 (s.i : Int)) := by rw [h1.tok.own.c, g1]
 have x21 : w1.cell? ⟨R, 21, none⟩ = some (.bool false) := by rw [h1.tok.own.c, g21]
 have fr : w1.frozen? ⟨R, 1, none⟩ = false := h1.tok.own.f 1
 have hR1 : R < w1.heap.size := h1.tok.own.lt
 have hR2 : R ≠ w1.heap.size := by omega
 have hR3 : w1.heap.size ≠ R := by omega
 have hw : IntKind.i64.wrap ((s.i : Int) + 1) = ((s.i + 1 : Nat) : Int) := wrap_in (by have := hE.len; omega)
 go_upto_region 9 with fail
 have hA := h1.tok.step (Below.refl _ _) (s.i + 1) (v := (s.i : Int) + 1) (by omega) (below_al (Below.refl _ _) (.cells #[.int .i64 1, .string ⟨#[114, 117, 108, 101]⟩, .int .i64 L, .int .i64 C] 107))
 have h2 := h1.adv hA
 have he2 := ((he.bel HB).adv hA)
 have hb2 := Lib.hid ((HB.mono (Nat.le_of_lt h.tok.own.lt)).trans (hA.belowR (Nat.le_of_lt hR1)))
 generalize hWW : World.alloc _ _ = WW at *
 have q60 : True := trivial
 clear h1 hA HB HN x11 x1 x21 fr hR1 hR2 hR3 hWW he
 replace he2 := Lib.hid he2
 have hRB : R < WW.heap.size := h2.tok.own.lt
 have hRB2 : R ≠ WW.heap.size := by omega
 have y21 : WW.cell? ⟨R, 21, none⟩ = some (.bool false) := by
  have q := h2.tok.own.c 21
  exact q.trans (by rw [← hru]; simp [rdC, encK, List.range, List.range.loop])
 have f21 : WW.frozen? ⟨R, 21, none⟩ = false := h2.tok.own.f 21
 obtain ⟨h3, hb3⟩ := h2.ruled true
 have hY : Hid (∀ W3 : World, (∃ o, W3 = ((WW.setCell ⟨R, 21, none⟩ (.bool true)).drew.alloc o)) → Below (WW.setCell ⟨R, 21, none⟩ (.bool true)).heap.size (WW.setCell ⟨R, 21, none⟩ (.bool true)) W3) := Lib.hid fun W3 ⟨o, e⟩ => by rw [e]; exact below_al (below_drew (Below.refl _ _)) _
 have hRl : Hid (R < (WW.setCell ⟨R, 21, none⟩ (.bool true)).heap.size) := Lib.hid h3.tok.own.lt
 have hen : Hid (EnvR R (WW.setCell ⟨R, 21, none⟩ (.bool true))) := Lib.hid (he2.out.wr (Wrt.set (j := 21) h2.tok.own (.bool true)) fun x hx => by simp only [List.mem_singleton] at hx; subst hx; exact Nat.le_refl _)
 replace hb3 := Lib.hid (hb2.out.trans hb3)
 replace h3 := Lib.hid h3
 replace h2 := Lib.hid h2
 replace h := Lib.hid h
 replace hRes := Lib.hid hRes
 clear hm
 go_upto_region 16 with fail
 generalize hW4 : World.setCell WW _ _ = W4 at *
 have hR4 : R < W4.heap.size := hRl.out
 have hR5 : R ≠ W4.heap.size := by omega
 clear hY y21 f21
 have HNu : Hid (∀ W3 P, At W3 P 143 #[.pointer (some ⟨R, 12, none⟩), .pointer (some ⟨R, 13, none⟩), .pointer (some ⟨R, 14, none⟩), .pointer (some ⟨R, 15, none⟩), .pointer (some ⟨R, 16, none⟩), .pointer (some ⟨R, 17, none⟩), .pointer (some ⟨R, 18, none⟩), .pointer (some ⟨R, 19, none⟩), .pointer (some ⟨R, 20, none⟩)] → P ≠ R → Below W4.heap.size W4 W3 → Calls Tryz.prog 94 #[.pointer (some ⟨R, 0, none⟩), .slice (some ⟨P, 0, none⟩) 9 9] W3 (fun e w' => NumsE ts R 139 W3 p.vt R 12 9 Res e w' ∧ Below W4.heap.size W4 W3)) := Lib.hid fun W3 P kP hPR hB => by
  have h4 := h3.out.bel hB
  rw [← hRes.out]
  refine (numbers_any (Q := R) (o := 12) W3 R _ _ ts (s.i + 1) h4.tok hj hE (hen.out.bel hB) P 9 9 _ _ kP (fun c hc => ?_) hPR hPR _ _ h4.tok.own (by rw [(rdC_get _ _).2.2.2.2.2.2.2.2.2.2]; omega) (Nat.le_refl _) (fun _ => by omega) (Nat.le_refl _) (by omega) p.vt (rdC_get _ _).1).mono fun e w' hN => ⟨hN, hB⟩
  have hcc : c = 0 ∨ c = 1 ∨ c = 2 ∨ c = 3 ∨ c = 4 ∨ c = 5 ∨ c = 6 ∨ c = 7 ∨ c = 8 := by omega
  rcases hcc with rfl | rfl | rfl | rfl | rfl | rfl | rfl | rfl | rfl <;> rfl
 cases Res with
 | error j =>
  have hX : Hid (Rx = .error j) := Lib.hid (by rw [← hRx.out, body_rule, hRes.out])
  go_wp2_with fail
  go_region_law (first | (go_simp; go_at_call 94; refine (HNu.out _ W4.heap.size (by repeat (first | (with_reducible apply At.new'; (focus (simp; done))) | with_reducible apply At.al | with_reducible apply At.drw | with_reducible apply At.dr)) (by omega) (by repeat (first | with_reducible assumption | with_reducible exact Below.refl _ _ | with_reducible refine below_al ?_ _ | with_reducible refine below_drew ?_ | with_reducible refine below_drewN ?_ _ | with_reducible refine below_set ?_ (by dsimp only; omega) _))).mono ?_; rintro e w3 ⟨⟨he, hW⟩, hB⟩; have hbe : Below R w w3 := hb3.out.trans ((hB.mono (Nat.le_of_lt hR4)).trans (hW.below (Nat.le_trans (Nat.le_of_lt hR4) hB.size) fun x hx => (by rcases nps_mem hx with rfl | ⟨d, _, rfl⟩ <;> exact Nat.le_refl _))); subst he; refine idle (P := Tryz.prog) (a := { tmps := #[], defers := [] }) (w := w3) ?_ ?_; focus (unfold panE; go_wp2_with fail; exact ⟨rfl, by rw [hX.out]; exact OthE.bad rfl hbe⟩)))
  all_goals trivial
 | ok q =>
  obtain ⟨n, j⟩ := q
  have hjl : j < ts.length := nums_lt hE 9 _ hj hRes.out
  have hnl : n.length = 9 := nums_len ts 9 _ hRes.out
  have HN2 : Hid (∀ W3 P, At W3 P 143 #[.pointer (some ⟨R, 12, none⟩), .pointer (some ⟨R, 13, none⟩), .pointer (some ⟨R, 14, none⟩), .pointer (some ⟨R, 15, none⟩), .pointer (some ⟨R, 16, none⟩), .pointer (some ⟨R, 17, none⟩), .pointer (some ⟨R, 18, none⟩), .pointer (some ⟨R, 19, none⟩), .pointer (some ⟨R, 20, none⟩)] → P ≠ R → Below W4.heap.size W4 W3 → Calls Tryz.prog 94 #[.pointer (some ⟨R, 0, none⟩), .slice (some ⟨P, 0, none⟩) 9 9] W3 (fun e w' => e = .returned (.tuple #[]) ∧ Hid (RdW w' R ts ⟨j, { s.d with rule := n }, true⟩ p) ∧ Hid (Below R w w'))) := Lib.hid fun W3 P kP hPR hB => (HNu.out W3 P kP hPR hB).mono fun e w' ⟨hN, hB⟩ => by
   have h4 := h3.out.bel hB
   obtain ⟨h5, hb5⟩ := rd_rule h4 hnl hN
   exact ⟨hN.1, Lib.hid h5, Lib.hid (hb3.out.trans ((hB.mono (Nat.le_of_lt hR4)).trans hb5))⟩
  have HEn : Hid (∀ w', RdW w' R ts ⟨j, { s.d with rule := n }, true⟩ p → Calls Tryz.prog 95 #[.pointer (some ⟨R, 0, none⟩)] w' (EndE ts R w' ⟨j, { s.d with rule := n }, true⟩ p (endT ts j))) := Lib.hid fun w' h' => end_rd w' R ts _ p h' hjl hE
  have hFi : Hid (Rx = endRes ⟨j, { s.d with rule := n }, true⟩ (endT ts j)) := Lib.hid (by rw [← hRx.out, body_rule, hRes.out]; rfl)
  generalize endT ts j = Ee at *
  clear HNu
  go_wp2_with fail
  go_region_law (first | (go_simp; go_at_call 94; refine (HN2.out _ W4.heap.size (by repeat (first | (with_reducible apply At.new'; (focus (simp; done))) | with_reducible apply At.al | with_reducible apply At.drw | with_reducible apply At.dr)) (by omega) (by repeat (first | with_reducible assumption | with_reducible exact Below.refl _ _ | with_reducible refine below_al ?_ _ | with_reducible refine below_drew ?_ | with_reducible refine below_drewN ?_ _ | with_reducible refine below_set ?_ (by dsimp only; omega) _))).mono ?_; rintro e w3 ⟨rfl, h5, hb5⟩))
  all_goals
   go_wp2_with fail
   refine (HEn.out _ h5.out).mono ?_
   intro e w6 hq
   cases Ee with
   | error j2 =>
    have hf := OthE.bad hq.1 (hb5.out.trans hq.2)
    obtain ⟨he, -⟩ := hq
    subst he
    unfold panE
    go_wp2_with fail
    refine ⟨rfl, ?_⟩
    rw [hFi.out]
    exact hf
   | ok j2 =>
    have hf : OthE ts R w (endRes _ (.ok j2)) e w6 := OthE.fin hq hb5.out
    obtain ⟨rfl, -⟩ := hq
    go_wp2_with fail
    go_end0
    rw [hFi.out]
    exact hf
end Go.Proofs.YtccakklnbhcbdaaGreatDoor
