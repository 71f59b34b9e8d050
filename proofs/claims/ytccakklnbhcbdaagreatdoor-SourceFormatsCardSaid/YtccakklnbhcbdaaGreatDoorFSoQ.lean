import Derived.Test.YtccakklnbhcbdaaGreatDoorFQg
set_option linter.unusedVariables false
namespace Go.Proofs.YtccakklnbhcbdaaGreatDoor
open Go.ChangeShapes Go.WideShapes Go.ChangeAt Go.RowKit
theorem Row.frozen {α : Type} {w : World} {e : TypeId} {sz : Nat} {enc : α → List Value} {v : Value} {l : List α} (h : Row w e sz enc v l) {G : Nat} (hG : v.ownBlock = some G) (j : Nat) : w.frozen? ⟨G, j, none⟩ = false := by
 obtain ⟨_, ⟨h1, _⟩ | ⟨g, cap, cur, h1, h2, h3, h4⟩⟩ := h
 ·rw [h1] at hG; cases hG
 ·obtain rfl : g = G := by rw [h1] at hG; injection hG
  exact At.f h3 j
theorem List.le_sum_of_mem' : ∀ {l : List Nat} {x : Nat}, x ∈ l → x ≤ l.sum
 | a :: l, x, h => by
  rw [List.sum_cons]
  rcases List.mem_cons.1 h with rfl | h
  ·omega
  ·have := List.le_sum_of_mem' h
   omega
theorem RdW.pushS {w w5 : World} {R : Nat} {ts : List Tk} {s : Rd} {p : PV} (h : RdW w R ts s p) {k : Nat} (hk : k + 1 = s.d.dems.length) (h1 : k < s.d.dems.length) (h2 : k < p.ds.length) (hg : w.grownBy w5 p.ds[k].ownBlock) {v' : Value} {n : List Int} (ho : w5.ownsRow 0 86 2 v' (s.d.dems[k].2.2.length + 1) (s.d.dems[k].2.2.flatMap (encK 2) ++ encK 2 n)) {m : Nat} (hm : w.heap.size ≤ m) (hl : v'.ownBlock = p.ds[k].ownBlock ∨ v'.ownBlock = some m) {G : Nat} (hG : p.vd.ownBlock = some G) :
  RdW (w5.setCell ⟨G, k * 8 + 7, none⟩ v') R ts { s with d := { s.d with dems := stepD s.d.dems n } } { p with ds := p.ds.set k v' } ∧ Below R w (w5.setCell ⟨G, k * 8 + 7, none⟩ v') ∧ w5.heap[G]? = w.heap[G]? := by
 have hRl := h.tok.own.lt
 have h6 := fp_six (p := p)
 obtain ⟨hj, e1⟩ := fp_ds (p := p) h2
 have hr : ∀ b, p.ds[k].ownBlock = some b → R < b := fun b e => h.young b (by rw [← e, ← e1]; exact List.getElem_mem hj)
 have hGR : R < G := h.young G (by rw [← hG]; simp [PV.fp])
 have hb := (grown_below hg hRl hr).setCell (w := w5) (a := w) (p := ⟨G, k * 8 + 7, none⟩) hGR v'
 refine ⟨⟨h.tok.below hb (Nat.lt_succ_self R), h.vals.pushS hk h1 h2 hg ho hm hl hG, ?_⟩, hb.mono (Nat.le_succ R), ?_⟩
 ·rw [fp_setS v' h2]
  exact fp_young hj h.young (by rw [e1]; exact hl) (by omega)
 ·have hg' : w.grownBy w5 p.fp[6 + p.db.length + k] := by rw [e1]; exact hg
  exact h.vals.oth hj hg' (j := 5) (by omega) (by omega) G hG
set_option maxRecDepth 100000 in
set_option maxHeartbeats 1000000 in
theorem other_step (w : World) (R : Nat) (ts : List Tk) (s : Rd) (p : PV) (h : RdW w R ts s p) (hi : s.i < ts.length) (hE : Ends ts) (he : EnvR R w) (hm : manyD s.d ≤ 1000000) (hk : (tk ts s.i).kind = 1) (hx : (tk ts s.i).text = wStep) (hde : s.d.dems ≠ []) :
  Calls Tryz.prog 96 #[.pointer (some ⟨R, 0, none⟩)] w (OthE ts R w (bodyT ts wStep s)) := by
 obtain ⟨Rx, hRx⟩ : ∃ r, bodyT ts wStep s = r := ⟨_, rfl⟩
 rw [hRx]
 replace hRx := Lib.hid hRx
 obtain ⟨Res, hRes⟩ : ∃ r, numsT ts 2 (s.i + 1) = r := ⟨_, rfl⟩
 have hj : s.i + 1 < ts.length := hE.more s.i hi (by rw [hk]; decide)
 have HN := nextH (R := R) (t := 139) s.i hi
 obtain ⟨XS, hX, eT⟩ := tkV_mk (tk ts s.i)
 rw [eT, hk] at HN
 rw [hx, show wStep = [115, 116, 101, 112] from rfl] at hX
 subst hX
 generalize (tk ts s.i).line = L at HN
 generalize (tk ts s.i).col = C at HN
 clear eT hk hx
 obtain ⟨g0, g1, g2, g3, g4, g8, g9, g10, g11, g21, gz⟩ := rdC_get s p
 obtain ⟨dao, dcap, hvd, -⟩ := h.vals.dems.view encD_len
 obtain ⟨nd, hnd⟩ : ∃ nd, nd = (s.d.dems.zip p.ds).length := ⟨_, rfl⟩
 rw [← hnd] at hvd
 replace hnd := Lib.hid hnd
 go_enter Tryz.func96, Tryz.ntmps96
 go_wp2_with fail
 refine (HN.out w _ h.tok).mono ?_
 rintro e w1 ⟨rfl, HB⟩
 have h1 := h.bel HB
 have x11 : w1.cell? ⟨R, 11, none⟩ = some (.slice dao nd dcap) := by rw [h1.tok.own.c, g11, hvd]
 have x1 : w1.cell? ⟨R, 1, none⟩ = some (.int .i64 (s.i : Int)) := by rw [h1.tok.own.c, g1]
 have x21 : w1.cell? ⟨R, 21, none⟩ = some (.bool s.ruled) := by rw [h1.tok.own.c, g21]
 have fr : w1.frozen? ⟨R, 1, none⟩ = false := h1.tok.own.f 1
 have hR1 : R < w1.heap.size := h1.tok.own.lt
 have hR2 : R ≠ w1.heap.size := by omega
 have hR3 : w1.heap.size ≠ R := by omega
 have hw : IntKind.i64.wrap ((s.i : Int) + 1) = ((s.i + 1 : Nat) : Int) := wrap_in (by have := hE.len; omega)
 obtain ⟨k, hnk, hkl⟩ : ∃ k, nd = k + 1 ∧ k + 1 = s.d.dems.length := by
  have h8 : nd = s.d.dems.length := by rw [hnd.out, List.length_zip, h.vals.ns]; simp
  have h9 : s.d.dems.length ≠ 0 := fun q => hde (List.length_eq_zero_iff.1 q)
  exact ⟨nd - 1, by omega, by omega⟩
 have hnd0 : ((nd : Int) == 0) = false := by simp; omega
 replace hnk := Lib.hid hnk
 replace hkl := Lib.hid hkl
 go_upto_region 9 with fail
 have hA := h1.tok.step (Below.refl _ _) (s.i + 1) (v := (s.i : Int) + 1) (by omega) (below_al (Below.refl _ _) (.cells #[.int .i64 1, .string ⟨#[115, 116, 101, 112]⟩, .int .i64 L, .int .i64 C] 107))
 have h2 := h1.adv hA
 have he2 := ((he.bel HB).adv hA)
 have hb2 := Lib.hid ((HB.mono (Nat.le_of_lt h.tok.own.lt)).trans (hA.belowR (Nat.le_of_lt hR1)))
 generalize hWW : World.alloc _ _ = WW at *
 have q60 : True := trivial
 have x11h := True.intro
 clear h1 hA HB HN x11 x1 x21 fr hR1 hR2 hR3 hWW he
 replace he2 := Lib.hid he2
 go_wp2_with fail
 generalize hW3 : World.alloc (World.alloc _ _) _ = W3
 have kQ : At W3 WW.heap.size 86 #[.int .i64 0, .int .i64 0] := by rw [← hW3]; repeat (first | (with_reducible apply At.new'; (focus (simp; done))) | with_reducible apply At.al | with_reducible apply At.drw | with_reducible apply At.dr)
 have kP : At W3 (WW.heap.size + 1) 143 #[.pointer (some ⟨WW.heap.size, 0, none⟩), .pointer (some ⟨WW.heap.size, 1, none⟩)] := by rw [← hW3]; repeat (first | (with_reducible apply At.new'; (focus (simp; done))) | with_reducible apply At.al | with_reducible apply At.drw | with_reducible apply At.dr)
 have HB3 : Below WW.heap.size WW W3 := by rw [← hW3]; repeat (first | with_reducible assumption | with_reducible exact Below.refl _ _ | with_reducible refine below_al ?_ _ | with_reducible refine below_drew ?_ | with_reducible refine below_drewN ?_ _ | with_reducible refine below_set ?_ (by dsimp only; omega) _)
 clear hW3
 have hRB : R < WW.heap.size := h2.tok.own.lt
 refine (numbers_any (Q := WW.heap.size) (o := 0) W3 R _ _ ts (s.i + 1) (h2.tok.bel HB3) hj hE (he2.out.bel HB3) (WW.heap.size + 1) 2 2 _ _ kP (fun c hc => ?_) (by omega) (by omega) _ _ kQ (by simp) (by omega) (fun e => absurd e (by omega)) (Nat.le_refl _) (by omega) p.vt (rdC_get _ _).1).mono ?_
 ·have hcc : c = 0 ∨ c = 1 := by omega
  rcases hcc with rfl | rfl <;> rfl
 rw [hRes]
 intro e w3 hN
 cases Res with
 | error j =>
  obtain ⟨rfl, hW⟩ := hN.pan HB3 (Nat.le_refl _)
  have hbe := hb2.out.trans (hW.belowR (Nat.le_of_lt hRB))
  have hX : Hid (Rx = .error j) := Lib.hid (by rw [← hRx.out, body_step, hRes])
  unfold panE
  clear hN
  go_wp2_with fail
  exact ⟨rfl, by rw [hX.out]; exact OthE.bad rfl hbe⟩
 | ok q =>
  obtain ⟨n, j⟩ := q
  have hjl : j < ts.length := nums_lt hE 2 _ hj hRes
  have hA := hN.adv h2.tok HB3 (Nat.le_refl _)
  have h3 := h2.adv hA
  have hb3 := Lib.hid (hb2.out.trans (hA.belowR (Nat.le_of_lt hRB)))
  obtain ⟨rfl, -, hl, hWr⟩ := hN
  have hnl : n.length = 2 := nums_len ts 2 _ hRes
  obtain ⟨a0, a1, rfl⟩ := two hnl
  have q0 : w3.drew.cell? ⟨WW.heap.size, 0, none⟩ = some (.int .i64 a0) := hl 0 (by simp)
  have q0w : w3.cell? ⟨WW.heap.size, 0, none⟩ = some (.int .i64 a0) := q0
  have q1 : w3.drew.cell? ⟨WW.heap.size, 1, none⟩ = some (.int .i64 a1) := hl 1 (by simp)
  have q1w : w3.cell? ⟨WW.heap.size, 1, none⟩ = some (.int .i64 a1) := q1
  have hQw0 : WW.heap.size < w3.heap.size := Nat.lt_of_lt_of_le kQ.lt hWr.size
  clear hl hWr hA kQ kP HB3
  have hk1 : k < s.d.dems.length := by have := hkl.out; omega
  have hk2 : k < p.ds.length := by rw [h3.vals.ns]; exact hk1
  have hzl : (s.d.dems.zip p.ds).length = k + 1 := by rw [← hnd.out, hnk.out]
  obtain ⟨dao2, dcap2, hvd2, hdc, -, hrow, hgg⟩ := h3.vals.dems.view encD_len
  obtain ⟨G, hG1, hG2⟩ : ∃ G, dao2 = some ⟨G, 0, none⟩ ∧ p.vd.ownBlock = some G := by
   rcases hgg with ⟨_, q, _⟩ | q
   ·dsimp only at q
    omega
   ·exact q
  have hda : dao = some ⟨G, 0, none⟩ := by
   rw [hvd] at hvd2
   injection hvd2 with e1
   rw [e1, hG1]
  obtain ⟨so, cps, hvs, hcs, -⟩ := (h3.vals.steps k hk1 hk2).view (encK_len 2)
  obtain ⟨ns, hns⟩ : ∃ ns, ns = s.d.dems[k].2.2.length := ⟨_, rfl⟩
  have hvs : p.ds[k] = .slice so ns cps := by rw [hns]; exact hvs
  have yG : w3.drew.cell? ⟨G, k * 8 + 7, none⟩ = some (.slice so ns cps) := by
   obtain ⟨b', off', e, _, hc⟩ := hrow k (by dsimp only; omega)
   rw [hG1] at e
   injection e with e
   injection e with e1 e2
   subst e1 e2
   have := hc 7 (.slice so ns cps) (by
    rw [List.getElem_zip]
    rw [← hvs]
    simp [encD, encK, List.range, List.range.loop])
   rwa [Nat.zero_add] at this
  have yGw : w3.cell? ⟨G, k * 8 + 7, none⟩ = some (.slice so ns cps) := yG
  have y11 : w3.drew.cell? ⟨R, 11, none⟩ = some (.slice (some ⟨G, 0, none⟩) nd dcap) := by
   have q := h3.tok.own.c 11
   rw [← hda, ← hvd]
   exact q.trans (by simp [rdC, encK, List.range, List.range.loop])
  have y11w : w3.cell? ⟨R, 11, none⟩ = some (.slice (some ⟨G, 0, none⟩) nd dcap) := y11
  have hGl : G < w3.heap.size := h3.vals.lt (b := G) (by rw [← hG2]; simp [PV.fp])
  have hGR : R < G := h3.young G (by rw [← hG2]; simp [PV.fp])
  have h3d := Lib.hid (h3.bel (below_drew (Below.refl _ _)))
  have hbd := Lib.hid (hb3.out.trans ((below_drew (Below.refl w3.heap.size w3)).mono (Nat.le_of_lt h3.tok.own.lt)))
  have ho3 : w3.drew.ownsRow 0 86 2 (.slice so ns cps) ns (s.d.dems[k].2.2.flatMap (encK 2)) := by
   have q := h3d.out.vals.steps k hk1 hk2
   unfold Row at q
   rw [← hvs, hns]
   exact q
  have hns6 : ns ≤ 1000000 := by
   have h9 : s.d.dems[k].2.2.length ≤ (s.d.dems.map fun x => x.2.2.length).sum := List.le_sum_of_mem' (List.mem_map.2 ⟨_, List.getElem_mem hk1, rfl⟩)
   rw [hns]
   unfold manyD at hm
   omega
  have hRw3 : R < w3.heap.size := h3.tok.own.lt
  have hRw4 : R ≠ w3.heap.size := by omega
  have hGw4 : G ≠ w3.heap.size := by omega
  have hQw2 : WW.heap.size ≠ w3.heap.size := by omega
  obtain ⟨i0, hi0, hz0, hz1, hz2⟩ := info_parts infoStep
  replace ho3 := Lib.hid ho3
  have hPu : Hid (∀ w5 g5 c5, w5.ownsRow 0 86 2 (.slice g5 (ns + 1) c5) (ns + 1) (s.d.dems[k].2.2.flatMap (encK 2) ++ [.int .i64 a0, .int .i64 a1]) → (w3.drew.alloc (.cells #[.int .i64 a0, .int .i64 a1] 86)).grownBy w5 (Value.slice so ns cps).ownBlock → ((Value.slice g5 (ns + 1) c5).ownBlock = (Value.slice so ns cps).ownBlock ∨ (Value.slice g5 (ns + 1) c5).ownBlock = some (w3.drew.alloc (.cells #[.int .i64 a0, .int .i64 a1] 86)).heap.size) →
    w5.cell? ⟨G, k * 8 + 7, none⟩ = some (.slice so ns cps) ∧ w5.frozen? ⟨G, k * 8 + 7, none⟩ = false ∧ Hid (RdW (w5.setCell ⟨G, k * 8 + 7, none⟩ (.slice g5 (ns + 1) c5)) R ts { s with i := j, d := { s.d with dems := stepD s.d.dems [a0, a1] } } { p with ds := p.ds.set k (.slice g5 (ns + 1) c5) }) ∧ Hid (Below R w3.drew (w5.setCell ⟨G, k * 8 + 7, none⟩ (.slice g5 (ns + 1) c5)))) := Lib.hid fun w5 g5 c5 ho5 hg5 hloc => by
   have hg := grown_after (w := w3.drew) (below_al (Below.refl _ _) _) hg5
   obtain ⟨hS5, hb5, hG5⟩ := h3d.out.pushS (k := k) hkl.out hk1 hk2 (by rw [hvs]; exact hg) (v' := .slice g5 (ns + 1) c5) (n := [a0, a1]) (by rw [← hns]; exact ho5) (m := (w3.drew.alloc (.cells #[.int .i64 a0, .int .i64 a1] 86)).heap.size) (by simp) (by rw [hvs]; exact hloc) hG2
   have hc5 : ∀ j, w5.cell? ⟨G, j, none⟩ = w3.drew.cell? ⟨G, j, none⟩ := fun j => by simp only [World.cell?, hG5]
   have hf5 : ∀ j, w5.frozen? ⟨G, j, none⟩ = w3.drew.frozen? ⟨G, j, none⟩ := fun j => by simp only [World.frozen?, hG5]
   refine ⟨(hc5 _).trans yG, (hf5 _).trans ?_, Lib.hid hS5, Lib.hid hb5⟩
   have hR8 : Row w3.drew 63 8 encD p.vd (s.d.dems.zip p.ds) := h3d.out.vals.dems
   exact hR8.frozen hG2 _
  have HEn : Hid (∀ w' p', RdW w' R ts { s with i := j, d := { s.d with dems := stepD s.d.dems [a0, a1] } } p' → Calls Tryz.prog 95 #[.pointer (some ⟨R, 0, none⟩)] w' (EndE ts R w' { s with i := j, d := { s.d with dems := stepD s.d.dems [a0, a1] } } p' (endT ts j))) := Lib.hid fun w' p' h' => end_rd w' R ts _ p' h' hjl hE
  have hFi : Hid (Rx = endRes { s with i := j, d := { s.d with dems := stepD s.d.dems [a0, a1] } } (endT ts j)) := Lib.hid (by rw [← hRx.out, body_step, hRes]; rfl)
  generalize endT ts j = Ee at *
  have hwk : IntKind.i64.wrap ((nd : Int) - 1) = ((k : Nat) : Int) := by
   have h0 := hm
   unfold manyD at h0
   rw [hnk.out, show (((k + 1 : Nat) : Int) - 1) = ((k : Nat) : Int) by omega]
   exact wrap_in (by omega)
  have hik : ((k : Nat) : Int) < (nd : Int) := by rw [hnk.out]; omega
  replace hns := Lib.hid hns
  replace hvs := Lib.hid hvs
  replace h3 := Lib.hid h3
  replace h2 := Lib.hid h2
  replace h := Lib.hid h
  replace hG2 := Lib.hid hG2
  replace hzl := Lib.hid hzl
  replace hk1 := Lib.hid hk1
  replace hk2 := Lib.hid hk2
  clear hm hcs hRes hRB hnl hvd hvd2 hda hG1 hgg hrow hdc x11h
  go_wp2_with fail
  go_region_law (refine step_append_at _ rfl (.tmp 254) (.tmp 256) 61 rfl 0 86 i0 _ 2 16 (by kernel_rfl) hi0 hz0 hz1 hz2 rfl (by decide) (.slice so ns cps) ns (s.d.dems[k].2.2.flatMap (encK 2)) (by simp [Act.eval]) (World.ownsRow.alloc ho3.out _) ⟨w3.drew.heap.size, 0, none⟩ 1 1 [.int .i64 a0, .int .i64 a1] (by simp [Act.eval]) rfl (new_at (At.new _ _ _)) (by intro u hu; simp at hu; rcases hu with rfl | rfl <;> rfl) (by unfold maxLen; omega) (by omega) (by simp) ?_; intro g5 c5 w5 ho5 hg5 hloc; obtain ⟨y4, f4, hS5, hb5⟩ := hPu.out w5 g5 c5 ho5 hg5 hloc; clear ho5 hg5 hloc)
  all_goals
   have b7 := hbd.out.trans hb5.out
   go_wp2_with fail
   refine (HEn.out _ _ hS5.out).mono ?_
   intro e w6 hq
   cases Ee with
   | error j2 =>
    have hf := OthE.bad hq.1 (b7.trans hq.2)
    obtain ⟨he, -⟩ := hq
    subst he
    unfold panE
    go_wp2_with fail
    refine ⟨rfl, ?_⟩
    rw [hFi.out]
    exact hf
   | ok j2 =>
    have hf : OthE ts R w (endRes _ (.ok j2)) e w6 := OthE.fin hq b7
    obtain ⟨rfl, -⟩ := hq
    go_wp2_with fail
    go_end0
    rw [hFi.out]
    exact hf
end Go.Proofs.YtccakklnbhcbdaaGreatDoor
